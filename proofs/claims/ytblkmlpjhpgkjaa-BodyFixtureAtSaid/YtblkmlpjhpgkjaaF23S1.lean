/- The plain law of boxes, segments and points in shapes. No conditions. -/
import Derived.Test.YtblkmlpjhpgkjaaF23E1
set_option linter.all false
open Go Go.Cx
namespace GoForm
theorem map_ix {α β : Type} [Inhabited α] (g : α → β) (l : List α) : (List.range' 0 l.length).map (fun i : Nat => g (ix l (i : Int))) = l.map g := by
  apply List.ext_getElem (by simp)
  intro i h1 h2
  simp only [List.length_map, List.length_range'] at h1
  simp [ix_lt l i h1]
def vertsW (s : Shape) (t : Transform) : List Vec := if validS s ≠ 0 then [] else s.Vertices.map (applyT t)
theorem shape_Vertices_eq (s : Shape) (t : Transform) : shape_Vertices s t = some (vertsW s t) := by
  unfold shape_Vertices vertsW
  rw [shape_Validate_eq, Bind_some]
  simp only [bne_iff_ne]
  by_cases h : validS s ≠ 0
  · rw [if_pos h, if_pos h]
  rw [if_neg h, if_neg h]
  obtain ⟨-, -, hc, -⟩ := validS_count (s := s) (by omega)
  obtain ⟨l1, l8, -⟩ := countB_len hc
  have := loop_gen s.Vertices.length (fun _ => true) (fun i l => l ++ [applyT t (ix s.Vertices (i : Int))]) (fun i l => l.length = i) (fun n x j => shape_Vertices_l1 s t shape_Vertices_j2 n x j) (fun l => some l) none
    (fun n i x hi hI => by
      refine ⟨?_, fun _ => by simp [hI]⟩
      rw [shape_Vertices_l1]
      rw [if_pos (by simpa using hi), Chk_of (by omega), Let_eq, transform_Apply_eq, Bind_some, Chk_of (by simp; omega), Let_eq, Let_eq, w64_of ((i : Int) + 1) (by omega), if_pos rfl])
    (fun n x _ => by rw [shape_Vertices_l1, if_neg (by simp)]; rfl)
    fuel 0 [] (by omega) (fuel_lt _ (by omega)) rfl
  rw [Nat.sub_zero, allR_tt, if_pos rfl, foldR_list, List.nil_append, map_ix (applyT t)] at this
  exact this
theorem vertsW_len {s : Shape} {t : Transform} (h : vertsW s t ≠ []) : validS s = 0 ∧ (vertsW s t).length = s.Vertices.length ∧ 1 ≤ s.Vertices.length ∧ s.Vertices.length ≤ 8 ∧ countB s = true ∧ 1 ≤ s.Kind ∧ s.Kind ≤ 3 := by
  unfold vertsW at h ⊢
  by_cases hv : validS s ≠ 0
  · rw [if_pos hv] at h; exact absurd rfl h
  rw [if_neg hv]
  obtain ⟨k1, k3, hc, -⟩ := validS_count (s := s) (by omega)
  obtain ⟨l1, l8, -⟩ := countB_len hc
  exact ⟨by omega, by simp, l1, l8, hc, k1, k3⟩
theorem vertsW_le (s : Shape) (t : Transform) : (vertsW s t).length ≤ 8 := by
  by_cases h : vertsW s t = []
  · rw [h]; simp
  · have := vertsW_len h; omega
theorem applyT_sat (t : Transform) (v : Vec) : satV (applyT t v) = applyT t v := by
  unfold satV applyT addV addS; simp only [satsat]
theorem vertsW_sat (s : Shape) (t : Transform) : ∀ v ∈ vertsW s t, satV v = v := by
  unfold vertsW
  split
  · simp
  · intro v hv
    obtain ⟨u, -, rfl⟩ := List.mem_map.1 hv
    exact applyT_sat t u
def lowV (a b : Vec) : Vec := ⟨min a.X b.X, min a.Y b.Y⟩
def uppV (a b : Vec) : Vec := ⟨max a.X b.X, max a.Y b.Y⟩
def boxStep (ps : List Vec) (i : Nat) (b : AABB) : AABB := ⟨lowV b.Min (satV (ix ps (i : Int))), uppV b.Max (satV (ix ps (i : Int)))⟩
def boxP (ps : List Vec) : AABB × Bool :=
  if ps.length = 0 then (⟨Vec.zero, Vec.zero⟩, false) else (foldR (boxStep ps) 1 (ps.length - 1) ⟨satV (ix ps 0), satV (ix ps 0)⟩, true)
theorem ix_drop1 (ps : List Vec) (i : Nat) (h : i + 1 < ps.length) : ix (ps.drop 1) (i : Int) = ix ps ((i + 1 : Nat) : Int) := by
  rw [ix_lt _ _ (by rw [List.length_drop]; omega), ix_lt _ _ h]; simp [Nat.add_comm]
theorem aabb_FromPoints_eq (ps : List Vec) (hl : ps.length ≤ 4611686018427387904) : aabb_FromPoints ps = some (boxP ps) := by
  unfold aabb_FromPoints boxP
  simp only [beq_iff_eq]
  by_cases h : ps.length = 0
  · rw [if_pos (by omega), if_pos h]; rfl
  rw [if_neg (by omega), if_neg h, Chk_of (by omega), Let_eq, Let_eq, Let_eq, Chk_of (by omega), Let_eq]
  have := loop_gen (ps.drop 1).length (fun _ => true) (fun i b => boxStep ps (i + 1) b) (fun _ _ => True) (fun n x j => aabb_FromPoints_l1 aabb_FromPoints_j2 (ps.drop 1) n j x) (fun x => some (x, true)) none
    (fun n i x hi _ => by
      refine ⟨?_, fun _ => trivial⟩
      rw [List.length_drop] at hi
      rw [aabb_FromPoints_l1]
      rw [if_pos (by rw [List.length_drop]; simp; omega), Chk_of (by rw [List.length_drop]; omega), ix_drop1 ps i (by omega), if_pos rfl]
      simp only [Let_eq]
      rw [w64_of ((i : Int) + 1) (by omega)]; rfl)
    (fun n x _ => by rw [aabb_FromPoints_l1, if_neg (by simp)]; rfl)
    fuel 0 ⟨satV (ix ps 0), satV (ix ps 0)⟩ (by omega) (fuel_lt _ (by rw [List.length_drop]; omega)) trivial
  rw [Nat.sub_zero, allR_tt, if_pos rfl, List.length_drop, ← foldR_shift (boxStep ps)] at this
  exact this
def shapeBx (s : Shape) (t : Transform) : AABB :=
  if (vertsW s t).length = 0 then ⟨Vec.zero, Vec.zero⟩ else ⟨subV (boxP (vertsW s t)).1.Min ⟨s.Radius, s.Radius⟩, addV (boxP (vertsW s t)).1.Max ⟨s.Radius, s.Radius⟩⟩
theorem shape_Bounds_eq (s : Shape) (t : Transform) : shape_Bounds s t = some (shapeBx s t) := by
  unfold shape_Bounds shapeBx
  have hl := vertsW_le s t
  rw [shape_Vertices_eq, Bind_some, aabb_FromPoints_eq _ (by omega), Bind_some]
  simp only [Let_eq, vec2_Sub_eq, vec2_Add_eq]
  by_cases h : (vertsW s t).length = 0
  · rw [if_pos h]; unfold boxP; rw [if_pos h]; rfl
  · rw [if_neg h]; unfold boxP; rw [if_neg h]; rfl
def satd (v : Vec) : Bool := sat v.X == v.X && sat v.Y == v.Y
def okBx (b : AABB) : Bool := decide (b.Min.X ≤ b.Max.X) && decide (b.Min.Y ≤ b.Max.Y) && satd b.Min && satd b.Max
theorem aabb_Valid_eq (b : AABB) : aabb_Valid b = okBx b := by
  unfold aabb_Valid okBx aabb_saturated satd; simp only [Let_eq, cond_and, fixed_Saturate_eq]
def unionBx (a b : AABB) : AABB :=
  if okBx a = true ∧ okBx b = true then ⟨lowV a.Min b.Min, uppV a.Max b.Max⟩ else if okBx a = true then a else if okBx b = true then b else ⟨Vec.zero, Vec.zero⟩
theorem aabb_Union_eq (a b : AABB) : aabb_Union a b = unionBx a b := by
  unfold aabb_Union unionBx
  simp only [Let_eq, cond_and, aabb_Valid_eq, Bool.and_eq_true]
  rfl
def bodyBx (b : Body) : AABB × Bool :=
  if b.Fixtures.length = 0 then (⟨Vec.zero, Vec.zero⟩, false) else
  (foldR (fun i x => unionBx x (shapeBx (ix b.Fixtures (i : Int)).Shape b.Transform)) 1 (b.Fixtures.length - 1) (shapeBx (ix b.Fixtures 0).Shape b.Transform), true)
theorem body_Bounds_eq (b : Body) (hl : b.Fixtures.length ≤ 4611686018427387904) : body_Bounds b = some (bodyBx b) := by
  unfold body_Bounds bodyBx
  have st : ∀ (n i : Nat) (x : AABB), i < b.Fixtures.length → body_Bounds_l2 b (body_Bounds_j3 b) (n + 1) (i : Int) x = body_Bounds_l2 b (body_Bounds_j3 b) n ((i : Int) + 1) (if i = 0 then shapeBx (ix b.Fixtures (i : Int)).Shape b.Transform else unionBx x (shapeBx (ix b.Fixtures (i : Int)).Shape b.Transform)) := by
    intro n i x hi
    rw [body_Bounds_l2]
    rw [if_pos (by simpa using hi), Chk_of (by omega), Let_eq, shape_Bounds_eq, Bind_some]
    unfold body_Bounds_j1
    simp only [Let_eq, beq_iff_eq, aabb_Union_eq]
    rw [w64_of ((i : Int) + 1) (by omega)]
    by_cases h : i = 0
    · rw [if_pos (by omega), if_pos h]
    · rw [if_neg (by omega), if_neg h]
  have en : ∀ (n : Nat) (x : AABB), body_Bounds_l2 b (body_Bounds_j3 b) (n + 1) (b.Fixtures.length : Int) x = some (x, decide (0 < (b.Fixtures.length : Int))) := by
    intro n x
    rw [body_Bounds_l2, if_neg (by simp)]; rfl
  by_cases h : b.Fixtures.length = 0
  · rw [if_pos h]
    have := en (fuel - 1) AABB.zero
    rw [h, show fuel - 1 + 1 = fuel by have := fuel_lt 1 (by decide); omega] at this
    exact this
  rw [if_neg h]
  have := loop_gen b.Fixtures.length (fun _ => true) (fun i x => unionBx x (shapeBx (ix b.Fixtures (i : Int)).Shape b.Transform)) (fun i _ => 1 ≤ i) (fun n x j => body_Bounds_l2 b (body_Bounds_j3 b) n j x) (fun x => some (x, true)) none
    (fun n i x hi hI => ⟨by rw [st n i x hi, if_neg (by omega), if_pos rfl], fun _ => by omega⟩)
    (fun n x _ => by rw [en, decide_eq_true (by omega)])
    (fuel - 1) 1 (shapeBx (ix b.Fixtures 0).Shape b.Transform) (by omega) (by have := fuel_lt (b.Fixtures.length + 1) (by omega); omega) (by omega)
  rw [allR_tt, if_pos rfl] at this
  rw [show fuel = (fuel - 1) + 1 by have := fuel_lt 1 (by decide); omega, show (0 : Int) = ((0 : Nat) : Int) from rfl, st _ 0 _ (by omega), if_pos rfl]
  exact this
def ovlB (a b : AABB) : Bool := okBx a && okBx b && (decide (a.Min.X ≤ b.Max.X) && decide (b.Min.X ≤ a.Max.X) && decide (a.Min.Y ≤ b.Max.Y) && decide (b.Min.Y ≤ a.Max.Y))
theorem aabb_Overlaps_eq (a b : AABB) : aabb_Overlaps a b = ovlB a b := by
  unfold aabb_Overlaps aabb_overlaps ovlB; simp only [Let_eq, cond_and, aabb_Valid_eq]
def secB (a b c d : Vec) : Bool :=
  !(decide (0 < w64 (oriV a b c * oriV a b d)) || decide (0 < w64 (oriV c d a * oriV c d b))) && ovlB (boxP [a, b]).1 (boxP [c, d]).1
theorem segment_Intersects_eq (a b c d : Vec) : segment_Intersects a b c d = some (secB a b c d) := by
  unfold segment_Intersects secB
  simp only [aabb_FromPoints_eq _ (show ([a, b] : List Vec).length ≤ 4611686018427387904 by simp), aabb_FromPoints_eq _ (show ([c, d] : List Vec).length ≤ 4611686018427387904 by simp), Bind_some, Let_eq, vec2_Orientation_eq, aabb_Overlaps_eq, cond_and, cond_or]
def dsq (a b : Vec) : Int := w64 (w64 (w64 (sat b.X - sat a.X) * w64 (sat b.X - sat a.X)) + w64 (w64 (sat b.Y - sat a.Y) * w64 (sat b.Y - sat a.Y)))
theorem vec2_DistanceSquared_eq (a b : Vec) : vec2_DistanceSquared a b = dsq a b := by
  unfold vec2_DistanceSquared dsq; simp only [Let_eq, vec2_saturate_eq, satV]
def lineD (c d p : Vec) : Int := w64 (w64 (w64 (d.X - c.X) * w64 (p.Y - c.Y)) - w64 (w64 (d.Y - c.Y) * w64 (p.X - c.X)))
def lineDist (c d p : Vec) : Int := max (lineD c d p) (w64 (0 - lineD c d p))
theorem segment_lineDistance_eq (c d p : Vec) : segment_lineDistance c d p = lineDist c d p := by
  unfold segment_lineDistance lineDist lineD; simp only [Let_eq]
def ratio (n d : Int) : Int :=
  if d < 1 ∨ 4611686018427387904 < d ∨ n < 1 then 0 else if d ≤ n then 65536 else if d < 70368744177664 then rdv (w64 (n * 65536)) d else min (rdv n (rdv d 65536)) 65536
theorem fixed_Ratio_eq (n d : Int) : fixed_Ratio n d = some (ratio n d) := by
  unfold fixed_Ratio ratio
  simp only [Let_eq, cond_or, Bool.or_eq_true, decide_eq_true_eq, fixed_RoundDiv_eq, Bind_some]
  by_cases h : (d < 1 ∨ 4611686018427387904 < d) ∨ n < 1
  · have h' : d < 1 ∨ 4611686018427387904 < d ∨ n < 1 := by omega
    rw [if_pos h, if_pos h']
  · have h' : ¬ (d < 1 ∨ 4611686018427387904 < d ∨ n < 1) := by omega
    rw [if_neg h, if_neg h']
    split
    · rfl
    · split <;> rfl
def projN (a b p : Vec) : Int := w64 (w64 (w64 (p.X - a.X) * w64 (b.X - a.X)) + w64 (w64 (p.Y - a.Y) * w64 (b.Y - a.Y)))
def cpS (a b p : Vec) : Vec × Int :=
  let r := ratio (projN (satV a) (satV b) (satV p)) (dsq (satV a) (satV b))
  if r = 0 then (satV a, r) else if r = 65536 then (satV b, r) else (lerpV (satV a) (satV b) r, r)
theorem segment_saturate_eq (a : Vec) : segment_saturate a = satV a := rfl
theorem segment_ClosestPoint_eq (a b p : Vec) : segment_ClosestPoint a b p = some (cpS a b p) := by
  unfold segment_ClosestPoint cpS
  simp only [Let_eq, segment_saturate_eq, vec2_DistanceSquared_eq, fixed_Ratio_eq, vec2_Lerp_eq, Bind_some, beq_iff_eq]
  rw [show w64 (w64 (w64 ((satV p).X - (satV a).X) * w64 ((satV b).X - (satV a).X)) + w64 (w64 ((satV p).Y - (satV a).Y) * w64 ((satV b).Y - (satV a).Y))) = projN (satV a) (satV b) (satV p) from rfl]
  split
  · rfl
  · split <;> rfl
def better (p q : Vec × Vec) : Vec × Vec := if dsq q.1 q.2 < dsq p.1 p.2 then q else p
def cpsS (a b c d : Vec) : Vec × Vec :=
  let a := satV a; let b := satV b; let c := satV c; let d := satV d
  if secB a b c d = true then
    let m := lerpV a b (ratio (lineDist c d a) (w64 (lineDist c d a + lineDist c d b)))
    (m, m)
  else better (better (better (a, (cpS c d a).1) (b, (cpS c d b).1)) ((cpS a b c).1, c)) ((cpS a b d).1, d)
def updC (x y : segment_candidate) : segment_candidate := if dsq y.x y.y < dsq x.x x.y then y else x
def prC (x : segment_candidate) : Vec × Vec := (x.x, x.y)
theorem prC_upd (x y : segment_candidate) : prC (updC x y) = better (prC x) (prC y) := by
  unfold prC updC better; simp only; split <;> rfl
theorem segment_ClosestPoints_eq (a b c d : Vec) : segment_ClosestPoints a b c d = some (cpsS a b c d) := by
  unfold segment_ClosestPoints cpsS
  simp only [Let_eq, segment_saturate_eq, segment_Intersects_eq, segment_lineDistance_eq, fixed_Ratio_eq, vec2_Lerp_eq, segment_ClosestPoint_eq, Bind_some]
  by_cases h : secB (satV a) (satV b) (satV c) (satV d) = true
  · rw [if_pos h, if_pos h]
  rw [if_neg h, if_neg h]
  generalize (cpS (satV c) (satV d) (satV a)).1 = u1
  generalize (cpS (satV c) (satV d) (satV b)).1 = u2
  generalize (cpS (satV a) (satV b) (satV c)).1 = u3
  generalize (cpS (satV a) (satV b) (satV d)).1 = u4
  have st : ∀ (L : List segment_candidate) (n i : Nat) (x y : segment_candidate), L.length = 3 → i < 3 → ix L (i : Int) = y → segment_ClosestPoints_l2 segment_ClosestPoints_j3 L (n + 1) (i : Int) x = segment_ClosestPoints_l2 segment_ClosestPoints_j3 L n ((i : Int) + 1) (updC x y) := by
    intro L n i x y hL hi hy
    rw [segment_ClosestPoints_l2]
    rw [if_pos (by simp; omega), Chk_of (by omega), hy]
    unfold segment_ClosestPoints_j1 updC
    simp only [Let_eq, vec2_DistanceSquared_eq, decide_eq_true_eq]
    rw [w64_of ((i : Int) + 1) (by omega)]
    split <;> rfl
  rw [show fuel = (fuel - 4) + 1 + 1 + 1 + 1 by have := fuel_lt 5 (by decide); omega]
  refine (st _ _ 0 _ ⟨satV b, u2⟩ rfl (by omega) rfl).trans ?_
  refine (st _ _ 1 _ ⟨u3, satV c⟩ rfl (by omega) rfl).trans ?_
  refine (st _ _ 2 _ ⟨u4, satV d⟩ rfl (by omega) rfl).trans ?_
  rw [segment_ClosestPoints_l2, if_neg (by simp)]
  show some (prC (updC (updC (updC ⟨satV a, u1⟩ ⟨satV b, u2⟩) ⟨u3, satV c⟩) ⟨u4, satV d⟩)) = _
  rw [prC_upd, prC_upd, prC_upd]
  rfl
def distS (a b c d : Vec) : Int := if secB a b c d = true then 0 else sat (isq (dsq (cpsS a b c d).1 (cpsS a b c d).2))
theorem segment_Distance_eq (a b c d : Vec) : segment_Distance a b c d = some (distS a b c d) := by
  unfold segment_Distance distS
  simp only [Let_eq, segment_Intersects_eq, segment_ClosestPoints_eq, vec2_DistanceSquared_eq, fixed_Isqrt_eq, fixed_Saturate_eq, Bind_some]
  split <;> rfl
def insideP (v : Vec) (ps : List Vec) : Bool := allR (fun i => decide (0 ≤ oriV (ix ps (i : Int)) (ix ps (nxt ps i)) v)) 0 ps.length
def containsP (s : Shape) (t : Transform) (v : Vec) : Bool :=
  let ps := vertsW s t
  if ps.length = 0 then false else if ps.length = 1 then decide (lenV (subV v (ix ps 0)) ≤ s.Radius) else if ps.length = 2 then decide (distS v v (ix ps 0) (ix ps 1) ≤ s.Radius) else insideP v ps
theorem shape_ContainsPoint_eq (s : Shape) (t : Transform) (v : Vec) : shape_ContainsPoint s t v = some (containsP s t v) := by
  unfold shape_ContainsPoint containsP
  have hl := vertsW_le s t
  rw [shape_Vertices_eq, Bind_some]
  simp only [Let_eq, beq_iff_eq]
  generalize vertsW s t = ps at *
  by_cases h0 : ps.length = 0
  · rw [if_pos (by omega), if_pos h0]
  rw [if_neg (by omega), if_neg h0]
  by_cases h1 : ps.length = 1
  · rw [if_pos (by omega), if_pos h1, Chk_of (by omega), vec2_Sub_eq, vec2_Length_eq]; rfl
  rw [if_neg (by omega), if_neg h1]
  by_cases h2 : ps.length = 2
  · rw [if_pos (by omega), if_pos h2, Chk_of (by omega), Chk_of (by omega), segment_Distance_eq]; rfl
  rw [if_neg (by omega), if_neg h2]
  have := loop_gen ps.length (fun i => decide (0 ≤ oriV (ix ps (i : Int)) (ix ps (nxt ps i)) v)) (fun _ (s : Unit) => s) (fun _ _ => True) (fun n _ i => shape_ContainsPoint_l1 v ps shape_ContainsPoint_j2 n i) (fun _ => some true) (some false)
    (fun n i s hi _ => by
      refine ⟨?_, fun _ => trivial⟩
      have hb := nxt_bd ps i (by omega)
      rw [shape_ContainsPoint_l1]
      rw [if_pos (by simpa using hi), Chk_of (by omega), Let_eq, Chk_of (by omega), w64_of ((i : Int) + 1) (by omega), show Int.tmod ((i : Int) + 1) (ps.length : Int) = nxt ps i from rfl, Chk_of hb, Let_eq, Let_eq, vec2_Orientation_eq]
      by_cases e : 0 ≤ oriV (ix ps (i : Int)) (ix ps (nxt ps i)) v
      · rw [if_neg (by simp; omega), if_pos (decide_eq_true e)]
      · rw [if_pos (by simp; omega), if_neg (by simpa using e)])
    (fun n s _ => by rw [shape_ContainsPoint_l1, if_neg (by simp)]; rfl)
    fuel 0 () (by omega) (fuel_lt _ (by omega)) trivial
  rw [Nat.sub_zero] at this
  rw [show shape_ContainsPoint_l1 v ps shape_ContainsPoint_j2 fuel 0 = shape_ContainsPoint_l1 v ps shape_ContainsPoint_j2 fuel ((0 : Nat) : Int) from rfl, this]
  unfold insideP
  cases allR (fun i => decide (0 ≤ oriV (ix ps (i : Int)) (ix ps (nxt ps i)) v)) 0 ps.length <;> rfl
def firstAt (p : Fixture → Bool) : List Fixture → Int → Int
  | [], _ => -1
  | f :: l, i => if p f = true then i else firstAt p l (i + 1)
theorem body_FixtureAt_eq (b : Body) (v : Vec) (hl : b.Fixtures.length ≤ 4611686018427387904) : body_FixtureAt b v = some (firstAt (fun f => containsP f.Shape b.Transform v) b.Fixtures 0) := by
  have key : ∀ n i : Nat, i ≤ b.Fixtures.length → b.Fixtures.length - i < n → body_FixtureAt_l1 b v body_FixtureAt_j2 n (i : Int) = some (firstAt (fun f => containsP f.Shape b.Transform v) (b.Fixtures.drop i) (i : Int)) := by
    intro n
    induction n with
    | zero => intro i _ h; omega
    | succ n ih =>
      intro i hi h
      unfold body_FixtureAt_l1
      by_cases hlt : i < b.Fixtures.length
      · rw [if_pos (by simpa using hlt), Chk_of (by omega), Let_eq, shape_ContainsPoint_eq, Bind_some, drop_ix _ i hlt]
        unfold firstAt
        split
        · rfl
        · rw [Let_eq, w64_of _ (by omega)]
          exact ih (i + 1) (by omega) (by omega)
      · rw [if_neg (by simpa using hlt), List.drop_of_length_le (by omega)]; rfl
  exact key fuel 0 (by omega) (fuel_lt _ (by omega))
def velAt (b : Body) (p : Vec) : Vec :=
  let d := subV p (applyT b.Transform (massM b.Fixtures).Center)
  addV b.Velocity ⟨-(mulS b.AngularVelocity d.Y), mulS b.AngularVelocity d.X⟩
end GoForm
