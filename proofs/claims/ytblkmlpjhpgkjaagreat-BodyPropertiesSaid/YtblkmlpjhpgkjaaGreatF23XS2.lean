/- The plain law of boxes, segments and points in shapes: the reference computes the same. No conditions. -/
import Derived.Test.YtblkmlpjhpgkjaaGreatF23XM2
import Derived.Test.YtblkmlpjhpgkjaaGreatF23XS1
set_option linter.all false
open Go Go.Cx
namespace GoForm
theorem ref12_Vertices_eq (s : Shape) (t : Transform) : ref12_Vertices s t = some (vertsW s t) := by
  unfold ref12_Vertices vertsW
  rw [ref12_Validate_eq, Bind_some]
  simp only [bne_iff_ne]
  by_cases h : validS s ≠ 0
  · rw [if_pos h, if_pos h]
  rw [if_neg h, if_neg h]
  obtain ⟨-, -, hc, -⟩ := validS_count (s := s) (by omega)
  obtain ⟨l1, l8, -⟩ := countB_len hc
  have := loop_gen s.Vertices.length (fun _ => true) (fun i l => l ++ [applyT t (ix s.Vertices (i : Int))]) (fun i l => l.length = i) (fun n x j => ref12_Vertices_l1 s t ref12_Vertices_j2 n x j) (fun l => some l) none
    (fun n i x hi hI => by
      refine ⟨?_, fun _ => by simp [hI]⟩
      rw [ref12_Vertices_l1]
      rw [if_pos (by simpa using hi), Chk_of (by omega), ref04_Apply_eq, Bind_some, Chk_of (by simp; omega), Let_eq, Let_eq, w64_of ((i : Int) + 1) (by omega), if_pos rfl])
    (fun n x _ => by rw [ref12_Vertices_l1, if_neg (by simp)]; rfl)
    fuel 0 [] (by omega) (fuel_lt _ (by omega)) rfl
  rw [Nat.sub_zero, allR_tt, if_pos rfl, foldR_list, List.nil_append, map_ix (applyT t)] at this
  exact this
theorem ref05_SaturateVec_eq (v : Vec) : ref05_SaturateVec v = satV v := by unfold ref05_SaturateVec; simp only [Let_eq, ref01_Saturate_eq]; rfl
theorem ref10_saturated_eq (v : Vec) : ref10_saturated v = satV v := by unfold ref10_saturated; simp only [Let_eq, ref01_Saturate_eq]; rfl
theorem ref05_FromPoints_eq (ps : List Vec) (hl : ps.length ≤ 4611686018427387904) : ref05_FromPoints ps = some (boxP ps) := by
  unfold ref05_FromPoints boxP
  simp only [beq_iff_eq]
  by_cases h : ps.length = 0
  · rw [if_pos (by omega), if_pos h]; rfl
  rw [if_neg (by omega), if_neg h, Chk_of (by omega), Let_eq, Let_eq, Let_eq, ref05_SaturateVec_eq]
  have := loop_gen ps.length (fun _ => true) (boxStep ps) (fun _ _ => True) (fun n x j => ref05_FromPoints_l1 ps ref05_FromPoints_j2 n j x) (fun x => some (x, true)) none
    (fun n i x hi _ => by
      refine ⟨?_, fun _ => trivial⟩
      rw [ref05_FromPoints_l1]
      rw [if_pos (by simpa using hi), Chk_of (by omega), if_pos rfl]
      simp only [Let_eq, ref05_SaturateVec_eq]
      rw [w64_of ((i : Int) + 1) (by omega)]; rfl)
    (fun n x _ => by rw [ref05_FromPoints_l1, if_neg (by simp)]; rfl)
    fuel 1 ⟨satV (ix ps 0), satV (ix ps 0)⟩ (by omega) (fuel_lt _ (by omega)) trivial
  rw [allR_tt, if_pos rfl] at this
  exact this
theorem ref12_Bounds_eq (s : Shape) (t : Transform) : ref12_Bounds s t = some (shapeBx s t) := by
  unfold ref12_Bounds shapeBx
  have hl := vertsW_le s t
  have hs := vertsW_sat s t
  rw [ref12_Vertices_eq, Bind_some]
  simp only [Let_eq, beq_iff_eq]
  generalize vertsW s t = ps at *
  by_cases h : ps.length = 0
  · rw [if_pos (by omega), if_pos h]
  rw [if_neg (by omega), if_neg h, Chk_of (by omega), Chk_of (by omega)]
  have ss : ∀ i : Nat, i < ps.length → satV (ix ps (i : Int)) = ix ps (i : Int) := fun i hi => hs _ (ix_mem ps (i : Int) (by omega))
  have := loop_gen ps.length (fun _ => true) (boxStep ps) (fun _ _ => True) (fun n x j => ref12_Bounds_l1 ps (ref12_Bounds_j2 s) n j x.Min x.Max) (fun x => ref12_Bounds_j2 s x.Min x.Max) none
    (fun n i x hi _ => by
      refine ⟨?_, fun _ => trivial⟩
      rw [ref12_Bounds_l1]
      rw [if_pos (by simpa using hi), Chk_of (by omega), Chk_of (by omega), if_pos rfl]
      simp only [Let_eq]
      rw [Chk_of (by omega), Chk_of (by omega), w64_of ((i : Int) + 1) (by omega)]
      unfold boxStep lowV uppV
      rw [ss i hi])
    (fun n x _ => by rw [ref12_Bounds_l1, if_neg (by simp)])
    fuel 0 ⟨ix ps 0, ix ps 0⟩ (by omega) (fuel_lt _ (by omega)) trivial
  rw [Nat.sub_zero, allR_tt, if_pos rfl] at this
  refine Eq.trans this ?_
  have e : foldR (boxStep ps) 0 ps.length ⟨ix ps 0, ix ps 0⟩ = foldR (boxStep ps) 1 (ps.length - 1) ⟨satV (ix ps 0), satV (ix ps 0)⟩ := by
    have s0 := ss 0 (by omega)
    rw [show ((0 : Nat) : Int) = 0 from rfl] at s0
    rw [show ps.length = (ps.length - 1) + 1 by omega]
    show foldR (boxStep ps) 1 (ps.length - 1) (boxStep ps 0 ⟨ix ps 0, ix ps 0⟩) = _
    rw [Nat.add_sub_cancel]
    congr 1
    unfold boxStep lowV uppV
    rw [show ((0 : Nat) : Int) = 0 from rfl, s0]
    simp only [Int.min_self, Int.max_self]
  rw [e]
  unfold boxP ref12_Bounds_j2
  rw [if_neg h]
  simp only [Let_eq, ref01_Sub_eq, ref01_Add_eq]
  rfl
theorem ref05_Valid_eq (b : AABB) : ref05_Valid b = okBx b := by
  unfold ref05_Valid okBx satd
  simp only [Let_eq, cond_and, ref05_SaturateVec_eq, Vec_beq_eq]
  have e : ∀ v : Vec, decide (v = satV v) = (sat v.X == v.X && sat v.Y == v.Y) := by
    intro v; cases v; unfold satV
    rw [Bool.eq_iff_iff]; simp only [decide_eq_true_eq, Vec.mk.injEq, Bool.and_eq_true, beq_iff_eq]
    exact ⟨fun h => ⟨h.1.symm, h.2.symm⟩, fun h => ⟨h.1.symm, h.2.symm⟩⟩
  rw [e, e]
theorem box4 (a b : AABB) (ha : okBx a = true) (hb : okBx b = true) : (boxP [a.Min, a.Max, b.Min, b.Max]).1 = ⟨lowV a.Min b.Min, uppV a.Max b.Max⟩ := by
  unfold okBx satd at ha hb
  simp only [Bool.and_eq_true, decide_eq_true_eq, beq_iff_eq] at ha hb
  obtain ⟨⟨⟨a1, a2⟩, a3, a4⟩, a5, a6⟩ := ha
  obtain ⟨⟨⟨b1, b2⟩, b3, b4⟩, b5, b6⟩ := hb
  show foldR (boxStep [a.Min, a.Max, b.Min, b.Max]) 1 3 ⟨satV a.Min, satV a.Min⟩ = _
  simp only [foldR]
  unfold boxStep
  rw [show ix [a.Min, a.Max, b.Min, b.Max] ((1 : Nat) : Int) = a.Max from rfl, show ix [a.Min, a.Max, b.Min, b.Max] ((1 + 1 : Nat) : Int) = b.Min from rfl, show ix [a.Min, a.Max, b.Min, b.Max] ((1 + 1 + 1 : Nat) : Int) = b.Max from rfl]
  unfold satV lowV uppV
  rw [a3, a4, a5, a6, b3, b4, b5, b6]
  simp only
  congr 2 <;> omega
theorem ref05_Union_eq (a b : AABB) : ref05_Union a b = some (unionBx a b) := by
  unfold ref05_Union unionBx
  simp only [Let_eq, ref05_Valid_eq, cond_and, ref05_FromPoints_eq _ (show ([a.Min, a.Max, b.Min, b.Max] : List Vec).length ≤ 4611686018427387904 by simp), Bind_some]
  cases ha : okBx a
  · cases hb : okBx b
    · rfl
    · rfl
  · cases hb : okBx b
    · rfl
    · rw [if_neg (by simp), if_neg (by simp), if_neg (by simp), if_pos ⟨rfl, rfl⟩, box4 a b ha hb]
theorem ref23_Bounds_eq (b : Body) (hl : b.Fixtures.length ≤ 4611686018427387904) : ref23_Bounds b = some (bodyBx b) := by
  unfold ref23_Bounds bodyBx
  simp only [beq_iff_eq]
  by_cases h : b.Fixtures.length = 0
  · rw [if_pos (by omega), if_pos h]; rfl
  rw [if_neg (by omega), if_neg h, Chk_of (by omega), ref12_Bounds_eq, Bind_some, Let_eq]
  have := loop_gen b.Fixtures.length (fun _ => true) (fun i x => unionBx x (shapeBx (ix b.Fixtures (i : Int)).Shape b.Transform)) (fun i _ => True) (fun n x j => ref23_Bounds_l1 b ref23_Bounds_j2 n j x) (fun x => some (x, true)) none
    (fun n i x hi _ => by
      refine ⟨?_, fun _ => trivial⟩
      rw [ref23_Bounds_l1]
      rw [if_pos (by simpa using hi), Chk_of (by omega), ref12_Bounds_eq, Bind_some, ref05_Union_eq, Bind_some, Let_eq, Let_eq, w64_of ((i : Int) + 1) (by omega), if_pos rfl])
    (fun n x _ => by rw [ref23_Bounds_l1, if_neg (by simp)]; rfl)
    fuel 1 (shapeBx (ix b.Fixtures 0).Shape b.Transform) (by omega) (fuel_lt _ (by omega)) trivial
  rw [allR_tt, if_pos rfl] at this
  exact this
theorem ref05_Overlaps_eq (a b : AABB) : ref05_Overlaps a b = ovlB a b := by
  unfold ref05_Overlaps ovlB; simp only [Let_eq, cond_and, ref05_Valid_eq, Bool.and_assoc]
theorem ref10_Intersects_eq (a b c d : Vec) : ref10_Intersects a b c d = some (secB a b c d) := by
  unfold ref10_Intersects secB
  simp only [ref05_FromPoints_eq _ (show ([a, b] : List Vec).length ≤ 4611686018427387904 by simp), ref05_FromPoints_eq _ (show ([c, d] : List Vec).length ≤ 4611686018427387904 by simp), Bind_some, Let_eq, ref03_Orientation_eq, ref05_Overlaps_eq, cond_and]
  have e : ∀ x y : Int, (decide (x ≤ 0) && decide (y ≤ 0)) = !(decide (0 < x) || decide (0 < y)) := by
    intro x y; rw [Bool.eq_iff_iff]; simp only [Bool.and_eq_true, decide_eq_true_eq, Bool.not_eq_true', Bool.or_eq_false_iff, decide_eq_false_iff_not]; omega
  rw [e]
theorem ref03_DistanceSquared_eq (a b : Vec) : ref03_DistanceSquared a b = dsq a b := by
  unfold ref03_DistanceSquared dsq; simp only [Let_eq, ref03_Saturated_eq, satV]
theorem ref10_absCross_eq (c d p : Vec) : ref10_absCross c d p = lineDist c d p := by
  unfold ref10_absCross lineDist
  simp only [Let_eq, decide_eq_true_eq]
  rw [show w64 (w64 (w64 (d.X - c.X) * w64 (p.Y - c.Y)) - w64 (w64 (d.Y - c.Y) * w64 (p.X - c.X))) = lineD c d p from rfl]
  have h := w64_bd (w64 (w64 (d.X - c.X) * w64 (p.Y - c.Y)) - w64 (w64 (d.Y - c.Y) * w64 (p.X - c.X)))
  rw [show w64 (w64 (w64 (d.X - c.X) * w64 (p.Y - c.Y)) - w64 (w64 (d.Y - c.Y) * w64 (p.X - c.X))) = lineD c d p from rfl] at h
  have h2 := w64_or (0 - lineD c d p)
  split <;> omega
theorem ref01_Ratio_eq (n d : Int) : ref01_Ratio n d = some (ratio n d) := by
  unfold ref01_Ratio ratio ref01_outOfRange
  simp only [Let_eq, cond_or, Bool.or_eq_true, decide_eq_true_eq, ref01_RoundDiv_eq, Bind_some]
  by_cases h : (d < 1 ∨ 4611686018427387904 < d ∨ d < -4611686018427387904) ∨ n < 1
  · have h' : d < 1 ∨ 4611686018427387904 < d ∨ n < 1 := by omega
    rw [if_pos h, if_pos h']
  · have h' : ¬ (d < 1 ∨ 4611686018427387904 < d ∨ n < 1) := by omega
    rw [if_neg h, if_neg h']
    split
    · rfl
    · split
      · rfl
      · rw [Int.min_comm]
theorem ref10_ClosestPoint_eq (a b p : Vec) : ref10_ClosestPoint a b p = some (cpS a b p) := by
  unfold ref10_ClosestPoint cpS
  simp only [Let_eq, ref10_saturated_eq, ref03_DistanceSquared_eq, ref01_Ratio_eq, ref03_Lerp_eq, Bind_some, beq_iff_eq]
  rw [show w64 (w64 (w64 ((satV p).X - (satV a).X) * w64 ((satV b).X - (satV a).X)) + w64 (w64 ((satV p).Y - (satV a).Y) * w64 ((satV b).Y - (satV a).Y))) = projN (satV a) (satV b) (satV p) from rfl]
  split
  · rfl
  · split <;> rfl
theorem ref10_ClosestPoints_eq (a b c d : Vec) : ref10_ClosestPoints a b c d = some (cpsS a b c d) := by
  unfold ref10_ClosestPoints cpsS
  simp only [Let_eq, ref10_saturated_eq, ref10_Intersects_eq, ref10_absCross_eq, ref01_Ratio_eq, ref03_Lerp_eq, ref10_ClosestPoint_eq, Bind_some]
  by_cases h : secB (satV a) (satV b) (satV c) (satV d) = true
  · rw [if_pos h, if_pos h]
  rw [if_neg h, if_neg h]
  generalize (cpS (satV c) (satV d) (satV a)).1 = u1
  generalize (cpS (satV c) (satV d) (satV b)).1 = u2
  generalize (cpS (satV a) (satV b) (satV c)).1 = u3
  generalize (cpS (satV a) (satV b) (satV d)).1 = u4
  have j1 : ∀ x y : Vec, ref10_ClosestPoints_j1 (satV d) u4 x y = some (better (x, y) (u4, satV d)) := by
    intro x y; unfold ref10_ClosestPoints_j1 better
    simp only [Let_eq, ref03_DistanceSquared_eq, decide_eq_true_eq]
    split <;> rfl
  have j2 : ∀ x y : Vec, ref10_ClosestPoints_j2 (satV c) (satV d) u3 u4 x y = some (better (better (x, y) (u3, satV c)) (u4, satV d)) := by
    intro x y; unfold ref10_ClosestPoints_j2
    simp only [Let_eq, ref03_DistanceSquared_eq, decide_eq_true_eq, j1]
    rw [show better (x, y) (u3, satV c) = if dsq u3 (satV c) < dsq x y then (u3, satV c) else (x, y) from rfl]
    split <;> rfl
  simp only [ref03_DistanceSquared_eq, decide_eq_true_eq, j2]
  rw [show better (satV a, u1) (satV b, u2) = if dsq (satV b) u2 < dsq (satV a) u1 then (satV b, u2) else (satV a, u1) from rfl]
  split <;> rfl
theorem ref10_Distance_eq (a b c d : Vec) : ref10_Distance a b c d = some (distS a b c d) := by
  unfold ref10_Distance distS
  simp only [Let_eq, ref10_Intersects_eq, ref10_ClosestPoints_eq, ref03_DistanceSquared_eq, ref01_Isqrt_eq, ref01_Saturate_eq, Bind_some]
  split <;> rfl
theorem ref12_ContainsPoint_eq (s : Shape) (t : Transform) (v : Vec) : ref12_ContainsPoint s t v = some (containsP s t v) := by
  unfold ref12_ContainsPoint containsP
  have hl := vertsW_le s t
  have hne : vertsW s t ≠ [] → _ := vertsW_len (s := s) (t := t)
  rw [ref12_Vertices_eq, Bind_some]
  simp only [Let_eq, beq_iff_eq]
  by_cases h0 : (vertsW s t).length = 0
  · rw [if_pos (by omega), if_pos h0]
  obtain ⟨hv, he, g1, g8, hc, k1, k3⟩ := hne (fun h => h0 (by rw [h]; rfl))
  generalize vertsW s t = ps at *
  rw [if_neg (by omega), if_neg h0]
  unfold countB at hc
  by_cases h1 : s.Kind = 1
  · rw [if_pos h1] at hc ⊢
    simp only [beq_iff_eq] at hc
    rw [if_pos (by omega), Chk_of (by omega), ref03_Sub_eq, ref03_Length_eq]; rfl
  rw [if_neg h1] at hc ⊢
  by_cases h2 : s.Kind = 2
  · rw [if_pos h2] at hc ⊢
    simp only [beq_iff_eq] at hc
    rw [if_neg (by omega), if_pos (by omega), Chk_of (by omega), Chk_of (by omega), ref10_Distance_eq]; rfl
  rw [if_neg h2] at hc ⊢
  simp only [Bool.and_eq_true, decide_eq_true_eq] at hc
  rw [if_neg (by omega), if_neg (by omega)]
  have := loop_gen ps.length (fun i => decide (0 ≤ oriV (ix ps (i : Int)) (ix ps (nxt ps i)) v)) (fun _ (s : Unit) => s) (fun _ _ => True) (fun n _ i => ref12_ContainsPoint_l1 v ps ref12_ContainsPoint_j2 n i) (fun _ => some true) (some false)
    (fun n i s hi _ => by
      refine ⟨?_, fun _ => trivial⟩
      have hb := nxt_bd ps i (by omega)
      rw [ref12_ContainsPoint_l1]
      rw [if_pos (by simpa using hi), Chk_of (by omega), Chk_of (by omega), w64_of ((i : Int) + 1) (by omega), show Int.tmod ((i : Int) + 1) (ps.length : Int) = nxt ps i from rfl, Chk_of hb, Let_eq, Let_eq, ref03_Orientation_eq]
      by_cases e : 0 ≤ oriV (ix ps (i : Int)) (ix ps (nxt ps i)) v
      · rw [if_neg (by simp; omega), if_pos (decide_eq_true e)]
      · rw [if_pos (by simp; omega), if_neg (by simpa using e)])
    (fun n s _ => by rw [ref12_ContainsPoint_l1, if_neg (by simp)]; rfl)
    fuel 0 () (by omega) (fuel_lt _ (by omega)) trivial
  rw [Nat.sub_zero] at this
  rw [show ref12_ContainsPoint_l1 v ps ref12_ContainsPoint_j2 fuel 0 = ref12_ContainsPoint_l1 v ps ref12_ContainsPoint_j2 fuel ((0 : Nat) : Int) from rfl, this]
  unfold insideP
  cases allR (fun i => decide (0 ≤ oriV (ix ps (i : Int)) (ix ps (nxt ps i)) v)) 0 ps.length <;> rfl
theorem ref23_FixtureAt_eq (b : Body) (v : Vec) (hl : b.Fixtures.length ≤ 4611686018427387904) : ref23_FixtureAt b v = some (firstAt (fun f => containsP f.Shape b.Transform v) b.Fixtures 0) := by
  have key : ∀ n i : Nat, i ≤ b.Fixtures.length → b.Fixtures.length - i < n → ref23_FixtureAt_l1 b v ref23_FixtureAt_j2 n (i : Int) = some (firstAt (fun f => containsP f.Shape b.Transform v) (b.Fixtures.drop i) (i : Int)) := by
    intro n
    induction n with
    | zero => intro i _ h; omega
    | succ n ih =>
      intro i hi h
      unfold ref23_FixtureAt_l1
      by_cases hlt : i < b.Fixtures.length
      · rw [if_pos (by simpa using hlt), Chk_of (by omega), ref12_ContainsPoint_eq, Bind_some, drop_ix _ i hlt]
        unfold firstAt
        split
        · rfl
        · rw [Let_eq, w64_of _ (by omega)]
          exact ih (i + 1) (by omega) (by omega)
      · rw [if_neg (by simpa using hlt), List.drop_of_length_le (by omega)]; rfl
  exact key fuel 0 (by omega) (fuel_lt _ (by omega))
theorem ref03_CrossScalar_eq (w : Int) (v : Vec) : ref03_CrossScalar w v = some ⟨-(mulS w v.Y), mulS w v.X⟩ := by
  have := mulS_bd w v.Y
  unfold ref03_CrossScalar; simp only [ref01_Mul_eq, Bind_some, Let_eq]
  rw [w64_of _ (by omega), show 0 - mulS w v.Y = -(mulS w v.Y) by omega]
theorem body_VelocityAt_eq (b : Body) (p : Vec) : body_VelocityAt b p = some (velAt b p) := by
  unfold body_VelocityAt; simp only [body_WorldCenter_eq, vec2_Sub_eq, vec2_CrossScalar_eq, vec2_Add_eq, Bind_some, Let_eq]; rfl
theorem ref23_VelocityAt_eq (b : Body) (p : Vec) : ref23_VelocityAt b p = some (velAt b p) := by
  unfold ref23_VelocityAt; simp only [ref23_WorldCenter_eq, ref03_Sub_eq, ref03_CrossScalar_eq, ref03_Add_eq, Bind_some, Let_eq]; rfl
theorem law23_BodyProperties_true (a0 : Body) (a1 : Vec) (w0 : Body.Wf a0) (w1 : Vec.Wf a1) : law23_BodyProperties a0 a1 = some true := by
  unfold law23_BodyProperties
  rw [ref23_Small_eq, Bind_some, example23]
  cases hs : smallB a0
  · rfl
  obtain ⟨s1, s2⟩ := smallB_ok hs
  have m : ∀ x : MassData, MassData.beq x x = true := fun x => by unfold MassData.beq; simp [Vec_beq_eq]
  have sb : ∀ x : SolverBody, SolverBody.beq x x = true := fun x => by unfold SolverBody.beq; simp [Vec_beq_eq]
  have ab : ∀ x : AABB, AABB.beq x x = true := fun x => by unfold AABB.beq; simp [Vec_beq_eq]
  simp only [body_Bounds_eq a0 (by omega), ref23_Bounds_eq a0 (by omega), body_MassData_eq, ref23_MassData_eq, body_WorldCenter_eq, ref23_WorldCenter_eq, body_SolverBody_eq, ref23_SolverBody_eq, body_VelocityAt_eq, ref23_VelocityAt_eq, body_FixtureAt_eq a0 a1 (by omega), ref23_FixtureAt_eq a0 a1 (by omega), Bind_some, Let_eq, m]
  simp [sb, ab, Vec_beq_eq]
end GoForm
