/- The plain law of polygons and shapes: the reference computes the same. No conditions. -/
import Derived.Test.YtblkmlpjhpgkjaaGreatF23XA2
import Derived.Test.YtblkmlpjhpgkjaaGreatF23XC1
set_option linter.all false
open Go Go.Cx
namespace GoForm
theorem ref11_inRange_eq (v : Vec) : ref11_inRange v = inRng 1048576 v := by
  unfold ref11_inRange inRng; simp only [Let_eq, cond_and]
theorem ref_IsConvex_in (vs : List Vec) (h8 : 3 ≤ vs.length ∧ vs.length ≤ 8) (i : Nat) (hi : i < vs.length) (kj : Option Bool) :
    ref11_IsConvex_l2 vs (i : Int) kj (nxt vs i) fuel 0 = if allR (leftOf vs i) 0 vs.length = true then kj else some false := by
  have hb := nxt_bd vs i (by omega)
  have := loop_gen vs.length (leftOf vs i) (fun _ (s : Unit) => s) (fun _ _ => True) (fun n _ j => ref11_IsConvex_l2 vs (i : Int) kj (nxt vs i) n j) (fun _ => kj) (some false)
    (fun n j s hj _ => by
      refine ⟨?_, fun _ => trivial⟩
      rw [ref11_IsConvex_l2]
      rw [if_pos (by simpa using hj), Chk_of (by intro _; omega), Chk_of (by intro _; omega), Chk_of (by intro _; omega), Let_eq, Let_eq, ref03_Orientation_eq, w64_of _ (by omega)]
      unfold leftOf
      by_cases h1 : (j : Int) = (i : Int)
      · simp [h1]
      · by_cases h2 : (j : Int) = nxt vs i
        · simp [h1, h2]
        · by_cases h3 : oriV (ix vs (i : Int)) (ix vs (nxt vs i)) (ix vs (j : Int)) = 1
          · simp [h1, h2, h3]
          · simp [h1, h2, h3])
    (fun n s _ => by rw [ref11_IsConvex_l2, if_neg (by simp)])
    fuel 0 () (by omega) (fuel_lt _ (by omega)) trivial
  simpa using this
theorem ref11_IsConvex_eq (vs : List Vec) : ref11_IsConvex vs = some (convexB vs) := by
  unfold ref11_IsConvex
  simp only [cond_or]
  by_cases h : (vs.length : Int) < 3 ∨ 8 < (vs.length : Int)
  · rw [if_pos (by simpa using h)]
    unfold convexB
    have : (decide (3 ≤ vs.length) && decide (vs.length ≤ 8)) = false := by
      simp only [Bool.and_eq_false_iff, decide_eq_false_iff_not]; omega
    rw [this]; rfl
  · rw [if_neg (by simpa using h)]
    unfold convexB
    have : (decide (3 ≤ vs.length) && decide (vs.length ≤ 8)) = true := by simp; omega
    rw [this, Bool.true_and]
    have := loop_gen vs.length (fun j => inRng 1048576 (ix vs (j : Int))) (fun _ (s : Unit) => s) (fun _ _ => True) (fun n _ i => ref11_IsConvex_l1 vs (ref11_IsConvex_j6 vs) n i) (fun _ => ref11_IsConvex_j6 vs) (some false)
      (fun n i s hi _ => by
        refine ⟨?_, fun _ => trivial⟩
        rw [ref11_IsConvex_l1]
        rw [if_pos (by simpa using hi), Chk_of (by omega), Let_eq, Let_eq, ref11_inRange_eq, w64_of _ (by omega)]
        cases inRng 1048576 (ix vs (i : Int)) <;> rfl)
      (fun n s _ => by rw [ref11_IsConvex_l1, if_neg (by simp)])
      fuel 0 () (by omega) (fuel_lt _ (by omega)) trivial
    rw [Nat.sub_zero, allR_all] at this
    rw [show ref11_IsConvex_l1 vs (ref11_IsConvex_j6 vs) fuel 0 = ref11_IsConvex_l1 vs (ref11_IsConvex_j6 vs) fuel ((0 : Nat) : Int) from rfl, this]
    cases hA : vs.all (inRng 1048576)
    · rfl
    rw [if_pos rfl]
    unfold ref11_IsConvex_j6
    have := loop_gen vs.length (fun i => allR (leftOf vs i) 0 vs.length) (fun _ (s : Unit) => s) (fun _ _ => True) (fun n _ j => ref11_IsConvex_l4 vs ref11_IsConvex_j5 n j) (fun _ => some true) (some false)
      (fun n i s hi _ => by
        refine ⟨?_, fun _ => trivial⟩
        rw [ref11_IsConvex_l4]
        rw [if_pos (by simpa using hi), Chk_of (by omega), Let_eq, w64_of ((i : Int) + 1) (by omega)]
        rw [show Int.tmod ((i : Int) + 1) (vs.length : Int) = nxt vs i from rfl, ref_IsConvex_in vs (by omega) i hi]
        unfold ref11_IsConvex_j3
        rw [Let_eq, w64_of ((i : Int) + 1) (by omega)])
      (fun n s _ => by rw [ref11_IsConvex_l4, if_neg (by simp)]; rfl)
      fuel 0 () (by omega) (fuel_lt _ (by omega)) trivial
    rw [show ref11_IsConvex_l4 vs ref11_IsConvex_j5 fuel 0 = ref11_IsConvex_l4 vs ref11_IsConvex_j5 fuel ((0 : Nat) : Int) from rfl, this, Nat.sub_zero, Bool.true_and]
    cases allR (fun i => allR (leftOf vs i) 0 vs.length) 0 vs.length <;> rfl
theorem lenV_bd (v : Vec) (h : -2097152 ≤ v.X ∧ v.X ≤ 2097152) (h2 : -2097152 ≤ v.Y ∧ v.Y ≤ 2097152) : 0 ≤ lenV v ∧ lenV v ≤ 4194304 := by
  have h3 := mul_bd 2097152 2097152 h h
  have h4 := mul_bd 2097152 2097152 h2 h2
  unfold lenV
  rw [sat_id (x := v.X) (by omega), sat_id (x := v.Y) (by omega)]
  have h5 := isq_bd (v.X * v.X + v.Y * v.Y)
  have p1 : 0 ≤ v.X * v.X := by rw [← Int.natAbs_mul_self]; exact Int.natCast_nonneg _
  have p2 : 0 ≤ v.Y * v.Y := by rw [← Int.natAbs_mul_self]; exact Int.natCast_nonneg _
  have h6 := h5.2.2 (by omega)
  refine ⟨h5.1, ?_⟩
  by_cases c : isq (v.X * v.X + v.Y * v.Y) ≤ 4194304
  · exact c
  · have := Int.mul_le_mul (show (4194305 : Int) ≤ isq (v.X * v.X + v.Y * v.Y) by omega) (show (4194305 : Int) ≤ isq (v.X * v.X + v.Y * v.Y) by omega) (by omega) (by omega)
    omega
theorem edgeL_bd {vs : List Vec} (hc : convexB vs = true) (i : Nat) (hi : i < vs.length) : 0 ≤ edgeL vs i ∧ edgeL vs i ≤ 4194304 := by
  obtain ⟨h3, h8, hr⟩ := convexB_len hc
  have hb := nxt_bd vs i (by omega)
  have h1 := (inRng_iff _ _).1 (hr _ (ix_mem vs (nxt vs i) hb))
  have h2 := (inRng_iff _ _).1 (hr _ (ix_mem vs (i : Int) (by omega)))
  have s : ∀ a b : Int, -1048576 ≤ a ∧ a ≤ 1048576 → -1048576 ≤ b ∧ b ≤ 1048576 → -2097152 ≤ subS a b ∧ subS a b ≤ 2097152 := by
    intro a b ha hb
    unfold subS
    rw [sat_id (x := a) (by omega), sat_id (x := b) (by omega), sat_id (by omega)]; omega
  exact lenV_bd _ (s _ _ (by omega) (by omega)) (s _ _ (by omega) (by omega))
theorem ref11_ShortestEdge_eq (vs : List Vec) : ref11_ShortestEdge vs = some (shortE vs) := by
  unfold ref11_ShortestEdge shortE
  rw [ref11_IsConvex_eq, Bind_some]
  cases hc : convexB vs
  · rfl
  obtain ⟨h3, h8, -⟩ := convexB_len hc
  rw [if_neg (by simp), if_pos rfl]
  have step : ∀ (n i : Nat) (m : Int), i < vs.length → ref11_ShortestEdge_l2 vs ref11_ShortestEdge_j3 (n + 1) m (i : Int) = ref11_ShortestEdge_l2 vs ref11_ShortestEdge_j3 n (if m < 0 ∨ edgeL vs i < m then edgeL vs i else m) ((i : Int) + 1) := by
    intro n i m hi
    have hb := nxt_bd vs i (by omega)
    rw [ref11_ShortestEdge_l2]
    rw [if_pos (by simpa using hi), Chk_of (by omega), w64_of ((i : Int) + 1) (by omega)]
    rw [show Int.tmod ((i : Int) + 1) (vs.length : Int) = nxt vs i from rfl, Chk_of hb, Chk_of (by omega), Let_eq, ref03_Sub_eq, ref03_Length_eq, Bind_some]
    unfold ref11_ShortestEdge_j1
    simp only [Let_eq, cond_or, Bool.or_eq_true, decide_eq_true_eq]
    rw [show lenV (subV (ix vs (nxt vs i)) (ix vs (i : Int))) = edgeL vs i from rfl, w64_of ((i : Int) + 1) (by omega)]
    split <;> rfl
  have := loop_gen vs.length (fun _ => true) (fun i m => min m (edgeL vs i)) (fun i m => 1 ≤ i ∧ 0 ≤ m) (fun n m j => ref11_ShortestEdge_l2 vs ref11_ShortestEdge_j3 n m j) (fun m => some m) (some 0)
    (fun n i m hi hI => by
      have he := edgeL_bd hc i hi
      refine ⟨?_, fun _ => ⟨by omega, by omega⟩⟩
      rw [step n i m hi, if_pos rfl]
      congr 1
      split <;> omega)
    (fun n s _ => by rw [ref11_ShortestEdge_l2, if_neg (by simp)]; rfl)
    (fuel - 1) 1 (edgeL vs 0) (by omega) (by have := fuel_lt (vs.length + 1) (by omega); omega) ⟨by omega, (edgeL_bd hc 0 (by omega)).1⟩
  rw [allR_tt, if_pos rfl] at this
  have he := edgeL_bd hc 0 (by omega)
  have e : fuel = (fuel - 1) + 1 := by have := fuel_lt 1 (by decide); omega
  rw [e, show ref11_ShortestEdge_l2 vs ref11_ShortestEdge_j3 (fuel - 1 + 1) (-1) 0 = ref11_ShortestEdge_l2 vs ref11_ShortestEdge_j3 (fuel - 1 + 1) (-1) ((0 : Nat) : Int) from rfl, step _ 0 (-1) (by omega), if_pos (by omega)]
  refine Eq.trans this ?_
  have e2 : vs.length = (vs.length - 1) + 1 := by omega
  rw [show foldR (fun i m => min m (edgeL vs i)) 0 vs.length 536870911 = foldR (fun i m => min m (edgeL vs i)) 0 (vs.length - 1 + 1) 536870911 by rw [← e2]]
  show _ = some (foldR _ 1 (vs.length - 1) (min 536870911 (edgeL vs 0)))
  rw [show min 536870911 (edgeL vs 0) = edgeL vs 0 by omega]
theorem ref11_cross_eq (vs : List Vec) (i : Nat) (h : i + 1 < vs.length) (h2 : vs.length ≤ 4611686018427387904) : ref11_cross vs (i : Int) = some (crossAt vs i) := by
  unfold ref11_cross
  rw [Chk_of (by omega), Chk_of (by omega), Chk_of (by omega), Chk_of (by omega), Let_eq, w64_of ((i : Int) + 1) (by omega), Chk_of (by omega), Chk_of (by omega), Chk_of (by omega), Chk_of (by omega), Let_eq, ref01_RoundDiv_eq, Bind_some]
  simp only [w64_ml, w64_mr, w64_sl, w64_sr]
  rfl
theorem ref11_Area_eq (vs : List Vec) : ref11_Area vs = some (areaV vs) := by
  unfold ref11_Area areaV
  rw [ref11_IsConvex_eq, Bind_some]
  cases hc : convexB vs
  · rfl
  obtain ⟨h3, h8, -⟩ := convexB_len hc
  rw [if_neg (by simp), if_pos rfl]
  have := loop_gen (vs.length - 1) (fun _ => true) (fun i a => w64 (a + crossAt vs i)) (fun _ _ => True) (fun n a j => ref11_Area_l1 vs ref11_Area_j2 n a j) (fun a => some (rdv a 2)) none
    (fun n i a hi _ => by
      refine ⟨?_, fun _ => trivial⟩
      rw [ref11_Area_l1]
      rw [w64_of ((i : Int) + 1) (by omega), if_pos (by simp; omega), ref11_cross_eq vs i (by omega) (by omega), Bind_some, Let_eq, Let_eq, if_pos rfl])
    (fun n s _ => by rw [ref11_Area_l1, w64_of _ (by omega), if_neg (by simp; omega)]; unfold ref11_Area_j2; rw [ref01_RoundDiv_eq]; rfl)
    fuel 1 0 (by omega) (fuel_lt _ (by omega)) trivial
  rw [allR_tt, if_pos rfl, show vs.length - 1 - 1 = vs.length - 2 by omega] at this
  exact this
theorem ref11_Centroid_eq (vs : List Vec) : ref11_Centroid vs = some (centV vs) := by
  unfold ref11_Centroid centV
  rw [ref11_IsConvex_eq, Bind_some]
  cases hc : convexB vs
  · rfl
  obtain ⟨h3, h8, -⟩ := convexB_len hc
  rw [if_neg (by simp), if_pos rfl, Chk_of (by omega), Let_eq]
  have := loop_gen (vs.length - 1) (fun _ => true) (fun i (s : Int × Int × Int) => (w64 (s.1 + crossAt vs i), w64 (s.2.1 + ((triAt vs i).e.X + (triAt vs i).f.X) * crossAt vs i), w64 (s.2.2 + ((triAt vs i).e.Y + (triAt vs i).f.Y) * crossAt vs i))) (fun i s => True)
    (fun n s j => ref11_Centroid_l1 vs (ix vs 0) (ref11_Centroid_j2 (ix vs 0)) n s.1 s.2.1 s.2.2 j)
    (fun s => ref11_Centroid_j2 (ix vs 0) s.1 s.2.1 s.2.2) none
    (fun n i s hi _ => by
      refine ⟨?_, fun _ => trivial⟩
      rw [ref11_Centroid_l1]
      rw [w64_of ((i : Int) + 1) (by omega), if_pos (by simp; omega), Chk_of (by omega), Chk_of (by omega), ref11_cross_eq vs i (by omega) (by omega), Bind_some, if_pos rfl]
      simp only [Let_eq, w64_ar, w64_ml, w64_al, w64_sl, triAt]
      have t : ∀ a b c d : Int, w64 (a + (b - c + d - c) * crossAt vs i) = w64 (a + (w64 (b - c) + w64 (d - c)) * crossAt vs i) := by
        intro a b c d
        have k : ∀ x, w64 (a + x * crossAt vs i) = w64 (a + w64 x * crossAt vs i) := fun x => by
          rw [← w64_ar a (w64 x * crossAt vs i), w64_ml, w64_ar]
        rw [k (b - c + d - c), k (w64 (b - c) + w64 (d - c)), w64_al, w64_ar, show b - c + d - c = b - c + (d - c) by omega]
      rw [t, t])
    (fun n s _ => by rw [ref11_Centroid_l1, w64_of _ (by omega), if_neg (by simp; omega)])
    fuel 1 (0, 0, 0) (by omega) (fuel_lt _ (by omega)) trivial
  rw [allR_tt, if_pos rfl, show vs.length - 1 - 1 = vs.length - 2 by omega, foldR_pair (fun i a => w64 (a + crossAt vs i)) (fun i (s : Int × Int) => (w64 (s.1 + ((triAt vs i).e.X + (triAt vs i).f.X) * crossAt vs i), w64 (s.2 + ((triAt vs i).e.Y + (triAt vs i).f.Y) * crossAt vs i))), foldR_pair (fun i a => w64 (a + ((triAt vs i).e.X + (triAt vs i).f.X) * crossAt vs i)) (fun i a => w64 (a + ((triAt vs i).e.Y + (triAt vs i).f.Y) * crossAt vs i))] at this
  refine Eq.trans this ?_
  unfold ref11_Centroid_j2
  simp only [beq_iff_eq, ref01_RoundDiv_eq, Bind_some, Let_eq]
  rw [show foldR (fun i a => w64 (a + crossAt vs i)) 1 (vs.length - 2) 0 = crossSum vs from rfl]
  split
  · rfl
  · rfl
theorem ref12_countMatches_eq (s : Shape) (h : 1 ≤ s.Kind ∧ s.Kind ≤ 3) : ref12_countMatches s = countB s := by
  unfold ref12_countMatches countB
  simp only [Let_eq, beq_iff_eq, cond_and]
  by_cases h3 : s.Kind = 3
  · rw [if_pos h3, if_neg (by omega), if_neg (by omega), Bool.eq_iff_iff]; simp only [Bool.and_eq_true, decide_eq_true_eq]; omega
  · rw [if_neg h3]
    by_cases h1 : s.Kind = 1
    · rw [if_pos h1, Bool.eq_iff_iff]; simp only [beq_iff_eq]; omega
    · rw [if_neg h1, if_pos (by omega), Bool.eq_iff_iff]; simp only [beq_iff_eq]; omega
theorem ref12_Validate_eq (s : Shape) : ref12_Validate s = some (validS s) := by
  unfold ref12_Validate validS
  simp only [Let_eq, cond_or, Bool.or_eq_true, decide_eq_true_eq]
  by_cases h1 : s.Kind < 1 ∨ 3 < s.Kind
  · rw [if_pos h1, if_pos h1]
  rw [if_neg h1, if_neg h1, ref12_countMatches_eq s (by omega)]
  cases hc : countB s
  · rfl
  obtain ⟨l1, l8, l2⟩ := countB_len hc
  rw [if_neg (by simp), if_neg (show ¬ true = false by simp)]
  have := loop_gen s.Vertices.length (fun j => inRng 1048576 (ix s.Vertices (j : Int))) (fun _ (s : Unit) => s) (fun _ _ => True) (fun n _ i => ref12_Validate_l1 s (ref12_Validate_j2 s) n i) (fun _ => ref12_Validate_j2 s) (some 6)
    (fun n i _ hi _ => by
      refine ⟨?_, fun _ => trivial⟩
      rw [ref12_Validate_l1]
      rw [if_pos (by simpa using hi), Chk_of (by omega), Let_eq, Chk_of (by omega), Let_eq, Let_eq, w64_of ((i : Int) + 1) (by omega)]
      unfold ref12_within inRng
      simp only [Let_eq, cond_and, cond_or]
      rw [show w64 (0 - 1048576) = -1048576 from rfl]
      cases h1 : decide (-1048576 ≤ (ix s.Vertices (i : Int)).X) <;> cases h2 : decide ((ix s.Vertices (i : Int)).X ≤ 1048576) <;> cases h3 : decide (-1048576 ≤ (ix s.Vertices (i : Int)).Y) <;> cases h4 : decide ((ix s.Vertices (i : Int)).Y ≤ 1048576) <;> rfl)
    (fun n s _ => by rw [ref12_Validate_l1, if_neg (by simp)])
    fuel 0 () (by omega) (fuel_lt _ (by omega)) trivial
  rw [Nat.sub_zero, allR_all] at this
  rw [show ref12_Validate_l1 s (ref12_Validate_j2 s) fuel 0 = ref12_Validate_l1 s (ref12_Validate_j2 s) fuel ((0 : Nat) : Int) from rfl, this]
  cases ha : s.Vertices.all (inRng 1048576)
  · rfl
  rw [if_pos rfl, if_neg (show ¬ true = false by simp)]
  unfold ref12_Validate_j2 radiusBad
  simp only [cond_and, cond_or, Let_eq]
  have er : ((s.Kind == 3) && (s.Radius != 0) || (s.Kind != 3) && (decide (s.Radius < 2048) || decide (524288 < s.Radius))) = (if s.Kind = 3 then s.Radius != 0 else decide (s.Radius < 2048) || decide (524288 < s.Radius)) := by
    by_cases k3 : s.Kind = 3
    · simp [k3]
    · have e1 : (s.Kind == 3) = false := by simpa using k3
      have e2 : (s.Kind != 3) = true := by simpa using k3
      rw [e1, e2, if_neg k3, Bool.false_and, Bool.true_and, Bool.false_or]
  rw [er]
  cases hR : (if s.Kind = 3 then s.Radius != 0 else decide (s.Radius < 2048) || decide (524288 < s.Radius))
  case true => rfl
  rw [if_neg (show ¬ false = true by simp), if_neg (show ¬ false = true by simp), Chk_of (by intro h; simp at h; have := l2 h; omega), Chk_of (by intro h; simp at h; have := l2 h; omega), ref03_Sub_eq]
  simp only [ref03_Length_eq, ref11_IsConvex_eq, ref11_ShortestEdge_eq, ref11_Area_eq, Let_eq, cond_and, cond_or, Bool.and_eq_true, decide_eq_true_eq, beq_iff_eq]
  by_cases k2 : s.Kind = 2
  · by_cases hl : lenV (subV (ix s.Vertices 1) (ix s.Vertices 0)) < 4096
    · simp [k2, hl]
    · simp [k2, hl]
  · by_cases k3 : s.Kind = 3
    · cases hcx : convexB s.Vertices
      · simp [k3]
      · by_cases hsE : shortE s.Vertices < 4096
        · simp [k3, hsE, show ¬ (4096 ≤ shortE s.Vertices) by omega]
        · by_cases hA : areaV s.Vertices < 256 <;> simp [k3, hsE, hA, show (4096 ≤ shortE s.Vertices) by omega]
    · simp [k2, k3]
end GoForm
