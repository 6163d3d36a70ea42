/- The plain law of polygons and shapes. No conditions. -/
import Derived.Test.YtblkmlpjhpgkjaaF23A1
import Derived.Test.YtblkmlpjhpgkjaaCxW
set_option linter.all false
open Go Go.Cx
namespace GoForm
def inRng (lim : Int) (v : Vec) : Bool := decide (-lim ≤ v.X) && decide (v.X ≤ lim) && decide (-lim ≤ v.Y) && decide (v.Y ≤ lim)
theorem inRng_iff (lim : Int) (v : Vec) : inRng lim v = true ↔ -lim ≤ v.X ∧ v.X ≤ lim ∧ -lim ≤ v.Y ∧ v.Y ≤ lim := by
  unfold inRng; simp only [Bool.and_eq_true, decide_eq_true_eq]; exact ⟨fun h => ⟨h.1.1.1, h.1.1.2, h.1.2, h.2⟩, fun h => ⟨⟨⟨h.1, h.2.1⟩, h.2.2.1⟩, h.2.2.2⟩⟩
theorem polygon_inReach_eq (v : Vec) : polygon_inReach v = inRng 1048576 v := by
  unfold polygon_inReach inRng; simp only [Let_eq, cond_and]
theorem polygon_allInReach_eq (vs : List Vec) (h : vs.length ≤ 4611686018427387904) : polygon_allInReach vs = some (vs.all (inRng 1048576)) := by
  unfold polygon_allInReach
  have := loop_gen vs.length (fun j => inRng 1048576 (ix vs (j : Int))) (fun _ (s : Unit) => s) (fun _ _ => True) (fun n _ i => polygon_allInReach_l1 vs polygon_allInReach_j2 n i) (fun _ => some true) (some false)
    (fun n i s hi _ => by
      refine ⟨?_, fun _ => trivial⟩
      rw [polygon_allInReach_l1]
      rw [if_pos (by simpa using hi), Chk_of (by omega), Let_eq, Let_eq, Let_eq, polygon_inReach_eq, w64_of _ (by omega)]
      cases inRng 1048576 (ix vs (i : Int)) <;> rfl)
    (fun n s _ => by rw [polygon_allInReach_l1, if_neg (by simp)]; rfl)
    fuel 0 () (by omega) (fuel_lt _ (by omega)) trivial
  rw [Nat.sub_zero, allR_all] at this
  rw [show polygon_allInReach_l1 vs polygon_allInReach_j2 fuel 0 = polygon_allInReach_l1 vs polygon_allInReach_j2 fuel ((0 : Nat) : Int) from rfl, this]
  cases vs.all (inRng 1048576) <;> rfl
def nxt (vs : List Vec) (i : Nat) : Int := Int.tmod ((i : Int) + 1) vs.length
theorem nxt_bd (vs : List Vec) (i : Nat) (h : 0 < vs.length) : 0 ≤ nxt vs i ∧ nxt vs i < vs.length := by
  have := tdm ((i : Int) + 1) vs.length (by omega)
  unfold nxt; omega
def leftOf (vs : List Vec) (i : Nat) (j : Nat) : Bool := (j : Int) == (i : Int) || (j : Int) == nxt vs i || oriV (ix vs (i : Int)) (ix vs (nxt vs i)) (ix vs (j : Int)) == 1
def convexB (vs : List Vec) : Bool :=
  decide (3 ≤ vs.length) && decide (vs.length ≤ 8) && vs.all (inRng 1048576) && allR (fun i => allR (leftOf vs i) 0 vs.length) 0 vs.length
theorem convexB_len {vs : List Vec} (h : convexB vs = true) : 3 ≤ vs.length ∧ vs.length ≤ 8 ∧ ∀ v ∈ vs, inRng 1048576 v = true := by
  unfold convexB at h
  simp only [Bool.and_eq_true, decide_eq_true_eq, List.all_eq_true] at h
  exact ⟨h.1.1.1, h.1.1.2, h.1.2⟩
theorem IsConvex_in (vs : List Vec) (h8 : 3 ≤ vs.length ∧ vs.length ≤ 8) (i : Nat) (hi : i < vs.length) (kj : Option Bool) :
    polygon_IsConvex_l1 vs (i : Int) kj (ix vs (i : Int)) (nxt vs i) fuel 0 = if allR (leftOf vs i) 0 vs.length = true then kj else some false := by
  have hb := nxt_bd vs i (by omega)
  have := loop_gen vs.length (leftOf vs i) (fun _ (s : Unit) => s) (fun _ _ => True) (fun n _ j => polygon_IsConvex_l1 vs (i : Int) kj (ix vs (i : Int)) (nxt vs i) n j) (fun _ => kj) (some false)
    (fun n j s hj _ => by
      refine ⟨?_, fun _ => trivial⟩
      rw [polygon_IsConvex_l1]
      rw [if_pos (by simpa using hj), Chk_of (by omega), Let_eq, Chk_of (by intro _; omega), Let_eq, Let_eq, vec2_Orientation_eq, w64_of _ (by omega)]
      unfold leftOf
      by_cases h1 : (j : Int) = (i : Int)
      · simp [h1]
      · by_cases h2 : (j : Int) = nxt vs i
        · simp [h1, h2]
        · by_cases h3 : oriV (ix vs (i : Int)) (ix vs (nxt vs i)) (ix vs (j : Int)) = 1
          · simp [h1, h2, h3]
          · simp [h1, h2, h3])
    (fun n s _ => by rw [polygon_IsConvex_l1, if_neg (by simp)])
    fuel 0 () (by omega) (fuel_lt _ (by omega)) trivial
  simpa using this
theorem polygon_IsConvex_eq (vs : List Vec) : polygon_IsConvex vs = some (convexB vs) := by
  unfold polygon_IsConvex
  simp only [cond_or]
  by_cases h : (vs.length : Int) < 3 ∨ 8 < (vs.length : Int)
  · have e : (decide ((vs.length : Int) < 3) || decide (8 < (vs.length : Int))) = true := by simpa using h
    rw [e, if_neg (by simp), Bind_some, if_pos (by simp)]
    unfold convexB
    have : (decide (3 ≤ vs.length) && decide (vs.length ≤ 8)) = false := by
      simp only [Bool.and_eq_false_iff, decide_eq_false_iff_not]; omega
    rw [this]; rfl
  · have e : (decide ((vs.length : Int) < 3) || decide (8 < (vs.length : Int))) = false := by simp; omega
    rw [e, if_pos (by simp), polygon_allInReach_eq vs (by omega), Bind_some]
    unfold convexB
    have : (decide (3 ≤ vs.length) && decide (vs.length ≤ 8)) = true := by simp; omega
    rw [this, Bool.true_and]
    cases hA : vs.all (inRng 1048576)
    · rfl
    rw [if_neg (by simp)]
    have := loop_gen vs.length (fun i => allR (leftOf vs i) 0 vs.length) (fun _ (s : Unit) => s) (fun _ _ => True) (fun n _ j => polygon_IsConvex_l3 vs polygon_IsConvex_j4 n j) (fun _ => some true) (some false)
      (fun n i s hi _ => by
        refine ⟨?_, fun _ => trivial⟩
        rw [polygon_IsConvex_l3]
        rw [if_pos (by simpa using hi), Chk_of (by omega), Let_eq, Chk_of (by omega), Let_eq, w64_of ((i : Int) + 1) (by omega)]
        rw [show Int.tmod ((i : Int) + 1) (vs.length : Int) = nxt vs i from rfl, IsConvex_in vs (by omega) i hi]
        unfold polygon_IsConvex_j2
        rw [Let_eq, w64_of ((i : Int) + 1) (by omega)])
      (fun n s _ => by rw [polygon_IsConvex_l3, if_neg (by simp)]; rfl)
      fuel 0 () (by omega) (fuel_lt _ (by omega)) trivial
    rw [show polygon_IsConvex_l3 vs polygon_IsConvex_j4 fuel 0 = polygon_IsConvex_l3 vs polygon_IsConvex_j4 fuel ((0 : Nat) : Int) from rfl, this, Nat.sub_zero, Bool.true_and]
    cases allR (fun i => allR (leftOf vs i) 0 vs.length) 0 vs.length <;> rfl
def edgeL (vs : List Vec) (i : Nat) : Int := lenV (subV (ix vs (nxt vs i)) (ix vs (i : Int)))
def shortE (vs : List Vec) : Int := if convexB vs = true then foldR (fun i m => min m (edgeL vs i)) 0 vs.length 536870911 else 0
theorem polygon_ShortestEdge_eq (vs : List Vec) : polygon_ShortestEdge vs = some (shortE vs) := by
  unfold polygon_ShortestEdge shortE
  rw [polygon_IsConvex_eq, Bind_some]
  cases hc : convexB vs
  · rfl
  obtain ⟨h3, h8, -⟩ := convexB_len hc
  rw [if_neg (by simp), if_pos rfl]
  have := loop_gen vs.length (fun _ => true) (fun i m => min m (edgeL vs i)) (fun _ _ => True) (fun n m j => polygon_ShortestEdge_l1 vs polygon_ShortestEdge_j2 n m j) (fun m => some m) (some 0)
    (fun n i m hi _ => by
      refine ⟨?_, fun _ => trivial⟩
      have hb := nxt_bd vs i (by omega)
      rw [polygon_ShortestEdge_l1]
      rw [if_pos (by simpa using hi), Chk_of (by omega), Let_eq, Chk_of (by omega), w64_of ((i : Int) + 1) (by omega)]
      rw [show Int.tmod ((i : Int) + 1) (vs.length : Int) = nxt vs i from rfl, Chk_of hb, Let_eq, vec2_Sub_eq, vec2_Length_eq, Bind_some, Let_eq, Let_eq, if_pos rfl]; rfl)
    (fun n s _ => by rw [polygon_ShortestEdge_l1, if_neg (by simp)]; rfl)
    fuel 0 536870911 (by omega) (fuel_lt _ (by omega)) trivial
  rw [Nat.sub_zero, allR_tt, if_pos rfl] at this
  exact this
def crossAt (vs : List Vec) (i : Nat) : Int :=
  rdv (w64 (((ix vs (i : Int)).X - (ix vs 0).X) * ((ix vs ((i : Int) + 1)).Y - (ix vs 0).Y) - ((ix vs (i : Int)).Y - (ix vs 0).Y) * ((ix vs ((i : Int) + 1)).X - (ix vs 0).X))) 65536
def triAt (vs : List Vec) (i : Nat) : polygon_triangle :=
  ⟨⟨w64 ((ix vs (i : Int)).X - (ix vs 0).X), w64 ((ix vs (i : Int)).Y - (ix vs 0).Y)⟩, ⟨w64 ((ix vs ((i : Int) + 1)).X - (ix vs 0).X), w64 ((ix vs ((i : Int) + 1)).Y - (ix vs 0).Y)⟩, crossAt vs i⟩
def crossSum (vs : List Vec) : Int := foldR (fun i a => w64 (a + crossAt vs i)) 1 (vs.length - 2) 0
theorem polygon_fan_eq (vs : List Vec) (h : 3 ≤ vs.length ∧ vs.length ≤ 8) : polygon_fan vs = some ((List.range' 1 (vs.length - 2)).map (triAt vs), crossSum vs) := by
  unfold polygon_fan
  rw [Chk_of (by omega), Let_eq]
  have := loop_gen (vs.length - 1) (fun _ => true) (fun i (s : List polygon_triangle × Int) => (s.1 ++ [triAt vs i], w64 (s.2 + crossAt vs i))) (fun i s => 1 ≤ i ∧ s.1.length + 1 = i)
    (fun n s j => polygon_fan_l1 vs (ix vs 0) polygon_fan_j2 n s.1 s.2 j) (fun s => some s) none
    (fun n i s hi hI => by
      refine ⟨?_, fun _ => ⟨by omega, by simp; omega⟩⟩
      rw [polygon_fan_l1]
      rw [w64_of ((i : Int) + 1) (by omega), if_pos (by simp; omega), Chk_of (by omega), Chk_of (by omega), Let_eq, Chk_of (by omega), Chk_of (by omega), Let_eq, fixed_RoundDiv_eq, Bind_some, Chk_of (by simp; omega), Let_eq, Let_eq, Let_eq, if_pos rfl]
      simp only [w64_ml, w64_mr, w64_sl, w64_sr]
      rfl)
    (fun n s hI => by rw [polygon_fan_l1, w64_of _ (by omega), if_neg (by simp; omega)]; rfl)
    fuel 1 ([], 0) (by omega) (fuel_lt _ (by omega)) ⟨by omega, rfl⟩
  rw [allR_tt, if_pos rfl, show vs.length - 1 - 1 = vs.length - 2 by omega, foldR_pair (fun i (l : List polygon_triangle) => l ++ [triAt vs i]) (fun i a => w64 (a + crossAt vs i)), foldR_list] at this
  exact this
def areaV (vs : List Vec) : Int := if convexB vs = true then rdv (crossSum vs) 2 else 0
theorem polygon_Area_eq (vs : List Vec) : polygon_Area vs = some (areaV vs) := by
  unfold polygon_Area areaV
  rw [polygon_IsConvex_eq, Bind_some]
  cases hc : convexB vs
  · rfl
  obtain ⟨h3, h8, -⟩ := convexB_len hc
  rw [if_neg (by simp), if_pos rfl, polygon_fan_eq vs ⟨h3, h8⟩, Bind_some, fixed_RoundDiv_eq]; rfl
def momX (vs : List Vec) : Int := foldR (fun i a => w64 (a + ((triAt vs i).e.X + (triAt vs i).f.X) * crossAt vs i)) 1 (vs.length - 2) 0
def momY (vs : List Vec) : Int := foldR (fun i a => w64 (a + ((triAt vs i).e.Y + (triAt vs i).f.Y) * crossAt vs i)) 1 (vs.length - 2) 0
def centV (vs : List Vec) : Vec :=
  if convexB vs = true then
    if crossSum vs = 0 then ix vs 0 else ⟨w64 ((ix vs 0).X + rdv (momX vs) (w64 (3 * crossSum vs))), w64 ((ix vs 0).Y + rdv (momY vs) (w64 (3 * crossSum vs)))⟩
  else ⟨0, 0⟩
theorem polygon_Centroid_eq (vs : List Vec) : polygon_Centroid vs = some (centV vs) := by
  unfold polygon_Centroid centV
  rw [polygon_IsConvex_eq, Bind_some]
  cases hc : convexB vs
  · rfl
  obtain ⟨h3, h8, -⟩ := convexB_len hc
  rw [if_neg (by simp), if_pos rfl, polygon_fan_eq vs ⟨h3, h8⟩, Bind_some]
  simp only [beq_iff_eq]
  by_cases h0 : crossSum vs = 0
  · rw [if_pos h0, if_pos h0, Chk_of (by omega)]; rfl
  rw [if_neg h0, if_neg h0]
  have := loop_gen (vs.length - 2) (fun _ => true) (fun i (s : Int × Int) => (w64 (s.1 + ((triAt vs (i + 1)).e.X + (triAt vs (i + 1)).f.X) * crossAt vs (i + 1)), w64 (s.2 + ((triAt vs (i + 1)).e.Y + (triAt vs (i + 1)).f.Y) * crossAt vs (i + 1)))) (fun i s => True)
    (fun n s j => polygon_Centroid_l1 ((List.range' 1 (vs.length - 2)).map (triAt vs), crossSum vs) (polygon_Centroid_j2 vs ((List.range' 1 (vs.length - 2)).map (triAt vs), crossSum vs)) n s.1 s.2 j)
    (fun s => polygon_Centroid_j2 vs ((List.range' 1 (vs.length - 2)).map (triAt vs), crossSum vs) s.1 s.2) none
    (fun n i s hi _ => by
      refine ⟨?_, fun _ => trivial⟩
      rw [polygon_Centroid_l1]
      rw [if_pos (by simp; omega), Chk_of (by simp; omega), Let_eq, ix_map_range _ _ _ _ (by omega), Nat.add_comm 1 i, Let_eq, Let_eq, Let_eq, w64_of ((i : Int) + 1) (by omega), if_pos rfl]
      simp only [w64_ar, w64_ml]
      rfl)
    (fun n s _ => by rw [polygon_Centroid_l1, if_neg (by simp)])
    fuel 0 (0, 0) (by omega) (fuel_lt _ (by omega)) trivial
  rw [Nat.sub_zero, allR_tt, if_pos rfl, foldR_pair (fun i a => w64 (a + ((triAt vs (i + 1)).e.X + (triAt vs (i + 1)).f.X) * crossAt vs (i + 1))) (fun i a => w64 (a + ((triAt vs (i + 1)).e.Y + (triAt vs (i + 1)).f.Y) * crossAt vs (i + 1)))] at this
  simp only at this
  rw [← foldR_shift (fun i a => w64 (a + ((triAt vs i).e.X + (triAt vs i).f.X) * crossAt vs i)), ← foldR_shift (fun i a => w64 (a + ((triAt vs i).e.Y + (triAt vs i).f.Y) * crossAt vs i))] at this
  refine Eq.trans this ?_
  unfold polygon_Centroid_j2
  rw [Chk_of (by omega)]
  simp only [fixed_RoundDiv_eq, Bind_some, Let_eq]
  rw [Chk_of (by omega)]
  rfl
def countB (s : Shape) : Bool := if s.Kind = 1 then s.Vertices.length == 1 else if s.Kind = 2 then s.Vertices.length == 2 else decide (3 ≤ s.Vertices.length) && decide (s.Vertices.length ≤ 8)
theorem shape_validCount_eq (s : Shape) : shape_validCount s = countB s := by
  unfold shape_validCount countB
  simp only [Let_eq, beq_iff_eq, cond_and]
  split
  · rw [Bool.eq_iff_iff]; simp only [beq_iff_eq]; omega
  · split
    · rw [Bool.eq_iff_iff]; simp only [beq_iff_eq]; omega
    · rw [Bool.eq_iff_iff]; simp only [Bool.and_eq_true, decide_eq_true_eq]; omega
theorem countB_len {s : Shape} (h : countB s = true) : 1 ≤ s.Vertices.length ∧ s.Vertices.length ≤ 8 ∧ (s.Kind = 2 → s.Vertices.length = 2) := by
  unfold countB at h
  by_cases h1 : s.Kind = 1
  · rw [if_pos h1] at h; simp only [beq_iff_eq] at h; omega
  rw [if_neg h1] at h
  by_cases h2 : s.Kind = 2
  · rw [if_pos h2] at h; simp only [beq_iff_eq] at h; omega
  rw [if_neg h2] at h; simp only [Bool.and_eq_true, decide_eq_true_eq] at h; omega
theorem IndexFunc_Vec_eq (l : List Vec) (p : Vec → Bool) (hl : l.length ≤ 4611686018427387904) : slices_ContainsFunc_Vec l (fun y => some (p y)) = some (l.any p) := by
  have key : ∀ n i : Nat, i ≤ l.length → l.length - i < n → ∃ r, slices_IndexFunc_Vec_l1 l (fun y => some (p y)) slices_IndexFunc_Vec_j2 n (i : Int) = some r ∧ (decide (0 ≤ r)) = (l.drop i).any p := by
    intro n
    induction n with
    | zero => intro i _ h; omega
    | succ n ih =>
      intro i hi h
      unfold slices_IndexFunc_Vec_l1
      by_cases hlt : i < l.length
      · rw [if_pos (by simpa using hlt), Chk_of (by omega), Bind_some, drop_ix l i hlt, List.any_cons]
        cases hp : p (ix l (i : Int))
        · rw [if_neg (by simp), Let_eq, w64_of _ (by omega), Bool.false_or]
          exact ih (i + 1) (by omega) (by omega)
        · rw [if_pos rfl]
          exact ⟨i, rfl, by simp⟩
      · rw [if_neg (by simpa using hlt)]
        refine ⟨-1, rfl, ?_⟩
        rw [List.drop_of_length_le (by omega)]; rfl
  obtain ⟨r, h1, h2⟩ := key fuel 0 (by omega) (fuel_lt _ (by omega))
  unfold slices_ContainsFunc_Vec slices_IndexFunc_Vec
  rw [show slices_IndexFunc_Vec_l1 l (fun y => some (p y)) slices_IndexFunc_Vec_j2 fuel 0 = some r from h1, Bind_some, Let_eq, h2]; rfl
def radiusBad (s : Shape) : Bool := if s.Kind = 3 then s.Radius != 0 else decide (s.Radius < 2048) || decide (524288 < s.Radius)
def validS (s : Shape) : Int :=
  if s.Kind < 1 ∨ 3 < s.Kind then 10 else if countB s = false then 11 else if s.Vertices.all (inRng 1048576) = false then 6 else if radiusBad s = true then 6 else
  if s.Kind = 2 ∧ lenV (subV (ix s.Vertices 1) (ix s.Vertices 0)) < 4096 then 12 else
  if s.Kind = 3 ∧ (convexB s.Vertices = false ∨ shortE s.Vertices < 4096 ∨ areaV s.Vertices < 256) then 12 else 0
theorem shape_Validate_c1_eq (v : Vec) : shape_Validate_c1 v = !inRng 1048576 v := by
  unfold shape_Validate_c1 shape_outOfRange inRng
  simp only [Let_eq, cond_or]
  rw [Bool.eq_iff_iff]
  simp only [Bool.or_eq_true, decide_eq_true_eq, Bool.not_eq_true', Bool.and_eq_false_iff, decide_eq_false_iff_not]
  omega
theorem any_not (l : List Vec) (p : Vec → Bool) : l.any (fun v => !p v) = !l.all p := by
  induction l with
  | nil => rfl
  | cons a l ih => rw [List.any_cons, List.all_cons, ih]; cases p a <;> rfl
theorem shape_Validate_eq (s : Shape) : shape_Validate s = some (validS s) := by
  unfold shape_Validate validS
  simp only [Let_eq, cond_or, Bool.or_eq_true, decide_eq_true_eq, shape_validCount_eq]
  by_cases h1 : s.Kind < 1 ∨ 3 < s.Kind
  · rw [if_pos h1, if_pos h1]
  rw [if_neg h1, if_neg h1]
  cases hc : countB s
  · rfl
  obtain ⟨l1, l8, l2⟩ := countB_len hc
  rw [if_neg (by simp), if_neg (show ¬ true = false by simp)]
  have ef : (fun (y0 : Vec) => some (shape_Validate_c1 y0)) = fun y => some (!inRng 1048576 y) := funext fun y => by rw [shape_Validate_c1_eq]
  rw [ef, IndexFunc_Vec_eq _ (fun y => !inRng 1048576 y) (by omega), Bind_some, any_not]
  cases ha : s.Vertices.all (inRng 1048576)
  · rfl
  rw [if_neg (by simp), if_neg (show ¬ true = false by simp)]
  have j : ∀ v5, shape_Validate_j1 s v5 = some (if v5 = true then 6 else if s.Kind = 2 ∧ lenV (subV (ix s.Vertices 1) (ix s.Vertices 0)) < 4096 then 12 else
      if s.Kind = 3 ∧ (convexB s.Vertices = false ∨ shortE s.Vertices < 4096 ∨ areaV s.Vertices < 256) then 12 else 0) := by
    intro v5
    unfold shape_Validate_j1
    by_cases hv : v5 = true
    · rw [if_pos hv, if_pos hv]
    rw [if_neg hv, if_neg hv, Chk_of (by intro h; simp at h; have := l2 h; omega), Chk_of (by intro h; simp at h; have := l2 h; omega), Let_eq, vec2_Sub_eq]
    simp only [vec2_Length_eq, polygon_IsConvex_eq, polygon_ShortestEdge_eq, polygon_Area_eq, Let_eq, cond_and, cond_or, Bool.and_eq_true, decide_eq_true_eq, beq_iff_eq]
    by_cases k2 : s.Kind = 2
    · by_cases hl : lenV (subV (ix s.Vertices 1) (ix s.Vertices 0)) < 4096
      · simp [k2, hl]
      · simp [k2, hl]
    · by_cases k3 : s.Kind = 3
      · cases hcx : convexB s.Vertices
        · simp [k3]
        · by_cases hsE : shortE s.Vertices < 4096
          · simp [k3, hsE, show ¬ (4096 ≤ shortE s.Vertices) by omega]
          · by_cases hA : areaV s.Vertices < 256 <;> simp [k3, hsE, hA, show (4096 ≤ shortE s.Vertices) by omega]
      · simp [k2, k3]
  simp only [cond_and, cond_or]
  unfold radiusBad
  by_cases k3 : s.Kind = 3
  · have e1 : (s.Kind == 3) = true := by simpa using k3
    have e2 : (s.Kind != 3) = false := by simpa using k3
    rw [e2, Bool.false_and, if_pos k3]
    cases h0 : (s.Radius != 0)
    · simp [k3, h0, j]
    · simp [k3, h0, j]
  · have e1 : (s.Kind == 3) = false := by simpa using k3
    have e2 : (s.Kind != 3) = true := by simpa using k3
    rw [e2, Bool.true_and, if_neg k3]; simp [k3, j]
end GoForm
