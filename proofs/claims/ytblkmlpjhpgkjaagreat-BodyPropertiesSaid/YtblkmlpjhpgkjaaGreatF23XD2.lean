/- The plain law of mass data: the reference computes the same. No conditions. -/
import Derived.Test.YtblkmlpjhpgkjaaGreatF23XC2
import Derived.Test.YtblkmlpjhpgkjaaGreatF23XB2
import Derived.Test.YtblkmlpjhpgkjaaGreatF23XD1
set_option linter.all false
open Go Go.Cx
namespace GoForm
theorem sumR_succ (g : Nat → Int) (i k : Nat) : sumR g i (k + 1) = g i + sumR g (i + 1) k := by
  unfold sumR
  show foldR _ (i + 1) k (0 + g i) = _
  rw [sumR_acc g k (i + 1) (0 + g i)]; unfold sumR; omega
theorem sumR_last (g : Nat → Int) (i k : Nat) : sumR g i (k + 1) = sumR g i k + g (i + k) := by
  unfold sumR; rw [foldR_last]
theorem sumR_shift (g : Nat → Int) (i k : Nat) : sumR g (i + 1) k = sumR (fun j => g (j + 1)) i k := foldR_shift _ k i 0
theorem sumR_congr {f g : Nat → Int} (i k : Nat) (h : ∀ j, i ≤ j → j < i + k → f j = g j) : sumR f i k = sumR g i k :=
  foldR_congr k i 0 fun j s h1 h2 => by rw [h j h1 h2]
theorem ring_sum (T : Nat → Nat → Int) (n : Nat) (hn : 0 < n) : sumR (fun i => T (prevI n i) i) 0 n = sumR (fun i => T i ((i + 1) % n)) 0 n := by
  obtain ⟨k, rfl⟩ : ∃ k, n = k + 1 := ⟨n - 1, by omega⟩
  rw [sumR_succ, sumR_last, sumR_shift]
  have e1 : sumR (fun j => T (prevI (k + 1) (j + 1)) (j + 1)) 0 k = sumR (fun i => T i ((i + 1) % (k + 1))) 0 k := by
    refine sumR_congr 0 k fun j _ h => ?_
    unfold prevI
    rw [if_neg (by omega), Nat.mod_eq_of_lt (show j + 1 < k + 1 by omega)]; rfl
  rw [e1]
  have e2 : (0 + k + 1) % (k + 1) = 0 := by rw [Nat.zero_add]; exact Nat.mod_self _
  rw [e2]
  unfold prevI
  rw [if_pos rfl, Nat.zero_add]
  show T (k + 1 - 1) 0 + _ = _
  rw [Nat.add_sub_cancel]; omega
theorem nxt_nat (vs : List Vec) (i : Nat) (h : 0 < vs.length) : nxt vs i = (((i + 1) % vs.length : Nat) : Int) := by
  unfold nxt
  rw [Int.tmod_eq_emod_of_nonneg (by omega)]; push_cast; rfl
theorem ref13_polygonInertia_eq (s : Shape) (m : Int) (h : 1 ≤ s.Vertices.length) (h2 : s.Vertices.length ≤ 4611686018427387904) :
    ref13_polygonInertia s.Vertices (centV s.Vertices) m = some (if inC s < 1 then 0 else mulS m (rdv (rdv (inI s) (inC s)) 6)) := by
  unfold ref13_polygonInertia
  have := loop_gen s.Vertices.length (fun _ => true) (fun i (x : Int × Int) => (w64 (x.1 + termI (ptC s i) (ptC s ((i + 1) % s.Vertices.length))), w64 (x.2 + crossV (ptC s i) (ptC s ((i + 1) % s.Vertices.length)))))
    (fun i x => True)
    (fun n x j => ref13_polygonInertia_l1 s.Vertices (centV s.Vertices) (ref13_polygonInertia_j2 m) n x.1 x.2 j)
    (fun x => ref13_polygonInertia_j2 m x.1 x.2) none
    (fun n i x hi _ => by
      refine ⟨?_, fun _ => trivial⟩
      have hb := nxt_bd s.Vertices i (by omega)
      rw [ref13_polygonInertia_l1]
      rw [if_pos (by simpa using hi), Chk_of (by omega), if_pos rfl]
      simp only [Let_eq, ref03_Sub_eq, ref03_Cross_eq, ref03_Dot_eq, Bind_some]
      rw [w64_of ((i : Int) + 1) (by omega), Chk_of (by omega), show Int.tmod ((i : Int) + 1) (s.Vertices.length : Int) = nxt s.Vertices i from rfl, Chk_of hb]
      simp only [w64_ar, w64_ml, w64_mr, w64_al]
      rw [nxt_nat s.Vertices i (by omega)]
      rfl)
    (fun n x _ => by rw [ref13_polygonInertia_l1, if_neg (by simp)])
    fuel 0 (0, 0) (by omega) (fuel_lt _ (by omega)) trivial
  rw [Nat.sub_zero, allR_tt, if_pos rfl, foldR_pair (fun i a => w64 (a + termI (ptC s i) (ptC s ((i + 1) % s.Vertices.length)))) (fun i a => w64 (a + crossV (ptC s i) (ptC s ((i + 1) % s.Vertices.length))))] at this
  have z : (0 : Int) = w64 0 := rfl
  have ws1 := wsum (fun i => termI (ptC s i) (ptC s ((i + 1) % s.Vertices.length))) s.Vertices.length 0 0
  have ws2 := wsum (fun i => crossV (ptC s i) (ptC s ((i + 1) % s.Vertices.length))) s.Vertices.length 0 0
  rw [← z, Int.zero_add, ← ring_sum (fun i j => termI (ptC s i) (ptC s j)) _ h] at ws1
  rw [← z, Int.zero_add, ← ring_sum (fun i j => crossV (ptC s i) (ptC s j)) _ h] at ws2
  simp only [ws1, ws2] at this
  refine Eq.trans this ?_
  unfold ref13_polygonInertia_j2
  simp only [ref01_RoundDiv_eq, ref01_Mul_eq, Bind_some, decide_eq_true_eq]
  rw [show w64 (sumR (fun i => crossV (ptC s (prevI s.Vertices.length i)) (ptC s i)) 0 s.Vertices.length) = inC s from rfl]
  by_cases c : inC s < 1
  · rw [if_pos c, if_pos c]
  · rw [if_neg c, if_neg c]; rfl
theorem ref13_OfShape_eq (s : Shape) (d : Int) : ref13_OfShape s d = some (shapeM s d) := by
  unfold ref13_OfShape shapeM
  rw [ref12_Validate_eq, Bind_some]
  simp only [cond_or, Bool.or_eq_true, decide_eq_true_eq, bne_iff_ne, Let_eq, beq_iff_eq]
  by_cases h : (validS s ≠ 0 ∨ d < 0) ∨ 262144 < d
  · have h' : validS s ≠ 0 ∨ d < 0 ∨ 262144 < d := by omega
    rw [if_pos h, if_pos h']
  have h' : ¬ (validS s ≠ 0 ∨ d < 0 ∨ 262144 < d) := by omega
  rw [if_neg h, if_neg h']
  obtain ⟨k1, k3, hc, -⟩ := validS_count (s := s) (by omega)
  obtain ⟨l1, l8, l2⟩ := countB_len hc
  simp only [ref01_Mul_eq, Bind_some, ref03_Sub_eq, ref03_Length_eq, ref01_RoundDiv_eq, ref01_Add_eq, ref03_Lerp_eq, ref11_Area_eq, ref11_Centroid_eq]
  by_cases c1 : s.Kind = 1
  · rw [if_pos c1, if_pos c1, Chk_of (by omega)]; rfl
  · rw [if_neg c1, if_neg c1]
    by_cases c2 : s.Kind = 2
    · have := l2 c2
      rw [if_pos c2, if_pos c2, Chk_of (by omega), Chk_of (by omega), Chk_of (by omega), Chk_of (by omega)]; rfl
    · rw [if_neg c2, if_neg c2, ref13_polygonInertia_eq s _ l1 (by omega)]; rfl
theorem ref_Combine_j4 (l : List MassData) (h : l.length ≤ 8) (m : MassData) : ref13_Combine_j4 l m = some (foldR (cmbB l) 0 l.length m) := by
  unfold ref13_Combine_j4
  have := loop_gen l.length (fun _ => true) (cmbB l) (fun _ _ => True) (fun n x j => ref13_Combine_l2 l ref13_Combine_j3 n j x) (fun x => some x) none
    (fun n i x hi _ => by
      refine ⟨?_, fun _ => trivial⟩
      rw [ref13_Combine_l2]
      rw [if_pos (by simpa using hi), Chk_of (by omega), if_pos rfl]
      simp only [Let_eq, ref03_Sub_eq, ref01_Add_eq, ref03_Dot_eq, ref01_Mul_eq, Bind_some]
      rw [Chk_of (by omega), Chk_of (by omega), w64_of ((i : Int) + 1) (by omega)]; rfl)
    (fun n x _ => by rw [ref13_Combine_l2, if_neg (by simp)]; rfl)
    fuel 0 m (by omega) (fuel_lt _ (by omega)) trivial
  rw [Nat.sub_zero, allR_tt, if_pos rfl] at this
  exact this
theorem all_not_any (l : List MassData) (p : MassData → Bool) : l.all (fun v => !p v) = !l.any p := by
  induction l with
  | nil => rfl
  | cons a l ih => rw [List.any_cons, List.all_cons, ih]; cases p a <;> rfl
theorem ref13_Combine_eq (l : List MassData) : ref13_Combine l = some (combM l) := by
  unfold ref13_Combine combM
  simp only [Let_eq, decide_eq_true_eq]
  by_cases h : 8 < l.length
  · rw [if_pos (by omega), if_pos (.inl h)]
  · rw [if_neg (by omega)]
    have := loop_gen l.length (fun i => !decide ((ix l (i : Int)).Mass < 0)) (cmbA l) (fun _ _ => True) (fun n x j => ref13_Combine_l1 l (ref13_Combine_j5 l) n x.1 x.2.1 x.2.2.1 j MassData.zero x.2.2.2) (fun x => ref13_Combine_j5 l x.1 x.2.1 x.2.2.1 MassData.zero x.2.2.2) (some ⟨0, Vec.zero, 0⟩)
      (fun n i x hi _ => by
        refine ⟨?_, fun _ => trivial⟩
        rw [ref13_Combine_l1]
        rw [if_pos (by simpa using hi), Chk_of (by omega)]
        simp only [Let_eq, ref01_Saturate_eq, ref01_Add_eq]
        rw [Chk_of (by omega), Chk_of (by omega), Chk_of (by omega), w64_of ((i : Int) + 1) (by omega)]
        cases decide ((ix l (i : Int)).Mass < 0) <;> rfl)
      (fun n x _ => by rw [ref13_Combine_l1, if_neg (by simp)])
      fuel 0 (0, 0, 0, MassData.zero) (by omega) (fuel_lt _ (by omega)) trivial
    rw [Nat.sub_zero, allR_all (fun v : MassData => !decide (v.Mass < 0)), all_not_any] at this
    refine Eq.trans this ?_
    by_cases ha : l.any (fun p => decide (p.Mass < 0)) = true
    · have h' : 8 < l.length ∨ l.any (fun p => decide (p.Mass < 0)) = true := .inr ha
      rw [if_pos h', ha]; rfl
    have h' : ¬ (8 < l.length ∨ l.any (fun p => decide (p.Mass < 0)) = true) := fun c => c.elim h ha
    rw [if_neg h']
    simp only [Bool.not_eq_true] at ha
    rw [ha, if_pos (show (!false) = true from rfl)]
    generalize foldR (cmbA l) 0 l.length (0, 0, 0, MassData.zero) = x
    unfold ref13_Combine_j5
    simp only [ref01_RoundDiv_eq, Bind_some, Let_eq, decide_eq_true_eq, ref_Combine_j4 l (by omega)]
    split <;> rfl
theorem ref13_OfFixtures_eq (fs : List Fixture) : ref13_OfFixtures fs = some (massM fs) := by
  unfold ref13_OfFixtures massM
  simp only [Let_eq, decide_eq_true_eq]
  by_cases h : 4 < fs.length
  · rw [if_pos (by omega), if_pos h]
  rw [if_neg (by omega), if_neg h]
  have := loop_gen fs.length (fun _ => true) (partsM fs) (fun i l => l.length ≤ i) (fun n x j => ref13_OfFixtures_l2 fs ref13_OfFixtures_j3 n x j) (fun x => some (combM x)) none
    (fun n i x hi hI => by
      refine ⟨?_, fun _ => partsM_len fs i x hI⟩
      rw [ref13_OfFixtures_l2]
      rw [if_pos (by simpa using hi), Chk_of (by omega), if_pos rfl, Chk_of (by omega), Chk_of (by omega), ref13_OfShape_eq, Bind_some, Chk_of (by simp; omega), Let_eq]
      unfold ref13_OfFixtures_j1 partsM
      rw [Let_eq, Let_eq, w64_of ((i : Int) + 1) (by omega)]
      cases (ix fs (i : Int)).Sensor <;> rfl)
    (fun n x hx => by rw [ref13_OfFixtures_l2, if_neg (by simp)]; unfold ref13_OfFixtures_j3; rw [ref13_Combine_eq]; rfl)
    fuel 0 [] (by omega) (fuel_lt _ (by omega)) (by simp)
  rw [Nat.sub_zero, allR_tt, if_pos rfl] at this
  exact this
theorem ref23_MassData_eq (b : Body) : ref23_MassData b = some (massM b.Fixtures) := by unfold ref23_MassData; rw [ref13_OfFixtures_eq]; rfl
theorem ref13_Inverse_eq (m : MassData) (kind : Int) (fixed : Bool) : ref13_Inverse m kind fixed = some (invM m kind fixed) := by
  unfold ref13_Inverse invM ref13_Inverse_j1
  simp only [ref01_Div_eq, Bind_some, cond_and, Bool.and_eq_true, decide_eq_true_eq, bne_iff_ne, Bool.not_eq_true']
  by_cases k : kind ≠ 3
  · rw [if_pos k, if_pos k]
  rw [if_neg k, if_neg k]
  by_cases h1 : 0 < m.Mass
  · rw [if_pos (show 1 ≤ m.Mass by omega), if_pos h1]
    by_cases h2 : 0 < m.Inertia ∧ fixed = false
    · rw [if_pos (show fixed = false ∧ 1 ≤ m.Inertia from ⟨h2.2, by omega⟩), if_pos h2]
    · rw [if_neg (show ¬ (fixed = false ∧ 1 ≤ m.Inertia) from fun c => h2 ⟨by omega, c.1⟩), if_neg h2]
  · rw [if_neg (show ¬ 1 ≤ m.Mass by omega), if_neg h1]
    by_cases h2 : 0 < m.Inertia ∧ fixed = false
    · rw [if_pos (show fixed = false ∧ 1 ≤ m.Inertia from ⟨h2.2, by omega⟩), if_pos h2]
    · rw [if_neg (show ¬ (fixed = false ∧ 1 ≤ m.Inertia) from fun c => h2 ⟨by omega, c.1⟩), if_neg h2]
theorem ref23_SolverBody_eq (b : Body) : ref23_SolverBody b = some (solverB b) := by
  unfold ref23_SolverBody; rw [ref23_MassData_eq, Bind_some, ref13_Inverse_eq, Bind_some]; rfl
end GoForm
