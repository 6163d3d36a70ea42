/- The plain law of mass data. No conditions. -/
import Derived.Test.YtblkmlpjhpgkjaaF23C1
import Derived.Test.YtblkmlpjhpgkjaaF23B1
set_option linter.all false
open Go Go.Cx
namespace GoForm
def circM (s : Shape) (d : Int) : MassData :=
  let r := mulS s.Radius s.Radius
  let m := mulS (mulS 205888 r) d
  ⟨m, ix s.Vertices 0, mulS m (rdv r 2)⟩
theorem massdata_ofCircle_eq (s : Shape) (d : Int) (h : 1 ≤ s.Vertices.length) : massdata_ofCircle s d = some (circM s d) := by
  unfold massdata_ofCircle
  simp only [fixed_Mul_eq, Bind_some, fixed_RoundDiv_eq, Let_eq]
  rw [Chk_of (by omega)]; rfl
def capM (s : Shape) (d : Int) : MassData :=
  let r := mulS s.Radius s.Radius
  let l := lenV (subV (ix s.Vertices 1) (ix s.Vertices 0))
  let m := mulS (addS (mulS 205888 r) (mulS (addS s.Radius s.Radius) l)) d
  ⟨m, lerpV (ix s.Vertices 0) (ix s.Vertices 1) 32768, mulS m (addS (rdv r 2) (rdv (mulS l l) 12))⟩
theorem massdata_ofCapsule_eq (s : Shape) (d : Int) (h : 2 ≤ s.Vertices.length) : massdata_ofCapsule s d = some (capM s d) := by
  unfold massdata_ofCapsule
  simp only [fixed_Mul_eq, Bind_some, fixed_RoundDiv_eq, Let_eq, vec2_Sub_eq, vec2_Length_eq, fixed_Add_eq, vec2_Lerp_eq]
  rw [Chk_of (by omega), Chk_of (by omega), Chk_of (by omega), Chk_of (by omega)]; rfl
def ptC (s : Shape) (j : Nat) : Vec := subV (ix s.Vertices (j : Int)) (centV s.Vertices)
def termI (p q : Vec) : Int := crossV p q * (dotV p p + dotV p q + dotV q q)
def prevI (n i : Nat) : Nat := if i = 0 then n - 1 else i - 1
def inI (s : Shape) : Int := w64 (sumR (fun i => termI (ptC s (prevI s.Vertices.length i)) (ptC s i)) 0 s.Vertices.length)
def inC (s : Shape) : Int := w64 (sumR (fun i => crossV (ptC s (prevI s.Vertices.length i)) (ptC s i)) 0 s.Vertices.length)
def polyM (s : Shape) (d : Int) : MassData :=
  let m := mulS (areaV s.Vertices) d
  ⟨m, centV s.Vertices, if inC s < 1 then 0 else mulS m (rdv (rdv (inI s) (inC s)) 6)⟩
theorem massdata_ofPolygon_eq (s : Shape) (d : Int) (h : 1 ≤ s.Vertices.length) (h2 : s.Vertices.length ≤ 4611686018427387904) : massdata_ofPolygon s d = some (polyM s d) := by
  unfold massdata_ofPolygon
  simp only [polygon_Area_eq, polygon_Centroid_eq, fixed_Mul_eq, Bind_some, Let_eq]
  rw [w64_of ((s.Vertices.length : Int) - 1) (by omega), Chk_of (by omega), vec2_Sub_eq]
  have e0 : subV (ix s.Vertices ((s.Vertices.length : Int) - 1)) (centV s.Vertices) = ptC s (prevI s.Vertices.length 0) := by
    unfold ptC prevI
    rw [if_pos rfl, show ((s.Vertices.length - 1 : Nat) : Int) = (s.Vertices.length : Int) - 1 by omega]
  rw [e0]
  have := loop_gen s.Vertices.length (fun _ => true) (fun i (x : Int × Int × Vec) => (w64 (x.1 + termI (ptC s (prevI s.Vertices.length i)) (ptC s i)), w64 (x.2.1 + crossV (ptC s (prevI s.Vertices.length i)) (ptC s i)), ptC s i))
    (fun i x => x.2.2 = ptC s (prevI s.Vertices.length i))
    (fun n x j => massdata_ofPolygon_l1 s (centV s.Vertices) (massdata_ofPolygon_j2 (mulS (areaV s.Vertices) d) (centV s.Vertices)) n x.1 x.2.1 j x.2.2)
    (fun x => massdata_ofPolygon_j2 (mulS (areaV s.Vertices) d) (centV s.Vertices) x.1 x.2.1) none
    (fun n i x hi hI => by
      refine ⟨?_, fun _ => by show ptC s i = ptC s (prevI s.Vertices.length (i + 1)); unfold prevI; rw [if_neg (by omega)]; rfl⟩
      rw [massdata_ofPolygon_l1]
      rw [if_pos (by simpa using hi), Chk_of (by omega), if_pos rfl]
      simp only [Let_eq, vec2_Sub_eq, vec2_Cross_eq, vec2_Dot_eq, Bind_some, hI]
      rw [w64_of ((i : Int) + 1) (by omega)]
      simp only [w64_ar, w64_ml, w64_mr, w64_al]
      rfl)
    (fun n x _ => by rw [massdata_ofPolygon_l1, if_neg (by simp)])
    fuel 0 (0, 0, ptC s (prevI s.Vertices.length 0)) (by omega) (fuel_lt _ (by omega)) rfl
  rw [Nat.sub_zero, allR_tt, if_pos rfl, foldR_pair (fun i a => w64 (a + termI (ptC s (prevI s.Vertices.length i)) (ptC s i))) (fun i (x : Int × Vec) => (w64 (x.1 + crossV (ptC s (prevI s.Vertices.length i)) (ptC s i)), ptC s i)),
    foldR_pair (fun i a => w64 (a + crossV (ptC s (prevI s.Vertices.length i)) (ptC s i))) (fun i _ => ptC s i)] at this
  have z : (0 : Int) = w64 0 := rfl
  have ws1 := wsum (fun i => termI (ptC s (prevI s.Vertices.length i)) (ptC s i)) s.Vertices.length 0 0
  have ws2 := wsum (fun i => crossV (ptC s (prevI s.Vertices.length i)) (ptC s i)) s.Vertices.length 0 0
  rw [← z, Int.zero_add] at ws1 ws2
  simp only [ws1, ws2] at this
  refine Eq.trans this ?_
  unfold massdata_ofPolygon_j2
  simp only [fixed_RoundDiv_eq, fixed_Mul_eq, Bind_some, Let_eq, decide_eq_true_eq]
  unfold polyM
  rw [show w64 (sumR (fun i => crossV (ptC s (prevI s.Vertices.length i)) (ptC s i)) 0 s.Vertices.length) = inC s from rfl]
  simp only
  by_cases c : inC s < 1
  · rw [if_pos c, if_pos c]
  · rw [if_neg c, if_neg c]; rfl
def shapeM (s : Shape) (d : Int) : MassData :=
  if validS s ≠ 0 ∨ d < 0 ∨ 262144 < d then ⟨0, Vec.zero, 0⟩ else if s.Kind = 1 then circM s d else if s.Kind = 2 then capM s d else polyM s d
theorem validS_count {s : Shape} (h : validS s = 0) : 1 ≤ s.Kind ∧ s.Kind ≤ 3 ∧ countB s = true ∧ s.Vertices.all (inRng 1048576) = true ∧ radiusBad s = false ∧ (s.Kind = 3 → convexB s.Vertices = true) := by
  unfold validS at h
  by_cases h1 : s.Kind < 1 ∨ 3 < s.Kind
  · rw [if_pos h1] at h; omega
  rw [if_neg h1] at h
  by_cases h2 : countB s = false
  · rw [if_pos h2] at h; omega
  rw [if_neg h2] at h
  by_cases h3 : s.Vertices.all (inRng 1048576) = false
  · rw [if_pos h3] at h; omega
  rw [if_neg h3] at h
  by_cases h4 : radiusBad s = true
  · rw [if_pos h4] at h; omega
  rw [if_neg h4] at h
  refine ⟨by omega, by omega, by simpa using h2, Bool.not_eq_false _ ▸ h3, by simpa using h4, ?_⟩
  intro k3
  rw [if_neg (fun c => by omega)] at h
  by_cases hc : convexB s.Vertices = true
  · exact hc
  · rw [if_pos ⟨k3, .inl (by simpa using hc)⟩] at h; omega
theorem massdata_OfShape_eq (s : Shape) (d : Int) : massdata_OfShape s d = some (shapeM s d) := by
  unfold massdata_OfShape shapeM
  rw [shape_Validate_eq, Bind_some]
  simp only [cond_or, Bool.or_eq_true, decide_eq_true_eq, bne_iff_ne, Let_eq, beq_iff_eq]
  by_cases h : (validS s ≠ 0 ∨ d < 0) ∨ 262144 < d
  · have h' : validS s ≠ 0 ∨ d < 0 ∨ 262144 < d := by omega
    rw [if_pos h, if_pos h']
  have h' : ¬ (validS s ≠ 0 ∨ d < 0 ∨ 262144 < d) := by omega
  rw [if_neg h, if_neg h']
  obtain ⟨k1, k3, hc, -⟩ := validS_count (s := s) (by omega)
  obtain ⟨l1, l8, l2⟩ := countB_len hc
  by_cases c1 : s.Kind = 1
  · rw [if_pos c1, if_pos c1, massdata_ofCircle_eq s d l1, Bind_some]
  · rw [if_neg c1, if_neg c1]
    by_cases c2 : s.Kind = 2
    · rw [if_pos c2, if_pos c2, massdata_ofCapsule_eq s d (by have := l2 c2; omega), Bind_some]
    · rw [if_neg c2, if_neg c2, massdata_ofPolygon_eq s d l1 (by omega), Bind_some]
theorem IndexFunc_MassData_eq (l : List MassData) (p : MassData → Bool) (hl : l.length ≤ 4611686018427387904) : slices_ContainsFunc_MassData l (fun y => some (p y)) = some (l.any p) := by
  have key : ∀ n i : Nat, i ≤ l.length → l.length - i < n → ∃ r, slices_IndexFunc_MassData_l1 l (fun y => some (p y)) slices_IndexFunc_MassData_j2 n (i : Int) = some r ∧ (decide (0 ≤ r)) = (l.drop i).any p := by
    intro n
    induction n with
    | zero => intro i _ h; omega
    | succ n ih =>
      intro i hi h
      unfold slices_IndexFunc_MassData_l1
      by_cases hlt : i < l.length
      · rw [if_pos (by simpa using hlt), Chk_of (by omega), Bind_some, drop_ix l i hlt, List.any_cons]
        cases hp : p (ix l (i : Int))
        · rw [if_neg (by simp), Let_eq, w64_of _ (by omega), Bool.false_or]
          exact ih (i + 1) (by omega) (by omega)
        · rw [if_pos rfl]
          exact ⟨i, rfl, by simp⟩
      · rw [if_neg (by simpa using hlt)]
        refine ⟨-1, rfl, ?_⟩
        rw [List.drop_of_length_le (by omega)]; rfl
  obtain ⟨r, h1, h2⟩ := key fuel 0 (by omega) (fuel_lt _ (by omega))
  unfold slices_ContainsFunc_MassData slices_IndexFunc_MassData
  rw [show slices_IndexFunc_MassData_l1 l (fun y => some (p y)) slices_IndexFunc_MassData_j2 fuel 0 = some r from h1, Bind_some, Let_eq, h2]; rfl
def cmbA (l : List MassData) (i : Nat) (x : Int × Int × Int × MassData) : Int × Int × Int × MassData :=
  (w64 (x.1 + sat (ix l (i : Int)).Mass), w64 (x.2.1 + w64 (sat (ix l (i : Int)).Mass * sat (ix l (i : Int)).Center.X)), w64 (x.2.2.1 + w64 (sat (ix l (i : Int)).Mass * sat (ix l (i : Int)).Center.Y)),
    { x.2.2.2 with Mass := addS x.2.2.2.Mass (sat (ix l (i : Int)).Mass) })
def cmbB (l : List MassData) (i : Nat) (x : MassData) : MassData :=
  { x with Inertia := addS (addS x.Inertia (ix l (i : Int)).Inertia) (mulS (ix l (i : Int)).Mass (dotV (subV (ix l (i : Int)).Center x.Center) (subV (ix l (i : Int)).Center x.Center))) }
def combM (l : List MassData) : MassData :=
  if 8 < l.length ∨ l.any (fun p => decide (p.Mass < 0)) = true then ⟨0, Vec.zero, 0⟩ else
  let x := foldR (cmbA l) 0 l.length (0, 0, 0, MassData.zero)
  foldR (cmbB l) 0 l.length (if 0 < x.1 then { x.2.2.2 with Center := ⟨rdv x.2.1 x.1, rdv x.2.2.1 x.1⟩ } else x.2.2.2)
theorem Combine_j4 (l : List MassData) (h : l.length ≤ 8) (m : MassData) : massdata_Combine_j4 l m = some (foldR (cmbB l) 0 l.length m) := by
  unfold massdata_Combine_j4
  have := loop_gen l.length (fun _ => true) (cmbB l) (fun _ _ => True) (fun n x j => massdata_Combine_l2 l massdata_Combine_j3 n j x) (fun x => some x) none
    (fun n i x hi _ => by
      refine ⟨?_, fun _ => trivial⟩
      rw [massdata_Combine_l2]
      rw [if_pos (by simpa using hi), Chk_of (by omega), if_pos rfl]
      simp only [Let_eq, vec2_Sub_eq, fixed_Add_eq, vec2_Dot_eq, fixed_Mul_eq, Bind_some]
      rw [w64_of ((i : Int) + 1) (by omega)]; rfl)
    (fun n x _ => by rw [massdata_Combine_l2, if_neg (by simp)]; rfl)
    fuel 0 m (by omega) (fuel_lt _ (by omega)) trivial
  rw [Nat.sub_zero, allR_tt, if_pos rfl] at this
  exact this
theorem massdata_Combine_eq (l : List MassData) : massdata_Combine l = some (combM l) := by
  unfold massdata_Combine combM
  simp only [cond_or, Let_eq]
  by_cases h : 8 < l.length
  · have e : decide (8 < (l.length : Int)) = true := decide_eq_true (by omega)
    rw [e, if_neg (by simp), Bind_some, Bool.true_or, if_pos rfl, if_pos (.inl h)]
  · have e : decide (8 < (l.length : Int)) = false := decide_eq_false (by omega)
    rw [e, if_pos (by simp), show (fun (y0 : MassData) => some (massdata_Combine_c1 y0)) = fun y => some (decide (y.Mass < 0)) from rfl, IndexFunc_MassData_eq _ _ (by omega), Bind_some, Bool.false_or]
    by_cases ha : l.any (fun p => decide (p.Mass < 0)) = true
    · rw [if_pos ha, if_pos (.inr ha)]
    rw [if_neg ha, if_neg (fun c => c.elim h ha)]
    have := loop_gen l.length (fun _ => true) (cmbA l) (fun _ _ => True) (fun n x j => massdata_Combine_l1 l (massdata_Combine_j5 l) n x.1 x.2.1 x.2.2.1 j x.2.2.2) (fun x => massdata_Combine_j5 l x.1 x.2.1 x.2.2.1 x.2.2.2) none
      (fun n i x hi _ => by
        refine ⟨?_, fun _ => trivial⟩
        rw [massdata_Combine_l1]
        rw [if_pos (by simpa using hi), Chk_of (by omega), if_pos rfl]
        simp only [Let_eq, fixed_Saturate_eq, fixed_Add_eq]
        rw [w64_of ((i : Int) + 1) (by omega)]; rfl)
      (fun n x _ => by rw [massdata_Combine_l1, if_neg (by simp)])
      fuel 0 (0, 0, 0, MassData.zero) (by omega) (fuel_lt _ (by omega)) trivial
    rw [Nat.sub_zero, allR_tt, if_pos rfl] at this
    refine Eq.trans this ?_
    generalize foldR (cmbA l) 0 l.length (0, 0, 0, MassData.zero) = x
    unfold massdata_Combine_j5
    simp only [fixed_RoundDiv_eq, Bind_some, Let_eq, decide_eq_true_eq, Combine_j4 l (by omega)]
    split <;> rfl
def partsM (fs : List Fixture) (i : Nat) (l : List MassData) : List MassData :=
  if (ix fs (i : Int)).Sensor = true then l else l ++ [shapeM (ix fs (i : Int)).Shape (ix fs (i : Int)).Density]
def massM (fs : List Fixture) : MassData := if 4 < fs.length then ⟨0, Vec.zero, 0⟩ else combM (foldR (partsM fs) 0 fs.length [])
theorem partsM_len (fs : List Fixture) (i : Nat) (l : List MassData) (h : l.length ≤ i) : (partsM fs i l).length ≤ i + 1 := by
  unfold partsM; split
  · omega
  · simp; omega
theorem massdata_OfFixtures_eq (fs : List Fixture) : massdata_OfFixtures fs = some (massM fs) := by
  unfold massdata_OfFixtures massM
  simp only [Let_eq, decide_eq_true_eq]
  by_cases h : 4 < fs.length
  · rw [if_pos (by omega), if_pos h]
  rw [if_neg (by omega), if_neg h]
  have := loop_gen fs.length (fun _ => true) (partsM fs) (fun i l => l.length ≤ i) (fun n x j => massdata_OfFixtures_l2 fs massdata_OfFixtures_j3 n x j) (fun x => some (combM x)) none
    (fun n i x hi hI => by
      refine ⟨?_, fun _ => partsM_len fs i x hI⟩
      rw [massdata_OfFixtures_l2]
      rw [if_pos (by simpa using hi), Chk_of (by omega), Let_eq, if_pos rfl, massdata_OfShape_eq, Bind_some, Chk_of (by simp; omega), Let_eq]
      unfold massdata_OfFixtures_j1 partsM
      rw [Let_eq, Let_eq, w64_of ((i : Int) + 1) (by omega)]
      cases (ix fs (i : Int)).Sensor <;> rfl)
    (fun n x hx => by rw [massdata_OfFixtures_l2, if_neg (by simp)]; unfold massdata_OfFixtures_j3; rw [massdata_Combine_eq]; rfl)
    fuel 0 [] (by omega) (fuel_lt _ (by omega)) (by simp)
  rw [Nat.sub_zero, allR_tt, if_pos rfl] at this
  exact this
theorem body_MassData_eq (b : Body) : body_MassData b = some (massM b.Fixtures) := by unfold body_MassData; rw [massdata_OfFixtures_eq]; rfl
def invM (m : MassData) (kind : Int) (fixed : Bool) : Int × Int :=
  if kind ≠ 3 then (0, 0) else (if 0 < m.Mass then divS 65536 m.Mass else 65536, if 0 < m.Inertia ∧ fixed = false then divS 65536 m.Inertia else 0)
theorem massdata_Inverse_eq (m : MassData) (kind : Int) (fixed : Bool) : massdata_Inverse m kind fixed = some (invM m kind fixed) := by
  unfold massdata_Inverse invM massdata_Inverse_j1
  simp only [fixed_Div_eq, Bind_some, cond_and, Bool.and_eq_true, decide_eq_true_eq, bne_iff_ne, Bool.not_eq_true']
  split
  · rfl
  · split <;> split <;> rfl
def solverB (b : Body) : SolverBody := ⟨b.Velocity, b.AngularVelocity, (invM (massM b.Fixtures) b.Kind b.FixedRotation).1, (invM (massM b.Fixtures) b.Kind b.FixedRotation).2⟩
theorem body_SolverBody_eq (b : Body) : body_SolverBody b = some (solverB b) := by
  unfold body_SolverBody; rw [body_MassData_eq, Bind_some, massdata_Inverse_eq, Bind_some]; rfl
end GoForm
