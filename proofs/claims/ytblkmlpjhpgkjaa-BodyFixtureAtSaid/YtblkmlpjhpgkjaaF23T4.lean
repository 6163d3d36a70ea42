/- The plain law of points in shapes: what a shape contains is near its vertices' box. No conditions. -/
import Derived.Test.YtblkmlpjhpgkjaaF23T3
set_option linter.all false
set_option maxRecDepth 100000
open Go Go.Cx
namespace GoForm
open GoGeo
theorem boxP_two (a b : Vec) : (boxP [a, b]).1 = ⟨lowV (satV a) (satV b), uppV (satV a) (satV b)⟩ := rfl
theorem sec_near {v a b : Vec} {r : Int} (hr : 0 ≤ r) (ha : satV a = a) (hb : satV b = b) (h : secB v v a b = true) : Near r (satV v) [a, b] := by
  unfold secB at h
  rw [Bool.and_eq_true] at h
  have h2 := h.2
  unfold ovlB at h2
  rw [boxP_two, boxP_two, ha, hb] at h2
  simp only [Bool.and_eq_true, decide_eq_true_eq] at h2
  obtain ⟨-, ⟨⟨h3, h4⟩, h5⟩, h6⟩ := h2
  unfold lowV uppV at h3 h4 h5 h6
  dsimp only at h3 h4 h5 h6
  generalize satV v = x at *
  refine ⟨?_, ?_, ?_, ?_⟩
  · by_cases e : a.X ≤ b.X
    · exact ⟨b, by simp, by omega⟩
    · exact ⟨a, by simp, by omega⟩
  · by_cases e : a.X ≤ b.X
    · exact ⟨a, by simp, by omega⟩
    · exact ⟨b, by simp, by omega⟩
  · by_cases e : a.Y ≤ b.Y
    · exact ⟨b, by simp, by omega⟩
    · exact ⟨a, by simp, by omega⟩
  · by_cases e : a.Y ≤ b.Y
    · exact ⟨a, by simp, by omega⟩
    · exact ⟨b, by simp, by omega⟩
theorem ratio_bd (n d : Int) : 0 ≤ ratio n d ∧ ratio n d ≤ 65536 := by
  unfold ratio
  by_cases h : d < 1 ∨ 4611686018427387904 < d ∨ n < 1
  · rw [if_pos h]; omega
  rw [if_neg h]
  by_cases h1 : d ≤ n
  · rw [if_pos h1]; omega
  rw [if_neg h1]
  by_cases h2 : d < 70368744177664
  · rw [if_pos h2, w64_of _ (by omega)]
    obtain ⟨k1, k2, k3⟩ := rdv_pos (n := n * 65536) (d := d) (by omega) (by omega) (by omega) (by omega)
    refine ⟨k3, ?_⟩
    rcases Int.lt_or_le 65536 (rdv (n * 65536) d) with g | g
    · have := Int.mul_le_mul_of_nonneg_left (show (65537 : Int) ≤ rdv (n * 65536) d by omega) (show 0 ≤ d by omega)
      omega
    · exact g
  · rw [if_neg h2]
    have := rdv_le (n := n) (d := rdv d 65536) (by omega)
    omega
/-- Between x and y. -/
def Btw (x y z : Int) : Prop := (x ≤ z ∧ z ≤ y) ∨ (y ≤ z ∧ z ≤ x)
theorem part_of {e t : Int} (he : -536870911 ≤ e ∧ e ≤ 536870911) (ht : 0 ≤ t ∧ t ≤ 65536) : (0 ≤ e → 0 ≤ mulS e t ∧ mulS e t ≤ e) ∧ (e ≤ 0 → e ≤ mulS e t ∧ mulS e t ≤ 0) := by
  unfold mulS
  rw [sat_id he, sat_id (show -536870911 ≤ t ∧ t ≤ 536870911 by omega)]
  constructor
  · intro h
    have k1 := Int.mul_nonneg h ht.1
    have k2 := Int.mul_le_mul_of_nonneg_left ht.2 h
    have := rdv_pos (n := e * t) (d := 65536) k1 (by omega) (by omega) (by omega)
    rw [sat_id (by omega)]
    omega
  · intro h
    have k1 := Int.mul_nonneg (show 0 ≤ -e by omega) ht.1
    have k2 := Int.mul_le_mul_of_nonneg_left ht.2 (show 0 ≤ -e by omega)
    have e1 : -e * t = -(e * t) := by grind
    rw [e1] at k1 k2
    have := rdv_pos (n := -(e * t)) (d := 65536) k1 (by omega) (by omega) (by omega)
    rw [rdv_neg] at this
    rw [sat_id (by omega)]
    omega
theorem lerp_btw {x y t : Int} (hx : sat x = x) (hy : sat y = y) (ht : 0 ≤ t ∧ t ≤ 65536) : Btw x y (lerpS x y t) := by
  have bx := sat_bd x
  have by_ := sat_bd y
  rw [hx] at bx
  rw [hy] at by_
  unfold lerpS subS addS
  rw [hx, hy]
  have he := sat_bd (y - x)
  have hp := part_of he ht
  have hs : (0 ≤ y - x → 0 ≤ sat (y - x) ∧ sat (y - x) ≤ y - x) ∧ (y - x ≤ 0 → y - x ≤ sat (y - x) ∧ sat (y - x) ≤ 0) := by unfold sat; omega
  generalize sat (y - x) = e at *
  generalize mulS e t = m at *
  unfold Btw sat
  omega
theorem cp_btw {a b p : Vec} (ha : satV a = a) (hb : satV b = b) : Btw a.X b.X (cpS a b p).1.X ∧ Btw a.Y b.Y (cpS a b p).1.Y := by
  have a1 : sat a.X = a.X := congrArg Vec.X ha
  have a2 : sat a.Y = a.Y := congrArg Vec.Y ha
  have b1 : sat b.X = b.X := congrArg Vec.X hb
  have b2 : sat b.Y = b.Y := congrArg Vec.Y hb
  unfold cpS
  rw [ha, hb]
  dsimp only
  have hr := ratio_bd (projN a b (satV p)) (dsq a b)
  generalize ratio (projN a b (satV p)) (dsq a b) = r at *
  by_cases h0 : r = 0
  · rw [if_pos h0]; unfold Btw; dsimp only; omega
  rw [if_neg h0]
  by_cases h1 : r = 65536
  · rw [if_pos h1]; unfold Btw; dsimp only; omega
  rw [if_neg h1]
  exact ⟨lerp_btw a1 b1 hr, lerp_btw a2 b2 hr⟩
theorem cp_same (v p : Vec) (hv : satV v = v) : (cpS v v p).1 = v := by
  unfold cpS
  rw [hv]
  have : dsq v v = 0 := by
    unfold dsq
    rw [show sat v.X - sat v.X = 0 by omega, show sat v.Y - sat v.Y = 0 by omega]; rfl
  rw [this]
  have h0 : ratio (projN v v (satV p)) 0 = 0 := by unfold ratio; rw [if_pos (by omega)]
  rw [h0]; rfl
def Cand (v a b : Vec) (x : Vec × Vec) : Prop := x.1 = v ∧ Btw a.X b.X x.2.X ∧ Btw a.Y b.Y x.2.Y
theorem better_cand {v a b : Vec} {x y : Vec × Vec} (hx : Cand v a b x) (hy : Cand v a b y) : Cand v a b (better x y) := by
  unfold better; split
  · exact hy
  · exact hx
theorem satV_satV (v : Vec) : satV (satV v) = satV v := by unfold satV; simp only [satsat]
theorem dist_near {v a b : Vec} {r : Int} (hr : 0 ≤ r ∧ r ≤ 524288) (ha : satV a = a) (hb : satV b = b) (h : distS v v a b ≤ r) : Near r (satV v) [a, b] := by
  unfold distS at h
  by_cases h1 : secB v v a b = true
  · exact sec_near hr.1 ha hb h1
  rw [if_neg h1] at h
  unfold cpsS at h
  dsimp only at h
  rw [ha, hb] at h
  by_cases h2 : secB (satV v) (satV v) a b = true
  · have := sec_near hr.1 ha hb h2
    rw [satV_satV] at this
    exact this
  rw [if_neg h2] at h
  have hv := satV_satV v
  have c1 : Cand (satV v) a b (satV v, (cpS a b (satV v)).1) := ⟨rfl, cp_btw ha hb⟩
  have c3 : Cand (satV v) a b ((cpS (satV v) (satV v) a).1, a) := ⟨cp_same _ _ hv, by unfold Btw; dsimp only; omega, by unfold Btw; dsimp only; omega⟩
  have c4 : Cand (satV v) a b ((cpS (satV v) (satV v) b).1, b) := ⟨cp_same _ _ hv, by unfold Btw; dsimp only; omega, by unfold Btw; dsimp only; omega⟩
  have hc := better_cand (better_cand (better_cand c1 c1) c3) c4
  generalize better (better (better (satV v, (cpS a b (satV v)).1) (satV v, (cpS a b (satV v)).1)) ((cpS (satV v) (satV v) a).1, a)) ((cpS (satV v) (satV v) b).1, b) = c at *
  obtain ⟨p, q⟩ := c
  obtain ⟨rfl, q1, q2⟩ := hc
  have hd := dsq_le hr h
  have a1 : sat a.X = a.X := congrArg Vec.X ha
  have a2 : sat a.Y = a.Y := congrArg Vec.Y ha
  have b1 : sat b.X = b.X := congrArg Vec.X hb
  have b2 : sat b.Y = b.Y := congrArg Vec.Y hb
  have x1 : sat (satV v).X = (satV v).X := congrArg Vec.X hv
  have x2 : sat (satV v).Y = (satV v).Y := congrArg Vec.Y hv
  have a3 := sat_bd a.X
  have a4 := sat_bd a.Y
  have b3 := sat_bd b.X
  have b4 := sat_bd b.Y
  dsimp only at hd q1 q2
  rw [x1, x2] at hd
  generalize satV v = x at *
  have s1 : sat q.X = q.X := sat_id (by unfold Btw at q1; omega)
  have s2 : sat q.Y = q.Y := sat_id (by unfold Btw at q2; omega)
  rw [s1, s2] at hd
  unfold Btw at q1 q2
  refine ⟨?_, ?_, ?_, ?_⟩
  · by_cases e : a.X ≤ b.X
    · exact ⟨b, by simp, by omega⟩
    · exact ⟨a, by simp, by omega⟩
  · by_cases e : a.X ≤ b.X
    · exact ⟨a, by simp, by omega⟩
    · exact ⟨b, by simp, by omega⟩
  · by_cases e : a.Y ≤ b.Y
    · exact ⟨b, by simp, by omega⟩
    · exact ⟨a, by simp, by omega⟩
  · by_cases e : a.Y ≤ b.Y
    · exact ⟨a, by simp, by omega⟩
    · exact ⟨b, by simp, by omega⟩
theorem valid_radius {s : Shape} (h : validS s = 0) : 0 ≤ s.Radius ∧ s.Radius ≤ 524288 ∧ (s.Kind = 3 → s.Radius = 0) := by
  obtain ⟨-, -, -, -, hr, -⟩ := validS_count h
  unfold radiusBad at hr
  by_cases k : s.Kind = 3
  · rw [if_pos k] at hr
    have : s.Radius = 0 := by simpa using hr
    omega
  · rw [if_neg k] at hr
    simp only [Bool.or_eq_false_iff, decide_eq_false_iff_not] at hr
    omega
theorem valid_area {s : Shape} (h : validS s = 0) (k : s.Kind = 3) : 256 ≤ areaV s.Vertices := by
  unfold validS at h
  by_cases h1 : s.Kind < 1 ∨ 3 < s.Kind
  · omega
  rw [if_neg h1] at h
  by_cases h2 : countB s = false
  · rw [if_pos h2] at h; omega
  rw [if_neg h2] at h
  by_cases h3 : s.Vertices.all (inRng 1048576) = false
  · rw [if_pos h3] at h; omega
  rw [if_neg h3] at h
  by_cases h4 : radiusBad s = true
  · rw [if_pos h4] at h; omega
  rw [if_neg h4, if_neg (by omega)] at h
  by_cases h5 : s.Kind = 3 ∧ (convexB s.Vertices = false ∨ shortE s.Vertices < 4096 ∨ areaV s.Vertices < 256)
  · rw [if_pos h5] at h; omega
  · have : ¬ areaV s.Vertices < 256 := fun g => h5 ⟨k, .inr (.inr g)⟩
    omega
theorem vertsW_val {s : Shape} (t : Transform) (h : validS s = 0) : vertsW s t = s.Vertices.map (applyT t) := by unfold vertsW; rw [if_neg (by omega)]
theorem two_of {α : Type} : ∀ {l : List α}, l.length = 2 → ∃ a b, l = [a, b]
  | [a, b], _ => ⟨a, b, rfl⟩
  | [], h => by simp at h
  | [a], h => by simp at h
  | a :: b :: c :: l, h => by simp at h
theorem contains_near {s : Shape} {t : Transform} {v : Vec} (ht : PosOk t) (h : containsP s t v = true) : Near s.Radius (satV v) (vertsW s t) := by
  unfold containsP at h
  dsimp only at h
  by_cases h0 : (vertsW s t).length = 0
  · rw [if_pos h0] at h; cases h
  rw [if_neg h0] at h
  obtain ⟨hv, hl, -, -, hc, k1, k3⟩ := vertsW_len (s := s) (t := t) (fun e => h0 (by rw [e]; rfl))
  obtain ⟨r0, r1, r2⟩ := valid_radius hv
  have hs := vertsW_sat s t
  by_cases h1 : (vertsW s t).length = 1
  · rw [if_pos h1, decide_eq_true_eq] at h
    obtain ⟨c, hcs⟩ := List.length_eq_one_iff.1 h1
    rw [hcs] at h hs ⊢
    have e : ix [c] 0 = c := rfl
    rw [e] at h
    have hcc := hs c (by simp)
    have g := len_le r1 h
    unfold subV at g
    dsimp only at g
    have gx := sub_near (congrArg Vec.X hcc) ⟨r0, r1⟩ ⟨g.1, g.2.1⟩
    have gy := sub_near (congrArg Vec.Y hcc) ⟨r0, r1⟩ ⟨g.2.2.1, g.2.2.2⟩
    exact ⟨⟨c, by simp, gx.1⟩, ⟨c, by simp, gx.2⟩, ⟨c, by simp, gy.1⟩, ⟨c, by simp, gy.2⟩⟩
  rw [if_neg h1] at h
  by_cases h2 : (vertsW s t).length = 2
  · rw [if_pos h2, decide_eq_true_eq] at h
    obtain ⟨a, b, hab⟩ := two_of h2
    rw [hab] at h hs ⊢
    exact dist_near ⟨r0, r1⟩ (hs a (by simp)) (hs b (by simp)) h
  rw [if_neg h2] at h
  have hk : s.Kind = 3 := by
    unfold countB at hc
    by_cases e1 : s.Kind = 1
    · rw [if_pos e1] at hc; simp only [beq_iff_eq] at hc; omega
    by_cases e2 : s.Kind = 2
    · rw [if_neg e1, if_pos e2] at hc; simp only [beq_iff_eq] at hc; omega
    omega
  rw [vertsW_val t hv] at h ⊢
  obtain ⟨g1, g2, g3, g4⟩ := poly_box ht (valid_area hv hk) h
  rw [r2 hk]
  refine ⟨?_, ?_, ?_, ?_⟩
  · obtain ⟨p, hp, e⟩ := g1; exact ⟨p, hp, by omega⟩
  · obtain ⟨p, hp, e⟩ := g2; exact ⟨p, hp, by omega⟩
  · obtain ⟨p, hp, e⟩ := g3; exact ⟨p, hp, by omega⟩
  · obtain ⟨p, hp, e⟩ := g4; exact ⟨p, hp, by omega⟩
theorem posOk_of {b : Body} (h : validB b = 0) : PosOk b.Transform := by
  obtain ⟨-, ⟨-, ⟨⟨p1, p2⟩, -⟩, -⟩, -⟩ := validB_ok.1 h
  exact ⟨p1, p2⟩
theorem shape_valid_of {f : Fixture} (h : validF f = 0) : validS f.Shape = 0 := by
  unfold validF at h
  by_cases g : validS f.Shape ≠ 0
  · rw [if_pos g] at h; exact absurd h g
  · omega
/-- The box of a valid body is valid, and holds every contained point. -/
theorem body_box {b : Body} (hb : validB b = 0) (hl : b.Fixtures.length ≠ 0) : OKB (bodyBx b).1 ∧ ∀ (i : Nat) (v : Vec), i < b.Fixtures.length → containsP (ix b.Fixtures (i : Int)).Shape b.Transform v = true → Inb (bodyBx b).1 (satV v) := by
  have hp := posOk_of hb
  have hval : ∀ i : Nat, i < b.Fixtures.length → validS (ix b.Fixtures (i : Int)).Shape = 0 := fun i hi => shape_valid_of ((validB_ok.1 hb).2.2.2.1 _ (by rw [ix_lt _ i hi]; exact List.getElem_mem hi))
  have hsh : ∀ i : Nat, i < b.Fixtures.length → OKB (shapeBx (ix b.Fixtures (i : Int)).Shape b.Transform) ∧ ∀ v, Near (ix b.Fixtures (i : Int)).Shape.Radius (satV v) (vertsW (ix b.Fixtures (i : Int)).Shape b.Transform) → Inb (shapeBx (ix b.Fixtures (i : Int)).Shape b.Transform) (satV v) := by
    intro i hi
    have hv := hval i hi
    obtain ⟨r0, r1, -⟩ := valid_radius hv
    refine shapeBx_ok ?_ ⟨r0, r1⟩
    rw [vertsW_val _ hv, List.length_map]
    have := countB_len (validS_count hv).2.2.1
    omega
  have z : ((0 : Nat) : Int) = (0 : Int) := rfl
  unfold bodyBx
  rw [if_neg hl]
  obtain ⟨k1, k2, k3⟩ := fold_union (F := fun i => shapeBx (ix b.Fixtures (i : Int)).Shape b.Transform) (b.Fixtures.length - 1) 1 (shapeBx (ix b.Fixtures 0).Shape b.Transform) (hsh 0 (by omega)).1 (fun j g1 g2 => (hsh j (by omega)).1)
  refine ⟨k1, fun i v hi hc => ?_⟩
  have hin := (hsh i hi).2 v (contains_near hp hc)
  by_cases e : i = 0
  · subst e; exact k2 _ hin
  · exact k3 i (by omega) (by omega) _ hin
end GoForm
