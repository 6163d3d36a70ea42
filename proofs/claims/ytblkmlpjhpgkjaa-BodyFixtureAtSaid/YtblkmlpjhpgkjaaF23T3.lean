/- The plain law of points in shapes and in their boxes. No conditions. -/
import Derived.Test.YtblkmlpjhpgkjaaF23T2
import Derived.Test.YtblkmlpjhpgkjaaF23H1
set_option linter.all false
set_option maxRecDepth 100000
open Go Go.Cx
namespace GoForm
open GoGeo
structure OKB (b : AABB) : Prop where
  a1 : -536870911 ≤ b.Min.X
  a2 : b.Min.X ≤ b.Max.X
  a3 : b.Max.X ≤ 536870911
  b1 : -536870911 ≤ b.Min.Y
  b2 : b.Min.Y ≤ b.Max.Y
  b3 : b.Max.Y ≤ 536870911
structure Inb (b : AABB) (x : Vec) : Prop where
  a1 : b.Min.X ≤ x.X
  a2 : x.X ≤ b.Max.X
  b1 : b.Min.Y ≤ x.Y
  b2 : x.Y ≤ b.Max.Y
theorem okBx_iff (b : AABB) : okBx b = true ↔ OKB b := by
  unfold okBx satd
  simp only [Bool.and_eq_true, decide_eq_true_eq, beq_iff_eq]
  constructor
  · rintro ⟨⟨⟨h1, h2⟩, h3, h4⟩, h5, h6⟩
    unfold sat at h3 h4 h5 h6
    exact ⟨by omega, by omega, by omega, by omega, by omega, by omega⟩
  · rintro ⟨h1, h2, h3, h4, h5, h6⟩
    unfold sat
    exact ⟨⟨⟨by omega, by omega⟩, by omega, by omega⟩, by omega, by omega⟩
theorem step_ok (ps : List Vec) (i : Nat) {b : AABB} (h : OKB b) : OKB (boxStep ps i b) ∧ (∀ x, Inb b x → Inb (boxStep ps i b) x) ∧ Inb (boxStep ps i b) (satV (ix ps (i : Int))) := by
  obtain ⟨h1, h2, h3, h4, h5, h6⟩ := h
  have s1 := sat_bd (ix ps (i : Int)).X
  have s2 := sat_bd (ix ps (i : Int)).Y
  unfold boxStep lowV uppV satV
  refine ⟨⟨?_, ?_, ?_, ?_, ?_, ?_⟩, fun x ⟨k1, k2, k3, k4⟩ => ⟨?_, ?_, ?_, ?_⟩, ⟨?_, ?_, ?_, ?_⟩⟩ <;> dsimp only <;> omega
theorem fold_box (ps : List Vec) : ∀ (k i : Nat) (b : AABB), OKB b → OKB (foldR (boxStep ps) i k b) ∧ (∀ x, Inb b x → Inb (foldR (boxStep ps) i k b) x) ∧ ∀ j, i ≤ j → j < i + k → Inb (foldR (boxStep ps) i k b) (satV (ix ps (j : Int)))
  | 0, i, b, h => ⟨h, fun _ hx => hx, fun j h1 h2 => by omega⟩
  | k + 1, i, b, h => by
    obtain ⟨h1, h2, h3⟩ := step_ok ps i h
    obtain ⟨k1, k2, k3⟩ := fold_box ps k (i + 1) _ h1
    refine ⟨k1, fun x hx => k2 x (h2 x hx), fun j g1 g2 => ?_⟩
    by_cases e : j = i
    · subst e; exact k2 _ h3
    · exact k3 j (by omega) (by omega)
theorem boxP_ok {ps : List Vec} (h0 : ps.length ≠ 0) (hs : ∀ x ∈ ps, satV x = x) : OKB (boxP ps).1 ∧ ∀ x ∈ ps, Inb (boxP ps).1 x := by
  unfold boxP
  rw [if_neg h0]
  have s1 := sat_bd (ix ps 0).X
  have s2 := sat_bd (ix ps 0).Y
  obtain ⟨k1, k2, k3⟩ := fold_box ps (ps.length - 1) 1 ⟨satV (ix ps 0), satV (ix ps 0)⟩ ⟨s1.1, Int.le_refl _, s1.2, s2.1, Int.le_refl _, s2.2⟩
  refine ⟨k1, fun x hx => ?_⟩
  obtain ⟨j, hj, rfl⟩ := List.mem_iff_getElem.1 hx
  rw [← ix_lt ps j hj]
  have hm : satV (ix ps (j : Int)) = ix ps (j : Int) := hs _ (by rw [ix_lt ps j hj]; exact List.getElem_mem hj)
  rw [← hm]
  by_cases e : j = 0
  · subst e
    exact k2 _ ⟨Int.le_refl _, Int.le_refl _, Int.le_refl _, Int.le_refl _⟩
  · exact k3 j (by omega) (by omega)
structure Near (r : Int) (x : Vec) (ps : List Vec) : Prop where
  a1 : ∃ p ∈ ps, x.X ≤ p.X + r
  a2 : ∃ p ∈ ps, p.X ≤ x.X + r
  b1 : ∃ p ∈ ps, x.Y ≤ p.Y + r
  b2 : ∃ p ∈ ps, p.Y ≤ x.Y + r
theorem shapeBx_ok {s : Shape} {t : Transform} (h0 : (vertsW s t).length ≠ 0) (hr : 0 ≤ s.Radius ∧ s.Radius ≤ 524288) : OKB (shapeBx s t) ∧ ∀ v, Near s.Radius (satV v) (vertsW s t) → Inb (shapeBx s t) (satV v) := by
  obtain ⟨⟨k1, k2, k3, k4, k5, k6⟩, hin⟩ := boxP_ok h0 (vertsW_sat s t)
  unfold shapeBx
  rw [if_neg h0]
  generalize (boxP (vertsW s t)).1 = b at *
  generalize s.Radius = r at *
  unfold subV addV subS addS
  constructor
  · unfold sat
    refine ⟨?_, ?_, ?_, ?_, ?_, ?_⟩ <;> dsimp only <;> omega
  · intro v hn
    obtain ⟨⟨p1, m1, e1⟩, ⟨p2, m2, e2⟩, ⟨p3, m3, e3⟩, ⟨p4, m4, e4⟩⟩ := hn
    have i1 := hin p1 m1
    have i2 := hin p2 m2
    have i3 := hin p3 m3
    have i4 := hin p4 m4
    obtain ⟨g1, g2, g3, g4⟩ := i1
    obtain ⟨f1, f2, f3, f4⟩ := i2
    obtain ⟨q1, q2, q3, q4⟩ := i3
    obtain ⟨u1, u2, u3, u4⟩ := i4
    have s1 := sat_bd v.X
    have s2 := sat_bd v.Y
    unfold satV at *
    dsimp only at e1 e2 e3 e4
    generalize sat v.X = x at *
    generalize sat v.Y = y at *
    unfold sat
    refine ⟨?_, ?_, ?_, ?_⟩ <;> dsimp only <;> omega
theorem unionBx_ok {a b : AABB} (ha : OKB a) (hb : OKB b) : OKB (unionBx a b) ∧ (∀ x, Inb a x → Inb (unionBx a b) x) ∧ (∀ x, Inb b x → Inb (unionBx a b) x) := by
  unfold unionBx
  rw [if_pos ⟨(okBx_iff a).2 ha, (okBx_iff b).2 hb⟩]
  obtain ⟨h1, h2, h3, h4, h5, h6⟩ := ha
  obtain ⟨k1, k2, k3, k4, k5, k6⟩ := hb
  unfold lowV uppV
  refine ⟨⟨?_, ?_, ?_, ?_, ?_, ?_⟩, fun x ⟨e1, e2, e3, e4⟩ => ⟨?_, ?_, ?_, ?_⟩, fun x ⟨e1, e2, e3, e4⟩ => ⟨?_, ?_, ?_, ?_⟩⟩ <;> dsimp only <;> omega
theorem fold_union {F : Nat → AABB} : ∀ (k i : Nat) (b : AABB), OKB b → (∀ j, i ≤ j → j < i + k → OKB (F j)) → OKB (foldR (fun i x => unionBx x (F i)) i k b) ∧ (∀ x, Inb b x → Inb (foldR (fun i x => unionBx x (F i)) i k b) x) ∧ ∀ j, i ≤ j → j < i + k → ∀ x, Inb (F j) x → Inb (foldR (fun i x => unionBx x (F i)) i k b) x
  | 0, i, b, h, _ => ⟨h, fun _ hx => hx, fun j h1 h2 => by omega⟩
  | k + 1, i, b, h, hF => by
    obtain ⟨h1, h2, h3⟩ := unionBx_ok h (hF i (by omega) (by omega))
    obtain ⟨k1, k2, k3⟩ := fold_union k (i + 1) _ h1 (fun j g1 g2 => hF j (by omega) (by omega))
    refine ⟨k1, fun x hx => k2 x (h2 x hx), fun j g1 g2 x hx => ?_⟩
    by_cases e : j = i
    · subst e; exact k2 _ (h3 x hx)
    · exact k3 j (by omega) (by omega) x hx
/-- A short vector. -/
theorem len_le {w : Vec} {r : Int} (hr : r ≤ 524288) (h : lenV w ≤ r) : -r ≤ w.X ∧ w.X ≤ r ∧ -r ≤ w.Y ∧ w.Y ≤ r := by
  unfold lenV at h
  have m1 := sat_mul w.X w.X
  have m2 := sat_mul w.Y w.Y
  have p1 := sq_nn (sat w.X)
  have p2 := sq_nn (sat w.Y)
  have k1 := root_le (c := sat w.X) (n := sat w.X * sat w.X + sat w.Y * sat w.Y) (by omega) (by omega)
  have k2 := root_le (c := sat w.Y) (n := sat w.X * sat w.X + sat w.Y * sat w.Y) (by omega) (by omega)
  generalize isq (sat w.X * sat w.X + sat w.Y * sat w.Y) = L at *
  unfold sat at k1 k2
  omega
theorem sub_near {a c r : Int} (hc : sat c = c) (hr : 0 ≤ r ∧ r ≤ 524288) (h : -r ≤ subS a c ∧ subS a c ≤ r) : sat a ≤ c + r ∧ c ≤ sat a + r := by
  unfold subS at h
  rw [hc] at h
  generalize sat a = x at *
  unfold sat at h
  omega
theorem dsq_le {p q : Vec} {r : Int} (hr : 0 ≤ r ∧ r ≤ 524288) (h : sat (isq (dsq p q)) ≤ r) : sat p.X ≤ sat q.X + r ∧ sat q.X ≤ sat p.X + r ∧ sat p.Y ≤ sat q.Y + r ∧ sat q.Y ≤ sat p.Y + r := by
  have m1 := diff_mul q.X p.X q.X p.X
  have m2 := diff_mul q.Y p.Y q.Y p.Y
  have b1 := sat_bd p.X
  have b2 := sat_bd p.Y
  have b3 := sat_bd q.X
  have b4 := sat_bd q.Y
  unfold dsq at h
  rw [w64_of (sat q.X - sat p.X) (by omega), w64_of (sat q.Y - sat p.Y) (by omega), w64_of ((sat q.X - sat p.X) * (sat q.X - sat p.X)) (by omega), w64_of ((sat q.Y - sat p.Y) * (sat q.Y - sat p.Y)) (by omega), w64_of _ (by omega)] at h
  have p1 := sq_nn (sat q.X - sat p.X)
  have p2 := sq_nn (sat q.Y - sat p.Y)
  have k1 := root_le (c := sat q.X - sat p.X) (n := (sat q.X - sat p.X) * (sat q.X - sat p.X) + (sat q.Y - sat p.Y) * (sat q.Y - sat p.Y)) (by omega) (by omega)
  have k2 := root_le (c := sat q.Y - sat p.Y) (n := (sat q.X - sat p.X) * (sat q.X - sat p.X) + (sat q.Y - sat p.Y) * (sat q.Y - sat p.Y)) (by omega) (by omega)
  generalize isq ((sat q.X - sat p.X) * (sat q.X - sat p.X) + (sat q.Y - sat p.Y) * (sat q.Y - sat p.Y)) = L at *
  generalize sat q.X = x1 at *
  generalize sat q.Y = y1 at *
  generalize sat p.X = x2 at *
  generalize sat p.Y = y2 at *
  unfold sat at h
  omega
end GoForm
