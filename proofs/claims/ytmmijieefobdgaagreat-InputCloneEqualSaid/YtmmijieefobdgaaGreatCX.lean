/- Several texts in one. No conditions. -/
import Derived.Test.YtmmijieefobdgaaGreatF43T
import Derived.Test.YtmmijieefobdgaaGreatF43C
import Derived.Test.YtmmijieefobdgaaGreatQF
import Derived.Handy
import Derived.BigQuiet
import Derived.Test.YtmmijieefobdgaaGreatWX
import Derived.Test.YtmmijieefobdgaaGreatQE
section
/- Bodies and fixtures as cells; slices that own their rows. No conditions. -/
set_option linter.all false
set_option maxRecDepth 100000
open Go Go.Rx Go.Proofs Go.RowKit
namespace GoForm
def fixC (f : Fixture) (h : Value) : List Value := [.int .i64 f.Shape.Kind, .int .i64 f.Shape.Radius, h, .int .i64 f.Density, .int .i64 f.Friction, .int .i64 f.Restitution, .bool f.Sensor, .int .i64 f.Category, .int .i64 f.Mask, .int .i64 f.Group]
def fixA (f : Fixture) : List AV := [.v (.int .i64 f.Shape.Kind), .v (.int .i64 f.Shape.Radius), e_sl_Vec f.Shape.Vertices, .v (.int .i64 f.Density), .v (.int .i64 f.Friction), .v (.int .i64 f.Restitution), .v (.bool f.Sensor), .v (.int .i64 f.Category), .v (.int .i64 f.Mask), .v (.int .i64 f.Group)]
def bodC (b : Body) (h : Value) : List Value := [.int .i64 b.ID, .int .i64 b.Kind, .int .i64 b.Transform.Position.X, .int .i64 b.Transform.Position.Y, .int .i64 b.Transform.Angle, .int .i64 b.Velocity.X, .int .i64 b.Velocity.Y, .int .i64 b.AngularVelocity, .int .i64 b.Force.X, .int .i64 b.Force.Y, .int .i64 b.Torque, .int .i64 b.LinearDamping, .int .i64 b.AngularDamping, .int .i64 b.GravityScale, .bool b.Bullet, .bool b.FixedRotation, .bool b.NoSleep, .bool b.Asleep, .int .i64 b.IdleSteps, h]
def bodA (b : Body) : List AV := [.v (.int .i64 b.ID), .v (.int .i64 b.Kind), .v (.int .i64 b.Transform.Position.X), .v (.int .i64 b.Transform.Position.Y), .v (.int .i64 b.Transform.Angle), .v (.int .i64 b.Velocity.X), .v (.int .i64 b.Velocity.Y), .v (.int .i64 b.AngularVelocity), .v (.int .i64 b.Force.X), .v (.int .i64 b.Force.Y), .v (.int .i64 b.Torque), .v (.int .i64 b.LinearDamping), .v (.int .i64 b.AngularDamping), .v (.int .i64 b.GravityScale), .v (.bool b.Bullet), .v (.bool b.FixedRotation), .v (.bool b.NoSleep), .v (.bool b.Asleep), .v (.int .i64 b.IdleSteps), e_sl_Fixture b.Fixtures]
theorem e_Fixture_eq (f : Fixture) : e_Fixture f = .agg (fixA f) := rfl
theorem e_Body_eq (b : Body) : e_Body b = .agg (bodA b) := rfl
theorem e_slV (l : List Vec) : e_sl_Vec l = .sl false 2 (l.map e_Vec) := rfl
theorem e_slF (l : List Fixture) : e_sl_Fixture l = .sl false 10 (l.map e_Fixture) := rfl
def vecC (x : Vec) : List Value := [.int .i64 x.X, .int .i64 x.Y]
theorem e_Vec_eq (x : Vec) : e_Vec x = .agg ((vecC x).map AV.v) := rfl
def vecsC (l : List Vec) : List Value := l.flatMap vecC
theorem vecsC_len (l : List Vec) : (vecsC l).length = l.length * 2 := by
  induction l with
  | nil => rfl
  | cons x l ih => show (vecC x ++ vecsC l).length = _; rw [List.length_append, ih, List.length_cons]; show 2 + _ = _; omega
theorem cells_V (l : List Vec) : (l.map e_Vec).flatMap AV.cells = (vecsC l).map AV.v := by
  induction l with
  | nil => rfl
  | cons x l ih =>
    show AV.cells (e_Vec x) ++ (l.map e_Vec).flatMap AV.cells = _
    rw [ih, e_Vec_eq]
    show _ = ((vecC x) ++ vecsC l).map AV.v
    rw [List.map_append]; rfl
theorem vecsC_one (l : List Vec) : ∀ v ∈ vecsC l, oneCell v = true := by
  intro v hv
  obtain ⟨x, -, hx⟩ := List.mem_flatMap.1 hv
  simp [vecC] at hx
  rcases hx with rfl | rfl <;> rfl

theorem repsV {m : Mem} {bl : Names} : ∀ l : List Value, Reps m bl (l.map AV.v) l
  | [] => .nil
  | a :: l => .cons .v (repsV l)
theorem repsV_eq {m : Mem} {bl : Names} : ∀ {l vs : List Value}, Reps m bl (l.map AV.v) vs → vs = l
  | [], _, .nil => rfl
  | a :: l, _, .cons h t => by rw [Rep.eq_v h, repsV_eq t]
theorem _root_.Go.Rx.Reps.inv {m bl x l vs} (h : Reps m bl (x :: l) vs) : ∃ v t, vs = v :: t ∧ Rep m bl x v ∧ Reps m bl l t := by
  cases h with
  | cons a b => exact ⟨_, _, rfl, a, b⟩
theorem _root_.Go.Rx.Reps.inv0 {m bl vs} (h : Reps m bl [] vs) : vs = [] := by cases h; rfl
theorem _root_.Go.Rx.Reps.invV {m bl x l vs} (h : Reps m bl (.v x :: l) vs) : ∃ t, vs = x :: t ∧ Reps m bl l t := by
  obtain ⟨v, t, rfl, a, b⟩ := h.inv
  exact ⟨t, by rw [Rep.eq_v a], b⟩
theorem fixA_inv {m bl f vs} (h : Reps m bl (fixA f) vs) : ∃ x, vs = fixC f x ∧ Rep m bl (e_sl_Vec f.Shape.Vertices) x := by
  unfold fixA at h
  obtain ⟨t1, rfl, h1⟩ := h.invV
  obtain ⟨t2, rfl, h2⟩ := h1.invV
  obtain ⟨x, t3, rfl, hx, h3⟩ := h2.inv
  obtain ⟨t4, rfl, h4⟩ := h3.invV
  obtain ⟨t5, rfl, h5⟩ := h4.invV
  obtain ⟨t6, rfl, h6⟩ := h5.invV
  obtain ⟨t7, rfl, h7⟩ := h6.invV
  obtain ⟨t8, rfl, h8⟩ := h7.invV
  obtain ⟨t9, rfl, h9⟩ := h8.invV
  obtain ⟨t10, rfl, h10⟩ := h9.invV
  obtain rfl := h10.inv0
  exact ⟨x, rfl, hx⟩
theorem fixA_mk {m bl f x} (h : Rep m bl (e_sl_Vec f.Shape.Vertices) x) : Reps m bl (fixA f) (fixC f x) :=
  .cons .v (.cons .v (.cons h (.cons .v (.cons .v (.cons .v (.cons .v (.cons .v (.cons .v (.cons .v .nil)))))))))
theorem bodA_inv {m bl b vs} (h : Reps m bl (bodA b) vs) : ∃ x, vs = bodC b x ∧ Rep m bl (e_sl_Fixture b.Fixtures) x := by
  unfold bodA at h
  obtain ⟨_, rfl, h1⟩ := h.invV
  obtain ⟨_, rfl, h2⟩ := h1.invV
  obtain ⟨_, rfl, h3⟩ := h2.invV
  obtain ⟨_, rfl, h4⟩ := h3.invV
  obtain ⟨_, rfl, h5⟩ := h4.invV
  obtain ⟨_, rfl, h6⟩ := h5.invV
  obtain ⟨_, rfl, h7⟩ := h6.invV
  obtain ⟨_, rfl, h8⟩ := h7.invV
  obtain ⟨_, rfl, h9⟩ := h8.invV
  obtain ⟨_, rfl, h10⟩ := h9.invV
  obtain ⟨_, rfl, h11⟩ := h10.invV
  obtain ⟨_, rfl, h12⟩ := h11.invV
  obtain ⟨_, rfl, h13⟩ := h12.invV
  obtain ⟨_, rfl, h14⟩ := h13.invV
  obtain ⟨_, rfl, h15⟩ := h14.invV
  obtain ⟨_, rfl, h16⟩ := h15.invV
  obtain ⟨_, rfl, h17⟩ := h16.invV
  obtain ⟨_, rfl, h18⟩ := h17.invV
  obtain ⟨_, rfl, h19⟩ := h18.invV
  obtain ⟨x, _, rfl, hx, h20⟩ := h19.inv
  obtain rfl := h20.inv0
  exact ⟨x, rfl, hx⟩
theorem bodA_mk {m bl b x} (h : Rep m bl (e_sl_Fixture b.Fixtures) x) : Reps m bl (bodA b) (bodC b x) :=
  .cons .v (.cons .v (.cons .v (.cons .v (.cons .v (.cons .v (.cons .v (.cons .v (.cons .v (.cons .v (.cons .v (.cons .v (.cons .v (.cons .v (.cons .v (.cons .v (.cons .v (.cons .v (.cons .v (.cons h .nil)))))))))))))))))))
theorem rep_agg {m bl l v} (h : Rep m bl (.agg l) v) : ∃ cs, v = .agg cs.toArray ∧ Reps m bl l cs ∧ ∀ c ∈ cs, oneCell c = true := by
  cases h with
  | agg a b => exact ⟨_, rfl, a, b⟩
theorem repBody {m b v} (h : Rep m noNames (e_Body b) v) : ∃ x, v = .agg (bodC b x).toArray ∧ Rep m noNames (e_sl_Fixture b.Fixtures) x ∧ oneCell x = true := by
  rw [e_Body_eq] at h
  obtain ⟨cs, rfl, h1, h2⟩ := rep_agg h
  obtain ⟨x, rfl, hx⟩ := bodA_inv h1
  exact ⟨x, rfl, hx, h2 x (by simp [bodC])⟩
theorem one_slice {m bl c sz l x} (h : Rep m bl (.sl c sz l) x) : oneCell x = true := by
  cases h <;> rfl
theorem mkBody {m b x} (h : Rep m noNames (e_sl_Fixture b.Fixtures) x) : Rep m noNames (e_Body b) (.agg (bodC b x).toArray) := by
  rw [e_Body_eq]
  refine .agg (bodA_mk h) ?_
  intro c hc
  have hx : oneCell x = true := by rw [e_slF] at h; exact one_slice h
  simp [bodC] at hc
  rcases hc with rfl | rfl | rfl | rfl | rfl | rfl | rfl | rfl | rfl | rfl | rfl | rfl | rfl | rfl | rfl | rfl | rfl | rfl | rfl | rfl <;> first | rfl | exact hx
theorem fixC_one {f x} (hx : oneCell x = true) : ∀ c ∈ fixC f x, oneCell c = true := by
  intro c hc
  simp [fixC] at hc
  rcases hc with rfl | rfl | rfl | rfl | rfl | rfl | rfl | rfl | rfl | rfl <;> first | rfl | exact hx

/-- The cells of fixtures whose vertices are these slices. -/
def fixsC : List Fixture → List Value → List Value
  | f :: fs, h :: hs => fixC f h ++ fixsC fs hs
  | _, _ => []
theorem fixsC_len : ∀ (fs : List Fixture) (hs : List Value), fs.length = hs.length → (fixsC fs hs).length = fs.length * 10
  | [], [], _ => rfl
  | f :: fs, h :: hs, e => by
    show (fixC f h ++ fixsC fs hs).length = _
    rw [List.length_append, fixsC_len fs hs (by simpa using e), List.length_cons]
    show 10 + _ = _; omega
theorem fixsC_get : ∀ (fs : List Fixture) (hs : List Value) (k j : Nat) (f : Fixture) (h : Value), fs[k]? = some f → hs[k]? = some h → j < 10 → (fixsC fs hs)[k * 10 + j]? = (fixC f h)[j]?
  | [], _, k, j, f, h, e, _, _ => by simp at e
  | _ :: _, [], k, j, f, h, _, e, _ => by simp at e
  | f0 :: fs, h0 :: hs, 0, j, f, h, e1, e2, hj => by
    simp at e1 e2; subst e1; subst e2
    show (fixC f0 h0 ++ fixsC fs hs)[0 * 10 + j]? = _
    rw [Nat.zero_mul, Nat.zero_add, List.getElem?_append_left (by exact hj)]
  | f0 :: fs, h0 :: hs, k + 1, j, f, h, e1, e2, hj => by
    show (fixC f0 h0 ++ fixsC fs hs)[(k + 1) * 10 + j]? = _
    have hl : (fixC f0 h0).length = 10 := rfl
    rw [List.getElem?_append_right (by rw [hl]; omega), hl, show (k + 1) * 10 + j - 10 = k * 10 + j by omega]
    exact fixsC_get fs hs k j f h (by simpa using e1) (by simpa using e2) hj
theorem fixsC_snoc : ∀ (fs : List Fixture) (hs : List Value) (f : Fixture) (h : Value), fs.length = hs.length → fixsC (fs ++ [f]) (hs ++ [h]) = fixsC fs hs ++ fixC f h
  | [], [], f, h, _ => by simp [fixsC]
  | f0 :: fs, h0 :: hs, f, h, e => by
    show fixC f0 h0 ++ fixsC (fs ++ [f]) (hs ++ [h]) = (fixC f0 h0 ++ fixsC fs hs) ++ fixC f h
    rw [fixsC_snoc fs hs f h (by simpa using e), List.append_assoc]
theorem fixs_inv {m bl} : ∀ (fs : List Fixture) (cs : List Value), Reps m bl ((fs.map e_Fixture).flatMap AV.cells) cs → ∃ hs, cs = fixsC fs hs ∧ fs.length = hs.length ∧ ∀ (k : Nat) (f : Fixture) (x : Value), fs[k]? = some f → hs[k]? = some x → Rep m bl (e_sl_Vec f.Shape.Vertices) x
  | [], cs, h => ⟨[], by have := h.inv0; simpa [fixsC] using this, rfl, by intro k f x e; simp at e⟩
  | f :: fs, cs, h => by
    have h : Reps m bl (fixA f ++ (fs.map e_Fixture).flatMap AV.cells) cs := h
    have a := h.take 10
    have b := h.drop 10
    have e1 : (fixA f ++ (fs.map e_Fixture).flatMap AV.cells).take 10 = fixA f := by
      rw [List.take_append_of_le_length (by exact Nat.le_refl _)]; rfl
    have e2 : (fixA f ++ (fs.map e_Fixture).flatMap AV.cells).drop 10 = (fs.map e_Fixture).flatMap AV.cells := by
      rw [List.drop_append_of_le_length (by exact Nat.le_refl _)]; rfl
    rw [e1] at a
    rw [e2] at b
    obtain ⟨x, hx, hr⟩ := fixA_inv a
    obtain ⟨hs, hy, hl, hk⟩ := fixs_inv fs _ b
    refine ⟨x :: hs, ?_, by simp [hl], ?_⟩
    · rw [← List.take_append_drop 10 cs, hx, hy]; rfl
    · intro k g y e1 e2
      cases k with
      | zero => simp at e1 e2; subst e1; subst e2; exact hr
      | succ k => exact hk k g y (by simpa using e1) (by simpa using e2)
theorem fixs_mk {m bl} : ∀ (fs : List Fixture) (hs : List Value), fs.length = hs.length → (∀ (k : Nat) (f : Fixture) (x : Value), fs[k]? = some f → hs[k]? = some x → Rep m bl (e_sl_Vec f.Shape.Vertices) x) → Reps m bl ((fs.map e_Fixture).flatMap AV.cells) (fixsC fs hs)
  | [], [], _, _ => .nil
  | f :: fs, x :: hs, e, h => by
    show Reps m bl (fixA f ++ (fs.map e_Fixture).flatMap AV.cells) (fixC f x ++ fixsC fs hs)
    exact (fixA_mk (h 0 f x rfl rfl)).append (fixs_mk fs hs (by simpa using e) fun k g y e1 e2 => h (k + 1) g y (by simpa using e1) (by simpa using e2))

/-- What a slice of fixtures is in memory. -/
theorem repFixs {m fs v} (h : Rep m noNames (e_sl_Fixture fs) v) : ∃ ad cap, v = .slice ad fs.length cap ∧ (0 < fs.length → ∃ blk off hs, ad = some ⟨blk, off, none⟩ ∧ fs.length = hs.length ∧ (∀ j x, (fixsC fs hs)[j]? = some x → m blk (off + j) = some x) ∧ (∀ c ∈ fixsC fs hs, oneCell c = true) ∧ ∀ (k : Nat) (f : Fixture) (x : Value), fs[k]? = some f → hs[k]? = some x → Rep m noNames (e_sl_Vec f.Shape.Vertices) x) := by
  rw [e_slF] at h
  generalize hl : fs.map e_Fixture = l at h
  cases h with
  | slnil =>
    have : fs = [] := by simpa using hl
    subst this
    exact ⟨none, 0, rfl, fun h => absurd h (by simp)⟩
  | @sl _ _ _ _ a cap cs h1 h2 h3 h4 h5 h6 h7 =>
    have hn : l.length = fs.length := by rw [← hl]; simp
    rw [hn]
    refine ⟨some a, cap, rfl, fun hp => ?_⟩
    rw [← hl] at h2
    obtain ⟨hs, rfl, e, hk⟩ := fixs_inv fs cs h2
    refine ⟨a.block, a.off, hs, ?_, e, h5, h3, hk⟩
    have := h4 (by rw [fixsC_len _ _ e]; omega)
    cases a
    simp at this
    rw [this]
end GoForm
end

section
/- shape.Clone: its vertices are its own. No conditions. -/
set_option linter.all false
set_option maxRecDepth 100000
open Go Go.Rx Go.Proofs Go.RowKit
namespace GoForm
/-- A slice of a row of one's own: nothing, or the block's first cells. -/
def VOw (B : Nat) (w : World) (h : Value) (n : Nat) (xs : List Value) : Prop :=
  (n = 0 ∧ xs = [] ∧ ∃ ad cap, h = .slice ad 0 cap ∧ (ad = none → cap = 0)) ∨ ∃ g cap cur T, h = .slice (some ⟨g, 0, none⟩) n cap ∧ B ≤ g ∧ g < w.heap.size ∧ w.heap[g]? = some (.cells cur T (0, 0)) ∧ n ≤ cap ∧ xs.length ≤ cur.size ∧ cur.toList.take xs.length = xs
theorem heap_at (w : World) (o : Obj) (b : Nat) (h : b = w.heap.size) : (w.alloc o).heap[b]? = some o := by subst h; show (w.heap.push o)[w.heap.size]? = _; simp
theorem heap_past (w : World) (o : Obj) (b : Nat) (h : b < w.heap.size) : (w.alloc o).heap[b]? = w.heap[b]? := by show (w.heap.push o)[b]? = _; rw [Array.getElem?_push_lt h]; simp [h]
theorem box_cell {w : World} {b : Nat} {cs : Array Value} {T : TypeId} (h : w.heap[b]? = some (.cells cs T (0, 0))) (j : Nat) {v : Value} (e : cs[j]? = some v) : w.cell? ⟨b, j, none⟩ = some v := by rw [cell_of_blk h]; exact e
theorem box_free {w : World} {b : Nat} {cs : Array Value} {T : TypeId} (h : w.heap[b]? = some (.cells cs T (0, 0))) (j : Nat) : w.frozen? ⟨b, j, none⟩ = false := by unfold World.frozen?; rw [h]; simp
theorem VOw.mono {B B' w h n xs} (v : VOw B w h n xs) (hb : B' ≤ B) : VOw B' w h n xs := by
  rcases v with v | ⟨g, cap, cur, T, h1, h2, h3⟩
  · exact .inl v
  · exact .inr ⟨g, cap, cur, T, h1, Nat.le_trans hb h2, h3⟩
theorem heap_set (w : World) (a : Addr) (x : Value) (b : Nat) (h : b ≠ a.block) : (w.setCell a x).heap[b]? = w.heap[b]? := Go.RowKit.Below.heap_setCell _ _ _ _ h
theorem size_set (w : World) (a : Addr) (x : Value) : (w.setCell a x).heap.size = w.heap.size := by simp [World.setCell]
theorem VOw.set {B w h n xs} (v : VOw B w h n xs) (a : Addr) (x : Value) (ha : a.block < B) : VOw B (w.setCell a x) h n xs := by
  rcases v with v | ⟨g, cap, cur, T, h1, h2, h3, h4, h5⟩
  · exact .inl v
  · exact .inr ⟨g, cap, cur, T, h1, h2, by rw [size_set]; exact h3, by rw [heap_set _ _ _ _ (by omega)]; exact h4, h5⟩
theorem heap_own {w : World} {b : Nat} {cs : Array Value} {T : TypeId} {fr} (h : w.heap[b]? = some (.cells cs T fr)) (j : Nat) (v : Value) (cs' : Array Value) (e : cs.setIfInBounds j v = cs') : (w.setCell ⟨b, j, none⟩ v).heap[b]? = some (.cells cs' T fr) := by
  subst e
  unfold World.setCell
  simp [Array.getElem?_modify, h]
theorem results_box {P : Program} {fn : Func} {t : Tmp} {ty : TypeId} {b : Nat} {cs : List Value} {T : TypeId} {w : World} {tmps : Array Value} (h : fn.results = #[.cell t ty]) (ht : tmps.getD t undef = .pointer (some ⟨b, 0, none⟩)) (ha : tAg P ty = some true) (hs : tSz P ty = some cs.length) (hb : w.heap[b]? = some (.cells cs.toArray T (0, 0))) :
    (results fn tmps).run P w = .ok (.agg cs.toArray) w := by
  have := run_loadVar_agg (P := P) (ty := ty) (w := w) (b := b) (o := 0) (cs := cs) ha hs (fun j v e => by rw [Nat.zero_add]; exact box_cell hb j (by simpa using e))
  have ht : tmps[t]?.getD undef = .pointer (some ⟨b, 0, none⟩) := by simpa using ht
  simp [results, h, ht, this, asAddr]
theorem cloneV_some (l : List Vec) (h : l.length ≤ 1099511627776) : slices_Clone_158 l = some l := by
  unfold slices_Clone_158
  rw [Alike_of (by intro h; subst h; rfl), Chk_of (by omega)]
theorem own_ansV (l : List Vec) : (ansS tb cd [0] [Ix.tsl_Vec] l 0).1.av = .rw 0 2 ∧ ((ansS tb cd [0] [Ix.tsl_Vec] l 0).2.map fun p => (p.1, p.2.av)) = [(0, .cells (elC tb Ix.tVec l))] := ⟨rfl, rfl⟩
theorem elC_V (l : List Vec) : elC tb Ix.tVec l = (vecsC l).map AV.v := by
  induction l with
  | nil => rfl
  | cons x l ih =>
    show AV.cells (e_Vec x) ++ elC tb Ix.tVec l = _
    rw [ih, e_Vec_eq]
    show _ = ((vecC x) ++ vecsC l).map AV.v
    rw [List.map_append]; rfl
theorem vec_fresh (l : List Vec) (h40 : l.length ≤ 1099511627776) (m : Mem) (v : Value) (w : World) (hi : Imm m w) (hr : Rep m noNames (e_sl_Vec l) v) :
    Calls Tryz.prog 158 #[v] w fun e w' => ∃ h, e = .returned h ∧ Below w.heap.size w w' ∧ VOw w.heap.size w' h l.length (vecsC l) := by
  have hcl := c_158.ok (l, ()) [e_sl_Vec l] l ⟨rfl, trivial⟩ (cloneV_some l h40)
  have hcl : FnR Tryz.prog 158 [e_sl_Vec l] (.rw 0 2) [(0, .cells (elC tb Ix.tVec l))] := hcl
  refine (hcl w m [v] hi (.cons hr .nil)).mono ?_
  rintro e w1 ⟨v1, m', bl', rfl, hb, hws, -, hrep⟩
  refine ⟨v1, rfl, hb, ?_⟩
  generalize hz : AV.rw 0 2 = z at hrep
  cases hrep <;> cases hz
  case rwnil ad hnil =>
    have hl : l = [] := by
      rcases hws.blk 0 _ (by rw [find_cons, if_pos rfl]) with ⟨-, h⟩ | ⟨b, n, arr, T, pre, rest, h, -⟩
      · have := congrArg List.length h
        rw [elC_V, List.length_map, vecsC_len] at this
        exact List.length_eq_zero_iff.1 (by have e0 : ([] : List AV).length = 0 := rfl; omega)
      · rw [hnil] at h; cases h
    subst hl
    exact .inl ⟨rfl, rfl, ad, 0, rfl, fun _ => rfl⟩
  case rw b n cap len hcap hbl hlen hsz =>
    rcases hws.blk 0 _ (by rw [find_cons, if_pos rfl]) with ⟨h, -⟩ | ⟨b', n', arr, T, pre, rest, h1, h2, h3, h4, h5, h6⟩
    · rw [hbl] at h; cases h
    rw [hbl] at h1
    cases h1
    rw [elC_V] at h5
    obtain rfl := repsV_eq h5
    have h31 : arr.size = n.1 := congrArg Prod.fst h3
    have h32 : (vecsC l).length = n.2 := congrArg Prod.snd h3
    obtain rfl : len = l.length := by rw [← h32, vecsC_len] at hlen; omega
    obtain ⟨o1, o2, o3⟩ := hws.own 0 b n hbl
    have hle : (vecsC l).length ≤ arr.size := by
      have := congrArg List.length h4
      rw [List.length_append] at this
      have e : arr.toList.length = arr.size := by simp
      omega
    exact .inr ⟨b, cap, arr, T, rfl, o1, o2, h2, hcap, hle, by rw [h4, List.take_left']; rfl⟩
set_option maxHeartbeats 4000000 in
theorem shape_fresh (l : List Vec) (h40 : l.length ≤ 1099511627776) (m : Mem) (x0 x1 : Int) (f2 : Value) (w : World) (hi : Imm m w) (hr : Rep m noNames (e_sl_Vec l) f2) :
    Calls Tryz.prog 105 #[.agg #[(.int .i64 x0), (.int .i64 x1), f2]] w fun e w' => ∃ h, e = .returned (.agg #[(.int .i64 x0), (.int .i64 x1), h]) ∧ Below w.heap.size w w' ∧ VOw w.heap.size w' h l.length (vecsC l) := by
  have e158 := Tryz.call158
  have o2 : f2.oneCell' = true := by rw [e_slV] at hr; exact one_slice hr
  go_enter Tryz.func105, Tryz.ntmps105
  have key : ∀ w2 : World, w2 = (w.alloc (.cells #[(.int .i64 x0), (.int .i64 x1), f2] 66)).alloc (.cells #[.int .i64 0, .int .i64 0, .slice none 0 0] 66) → Calls Tryz.prog 158 #[f2] w2 fun e w' => ∃ ad n cap, e = .returned (.slice ad n cap) ∧ Below w.heap.size w w' ∧ w'.heap[w.heap.size]? = some (.cells #[(.int .i64 x0), (.int .i64 x1), f2] 66 (0, 0)) ∧ w'.heap[w.heap.size + 1]? = some (.cells #[.int .i64 0, .int .i64 0, .slice none 0 0] 66 (0, 0)) ∧ VOw (w.heap.size + 2) w' (.slice ad n cap) l.length (vecsC l) := by
    rintro w2 hw2
    have hb2 : Below w.heap.size w w2 := by rw [hw2]; exact ((Below.refl _ _).alloc (Nat.le_refl _) _).alloc (by simp) _
    have hs2 : w2.heap.size = w.heap.size + 2 := by rw [hw2]; simp
    refine (vec_fresh l h40 m f2 w2 (hi.below hb2) hr).mono ?_
    rintro e w1 ⟨h, rfl, hb, hv⟩
    rw [hs2] at hv
    have q1 : w1.heap[w.heap.size]? = w2.heap[w.heap.size]? := hb.block _ (by omega)
    have q2 : w1.heap[w.heap.size + 1]? = w2.heap[w.heap.size + 1]? := hb.block _ (by omega)
    obtain ⟨ad, n, cap, rfl⟩ : ∃ ad n cap, h = .slice ad n cap := by
      rcases hv with ⟨-, -, ad, cap, rfl, -⟩ | ⟨g, cap, cur, T, rfl, -⟩ <;> exact ⟨_, _, _, rfl⟩
    refine ⟨ad, n, cap, rfl, hb2.trans (hb.mono (by omega)), ?_, ?_, hv⟩
    · rw [q1, hw2, heap_past _ _ _ (by simp), heap_at _ _ _ rfl]
    · rw [q2, hw2, heap_at _ _ _ (by simp)]
  go_wp2_with (go_at_call 158; refine (key _ rfl).mono ?_; rintro _ w1 ⟨ad, n, cap, rfl, hb, b1, b2, hv⟩; have g0 := box_cell b1 0 rfl; have g1 := box_cell b1 1 rfl; have g2 := box_cell b1 2 rfl; have z2 := box_free b1 2; have y0 := box_cell b2 0 rfl; have y1 := box_cell b2 1 rfl; have y2 := box_cell b2 2 rfl; have u0 := box_free b2 0; have u1 := box_free b2 1; have u2 := box_free b2 2)
  have s0 := (heap_set w1 ⟨w.heap.size, 2, none⟩ (.slice ad n cap) (w.heap.size + 1) (by simp)).trans b2
  have s1 := heap_own s0 0 (.int .i64 x0) #[.int .i64 x0, .int .i64 0, .slice none 0 0] rfl
  have s2 := heap_own s1 1 (.int .i64 x1) #[.int .i64 x0, .int .i64 x1, .slice none 0 0] rfl
  have s3 := heap_own s2 2 (.slice ad n cap) [.int .i64 x0, .int .i64 x1, .slice ad n cap].toArray rfl

  have r0 : Tryz.f105.results = #[.cell 2 66] := rfl
  have ra : tAg Tryz.prog 66 = some true := by kernel_rfl
  have rz : tSz Tryz.prog 66 = some 3 := by kernel_rfl
  have hbf := (((hb.setCell (p := ⟨w.heap.size, 2, none⟩) (by simp) (.slice ad n cap)).setCell (p := ⟨w.heap.size + 1, 0, none⟩) (by simp) (.int .i64 x0)).setCell (p := ⟨w.heap.size + 1, 1, none⟩) (by simp) (.int .i64 x1)).setCell (p := ⟨w.heap.size + 1, 2, none⟩) (by simp) (.slice ad n cap)
  have hvf := ((((hv.set ⟨w.heap.size, 2, none⟩ (.slice ad n cap) (by simp)).set ⟨w.heap.size + 1, 0, none⟩ (.int .i64 x0) (by simp)).set ⟨w.heap.size + 1, 1, none⟩ (.int .i64 x1) (by simp)).set ⟨w.heap.size + 1, 2, none⟩ (.slice ad n cap) (by simp)).mono (show w.heap.size ≤ w.heap.size + 2 by omega)
  generalize ((((w1.setCell ⟨w.heap.size, 2, none⟩ (.slice ad n cap)).setCell ⟨w.heap.size + 1, 0, none⟩ (.int .i64 x0)).setCell ⟨w.heap.size + 1, 1, none⟩ (.int .i64 x1)).setCell ⟨w.heap.size + 1, 2, none⟩ (.slice ad n cap)) = wf at s3 hbf hvf ⊢
  refine bodyPost_ret (results_box (cs := [.int .i64 x0, .int .i64 x1, .slice ad n cap]) r0 rfl ra rz s3) rfl ?_
  exact ⟨_, rfl, hbf, hvf⟩
end GoForm
end

section
/- body.Clone: its fixtures and their vertices are its own. No conditions. -/
set_option linter.all false
set_option maxRecDepth 100000
open Go Go.Rx Go.Proofs Go.RowKit
namespace GoForm
/-- Such a row lies elsewhere. -/
def Off (h : Value) (n : Nat) (row : Option Nat) : Prop := n = 0 ∨ ∀ g cap, h = .slice (some ⟨g, 0, none⟩) n cap → some g ≠ row
/-- A body in memory of one's own from B on. -/
structure FOw (B : Nat) (w : World) (fs : List Fixture) (hF : Value) (hs : List Value) : Prop where
  row : w.ownsRow B 68 10 hF fs.length (fixsC fs hs)
  len : fs.length = hs.length
  vs : ∀ (k : Nat) (f : Fixture) (h : Value), fs[k]? = some f → hs[k]? = some h → VOw B w h f.Shape.Vertices.length (vecsC f.Shape.Vertices) ∧ Off h f.Shape.Vertices.length hF.ownBlock ∧ h.oneCell' = true
theorem VOw.kept {B w h n xs w' row} (v : VOw B w h n xs) (hx : n = 0 → xs = []) (ho : Off h n row) (hg : w.grownBy w' row) : VOw B w' h n xs := by
  by_cases h0 : n = 0
  · subst h0
    obtain ⟨ad, cap, e, e'⟩ : ∃ ad cap, h = .slice ad 0 cap ∧ (ad = none → cap = 0) := by
      rcases v with ⟨-, -, ad, cap, e⟩ | ⟨g, cap, cur, T, e, -⟩
      · exact ⟨_, _, e⟩
      · exact ⟨_, _, e, fun h => by cases h⟩
    exact .inl ⟨rfl, hx rfl, ad, cap, e, e'⟩
  · rcases v with ⟨e, -⟩ | ⟨g, cap, cur, T, h1, h2, h3, h4, h5⟩
    · exact absurd e h0
    · have hne : some g ≠ row := by
        rcases ho with e | e
        · exact absurd e h0
        · exact e g cap h1
      exact .inr ⟨g, cap, cur, T, h1, h2, Nat.lt_of_lt_of_le h3 hg.size, (hg.block g h3 hne).trans h4, h5⟩
theorem below_grown {w w' : World} (h : Below w.heap.size w w') : w.grownBy w' none := ⟨h.os, h.tape, h.output, h.size, fun k hk _ => h.block k hk⟩
theorem VOw.below {B w h n xs w'} (v : VOw B w h n xs) (hb : Below w.heap.size w w') : VOw B w' h n xs := by
  rcases v with v | ⟨g, cap, cur, T, h1, h2, h3, h4, h5⟩
  · exact .inl v
  · exact .inr ⟨g, cap, cur, T, h1, h2, Nat.lt_of_lt_of_le h3 hb.size, (hb.block g h3).trans h4, h5⟩
theorem vecsC_nil {l : List Vec} (h : l.length = 0) : vecsC l = [] := by
  have : l = [] := List.length_eq_zero_iff.1 h
  subst this; rfl
theorem FOw.below {B w fs hF hs w'} (h : FOw B w fs hF hs) (hb : Below w.heap.size w w') : FOw B w' fs hF hs :=
  ⟨h.row.kept (below_grown hb) (by cases hF.ownBlock <;> simp), h.len, fun k f x e1 e2 => ⟨(h.vs k f x e1 e2).1.below hb, (h.vs k f x e1 e2).2⟩⟩
section
variable {P : Program} {w : World}
theorem append_block (base : Nat) (t ty e : TypeId) (i : TypeInfo) (z : Value) (size bytes : Nat) (ht : P.underlying t = some (.slice e)) (hi : P.info? e = some i) (hz : i.zero = some z)
    (hsize : i.size = size) (hby : i.bytes = bytes)
    (v : Value) (n : Nat) (xs : List Value) (hown : w.ownsRow base e size v n xs)
    (a : Addr) (m c : Nat) (news : List Value) (hl : news.length = m * size) (hnews : ∀ j u, news[j]? = some u → w.cell? (a.add j) = some u) (h1 : ∀ u ∈ news, u.oneCell' = true)
    (h63 : n + m ≤ maxLen) (hbytes : (n + m) * bytes ≤ 140737488355328) (hm : 0 < m) (v' : Value) (w' : World)
    (hr : (Builtin.append_ #[t, t] ty #[v, .slice (some a) m c]).run P w = .ok v' w') : v'.ownBlock = v.ownBlock ∨ v'.ownBlock = some w.heap.size := by
  subst hsize
  subst hby
  simp only [maxLen] at h63
  rcases hown.2 with ⟨rfl, rfl⟩ | ⟨g, cap, cur, rfl, hbg, hg, hnc, hcm, hcs, htake⟩
  · have h := run_append_nil (P := P) w t ty e i z ht hi hz a m c news hl hnews hm (by omega) (by have hb := hbytes; simp only [Nat.zero_add] at hb; omega)
    rw [hr] at h
    cases h
    exact .inr rfl
  · by_cases hroom : n + m ≤ cap
    · have hfit : n * i.size + news.length ≤ cur.size := by rw [hl, hcs, ← Nat.add_mul]; exact Nat.mul_le_mul_right _ hroom
      have h := run_append_room (P := P) w t ty e i ht hi g n cap cur hg a m c news hl hnews h1 hroom hfit
      rw [hr] at h
      cases h
      exact .inl rfl
    · have holds : ∀ j u, xs[j]? = some u → w.cell? ((⟨g, 0, none⟩ : Addr).add j) = some u := hown.cells (g := g) rfl
      have h := run_append_grow (P := P) w t ty e i z ht hi hz ⟨g, 0, none⟩ n cap xs hown.1 holds a m c news hl hnews (by omega) (by omega) (growslice_fits (by omega) hbytes)
      rw [hr] at h
      cases h
      exact .inr rfl
theorem wpList_append_two {ops : Array Oper} {rest : List Oper} {o : Oper} {a : Act} {Q : Exit → Act → World → Prop} (hgd : o.guard = none) (s x : Operand) (t : TypeId)
    (ho : o.op = .call { callee := .builtin .append, args := #[s, x], argTypes := #[t, t] })
    (base : Nat) (e : TypeId) (i : TypeInfo) (z : Value) (size bytes : Nat) (ht : P.underlying t = some (.slice e)) (hi : P.info? e = some i) (hz : i.zero = some z)
    (hsize : i.size = size) (hby : i.bytes = bytes) (hzs : z.cells.size = size) (hsz : 0 < size)
    (v : Value) (n : Nat) (xs : List Value) (hs : a.eval s = v) (hown : w.ownsRow base e size v n xs)
    (ad : Addr) (m c : Nat) (news : List Value) (hx : a.eval x = .slice (some ad) m c) (hl : news.length = m * size) (hnews : ∀ j u, news[j]? = some u → w.cell? (ad.add j) = some u) (h1 : ∀ u ∈ news, u.oneCell' = true)
    (h63 : n + m ≤ maxLen) (hbytes : (n + m) * bytes ≤ 140737488355328) (hbase : base ≤ w.heap.size) (hm : 0 < m)
    (h : ∀ v' w', w'.ownsRow base e size v' (n + m) (xs ++ news) → w.grownBy w' v.ownBlock → (v'.ownBlock = v.ownBlock ∨ v'.ownBlock = some w.heap.size) → wpList P ops Q rest (a.put o.dst v') w') : wpList P ops Q (o :: rest) a w :=
  wpList_plain hgd fun K hK => by
    obtain ⟨v', w', hr, h2, h3, -⟩ := run_append_own (P := P) w base t o.type e i z size bytes ht hi hz hsize hby hzs hsz v n xs hown ad m c news hl hnews h1 h63 hbytes hbase
    have hb := append_block (P := P) (w := w) base t o.type e i z size bytes ht hi hz hsize hby v n xs hown ad m c news hl hnews h1 h63 hbytes hm v' w' hr
    unfold Oper.wp execOp
    simp only [ho, resolve, invoke, builtin, Sem.run_bind, Sem.run_pure, Result.andThen_ok, List.map_toArray, List.map_cons, List.map_nil, hs, hx, hr]
    exact hK _ _ (h v' w' h2 h3 hb)
end
structure LInv (w : World) (b : Body) (hdr : Value) (i : Nat) (hs : List Value) (hF : Value) (wr : World) : Prop where
  below : Below w.heap.size w wr
  box1 : wr.heap[w.heap.size]? = some (.cells (bodC b hdr).toArray 30 (0, 0))
  box2 : wr.heap[w.heap.size + 1]? = some (.cells #[.int .i64 0, .int .i64 0, .int .i64 0, .int .i64 0, .int .i64 0, .int .i64 0, .int .i64 0, .int .i64 0, .int .i64 0, .int .i64 0, .int .i64 0, .int .i64 0, .int .i64 0, .int .i64 0, .bool false, .bool false, .bool false, .bool false, .int .i64 0, .slice none 0 0] 30 (0, 0))
  size : w.heap.size + 2 ≤ wr.heap.size
  own : FOw (w.heap.size + 2) wr (b.Fixtures.take i) hF hs
theorem VOw.off {B w h n xs row} (v : VOw B w h n xs) (hr : ∀ g, B ≤ g → g < w.heap.size → some g ≠ row) : Off h n row := by
  rcases v with ⟨e, -⟩ | ⟨g, cap, cur, T, h1, h2, h3, h4, h5⟩
  · exact .inl e
  · refine .inr fun g' cap' e => ?_
    rw [h1] at e
    cases e
    exact hr _ h2 h3
theorem Off.both {h n r1 r2 r3} {B w xs} (v : VOw B w h n xs) (o : Off h n r1) (e : r2 = r1 ∨ r2 = some r3) (hr : w.heap.size ≤ r3) : Off h n r2 := by
  rcases e with e | e
  · rw [e]; exact o
  · rw [e]
    exact v.off fun g _ h2 h3 => by have := Option.some.inj h3; omega
theorem LInv.step {w : World} {b : Body} {hdr : Value} {i : Nat} {hs : List Value} {u3 : Value} {wr w1 w2 : World} {f : Fixture} {h v1 : Value} (S : LInv w b hdr i hs u3 wr) (hf : b.Fixtures[i]? = some f) (hb1 : Below wr.heap.size wr w1)
    (hv : VOw (wr.heap.size + 1) w1 h f.Shape.Vertices.length (vecsC f.Shape.Vertices)) (oh : h.oneCell' = true)
    (hown : w2.ownsRow (w.heap.size + 2) 68 10 v1 ((b.Fixtures.take i).length + 1) (fixsC (b.Fixtures.take i) hs ++ fixC f h)) (hg : w1.grownBy w2 u3.ownBlock) (hblk : v1.ownBlock = u3.ownBlock ∨ v1.ownBlock = some w1.heap.size) :
    LInv w b hdr (i + 1) (hs ++ [h]) v1 w2 := by
  have hlt : i < b.Fixtures.length := (List.getElem?_eq_some_iff.1 hf).1
  have hrow := S.own.row.lt
  have hsz := S.size
  have hbs := hb1.size
  have ht : b.Fixtures.take (i + 1) = b.Fixtures.take i ++ [f] := by
    rw [List.take_succ, hf]; rfl
  have hne : ∀ k, k < w.heap.size + 2 → some k ≠ u3.ownBlock := fun k hk e => by
    have := hrow k e.symm
    omega
  have hB : Below w.heap.size w w1 := S.below.trans (hb1.mono (by omega))
  refine ⟨hB.grown hg (by omega) (fun k e => by have := (hrow k e).1; omega), ?_, ?_, ?_, ?_⟩
  · rw [hg.block _ (by omega) (hne _ (by omega)), hb1.block _ (by omega)]; exact S.box1
  · rw [hg.block _ (by omega) (hne _ (by omega)), hb1.block _ (by omega)]; exact S.box2
  · have := hg.size; omega
  · rw [ht]
    refine ⟨?_, by have := S.own.len; simp only [List.length_append, this]; rfl, ?_⟩
    · rw [fixsC_snoc _ _ _ _ S.own.len, List.length_append]; exact hown
    · intro k f' x e1 e2
      have hl : (b.Fixtures.take i).length = i := by rw [List.length_take]; omega
      have hl2 : hs.length = i := by rw [← S.own.len]; exact hl
      by_cases hk : k < i
      · rw [List.getElem?_append_left (by omega)] at e1 e2
        obtain ⟨q1, q2, q3⟩ := S.own.vs k f' x e1 e2
        refine ⟨(q1.below hb1).kept vecsC_nil q2 hg, Off.both q1 q2 hblk hbs, q3⟩
      · rw [List.getElem?_append_right (by omega), hl] at e1
        rw [List.getElem?_append_right (by omega), hl2] at e2
        obtain ⟨j, hj⟩ : ∃ j, j = k - i := ⟨_, rfl⟩
        rw [← hj] at e1 e2
        have h0 : j = 0 := by
          have := (List.getElem?_eq_some_iff.1 e1).1
          simp only [List.length_singleton] at this; omega
        subst h0
        have e1 : f = f' := Option.some.inj e1
        have e2 : h = x := Option.some.inj e2
        subst e1
        subst e2
        have o1 : Off h f.Shape.Vertices.length u3.ownBlock := hv.off fun g h1 h2 e => by have := (hrow g e.symm).2; omega
        exact ⟨(hv.kept vecsC_nil o1 hg).mono (by omega), Off.both hv o1 hblk (Nat.le_refl _), oh⟩
theorem cells_new (w : World) (cs : List Value) (T : TypeId) (b : Nat) (hb : b = w.heap.size) (j : Nat) (u : Value) (e : cs[j]? = some u) : (w.alloc (.cells cs.toArray T)).cell? ((⟨b, 0, none⟩ : Addr).add j) = some u := by
  rw [addr_add, Nat.zero_add]
  exact box_cell (heap_at w _ b hb) j (by simpa using e)
theorem own_set {B : Nat} {w : World} {fs hF hs} (h : FOw B w fs hF hs) (a : Addr) (x : Value) (ha : a.block < B) : FOw B (w.setCell a x) fs hF hs :=
  ⟨(show w.grownBy (w.setCell a x) (some a.block) from ⟨rfl, rfl, rfl, by rw [size_set]; exact Nat.le_refl _, fun k _ hk => heap_set _ _ _ _ (fun e => hk (by rw [e]))⟩) |> fun g => h.row.kept g (by
      cases e : hF.ownBlock with
      | none => exact .inl rfl
      | some k => refine .inr fun e2 => ?_; have := (h.row.lt k e).1; have := Option.some.inj e2; omega), h.len, fun k f y e1 e2 => ⟨(h.vs k f y e1 e2).1.set a x ha, (h.vs k f y e1 e2).2⟩⟩
theorem row_mono {w : World} {base base' : Nat} {e : TypeId} {size : Nat} {v : Value} {n : Nat} {xs : List Value} (h : w.ownsRow base e size v n xs) (hb : base' ≤ base) : w.ownsRow base' e size v n xs := by
  obtain ⟨h1, h2 | ⟨g, cap, cur, q1, q2, q3⟩⟩ := h
  · exact ⟨h1, .inl h2⟩
  · exact ⟨h1, .inr ⟨g, cap, cur, q1, Nat.le_trans hb q2, q3⟩⟩
theorem own_mono {B B' : Nat} {w : World} {fs hF hs} (h : FOw B w fs hF hs) (hb : B' ≤ B) : FOw B' w fs hF hs :=
  ⟨row_mono h.row hb, h.len, fun k f y e1 e2 => ⟨(h.vs k f y e1 e2).1.mono hb, (h.vs k f y e1 e2).2⟩⟩
theorem wpList_copybox {P : Program} {ops : Array Oper} {Q : Exit → Act → World → Prop} {o1 o2 : Oper} {a : Act} {w : World} {ty : TypeId} {y z t : Operand} {d : Nat} {b1 b2 : Nat} {cs : List Value} {c0 : Array Value} {T1 T2 : TypeId}
    (g1 : o1.guard = none) (g2 : o2.guard = none) (e1 : o1.op = .load ty y) (d1 : o1.dst = some d) (e2 : o2.op = .store ty t z) (d2 : o2.dst = none)
    (hy : a.eval y = .pointer (some ⟨b1, 0, none⟩)) (ht : (a.put (some d) (.agg cs.toArray)).eval t = .pointer (some ⟨b2, 0, none⟩)) (hz : (a.put (some d) (.agg cs.toArray)).eval z = .agg cs.toArray)
    (ha : tAg P ty = some true) (hs : tSz P ty = some cs.length) (hb1 : w.heap[b1]? = some (.cells cs.toArray T1 (0, 0))) (hb2 : w.heap[b2]? = some (.cells c0 T2 (0, 0))) (hl : c0.size = cs.length) (h1 : ∀ c ∈ cs, c.oneCell' = true)
    (h : ∀ w', w'.heap[b2]? = some (.cells cs.toArray T2 (0, 0)) → w.grownBy w' (some b2) → Q .normal (a.put (some d) (.agg cs.toArray)) w') : wpList P ops Q [o1, o2] a w := by
  have hld := run_loadVar_agg (P := P) (ty := ty) (w := w) (b := b1) (o := 0) (cs := cs) ha hs (fun j v e => by rw [Nat.zero_add]; exact box_cell hb1 j (by simpa using e))
  have hst := run_storeCells_at P b2 0 T2 cs 0 c0 w hb2 (by omega) h1
  have hnil : c0.toList.drop cs.length = [] := List.drop_eq_nil_of_le (by simp [hl])
  simp only [Nat.add_zero, Nat.zero_add, List.take_zero, List.nil_append, hnil, List.append_nil] at hst
  refine wpList_plain g1 fun K hK => ?_
  have r1 : (execOp a.eval o1).run P w = .ok (.value (.agg cs.toArray)) w := by simp [execOp, e1, hy, Instr.loadAt, Instr.sureAddr, hld]
  unfold Oper.wp
  rw [r1, Oper.upon_value, d1]
  refine hK _ _ (wpList_plain g2 fun K2 hK2 => ?_)
  have r2 : (execOp (a.put (some d) (.agg cs.toArray)).eval o2).run P w = .ok .skip (w.setRow b2 cs.toArray) := by
    have e : (Value.agg cs.toArray).cells.size = cs.length := by simp [Value.cells]
    have hst : Sem.run P (storeCells ⟨b2, 0, none⟩ cs) w = Result.ok () (w.setRow b2 cs.toArray) := hst
    simp [execOp, e2, ht, hz, Instr.storeAt, Instr.sureAddr, storeVar, run_sizeOf_of hs, Value.cells, hst]
  unfold Oper.wp
  rw [r2, Oper.upon_skip]
  refine hK2 _ _ ?_
  show Q .normal ((a.put (some d) (.agg cs.toArray)).put o2.dst undef) _
  rw [d2]
  exact h _ (setRow_heap w b2 c0 cs.toArray T2 (0, 0) hb2) ⟨rfl, rfl, rfl, by simp, fun k _ hk => setRow_other w b2 k _ (fun e => hk (by rw [e]))⟩
theorem own_grown {B : Nat} {w w' : World} {fs hF hs row} (h : FOw B w fs hF hs) (hg : w.grownBy w' row) (hr : ∀ g, B ≤ g → some g ≠ row) : FOw B w' fs hF hs :=
  ⟨World.ownsRow.kept h.row hg (by
      cases e : hF.ownBlock with
      | none => exact .inl rfl
      | some k => exact .inr (hr k (h.row.lt k e).1)), h.len, fun k f y e1 e2 => ⟨(h.vs k f y e1 e2).1.kept vecsC_nil ((h.vs k f y e1 e2).1.off fun g h2 _ => hr g h2) hg, (h.vs k f y e1 e2).2⟩⟩
theorem bodC_one {b x} (hx : oneCell x = true) : ∀ c ∈ bodC b x, oneCell c = true := by
  intro c hc
  simp [bodC] at hc
  rcases hc with rfl | rfl | rfl | rfl | rfl | rfl | rfl | rfl | rfl | rfl | rfl | rfl | rfl | rfl | rfl | rfl | rfl | rfl | rfl | rfl <;> first | rfl | exact hx
def Few2 (b : List Fixture) : Prop := b.length ≤ 1000000 ∧ ∀ f ∈ b, f.Shape.Vertices.length ≤ 1099511627776
theorem rep_slice {m bl c sz l x} (h : Rep m bl (.sl c sz l) x) : ∃ a n k, x = .slice a n k := by
  cases h <;> exact ⟨_, _, _, rfl⟩
set_option maxHeartbeats 8000000 in
theorem body_fresh (b : Body) (h40 : Few2 b.Fixtures) (m : Mem) (v : Value) (w : World) (hi : Imm m w) (hr : Rep m noNames (e_Body b) v) :
    Calls Tryz.prog 49 #[v] w fun e w' => ∃ hF hs, e = .returned (.agg (bodC b hF).toArray) ∧ Below w.heap.size w w' ∧ FOw w.heap.size w' b.Fixtures hF hs := by
  obtain ⟨x, rfl, hx, ox⟩ := repBody hr
  obtain ⟨ad, cap, rfl, hx2⟩ := repFixs hx
  obtain ⟨n, hn⟩ : ∃ n, b.Fixtures.length = n := ⟨_, rfl⟩
  have e105 := Tryz.call105
  unfold bodC
  rw [hn]
  obtain ⟨i0, hi0, hz0, hz1, hz2⟩ := info_parts (P := Tryz.prog) (e := 68) (z := .agg #[.int .i64 0, .int .i64 0, .slice none 0 0, .int .i64 0, .int .i64 0, .int .i64 0, .bool false, .int .i64 0, .int .i64 0, .int .i64 0]) (size := 10) (bytes := 96) (by kernel_rfl)
  have z68 := Tryz.sizeOf68
  have a68 := Tryz.isAgg68
  obtain ⟨L0, hL0⟩ : ∃ L0, L0 = LInv w b (.slice ad n cap) := ⟨_, rfl⟩
  go_enter Tryz.func49, Tryz.ntmps49
  go_wp2
  go_loopg [3, 9] n (fun kx s3 s9 wr => ∃ (i : Nat) (hs : List Value), s9 = .int .i64 i ∧ i ≤ n ∧ n - i ≤ kx ∧ Aside (L0 i hs s3 wr))
  case atStart =>
    subst hL0
    refine ⟨0, [], rfl, Nat.zero_le _, Nat.le_refl _, (⟨((Below.refl _ _).alloc (Nat.le_refl _) _).alloc (by simp) _, ?_, ?_, by simp, ⟨by exact World.ownsRow_nil _ _ _ _, rfl, fun k f h e => by simp at e⟩⟩ : LInv w b _ 0 [] (.slice none 0 0) _)⟩
    · rw [heap_past _ _ _ (by simp), heap_at _ _ _ rfl]; rfl
    · rw [heap_at _ _ _ (by simp)]
  case round =>
    obtain ⟨i, hs, rfl, hin, hkx, S⟩ := hrel
    by_cases hlt : (i : Int) < n
    · obtain ⟨blk, off, hxs, rfl, hxl, hxm, hx1, hxv⟩ := hx2 (by omega)
      have hi1 : i < b.Fixtures.length := by omega
      obtain ⟨f, hf⟩ : ∃ f, b.Fixtures[i]? = some f := ⟨_, List.getElem?_eq_getElem hi1⟩
      obtain ⟨x, hxi⟩ : ∃ x, hxs[i]? = some x := ⟨_, List.getElem?_eq_getElem (by omega)⟩
      have hV := hxv i f x hf hxi
      obtain ⟨xa, xn, xc, rfl⟩ : ∃ xa xn xc, x = .slice xa xn xc := by
        rw [e_slV] at hV; exact rep_slice hV
      subst hL0
      have hb := S.out.below
      have himr := hi.below hb
      have hc : ∀ (j : Nat) (v : Value), (fixC f (.slice xa xn xc))[j]? = some v → wr.cell? ⟨blk, off + i * 10 + j, none⟩ = some v := fun j v e => by
        have hj : j < 10 := (List.getElem?_eq_some_iff.1 e).1
        have := hxm (i * 10 + j) v (by rw [fixsC_get _ _ i j f _ hf hxi hj]; exact e)
        exact himr _ _ _ (by rw [Nat.add_assoc]; exact this)
      have c0 : wr.cell? ⟨blk, off + i * 10, none⟩ = some (.int .i64 f.Shape.Kind) := hc 0 _ rfl
      have c1 := hc 1 _ rfl
      have c2 := hc 2 _ rfl
      have c3 := hc 3 _ rfl
      have c4 := hc 4 _ rfl
      have c5 := hc 5 _ rfl
      have c6 := hc 6 _ rfl
      have c7 := hc 7 _ rfl
      have c8 := hc 8 _ rfl
      have c9 := hc 9 _ rfl
      have hnb : n ≤ 1000000 := hn ▸ h40.1
      have wi : IntKind.i64.wrap ((i : Int) + 1) = ((i + 1 : Nat) : Int) := by rw [IntKind.wrap_i64]; omega
      have ti : ((i : Int)).toNat = i := by omega
      have pi : (0 : Int) ≤ (i : Int) := by omega
      obtain ⟨W, hW⟩ : ∃ W, W = wr.heap.size := ⟨_, rfl⟩
      have HX : Hid (W = wr.heap.size ∧ ∀ (k : Nat) (f : Fixture) (x : Value), b.Fixtures[k]? = some f → hxs[k]? = some x → Rep m noNames (e_sl_Vec f.Shape.Vertices) x) := ⟨hW, hxv⟩
      have HI : Hid (Tryz.prog.info? 68 = some i0 ∧ i0.zero = some (.agg #[.int .i64 0, .int .i64 0, .slice none 0 0, .int .i64 0, .int .i64 0, .int .i64 0, .bool false, .int .i64 0, .int .i64 0, .int .i64 0]) ∧ i0.size = 10 ∧ i0.bytes = 96) := ⟨hi0, hz0, hz1, hz2⟩
      have HF : Hid (b.Fixtures[i]? = some f) := hf
      have hlen0 : Hid ((b.Fixtures.take i).length = i) := by show _ = _; rw [List.length_take]; omega
      clear hc hW hxv hxm hx1 hxl hx2 hr hx ox hi0 hz0 hz1 hz2 hxi
      have hvl : f.Shape.Vertices.length ≤ 1099511627776 := h40.2 f (List.mem_of_getElem? hf)
      have key : ∀ w2 : World, w2 = wr.alloc (.cells #[.int .i64 f.Shape.Kind, .int .i64 f.Shape.Radius, .slice xa xn xc, .int .i64 f.Density, .int .i64 f.Friction, .int .i64 f.Restitution, .bool f.Sensor, .int .i64 f.Category, .int .i64 f.Mask, .int .i64 f.Group] 68) → Calls Tryz.prog 105 #[.agg #[.int .i64 f.Shape.Kind, .int .i64 f.Shape.Radius, .slice xa xn xc]] w2 fun e w' => ∃ ha hn hc, e = .returned (.agg #[.int .i64 f.Shape.Kind, .int .i64 f.Shape.Radius, .slice ha hn hc]) ∧ Below wr.heap.size wr w' ∧ w'.heap[wr.heap.size]? = some (.cells #[.int .i64 f.Shape.Kind, .int .i64 f.Shape.Radius, .slice xa xn xc, .int .i64 f.Density, .int .i64 f.Friction, .int .i64 f.Restitution, .bool f.Sensor, .int .i64 f.Category, .int .i64 f.Mask, .int .i64 f.Group] 68 (0, 0)) ∧ VOw (wr.heap.size + 1) w' (.slice ha hn hc) f.Shape.Vertices.length (vecsC f.Shape.Vertices) := by
        intro w2 hw2
        have hb2 : Below wr.heap.size wr w2 := by rw [hw2]; exact (Below.refl _ _).alloc (Nat.le_refl _) _
        have hs2 : w2.heap.size = wr.heap.size + 1 := by rw [hw2]; simp
        refine (shape_fresh f.Shape.Vertices hvl m _ _ _ w2 (hi.below (hb.trans (hb2.mono (by have := S.out.size; omega)))) hV).mono ?_
        rintro e w1 ⟨h, rfl, hbb, hv⟩
        rw [hs2] at hv
        obtain ⟨ha, hn, hc, rfl⟩ : ∃ ha hn hc, h = .slice ha hn hc := by
          rcases hv with ⟨-, -, ad, cap, rfl, -⟩ | ⟨g, cap, cur, T, rfl, -⟩ <;> exact ⟨_, _, _, rfl⟩
        refine ⟨ha, hn, hc, rfl, hb2.trans (hbb.mono (by omega)), ?_, hv⟩
        rw [hbb.block _ (by omega), hw2, heap_at _ _ _ rfl]
      clear hV
      go_wp2_with (first
        | (go_at_call 105; refine (key _ rfl).mono ?_; rintro _ w1 ⟨ha, hn, hc, rfl, hb1, x1, hv⟩; have g0 := box_cell x1 0 rfl; have g1 := box_cell x1 1 rfl; have g2 := box_cell x1 2 rfl; have g3 := box_cell x1 3 rfl; have g4 := box_cell x1 4 rfl; have g5 := box_cell x1 5 rfl; have g6 := box_cell x1 6 rfl; have g7 := box_cell x1 7 rfl; have g8 := box_cell x1 8 rfl; have g9 := box_cell x1 9 rfl; have z0 := box_free x1 0; have z1 := box_free x1 1; have z2 := box_free x1 2; clear key)
        | (at_builtin; refine wpList_append_two rfl (.tmp 17) (.tmp 19) 28 rfl (w.heap.size + 2) 68 i0 (.agg #[.int .i64 0, .int .i64 0, .slice none 0 0, .int .i64 0, .int .i64 0, .int .i64 0, .bool false, .int .i64 0, .int .i64 0, .int .i64 0]) 10 96 Tryz.underlying28 HI.out.1 HI.out.2.1 HI.out.2.2.1 HI.out.2.2.2 rfl (by decide) _ _ _ rfl (S.out.own.below ((((hb1.setCell (p := ⟨wr.heap.size, 0, none⟩) (Nat.le_refl _) _).setCell (p := ⟨wr.heap.size, 1, none⟩) (Nat.le_refl _) _).setCell (p := ⟨wr.heap.size, 2, none⟩) (Nat.le_refl _) _).alloc (by have := hb1.size; simp; omega) _)).row ⟨w1.heap.size, 0, none⟩ 1 1 (fixC f (.slice ha hn hc)) rfl rfl (cells_new _ (fixC f (.slice ha hn hc)) 68 _ (by simp)) (fixC_one rfl) (by rw [hlen0.out]; simp only [maxLen]; omega) (by rw [hlen0.out]; omega) (by have := S.out.size; have := hb1.size; simp; omega) (by decide) ?_
           intro v1 w2 hown2 hgrow2 hblk2
           have S2 : Aside (LInv w b (.slice (some ⟨blk, off, none⟩) n cap) (i + 1) (hs ++ [.slice ha hn hc]) v1 w2) := S.out.step HF.out ((((hb1.setCell (p := ⟨wr.heap.size, 0, none⟩) (Nat.le_refl _) _).setCell (p := ⟨wr.heap.size, 1, none⟩) (Nat.le_refl _) _).setCell (p := ⟨wr.heap.size, 2, none⟩) (Nat.le_refl _) _).alloc (by have := hb1.size; simp; omega) _) ((((hv.set ⟨wr.heap.size, 0, none⟩ _ (Nat.lt_succ_self _)).set ⟨wr.heap.size, 1, none⟩ _ (Nat.lt_succ_self _)).set ⟨wr.heap.size, 2, none⟩ _ (Nat.lt_succ_self _)).below ((Below.refl _ _).alloc (Nat.le_refl _) _)) rfl hown2 hgrow2 hblk2
           clear hown2 hgrow2 hblk2 g0 g1 g2 g3 g4 g5 g6 g7 g8 g9 z0 z1 z2 x1 hv hb1))
      go_roundg (n - (i + 1))
      case measure => omega
      case rel => exact ⟨i + 1, _, by simp, by omega, by omega, S2⟩
    · have hin' : i = n := by omega
      subst hin'
      subst hL0
      have hfull : b.Fixtures.take i = b.Fixtures := by rw [← hn]; exact List.take_length
      have S1 := S.out
      have hsz := S1.size
      have own : FOw (w.heap.size + 2) wr b.Fixtures u3 hs := hfull ▸ S1.own
      obtain ⟨ua, un, uc, rfl⟩ : ∃ ua un uc, u3 = .slice ua un uc := by
        rcases own.row.2 with ⟨e, -⟩ | ⟨g, cap, cur, e, -⟩ <;> exact ⟨_, _, _, e⟩
      have x1 := S1.box1
      have x2 := S1.box2
      have hb := S1.below
      have p0 : wr.cell? ⟨w.heap.size, 0, none⟩ = some (.int .i64 b.ID) := box_cell x1 0 rfl
      have p1 : wr.cell? ⟨w.heap.size, 1, none⟩ = some (.int .i64 b.Kind) := box_cell x1 1 rfl
      have p2 : wr.cell? ⟨w.heap.size, 2, none⟩ = some (.int .i64 b.Transform.Position.X) := box_cell x1 2 rfl
      have p3 : wr.cell? ⟨w.heap.size, 3, none⟩ = some (.int .i64 b.Transform.Position.Y) := box_cell x1 3 rfl
      have p4 : wr.cell? ⟨w.heap.size, 4, none⟩ = some (.int .i64 b.Transform.Angle) := box_cell x1 4 rfl
      have p5 : wr.cell? ⟨w.heap.size, 5, none⟩ = some (.int .i64 b.Velocity.X) := box_cell x1 5 rfl
      have p6 : wr.cell? ⟨w.heap.size, 6, none⟩ = some (.int .i64 b.Velocity.Y) := box_cell x1 6 rfl
      have p7 : wr.cell? ⟨w.heap.size, 7, none⟩ = some (.int .i64 b.AngularVelocity) := box_cell x1 7 rfl
      have p8 : wr.cell? ⟨w.heap.size, 8, none⟩ = some (.int .i64 b.Force.X) := box_cell x1 8 rfl
      have p9 : wr.cell? ⟨w.heap.size, 9, none⟩ = some (.int .i64 b.Force.Y) := box_cell x1 9 rfl
      have p10 : wr.cell? ⟨w.heap.size, 10, none⟩ = some (.int .i64 b.Torque) := box_cell x1 10 rfl
      have p11 : wr.cell? ⟨w.heap.size, 11, none⟩ = some (.int .i64 b.LinearDamping) := box_cell x1 11 rfl
      have p12 : wr.cell? ⟨w.heap.size, 12, none⟩ = some (.int .i64 b.AngularDamping) := box_cell x1 12 rfl
      have p13 : wr.cell? ⟨w.heap.size, 13, none⟩ = some (.int .i64 b.GravityScale) := box_cell x1 13 rfl
      have p14 : wr.cell? ⟨w.heap.size, 14, none⟩ = some (.bool b.Bullet) := box_cell x1 14 rfl
      have p15 : wr.cell? ⟨w.heap.size, 15, none⟩ = some (.bool b.FixedRotation) := box_cell x1 15 rfl
      have p16 : wr.cell? ⟨w.heap.size, 16, none⟩ = some (.bool b.NoSleep) := box_cell x1 16 rfl
      have p17 : wr.cell? ⟨w.heap.size, 17, none⟩ = some (.bool b.Asleep) := box_cell x1 17 rfl
      have p18 : wr.cell? ⟨w.heap.size, 18, none⟩ = some (.int .i64 b.IdleSteps) := box_cell x1 18 rfl
      have p19 : wr.cell? ⟨w.heap.size, 19, none⟩ = some (.slice ad i cap) := box_cell x1 19 rfl
      have q19 := box_free x1 19
      have e1 : (wr.setCell ⟨w.heap.size, 19, none⟩ (.slice ua un uc)).heap[w.heap.size]? = some (.cells [(.int .i64 b.ID), (.int .i64 b.Kind), (.int .i64 b.Transform.Position.X), (.int .i64 b.Transform.Position.Y), (.int .i64 b.Transform.Angle), (.int .i64 b.Velocity.X), (.int .i64 b.Velocity.Y), (.int .i64 b.AngularVelocity), (.int .i64 b.Force.X), (.int .i64 b.Force.Y), (.int .i64 b.Torque), (.int .i64 b.LinearDamping), (.int .i64 b.AngularDamping), (.int .i64 b.GravityScale), (.bool b.Bullet), (.bool b.FixedRotation), (.bool b.NoSleep), (.bool b.Asleep), (.int .i64 b.IdleSteps), .slice ua un uc].toArray 30 (0, 0)) := heap_own x1 19 _ _ rfl
      have e2 := (heap_set wr ⟨w.heap.size, 19, none⟩ (.slice ua un uc) (w.heap.size + 1) (by simp)).trans x2
      have B0 := hb.setCell (p := ⟨w.heap.size, 19, none⟩) (Nat.le_refl _) (.slice ua un uc)
      have O0 := own_set own ⟨w.heap.size, 19, none⟩ (.slice ua un uc) (by simp)
      have ra : tAg Tryz.prog 30 = some true := by kernel_rfl
      have rz : tSz Tryz.prog 30 = some 20 := by kernel_rfl
      have HB : Hid (_ ∧ _ ∧ _ ∧ _ ∧ _ ∧ _) := ⟨e1, e2, B0, O0, ra, rz⟩
      clear hb own x2 x1 S1 S hx2 hr hx ox hi0 hz0 hz1 hz2 hfull h40 e1 e2 B0 O0 ra rz
      go_wp2_with (refine wpList_copybox (cs := [(.int .i64 b.ID), (.int .i64 b.Kind), (.int .i64 b.Transform.Position.X), (.int .i64 b.Transform.Position.Y), (.int .i64 b.Transform.Angle), (.int .i64 b.Velocity.X), (.int .i64 b.Velocity.Y), (.int .i64 b.AngularVelocity), (.int .i64 b.Force.X), (.int .i64 b.Force.Y), (.int .i64 b.Torque), (.int .i64 b.LinearDamping), (.int .i64 b.AngularDamping), (.int .i64 b.GravityScale), (.bool b.Bullet), (.bool b.FixedRotation), (.bool b.NoSleep), (.bool b.Asleep), (.int .i64 b.IdleSteps), .slice ua un uc]) rfl rfl rfl rfl rfl rfl rfl rfl rfl HB.out.2.2.2.2.1 HB.out.2.2.2.2.2 HB.out.1 HB.out.2.1 rfl (bodC_one rfl) ?_; intro wf s20 hgf; have HG : Hid (_ ∧ _) := ⟨s20, hgf⟩; clear s20 hgf)
      have r0 : Tryz.f49.results = #[.cell 2 30] := rfl
      refine bodyPost_ret (results_box (cs := [(.int .i64 b.ID), (.int .i64 b.Kind), (.int .i64 b.Transform.Position.X), (.int .i64 b.Transform.Position.Y), (.int .i64 b.Transform.Angle), (.int .i64 b.Velocity.X), (.int .i64 b.Velocity.Y), (.int .i64 b.AngularVelocity), (.int .i64 b.Force.X), (.int .i64 b.Force.Y), (.int .i64 b.Torque), (.int .i64 b.LinearDamping), (.int .i64 b.AngularDamping), (.int .i64 b.GravityScale), (.bool b.Bullet), (.bool b.FixedRotation), (.bool b.NoSleep), (.bool b.Asleep), (.int .i64 b.IdleSteps), .slice ua un uc]) r0 rfl HB.out.2.2.2.2.1 HB.out.2.2.2.2.2 HG.out.1) rfl ?_
      have hgf := HG.out.2
      refine ⟨_, rfl, HB.out.2.2.1.grown hgf (by rw [size_set]; omega) (fun k e => by have := Option.some.inj e; omega), hs, ?_⟩
      have O := HB.out.2.2.2.1
      refine own_mono (own_grown O hgf ?_) (by omega)
      intro g hg; exact fun e => by have := Option.some.inj e; omega
end GoForm
end

section
/- input.Clone: the body's fixtures and their vertices are its own. No conditions. -/
set_option linter.all false
set_option maxRecDepth 100000
open Go Go.Rx Go.Proofs Go.RowKit
namespace GoForm
theorem wpList_loadat {P : Program} {ops : Array Oper} {rest : List Oper} {Q : Exit → Act → World → Prop} {o : Oper} {a : Act} {w : World} {ty : TypeId} {y : Operand} {d b off : Nat} {cs : List Value} {arr : Array Value} {T : TypeId} {fr : Nat × Nat}
    (g : o.guard = none) (e : o.op = .load ty y) (hd : o.dst = some d) (hy : a.eval y = .pointer (some ⟨b, off, none⟩)) (ha : tAg P ty = some true) (hs : tSz P ty = some cs.length)
    (hb : w.heap[b]? = some (.cells arr T fr)) (hc : ∀ j v, cs[j]? = some v → arr[off + j]? = some v) (h : wpList P ops Q rest (a.put (some d) (.agg cs.toArray)) w) : wpList P ops Q (o :: rest) a w := by
  have hld := run_loadVar_agg (P := P) (ty := ty) (w := w) (b := b) (o := off) (cs := cs) ha hs (fun j v e => by rw [cell_of_blk hb]; exact hc j v e)
  refine wpList_plain g fun K hK => ?_
  have r1 : (execOp a.eval o).run P w = .ok (.value (.agg cs.toArray)) w := by simp [execOp, e, hy, Instr.loadAt, Instr.sureAddr, hld]
  unfold Oper.wp
  rw [r1, Oper.upon_value, hd]
  exact hK _ _ h
theorem wpList_storeat {P : Program} {ops : Array Oper} {rest : List Oper} {Q : Exit → Act → World → Prop} {o : Oper} {a : Act} {w : World} {ty : TypeId} {t z : Operand} {b off : Nat} {cs arr : List Value} {T : TypeId}
    (g : o.guard = none) (e : o.op = .store ty t z) (hd : o.dst = none) (ht : a.eval t = .pointer (some ⟨b, off, none⟩)) (hz : a.eval z = .agg cs.toArray) (hs : tSz P ty = some cs.length)
    (hb : w.heap[b]? = some (.cells arr.toArray T (0, 0))) (hfit : off + cs.length ≤ arr.length) (h1 : ∀ c ∈ cs, c.oneCell' = true)
    (h : ∀ w', w'.heap[b]? = some (.cells (arr.take off ++ cs ++ arr.drop (off + cs.length)).toArray T (0, 0)) → w.grownBy w' (some b) → wpList P ops Q rest a w') : wpList P ops Q (o :: rest) a w := by
  have hst := run_storeCells_at P b off T cs 0 arr.toArray w hb (by simpa using hfit) h1
  simp only [Nat.add_zero] at hst
  refine wpList_plain g fun K hK => ?_
  have r2 : (execOp a.eval o).run P w = .ok .skip (w.setRow b (arr.take off ++ cs ++ arr.drop (off + cs.length)).toArray) := by
    have hst : Sem.run P (storeCells ⟨b, off, none⟩ cs) w = Result.ok () (w.setRow b (arr.take off ++ cs ++ arr.drop (off + cs.length)).toArray) := hst
    simp [execOp, e, ht, hz, Instr.storeAt, Instr.sureAddr, storeVar, run_sizeOf_of hs, Value.cells, hst]
  unfold Oper.wp
  rw [r2, Oper.upon_skip, hd]
  exact hK _ _ (h _ (setRow_heap w b _ _ T (0, 0) hb) ⟨rfl, rfl, rfl, by simp, fun k _ hk => setRow_other w b k _ (fun e => hk (by rw [e]))⟩)

def inpP (x : Input) : List Value := [.int .i64 x.Kind, .int .i64 x.ID, .int .i64 x.Vec.X, .int .i64 x.Vec.Y, .int .i64 x.Value]
def jntC (y : Joint) : List Value := [.int .i64 y.ID, .int .i64 y.Kind, .int .i64 y.BodyA, .int .i64 y.BodyB, .int .i64 y.AnchorA.X, .int .i64 y.AnchorA.Y, .int .i64 y.AnchorB.X, .int .i64 y.AnchorB.Y, .int .i64 y.Axis.X, .int .i64 y.Axis.Y, .int .i64 y.ReferenceAngle, .bool y.EnableLimit, .int .i64 y.Lower, .int .i64 y.Upper, .bool y.EnableMotor, .int .i64 y.MotorSpeed, .int .i64 y.MaxForce, .int .i64 y.Softness, .int .i64 y.BreakForce, .bool y.CollideConnected, .int .i64 y.Impulses.1, .int .i64 y.Impulses.2.1, .int .i64 y.Impulses.2.2.1, .int .i64 y.Impulses.2.2.2]
theorem jntC_one (y : Joint) : ∀ c ∈ jntC y, oneCell c = true := by
  intro c hc
  simp [jntC] at hc
  rcases hc with rfl | rfl | rfl | rfl | rfl | rfl | rfl | rfl | rfl | rfl | rfl | rfl | rfl | rfl | rfl | rfl | rfl | rfl | rfl | rfl | rfl | rfl | rfl | rfl <;> rfl
theorem inpP_one (y : Input) : ∀ c ∈ inpP y, oneCell c = true := by
  intro c hc
  simp [inpP] at hc
  rcases hc with rfl | rfl | rfl | rfl | rfl <;> rfl
def inpC (x : Input) (h : Value) : List Value := inpP x ++ (bodC x.Body h ++ jntC x.Joint)
theorem inpC_len (x : Input) (h : Value) : (inpC x h).length = 49 := rfl
theorem inpC_one (x : Input) {h : Value} (o : oneCell h = true) : ∀ c ∈ inpC x h, oneCell c = true := by
  intro c hc
  rcases List.mem_append.1 hc with hc | hc
  · exact inpP_one x c hc
  · rcases List.mem_append.1 hc with hc | hc
    · exact bodC_one o c hc
    · exact jntC_one _ c hc
theorem e_Input_eq (x : Input) : e_Input x = .agg ((inpP x).map AV.v ++ (bodA x.Body ++ (jntC x.Joint).map AV.v)) := rfl
theorem Reps.split {m bl} : ∀ {l l' : List AV} {vs : List Value}, Reps m bl (l ++ l') vs → ∃ v1 v2, vs = v1 ++ v2 ∧ Reps m bl l v1 ∧ Reps m bl l' v2
  | [], _, vs, h => ⟨[], vs, rfl, .nil, h⟩
  | x :: l, l', vs, h => by
    obtain ⟨v, t, rfl, a, b⟩ := Go.Rx.Reps.inv (h : Reps m bl (x :: (l ++ l')) vs)
    obtain ⟨v1, v2, rfl, c, d⟩ := Reps.split b
    exact ⟨v :: v1, v2, rfl, .cons a c, d⟩
theorem repInput {m x v} (h : Rep m noNames (e_Input x) v) : ∃ k, v = .agg (inpC x k).toArray ∧ Rep m noNames (e_sl_Fixture x.Body.Fixtures) k ∧ oneCell k = true := by
  rw [e_Input_eq] at h
  obtain ⟨cs, rfl, h1, h2⟩ := rep_agg h
  obtain ⟨v1, v2, rfl, a, b⟩ := Reps.split h1
  obtain ⟨v3, v4, rfl, c, d⟩ := Reps.split b
  obtain rfl := repsV_eq a
  obtain rfl := repsV_eq d
  obtain ⟨k, rfl, hk⟩ := bodA_inv c
  exact ⟨k, rfl, hk, by rw [e_slF] at hk; exact one_slice hk⟩
theorem mkInput {m x k} (h : Rep m noNames (e_sl_Fixture x.Body.Fixtures) k) : Rep m noNames (e_Input x) (.agg (inpC x k).toArray) := by
  rw [e_Input_eq]
  exact .agg ((repsV _).append ((bodA_mk h).append (repsV _))) (inpC_one x (by rw [e_slF] at h; exact one_slice h))
set_option maxHeartbeats 8000000 in
theorem input_fresh (x : Input) (h40 : Few2 x.Body.Fixtures) (m : Mem) (v : Value) (w : World) (hi : Imm m w) (hr : Rep m noNames (e_Input x) v) :
    Calls Tryz.prog 20 #[v] w fun e w' => ∃ hF hs, e = .returned (.agg (inpC x hF).toArray) ∧ Below w.heap.size w w' ∧ FOw w.heap.size w' x.Body.Fixtures hF hs := by
  obtain ⟨k, rfl, hk, ok⟩ := repInput hr
  have e49 := Tryz.call49
  have ra : tAg Tryz.prog 30 = some true := by kernel_rfl
  have rz : tSz Tryz.prog 30 = some 20 := by kernel_rfl
  have ra2 : tAg Tryz.prog 36 = some true := by kernel_rfl
  have rz2 : tSz Tryz.prog 36 = some 49 := by kernel_rfl
  obtain ⟨A, hA⟩ : ∃ A, A = inpC x k := ⟨_, rfl⟩
  have hAl : A.length = 49 := by rw [hA]; rfl
  rw [← hA]
  have HR : Hid (_ ∧ _ ∧ _ ∧ _) := ⟨ra, rz, ra2, rz2⟩
  clear ra rz ra2 rz2
  go_enter Tryz.func20, Tryz.ntmps20
  have key : ∀ (w2 : World) (c1 c2 : Array Value), w2 = (w.alloc (.cells c1 36)).alloc (.cells c2 36) → Calls Tryz.prog 49 #[.agg (bodC x.Body k).toArray] w2 fun e w' => ∃ ha hn hc hs, e = .returned (.agg (bodC x.Body (.slice ha hn hc)).toArray) ∧ Below w.heap.size w w' ∧ w'.heap[w.heap.size]? = some (.cells c1 36 (0, 0)) ∧ w'.heap[w.heap.size + 1]? = some (.cells c2 36 (0, 0)) ∧ w.heap.size + 2 ≤ w'.heap.size ∧ FOw (w.heap.size + 2) w' x.Body.Fixtures (.slice ha hn hc) hs := by
    intro w2 c1 c2 hw2
    have hb2 : Below w.heap.size w w2 := by rw [hw2]; exact ((Below.refl _ _).alloc (Nat.le_refl _) _).alloc (by simp) _
    have hs2 : w2.heap.size = w.heap.size + 2 := by rw [hw2]; simp
    refine (body_fresh x.Body h40 m _ w2 (hi.below hb2) (mkBody hk)).mono ?_
    rintro e w1 ⟨h, hs, rfl, hbb, hv⟩
    rw [hs2] at hv
    obtain ⟨ha, hn, hc, rfl⟩ : ∃ ha hn hc, h = .slice ha hn hc := by
      rcases hv.row.2 with ⟨e, -⟩ | ⟨g, cap, cur, e, -⟩ <;> exact ⟨_, _, _, e⟩
    have hbs := hbb.size
    refine ⟨ha, hn, hc, hs, rfl, hb2.trans (hbb.mono (by omega)), ?_, ?_, by omega, hv⟩
    · rw [hbb.block _ (by omega), hw2, heap_past _ _ _ (by simp), heap_at _ _ _ rfl]
    · rw [hbb.block _ (by omega), hw2, heap_at _ _ _ (by simp)]
  have hbody : ∀ (j : Nat) (v : Value), (bodC x.Body k)[j]? = some v → A.toArray[5 + j]? = some v := fun j v e => by
    rw [hA]
    have hj : j < 20 := (List.getElem?_eq_some_iff.1 e).1
    show (inpP x ++ (bodC x.Body k ++ jntC x.Joint)).toArray[5 + j]? = some v
    simp only [List.getElem?_toArray]
    rw [List.getElem?_append_right (by show 5 ≤ _; omega), show 5 + j - (inpP x).length = j by show 5 + j - 5 = j; omega, List.getElem?_append_left (by exact hj)]
    exact e
  have hset : ∀ h, A.take 5 ++ bodC x.Body h ++ A.drop (5 + (bodC x.Body h).length) = inpC x h := fun h => by
    rw [hA]; rfl
  have HH : Hid (_ ∧ _) := ⟨hbody, hset⟩
  clear hbody hset hA hr hi
  go_wp2_with (first
    | (refine wpList_loadat (cs := bodC x.Body k) rfl rfl rfl rfl HR.out.1 HR.out.2.1 ((heap_past _ _ _ (by simp)).trans (heap_at _ _ _ rfl)) HH.out.1 ?_)
    | (go_at_call 49; refine (key _ _ _ rfl).mono ?_; rintro _ w1 ⟨ha, hn, hc, hs, rfl, hb, b1, b2, hsz, hF⟩; have HB : Hid (_ ∧ _ ∧ _ ∧ _ ∧ _) := ⟨hb, b1, b2, hsz, hF⟩; clear hb b1 b2 hsz hF key)
    | (refine wpList_storeat (cs := bodC x.Body (.slice ha hn hc)) (arr := A) rfl rfl rfl rfl rfl HR.out.2.1 HB.out.2.1 (by rw [hAl]; show 5 + 20 ≤ 49; omega) (bodC_one rfl) ?_; intro w2 y1 hg2; rw [HH.out.2] at y1; have HG : Hid (_ ∧ _) := ⟨y1, hg2⟩; clear y1 hg2)
    | (refine wpList_copybox (cs := inpC x (.slice ha hn hc)) rfl rfl rfl rfl rfl rfl rfl rfl rfl HR.out.2.2.1 HR.out.2.2.2 HG.out.1 ((HG.out.2.block _ (by have := HB.out.2.2.2.1; omega) (by simp)).trans HB.out.2.2.1) rfl (inpC_one x rfl) ?_; intro w3 y2 hg3; have HK : Hid (_ ∧ _) := ⟨y2, hg3⟩; clear y2 hg3))
  have r0 : Tryz.f20.results = #[.cell 2 36] := rfl
  refine bodyPost_ret (results_box (cs := inpC x (.slice ha hn hc)) r0 rfl HR.out.2.2.1 HR.out.2.2.2 HK.out.1) rfl ?_
  obtain ⟨hb, b1, b2, hsz, hF⟩ := HB.out
  have g2 := HG.out.2
  have g3 := HK.out.2
  have s2 := g2.size
  refine ⟨_, hs, rfl, (hb.grown g2 (by omega) (fun k e => by have := Option.some.inj e; omega)).grown g3 (by omega) (fun k e => by have := Option.some.inj e; omega), ?_⟩
  refine own_mono (own_grown (own_grown hF g2 ?_) g3 ?_) (by omega)
  · intro g hg e; have := Option.some.inj e; omega
  · intro g hg e; have := Option.some.inj e; omega
end GoForm
end

section
/- What lies in memory of one's own is what was cloned; writes into it. No conditions. -/
set_option linter.all false
set_option maxRecDepth 100000
open Go Go.Rx Go.Proofs Go.RowKit
namespace GoForm
/-- All that the world holds. -/
def allM (w : World) : Mem := fun b o => w.cell? ⟨b, o, none⟩
theorem imm_all (w : World) : Imm (allM w) w := fun _ _ _ h => h
theorem le_all {m : Mem} {w : World} (h : Imm m w) : Mem.le m (allM w) := fun b o v e => h b o v e
theorem VOw.rep {B w l h} (v : VOw B w h l.length (vecsC l)) : Rep (allM w) noNames (e_sl_Vec l) h := by
  rw [e_slV]
  rcases v with ⟨h0, -, ad, cap, rfl, hc⟩ | ⟨g, cap, cur, T, rfl, h2, h3, h4, h5, h6, h7⟩
  · have : l = [] := List.length_eq_zero_iff.1 h0
    subst this
    cases ad with
    | none => rw [hc rfl]; exact .slnil
    | some a => exact .sl (l := []) (by simp) .nil (by simp) (by simp) (by simp) (Nat.zero_le _) (by simp)
  · have hl : l.length = (l.map e_Vec).length := by simp
    rw [hl]
    refine .sl (cs := vecsC l) ?_ ?_ (vecsC_one l) (fun _ => rfl) ?_ (by rw [← hl]; exact h5) (by simp)
    · intro e he
      obtain ⟨x, -, rfl⟩ := List.mem_map.1 he
      rfl
    · rw [cells_V]; exact repsV _
    · intro j x e
      show w.cell? ⟨g, 0 + j, none⟩ = some x
      rw [Nat.zero_add, cell_of_blk h4]
      have hj : j < (vecsC l).length := (List.getElem?_eq_some_iff.1 e).1
      rw [← h7, List.getElem?_take_of_lt hj] at e
      rw [← Array.getElem?_toList]; exact e
theorem FOw.rep {B w fs hF hs} (h : FOw B w fs hF hs) : Rep (allM w) noNames (e_sl_Fixture fs) hF := by
  rw [e_slF]
  obtain ⟨hlen, ⟨rfl, h0⟩ | ⟨g, cap, cur, rfl, q1, q2, q3, q4, q5, q6⟩⟩ := h.row
  · have : fs = [] := List.length_eq_zero_iff.1 h0
    subst this
    exact .slnil
  · have hl : fs.length = (fs.map e_Fixture).length := by simp
    rw [hl]
    refine .sl (cs := fixsC fs hs) ?_ (fixs_mk fs hs h.len fun k f x e1 e2 => (h.vs k f x e1 e2).1.rep) ?_ (fun _ => rfl) ?_ (by rw [← hl]; exact q3) (by simp)
    · intro e he
      obtain ⟨x, -, rfl⟩ := List.mem_map.1 he
      rfl
    · intro c hc
      obtain ⟨j, hj, e⟩ := List.getElem_of_mem hc
      have hj10 : j < fs.length * 10 := by rwa [fixsC_len _ _ h.len] at hj
      have k1 : j / 10 < fs.length := by omega
      have k2 : j / 10 < hs.length := by rw [← h.len]; exact k1
      have := fixsC_get fs hs (j / 10) (j % 10) fs[j / 10] hs[j / 10] (List.getElem?_eq_getElem k1) (List.getElem?_eq_getElem k2) (by omega)
      rw [show j / 10 * 10 + j % 10 = j by omega, List.getElem?_eq_getElem hj, e] at this
      exact fixC_one (h.vs (j / 10) fs[j / 10] hs[j / 10] (List.getElem?_eq_getElem k1) (List.getElem?_eq_getElem k2)).2.2 c (List.mem_of_getElem? this.symm)
    · intro j x e
      show w.cell? ⟨g, 0 + j, none⟩ = some x
      rw [Nat.zero_add, cell_of_blk q2]
      have hj : j < (fixsC fs hs).length := (List.getElem?_eq_some_iff.1 e).1
      rw [← q6, List.getElem?_take_of_lt (by rw [← hlen]; exact hj)] at e
      rw [← Array.getElem?_toList]; exact e
end GoForm
end

section
/- The worlds of two loops that write into a clone: its vertices and densities. No conditions. -/
set_option linter.all false
set_option maxRecDepth 100000
open Go Go.Rx Go.Proofs Go.RowKit
namespace GoForm
/-- A fixture's vertices in memory of one's own: whatever integers. -/
def VB (B E : Nat) (W : World) (row : Option Nat) (n : Nat) (h : Value) : Prop :=
  (n = 0 ∧ ∃ ad cap, h = .slice ad 0 cap) ∨ ∃ b cap cur T, h = .slice (some ⟨b, 0, none⟩) n cap ∧ B ≤ b ∧ b < E ∧ some b ≠ row ∧ W.heap[b]? = some (.cells cur T (0, 0)) ∧ ∀ q, q < n → ∃ i j, cur[q * 2]? = some (.int .i64 i) ∧ cur[q * 2 + 1]? = some (.int .i64 j)
/-- A row of fixtures of one's own: these vertices, whatever densities. -/
def RB (B E : Nat) (W : World) (g : Nat) (hs : List Value) : Prop :=
  ∃ cur T, B ≤ g ∧ g < E ∧ W.heap[g]? = some (.cells cur T (0, 0)) ∧ ∀ (k : Nat) (h : Value), hs[k]? = some h → cur[k * 10 + 2]? = some h ∧ ∃ d, cur[k * 10 + 3]? = some (.int .i64 d)
structure SW (B E bx : Nat) (D : List Value) (TD : TypeId) (fs : List Fixture) (hF : Value) (hs : List Value) (W : World) : Prop where
  box : W.heap[bx]? = some (.cells D.toArray TD (0, 0))
  row : fs.length = 0 ∨ ∃ g cap, hF = .slice (some ⟨g, 0, none⟩) fs.length cap ∧ RB B E W g hs
  vs : ∀ (k : Nat) (f : Fixture) (h : Value), fs[k]? = some f → hs[k]? = some h → VB B E W hF.ownBlock f.Shape.Vertices.length h
theorem vecsC_get (l : List Vec) (q : Nat) (h : q < l.length) : ∃ i j, (vecsC l)[q * 2]? = some (.int .i64 i) ∧ (vecsC l)[q * 2 + 1]? = some (.int .i64 j) := by
  induction l generalizing q with
  | nil => simp at h
  | cons x l ih =>
    cases q with
    | zero => exact ⟨x.X, x.Y, rfl, rfl⟩
    | succ q =>
      obtain ⟨i, j, h1, h2⟩ := ih q (by simpa using h)
      refine ⟨i, j, ?_, ?_⟩
      · show (vecC x ++ vecsC l)[(q + 1) * 2]? = _
        rw [List.getElem?_append_right (by show 2 ≤ _; omega), show (q + 1) * 2 - (vecC x).length = q * 2 by show (q + 1) * 2 - 2 = _; omega]
        exact h1
      · show (vecC x ++ vecsC l)[(q + 1) * 2 + 1]? = _
        rw [List.getElem?_append_right (by show 2 ≤ _; omega), show (q + 1) * 2 + 1 - (vecC x).length = q * 2 + 1 by show (q + 1) * 2 + 1 - 2 = _; omega]
        exact h2
theorem SW.start {B bx : Nat} {D : List Value} {TD : TypeId} {fs hF hs} {w5 W : World} (h : FOw B w5 fs hF hs) (hb : Below w5.heap.size w5 W) (hbx : W.heap[bx]? = some (.cells D.toArray TD (0, 0))) : SW B w5.heap.size bx D TD fs hF hs W := by
  refine ⟨hbx, ?_, ?_⟩
  · obtain ⟨hlen, ⟨rfl, h0⟩ | ⟨g, cap, cur, rfl, q1, q2, q3, q4, q5, q6⟩⟩ := h.row
    · exact .inl h0
    · have hg : g < w5.heap.size := by rw [Array.getElem?_eq_some_iff] at q2; exact q2.1
      refine .inr ⟨g, cap, rfl, cur, 68, q1, hg, (hb.block g hg).trans q2, fun k x e => ?_⟩
      have kl : k < fs.length := by rw [h.len]; exact (List.getElem?_eq_some_iff.1 e).1
      have e1 := fixsC_get fs hs k 2 fs[k] x (List.getElem?_eq_getElem kl) e (by omega)
      have e2 := fixsC_get fs hs k 3 fs[k] x (List.getElem?_eq_getElem kl) e (by omega)
      have hl := fixsC_len fs hs h.len
      have key : ∀ j v, j < fs.length * 10 → (fixsC fs hs)[j]? = some v → cur[j]? = some v := fun j v hj ev => by
        rw [← q6, List.getElem?_take_of_lt hj] at ev
        rw [← Array.getElem?_toList]; exact ev
      exact ⟨key _ _ (by omega) (e1.trans rfl), fs[k].Density, key _ _ (by omega) (e2.trans rfl)⟩
  · intro k f x e1 e2
    obtain ⟨v, off, -⟩ := h.vs k f x e1 e2
    by_cases h0 : f.Shape.Vertices.length = 0
    · refine .inl ⟨h0, ?_⟩
      rcases v with ⟨-, -, ad, cap, e, -⟩ | ⟨g, cap, cur, T, e, -⟩
      · exact ⟨ad, cap, e⟩
      · exact ⟨_, cap, by rw [e, h0]⟩
    · rcases v with ⟨e, -⟩ | ⟨g, cap, cur, T, e, q1, q2, q3, q4, q5, q6⟩
      · exact absurd e h0
      · refine .inr ⟨g, cap, cur, T, e, q1, q2, ?_, (hb.block g q2).trans q3, fun q hq => ?_⟩
        · rcases off with o | o
          · exact absurd o h0
          · exact o g cap e
        · obtain ⟨i, j, g1, g2⟩ := vecsC_get f.Shape.Vertices q hq
          have hl := vecsC_len f.Shape.Vertices
          have key : ∀ j v, j < f.Shape.Vertices.length * 2 → (vecsC f.Shape.Vertices)[j]? = some v → cur[j]? = some v := fun j v hj ev => by
            rw [← q6, List.getElem?_take_of_lt (by omega)] at ev
            rw [← Array.getElem?_toList]; exact ev
          exact ⟨i, j, key _ _ (by omega) g1, key _ _ (by omega) g2⟩
theorem heap_setc {W : World} {b : Nat} {cs : Array Value} {T : TypeId} {fr} (h : W.heap[b]? = some (.cells cs T fr)) (j : Nat) (v : Value) : (W.setCell ⟨b, j, none⟩ v).heap[b]? = some (.cells (cs.setIfInBounds j v) T fr) := heap_own h j v _ rfl
theorem set_get {cs : Array Value} {j : Nat} (v : Value) (i : Nat) (h : j ≠ i) : (cs.setIfInBounds j v)[i]? = cs[i]? := Array.getElem?_setIfInBounds_ne h
theorem set_int {cs : Array Value} {j i : Nat} {z : Int} (h : ∃ d, cs[i]? = some (.int .i64 d)) : ∃ d, (cs.setIfInBounds j (.int .i64 z))[i]? = some (.int .i64 d) := by
  obtain ⟨d, h⟩ := h
  by_cases e : j = i
  · subst e
    exact ⟨z, by rw [Array.getElem?_setIfInBounds_self_of_lt (by rw [Array.getElem?_eq_some_iff] at h; exact h.1)]⟩
  · exact ⟨d, by rw [set_get _ _ e]; exact h⟩
section
variable {B E bx : Nat} {D : List Value} {TD : TypeId} {fs : List Fixture} {hF : Value} {hs : List Value} {W : World}
/-- A density is written. -/
theorem SW.setD (h : SW B E bx D TD fs hF hs W) (hbx : E ≤ bx) {g n cap : Nat} (hg : hF = .slice (some ⟨g, 0, none⟩) n cap) (h0 : fs.length ≠ 0) (k : Nat) (z : Int) : SW B E bx D TD fs hF hs (W.setCell ⟨g, k * 10 + 3, none⟩ (.int .i64 z)) := by
  obtain h1 | ⟨g', cap', e, cur, T, q1, q2, q3, q4⟩ := h.row
  · exact absurd h1 h0
  have eg : g' = g := by rw [e] at hg; cases hg; rfl
  subst eg
  refine ⟨?_, .inr ⟨g', cap', e, _, T, q1, q2, heap_setc q3 _ _, fun k' x ex => ?_⟩, fun k' f x e1 e2 => ?_⟩
  · rw [heap_set _ _ _ _ (by show bx ≠ g'; omega)]; exact h.box
  · obtain ⟨a1, d, a2⟩ := q4 k' x ex
    exact ⟨by rw [set_get _ _ (by omega)]; exact a1, set_int ⟨d, a2⟩⟩
  · rcases h.vs k' f x e1 e2 with v | ⟨b, c2, cur2, T2, w1, w2, w3, w4, w5, w6⟩
    · exact .inl v
    · refine .inr ⟨b, c2, cur2, T2, w1, w2, w3, w4, ?_, w6⟩
      rw [heap_set _ _ _ _ (fun eb => w4 (by rw [eb, e]; rfl))]; exact w5
/-- A vertex's coordinate is written. -/
theorem SW.setV (h : SW B E bx D TD fs hF hs W) (hbx : E ≤ bx) {k : Nat} {f : Fixture} {b n cap : Nat} (hf : fs[k]? = some f) (hh : hs[k]? = some (.slice (some ⟨b, 0, none⟩) n cap)) (hn : f.Shape.Vertices.length ≠ 0) (q : Nat) (z : Int) : SW B E bx D TD fs hF hs (W.setCell ⟨b, q, none⟩ (.int .i64 z)) := by
  obtain ⟨e0, -⟩ | ⟨b', c', cur, T, e, q1, q2, q3, q4, q5⟩ := h.vs k f _ hf hh
  · exact absurd e0 hn
  have eb : b = b' := by cases e; rfl
  subst eb
  refine ⟨?_, ?_, fun k' f' x e1 e2 => ?_⟩
  · rw [heap_set _ _ _ _ (by show bx ≠ b; omega)]; exact h.box
  · rcases h.row with r | ⟨g, c2, eg, cur2, T2, w1, w2, w3, w4⟩
    · exact .inl r
    · refine .inr ⟨g, c2, eg, cur2, T2, w1, w2, ?_, w4⟩
      rw [heap_set _ _ _ _ (fun e2 => q3 (by rw [eg]; exact congrArg some (show b = g from e2.symm)))]; exact w3
  · rcases h.vs k' f' x e1 e2 with v | ⟨b2, c2, cur2, T2, w1, w2, w3, w4, w5, w6⟩
    · exact .inl v
    · by_cases e3 : b2 = b
      · subst e3
        rw [q4] at w5
        cases w5
        refine .inr ⟨b2, c2, _, T, w1, w2, w3, w4, heap_setc q4 _ _, fun q' hq' => ?_⟩
        obtain ⟨i, j, g1, g2⟩ := w6 q' hq'
        obtain ⟨i', g1'⟩ := set_int (j := q) (z := z) ⟨i, g1⟩
        obtain ⟨j', g2'⟩ := set_int (j := q) (z := z) ⟨j, g2⟩
        exact ⟨i', j', g1', g2'⟩
      · refine .inr ⟨b2, c2, cur2, T2, w1, w2, w3, w4, ?_, w6⟩
        rw [heap_set _ _ _ _ e3]; exact w5
end
end GoForm
end

section
/- The law's walk (under way). -/
set_option linter.all false
set_option maxRecDepth 100000
open Go Go.Rx Go.Proofs Go.RowKit
namespace GoForm
/-- A contract with one plain answer, in whatever world. -/
theorem call_v {P : Program} {f : FuncId} {avs : List AV} {r : Value} (h : FnR P f avs (.v r) []) (w : World) (vs : List Value) (hr : Reps (allM w) noNames avs vs) :
    Calls P f vs.toArray w fun e w' => e = .returned r ∧ Below w.heap.size w w' := by
  refine (h w (allM w) vs (imm_all w) hr).mono ?_
  rintro e w' ⟨v, m', bl', rfl, hb, -, -, hr⟩
  exact ⟨by rw [Rep.eq_v hr], hb⟩
theorem quiet_loadbox {P : Program} {C : World → Prop} {o : Oper} {a : Act} {K : Act → Prop} {ty : TypeId} {y : Operand} {b : Nat} {cs : List Value} {T : TypeId} {fr : Nat × Nat}
    (e : o.op = .load ty y) (hy : a.eval y = .pointer (some ⟨b, 0, none⟩)) (ha : tAg P ty = some true) (hs : tSz P ty = some cs.length)
    (hC : ∀ w, C w → w.heap[b]? = some (.cells cs.toArray T fr)) (hk : K (a.put o.dst (.agg cs.toArray))) : o.quiet P a C K :=
  ⟨_, fun w hw => by
    have hld := run_loadVar_agg (P := P) (ty := ty) (w := w) (b := b) (o := 0) (cs := cs) ha hs (fun j v e => by rw [Nat.zero_add, cell_of_blk (hC w hw)]; simpa using e)
    have r1 : (execOp a.eval o).run P w = .ok (.value (.agg cs.toArray)) w := by simp [execOp, e, hy, Instr.loadAt, Instr.sureAddr, hld]
    unfold Oper.quietAt
    rw [r1]
    exact ⟨rfl, rfl⟩, hk⟩
theorem ws_all (w : World) : WSim w.heap.size (allM w) [] (allM w) noNames w :=
  ⟨imm_all w, Mem.le.refl _, fun _ _ _ h => .inl h, (by intro id l h; simp [find] at h), (by intro id s p h; simp [find] at h), (by intro id b n h; cases h), (by intro id id' b n n' h; cases h)⟩
/-- An operation of the framework's, in whatever world. -/
theorem wpList_q {P : Program} {ops : Array Oper} {rest : List Oper} {Q : Exit → Act → World → Prop} {o : Oper} {a : Act} {w : World} {e : Env} {x : AV} {d : Nat}
    (h : QEx P o e [] x) (g : o.guard = none) (hd : o.dst = some d) (hr : Reads o e (allM w) noNames a)
    (k : ∀ v w', Below w.heap.size w w' → Rep (allM w') noNames x v → wpList P ops Q rest (a.put (some d) v) w') : wpList P ops Q (o :: rest) a w :=
  wpList_plain g fun K hK => h w.heap.size (allM w) [] (allM w) noNames a w (ws_all w) (Nat.le_refl _) (by simp) hr K Q fun v w' m' h1 h2 h3 h4 => hK _ _ (by rw [hd]; exact k v w' h2 (h4.mono (le_all h3.imm)))
theorem elem36 : ElemT Tryz.prog 38 36 49 384 := by
  obtain ⟨i0, hi0, hz0, hz1, hz2⟩ := info_parts (P := Tryz.prog) (e := 36) (z := .agg #[.int .i64 0, .int .i64 0, .int .i64 0, .int .i64 0, .int .i64 0, .int .i64 0, .int .i64 0, .int .i64 0, .int .i64 0, .int .i64 0, .int .i64 0, .int .i64 0, .int .i64 0, .int .i64 0, .int .i64 0, .int .i64 0, .int .i64 0, .int .i64 0, .int .i64 0, .bool false, .bool false, .bool false, .bool false, .int .i64 0, .slice none 0 0, .int .i64 0, .int .i64 0, .int .i64 0, .int .i64 0, .int .i64 0, .int .i64 0, .int .i64 0, .int .i64 0, .int .i64 0, .int .i64 0, .int .i64 0, .bool false, .int .i64 0, .int .i64 0, .bool false, .int .i64 0, .int .i64 0, .int .i64 0, .int .i64 0, .bool false, .int .i64 0, .int .i64 0, .int .i64 0, .int .i64 0]) (size := 49) (bytes := 384) (by kernel_rfl)
  exact ⟨Tryz.underlying38, ⟨i0, _, hi0, hz0, hz1, hz2, rfl, rfl⟩, by decide⟩
theorem opd_tmp {e : Env} {t : Nat} {x : AV} (h : find t e = some x) : OpdOk e (.tmp t) x := fun m bl a hr => hr t rfl x h
theorem build2 {o : Oper} {x y : Input} (ho : o.op = .buildSlice 38 2 #[(0, .tmp 9), (1, .tmp 10)]) : QEx Tryz.prog o [(9, e_Input x), (10, e_Input y)] [] (.sl true 49 [e_Input x, e_Input y]) :=
  QEx.buildSlice ho elem36 (.cons (opd_tmp rfl) rfl rfl rfl (.cons (opd_tmp rfl) rfl rfl rfl .nil)) rfl (by decide)
theorem reads2 {o : Oper} {a : Act} {m : Mem} {t1 t2 ty n : Nat} {x y : AV} (ho : o.op = .buildSlice ty n #[(0, .tmp t1), (1, .tmp t2)]) (h12 : Nat.beq t1 t2 = false) (h1 : Rep m noNames x (a.tmps.getD t1 undef)) (h2 : Rep m noNames y (a.tmps.getD t2 undef)) : Reads o [(t1, x), (t2, y)] m noNames a := by
  intro t ht z hz
  rw [find_cons] at hz
  by_cases e : t1 = t
  · rw [if_pos e] at hz; subst e; cases hz; exact h1
  · rw [if_neg e, find_cons] at hz
    by_cases e2 : t2 = t
    · rw [if_pos e2] at hz; subst e2; cases hz; exact h2
    · rw [if_neg e2] at hz; cases hz
def fewIn (x : Input) : Prop := Few2 x.Body.Fixtures
theorem rep_cap {m bl sz l v} (h : Rep m bl (.sl true sz l) v) : Rep m bl (.sl false sz l) v := by
  cases h with
  | slnil => exact .slnil
  | sl h1 h2 h3 h4 h5 h6 h7 => exact .sl h1 h2 h3 h4 h5 h6 (by simp)
/-- The boxes of the two arguments. -/
structure BX (w : World) (A B : List Value) (W : World) : Prop where
  below : Below w.heap.size w W
  ba : W.heap[w.heap.size]? = some (.cells A.toArray 36 (0, 0))
  bb : W.heap[w.heap.size + 1]? = some (.cells B.toArray 36 (0, 0))
  size : w.heap.size + 2 ≤ W.heap.size
theorem BX.start (w : World) (A B : List Value) : BX w A B ((w.alloc (.cells A.toArray 36)).alloc (.cells B.toArray 36)) :=
  ⟨((Below.refl _ _).alloc (Nat.le_refl _) _).alloc (by simp) _, (heap_past _ _ _ (by simp)).trans (heap_at _ _ _ rfl), heap_at _ _ _ (by simp), by simp⟩
theorem BX.go {w : World} {A B : List Value} {W W' : World} (h : BX w A B W) (hb : Below W.heap.size W W') : BX w A B W' :=
  ⟨h.below.trans (hb.mono (by have := h.size; omega)), (hb.block _ (by have := h.size; omega)).trans h.ba, (hb.block _ (by have := h.size; omega)).trans h.bb, Nat.le_trans h.size hb.size⟩
theorem call_r {P : Program} {f : FuncId} {avs : List AV} {r : AV} (h : FnR P f avs r []) (w : World) (vs : List Value) (hr : Reps (allM w) noNames avs vs) :
    Calls P f vs.toArray w fun e w' => ∃ v, e = .returned v ∧ Below w.heap.size w w' ∧ Rep (allM w') noNames r v := by
  refine (h w (allM w) vs (imm_all w) hr).mono ?_
  rintro e w' ⟨v, m', bl', rfl, hb, hws, hn, hr⟩
  have : bl' = noNames := by funext id; exact hn id rfl
  subst this
  exact ⟨v, rfl, hb, hr.mono (le_all hws.imm)⟩
theorem quiet_callf {P : Program} {C : World → Prop} {o : Oper} {a : Act} {K : Act → Prop} {f : FuncId} {xs : Array Operand} {tys : Array TypeId} {vs : Array Value} {v : Value}
    (e : o.op = .call { callee := .value (.func f), args := xs, argTypes := tys }) (hc : ∀ (args : Array Value) (w : World), Sem.run P (callFunc f args) w = .ok (.enter f args) w) (hv : xs.map a.eval = vs)
    (hC : ∀ w, C w → Calls P f vs w fun e w' => e = .returned v ∧ C w') (hk : K (a.put o.dst v)) : o.quiet P a C K :=
  ⟨v, fun w hw => by
    have r1 : (execOp a.eval o).run P w = .ok (.enter f vs) w := by subst hv; simp [execOp, e, resolve, invoke, hc, go_sem]
    unfold Oper.quietAt
    rw [r1]
    exact ⟨rfl, hC w hw⟩, hk⟩
theorem wp_region_bel {P : Program} {id : Nat} {Q : Exit → Act → World → Prop} {a : Act} {w : World} {l : List Oper} (hm : P.follows .mixedOrders = true) (hB : Region.lexB .any l.toArray = true)
    (h : wpQuiet P l.toArray (fun w' => Below w.heap.size w w') (fun a' => ∀ w', Below w.heap.size w w' → Q .normal a' w') l a) : (Code.region id l.toArray true).wp P Q a w :=
  wp_region_quiet (C := fun w' => Below w.heap.size w w') hm hB ((Below.refl _ w).drew) (by simpa using h)
theorem call_c {f : FuncId} {avs : List AV} {r : Value} (h : FnR Tryz.prog f avs (.v r) []) (w6 : World) (vs : List Value) (hr : Reps (allM w6) noNames avs vs) (w : World) (hw : Below w6.heap.size w6 w) :
    Calls Tryz.prog f vs.toArray w fun e w' => e = .returned r ∧ Below w6.heap.size w6 w' := by
  refine (call_v h w vs (hr.mono (le_all ((imm_all w6).below hw)))).mono ?_
  rintro e w' ⟨rfl, hb⟩
  exact ⟨rfl, hw.trans (hb.mono hw.size)⟩
set_option maxHeartbeats 8000000 in
theorem law_walk (x y : Input) (ex : Bool) (hex : FnR Tryz.prog 10 [] (.v (.bool true)) [])
    (hfew : FnR Tryz.prog 9 [e_sl_Input [x, y]] (.v (.bool ex)) []) (hx : ex = true → Few2 x.Body.Fixtures)
    (was : Input) (hwas : ex = true → FnR Tryz.prog 19 [e_Input x] (e_Input was) [])
    (q : Bool) (h21 : ex = true → FnR Tryz.prog 21 [e_Input x, e_Input y] (.v (.bool q)) []) (h22 : ex = true → FnR Tryz.prog 22 [e_Input x, e_Input y] (.v (.bool q)) [])
    (h21x : ex = true → FnR Tryz.prog 21 [e_Input x, e_Input x] (.v (.bool true)) []) (h22x : ex = true → FnR Tryz.prog 22 [e_Input x, e_Input x] (.v (.bool true)) [])
    (h22w : ex = true → FnR Tryz.prog 22 [e_Input x, e_Input was] (.v (.bool true)) [])
    (m : Mem) (v1 v2 : Value) (w : World) (hi : Imm m w) (hr1 : Rep m noNames (e_Input x) v1) (hr2 : Rep m noNames (e_Input y) v2) :
    Calls Tryz.prog 5 #[v1, v2] w fun e w' => e = .returned (.bool true) ∧ Below w.heap.size w w' := by
  obtain ⟨k1, rfl, hk1, o1⟩ := repInput hr1
  obtain ⟨k2, rfl, hk2, o2⟩ := repInput hr2
  have e9 := Tryz.call9
  have e10 := Tryz.call10
  have e19 := Tryz.call19
  have e20 := Tryz.call20
  have e21 := Tryz.call21
  have e22 := Tryz.call22
  obtain ⟨A, hA⟩ : ∃ A, A = inpC x k1 := ⟨_, rfl⟩
  obtain ⟨B, hB⟩ : ∃ B, B = inpC y k2 := ⟨_, rfl⟩
  have hAl : A.length = 49 := by rw [hA]; rfl
  have hBl : B.length = 49 := by rw [hB]; rfl
  rw [← hA] at hr1 ⊢
  rw [← hB] at hr2 ⊢
  have ra2 : tAg Tryz.prog 36 = some true := by kernel_rfl
  have rz2 : tSz Tryz.prog 36 = some 49 := by kernel_rfl
  have hAs : A.toArray.size = 49 := by simpa using hAl
  have hBs : B.toArray.size = 49 := by simpa using hBl
  have HR : Hid (_ ∧ _) := ⟨ra2, rz2⟩
  have HA : Hid (_ ∧ _ ∧ _ ∧ _ ∧ _) := ⟨hr1, hr2, hA, hB, hi⟩
  have hb0 : Hid (BX w A B ((w.alloc (.cells A.toArray 36)).alloc (.cells B.toArray 36))) := BX.start w A B
  clear ra2 rz2 hA hB hr1 hr2
  cases ex
  all_goals go_enter Tryz.func5, Tryz.ntmps5
  · go_wp2_with (first
      | (refine wpList_loadat (cs := A) rfl rfl rfl rfl HR.out.1 (by rw [hAl]; exact HR.out.2) ((heap_past _ _ _ (by simp)).trans (heap_at _ _ _ rfl)) (fun j v e => by rw [Nat.zero_add]; simpa using e) ?_)
      | (refine wpList_loadat (cs := B) rfl rfl rfl rfl HR.out.1 (by rw [hBl]; exact HR.out.2) (heap_at _ _ _ (by simp)) (fun j v e => by rw [Nat.zero_add]; simpa using e) ?_)
      | (refine wpList_q (build2 (x := x) (y := y) rfl) rfl rfl (reads2 rfl rfl (HA.out.1.mono (le_all (HA.out.2.2.2.2.below hb0.out.below))) (HA.out.2.1.mono (le_all (HA.out.2.2.2.2.below hb0.out.below)))) ?_; intro vs w1 hb1 hrs; have S1 : Hid (BX w A B w1) := hb0.out.go hb1; have HV : Hid (Rep (allM w1) noNames (.sl true 49 [e_Input x, e_Input y]) vs) := hrs; clear hb1 hrs)
      | (go_at_call 9; refine (call_v hfew w1 [vs] (.cons (rep_cap HV.out) .nil)).mono ?_; rintro _ w2 ⟨rfl, hb2⟩; have S2 : Hid (BX w A B w2) := S1.out.go hb2; clear hb2)
      | (go_at_call 10; refine (call_v hex w2 [] .nil).mono ?_; rintro _ w3 ⟨rfl, hb3⟩; have S3 : Hid (BX w A B w3) := S2.out.go hb3; clear hb3))
    go_ret
    exact ⟨rfl, S3.out.below⟩
  · go_wp2_with (first
      | (refine wpList_loadat (cs := A) rfl rfl rfl rfl HR.out.1 (by rw [hAl]; exact HR.out.2) ((heap_past _ _ _ (by simp)).trans (heap_at _ _ _ rfl)) (fun j v e => by rw [Nat.zero_add]; simpa using e) ?_)
      | (refine wpList_loadat (cs := B) rfl rfl rfl rfl HR.out.1 (by rw [hBl]; exact HR.out.2) (heap_at _ _ _ (by simp)) (fun j v e => by rw [Nat.zero_add]; simpa using e) ?_)
      | (refine wpList_q (build2 (x := x) (y := y) rfl) rfl rfl (reads2 rfl rfl (HA.out.1.mono (le_all (HA.out.2.2.2.2.below hb0.out.below))) (HA.out.2.1.mono (le_all (HA.out.2.2.2.2.below hb0.out.below)))) ?_; intro vs w1 hb1 hrs; have S1 : Hid (BX w A B w1) := hb0.out.go hb1; have HV : Hid (Rep (allM w1) noNames (.sl true 49 [e_Input x, e_Input y]) vs) := hrs; clear hb1 hrs)
      | (go_at_call 9; refine (call_v hfew w1 [vs] (.cons (rep_cap HV.out) .nil)).mono ?_; rintro _ w2 ⟨rfl, hb2⟩; have S2 : Hid (BX w A B w2) := S1.out.go hb2; clear hb2)
      | (refine wpList_loadat (cs := A) rfl rfl rfl rfl HR.out.1 (by rw [hAl]; exact HR.out.2) S2.out.ba (fun j v e => by rw [Nat.zero_add]; simpa using e) ?_)
      | (go_at_call 19; refine (call_r (hwas (by trivial)) w2 [.agg A.toArray] (.cons (HA.out.1.mono (le_all (HA.out.2.2.2.2.below S2.out.below))) .nil)).mono ?_
         rintro _ w3 ⟨vw, rfl, hb3, hrw⟩
         obtain ⟨kw, rfl, hkw, okw⟩ := repInput hrw
         have S3 : Hid (BX w A B w3) := S2.out.go hb3
         obtain ⟨C, hC⟩ : ∃ C, C = inpC was kw := ⟨_, rfl⟩
         have hCl : C.length = 49 := by rw [hC]; rfl
         have hC1 : Hid (∀ c ∈ C, c.oneCell' = true) := by rw [hC]; exact inpC_one was okw
         have R3 : Hid (Rep (allM w3) noNames (e_Input was) (.agg C.toArray)) := by rw [hC]; exact hrw
         rw [← hC]
         clear hb3 hrw hC hkw okw)
      | (refine wpList_storeat (cs := C) rfl rfl rfl rfl rfl (by rw [hCl]; exact HR.out.2) (heap_at _ _ _ rfl) (by rw [hCl]; exact Nat.le_refl 49) hC1.out ?_
         intro w4 y4 g4
         have T4 : Hid (w4.heap[w3.heap.size]? = some (.cells C.toArray 36 (0, 0)) ∧ Below w3.heap.size w3 w4 ∧ w3.heap.size < w4.heap.size) := ⟨by rw [y4, List.drop_eq_nil_of_le (by rw [hCl]; exact Nat.le_refl 49)]; simp, ((Below.refl _ _).alloc (Nat.le_refl _) _).grown g4 (by simp) (fun k e => by have := Option.some.inj e; omega), by have := g4.size; simp at this; omega⟩
         have S4 : Hid (BX w A B w4) := S3.out.go T4.out.2.1
         clear y4 g4)
      | (refine wpList_loadat (cs := A) rfl rfl rfl rfl HR.out.1 (by rw [hAl]; exact HR.out.2) S4.out.ba (fun j v e => by rw [Nat.zero_add]; simpa using e) ?_)
      | (go_at_call 20; refine (input_fresh x (hx (by trivial)) (allM w4) (.agg A.toArray) w4 (imm_all w4) (HA.out.1.mono (le_all (HA.out.2.2.2.2.below S4.out.below)))).mono ?_
         rintro _ w5 ⟨hF, hs, rfl, hb5, hO⟩
         obtain ⟨fa, fn, fc, rfl⟩ : ∃ ha hn hc, hF = .slice ha hn hc := by
           rcases hO.row.2 with ⟨e, -⟩ | ⟨g, cap, cur, e, -⟩ <;> exact ⟨_, _, _, e⟩
         obtain ⟨D, hD⟩ : ∃ D, D = inpC x (.slice fa fn fc) := ⟨_, rfl⟩
         have hDl : D.length = 49 := by rw [hD]; rfl
         have T5 : Hid (Below w4.heap.size w4 w5 ∧ FOw w4.heap.size w5 x.Body.Fixtures (.slice fa fn fc) hs ∧ D = inpC x (.slice fa fn fc) ∧ (∀ c ∈ D, c.oneCell' = true)) := ⟨hb5, hO, hD, by rw [hD]; exact inpC_one x rfl⟩
         rw [← hD]
         clear hb5 hO hD)
      | (refine wpList_storeat (cs := D) rfl rfl rfl rfl rfl (by rw [hDl]; exact HR.out.2) (heap_at _ _ _ rfl) (by rw [hDl]; exact Nat.le_refl 49) T5.out.2.2.2 ?_
         intro w6 y6 g6
         have T6 : Hid (w6.heap[w5.heap.size]? = some (.cells D.toArray 36 (0, 0)) ∧ Below w5.heap.size w5 w6 ∧ w5.heap.size < w6.heap.size) := ⟨by rw [y6, List.drop_eq_nil_of_le (by rw [hDl]; exact Nat.le_refl 49)]; simp, ((Below.refl _ _).alloc (Nat.le_refl _) _).grown g6 (by simp) (fun k e => by have := Option.some.inj e; omega), by have := g6.size; simp at this; omega⟩
         clear y6 g6))
    have mixed : Tryz.prog.follows .mixedOrders = true := by kernel_rfl
    have S6 : BX w A B w6 := (S4.out.go T5.out.1).go T6.out.2.1
    have hmA : Rep (allM w6) noNames (e_Input x) (.agg A.toArray) := HA.out.1.mono (le_all (HA.out.2.2.2.2.below S6.below))
    have hmB : Rep (allM w6) noNames (e_Input y) (.agg B.toArray) := HA.out.2.1.mono (le_all (HA.out.2.2.2.2.below S6.below))
    have hmD : Rep (allM w6) noNames (e_Input x) (.agg D.toArray) := by
      rw [T5.out.2.2.1]
      exact mkInput (T5.out.2.1.below T6.out.2.1).rep
    have bA := S6.ba
    have bB := S6.bb
    have bD := T6.out.1
    have s6 := S6.size
    have s65 := T6.out.2.2
    have HQ : Hid (_ ∧ _ ∧ _ ∧ _ ∧ _ ∧ _ ∧ _ ∧ _) := ⟨hmA, hmB, hmD, bA, bB, bD, s6, s65⟩
    clear hmA hmB hmD bA bB bD s6 s65
    refine wp_region_bel mixed (by kernel_rfl) ?_
    have k1 := fun w' hw' => call_c (h21 (by trivial)) w6 [.agg A.toArray, .agg B.toArray] (.cons HQ.out.1 (.cons HQ.out.2.1 .nil)) w' hw'
    have k2 := fun w' hw' => call_c (h22 (by trivial)) w6 [.agg A.toArray, .agg B.toArray] (.cons HQ.out.1 (.cons HQ.out.2.1 .nil)) w' hw'
    have k3 := fun w' hw' => call_c (h21x (by trivial)) w6 [.agg A.toArray, .agg D.toArray] (.cons HQ.out.1 (.cons HQ.out.2.2.1 .nil)) w' hw'
    have k4 := fun w' hw' => call_c (h22x (by trivial)) w6 [.agg A.toArray, .agg D.toArray] (.cons HQ.out.1 (.cons HQ.out.2.2.1 .nil)) w' hw'
    go_big_quiet_want
    refine quiet_loadbox (cs := A) (b := w.heap.size) rfl rfl HR.out.1 (by rw [hAl]; exact HR.out.2) (fun w' hw => (hw.block _ (by have := HQ.out.2.2.2.2.2.2.1; omega)).trans HQ.out.2.2.2.1) ?_
    simp only [Act.put, List.setIfInBounds_toArray, List.set_cons_succ, List.set_cons_zero]
    go_big_quiet_on
    go_big_quiet_want
    refine quiet_loadbox (cs := B) (b := w.heap.size + 1) rfl rfl HR.out.1 (by rw [hBl]; exact HR.out.2) (fun w' hw => (hw.block _ (by have := HQ.out.2.2.2.2.2.2.1; omega)).trans HQ.out.2.2.2.2.1) ?_
    simp only [Act.put, List.setIfInBounds_toArray, List.set_cons_succ, List.set_cons_zero]
    go_big_quiet_on
    go_big_quiet_want
    refine quiet_callf (f := 21) (xs := #[.tmp 19, .tmp 20]) (tys := #[36, 36]) (vs := #[.agg A.toArray, .agg B.toArray]) (v := .bool q) rfl e21 (by simp [Act.eval]) (fun w' hw' => k1 w' hw') ?_
    simp only [Act.put, List.setIfInBounds_toArray, List.set_cons_succ, List.set_cons_zero]
    go_big_quiet_on
    go_big_quiet_want
    refine quiet_loadbox (cs := A) (b := w.heap.size) rfl rfl HR.out.1 (by rw [hAl]; exact HR.out.2) (fun w' hw => (hw.block _ (by have := HQ.out.2.2.2.2.2.2.1; omega)).trans HQ.out.2.2.2.1) ?_
    simp only [Act.put, List.setIfInBounds_toArray, List.set_cons_succ, List.set_cons_zero]
    go_big_quiet_on
    go_big_quiet_want
    refine quiet_loadbox (cs := B) (b := w.heap.size + 1) rfl rfl HR.out.1 (by rw [hBl]; exact HR.out.2) (fun w' hw => (hw.block _ (by have := HQ.out.2.2.2.2.2.2.1; omega)).trans HQ.out.2.2.2.2.1) ?_
    simp only [Act.put, List.setIfInBounds_toArray, List.set_cons_succ, List.set_cons_zero]
    go_big_quiet_on
    go_big_quiet_want
    refine quiet_callf (f := 22) (xs := #[.tmp 22, .tmp 23]) (tys := #[36, 36]) (vs := #[.agg A.toArray, .agg B.toArray]) (v := .bool q) rfl e22 (by simp [Act.eval]) (fun w' hw' => k2 w' hw') ?_
    simp only [Act.put, List.setIfInBounds_toArray, List.set_cons_succ, List.set_cons_zero]
    go_big_quiet_on
    go_big_quiet_want
    go_big_quiet_op
    first | go_big_quiet_on | (refine ⟨_, fun _ _ => rfl, ?_⟩; go_big_quiet_on)
    go_big_quiet_want
    go_big_quiet_op
    first | go_big_quiet_on | (refine ⟨_, fun _ _ => rfl, ?_⟩; go_big_quiet_on)
    go_big_quiet_want
    refine quiet_loadbox (cs := A) (b := w.heap.size) rfl rfl HR.out.1 (by rw [hAl]; exact HR.out.2) (fun w' hw => (hw.block _ (by have := HQ.out.2.2.2.2.2.2.1; omega)).trans HQ.out.2.2.2.1) ?_
    simp only [Act.put, List.setIfInBounds_toArray, List.set_cons_succ, List.set_cons_zero]
    go_big_quiet_on
    go_big_quiet_want
    refine quiet_loadbox (cs := D) (b := w5.heap.size) rfl rfl HR.out.1 (by rw [hDl]; exact HR.out.2) (fun w' hw => (hw.block _ HQ.out.2.2.2.2.2.2.2).trans HQ.out.2.2.2.2.2.1) ?_
    simp only [Act.put, List.setIfInBounds_toArray, List.set_cons_succ, List.set_cons_zero]
    go_big_quiet_on
    go_big_quiet_want
    refine quiet_callf (f := 21) (xs := #[.tmp 27, .tmp 28]) (tys := #[36, 36]) (vs := #[.agg A.toArray, .agg D.toArray]) (v := .bool true) rfl e21 (by simp [Act.eval]) (fun w' hw' => k3 w' hw') ?_
    simp only [Act.put, List.setIfInBounds_toArray, List.set_cons_succ, List.set_cons_zero]
    go_big_quiet_on
    go_big_quiet_want
    go_big_quiet_op
    first | go_big_quiet_on | (refine ⟨_, fun _ _ => rfl, ?_⟩; go_big_quiet_on)
    go_big_quiet_want
    go_big_quiet_op
    first | go_big_quiet_on | (refine ⟨_, fun _ _ => rfl, ?_⟩; go_big_quiet_on)
    go_big_quiet_want
    go_big_quiet_op
    first | go_big_quiet_on | (refine ⟨_, fun _ _ => rfl, ?_⟩; go_big_quiet_on)
    go_big_quiet_want
    refine quiet_loadbox (cs := A) (b := w.heap.size) rfl rfl HR.out.1 (by rw [hAl]; exact HR.out.2) (fun w' hw => (hw.block _ (by have := HQ.out.2.2.2.2.2.2.1; omega)).trans HQ.out.2.2.2.1) ?_
    simp only [Act.put, List.setIfInBounds_toArray, List.set_cons_succ, List.set_cons_zero]
    go_big_quiet_on
    go_big_quiet_want
    refine quiet_loadbox (cs := D) (b := w5.heap.size) rfl rfl HR.out.1 (by rw [hDl]; exact HR.out.2) (fun w' hw => (hw.block _ HQ.out.2.2.2.2.2.2.2).trans HQ.out.2.2.2.2.2.1) ?_
    simp only [Act.put, List.setIfInBounds_toArray, List.set_cons_succ, List.set_cons_zero]
    go_big_quiet_on
    go_big_quiet_want
    refine quiet_callf (f := 22) (xs := #[.tmp 33, .tmp 34]) (tys := #[36, 36]) (vs := #[.agg A.toArray, .agg D.toArray]) (v := .bool true) rfl e22 (by simp [Act.eval]) (fun w' hw' => k4 w' hw') ?_
    simp only [Act.put, List.setIfInBounds_toArray, List.set_cons_succ, List.set_cons_zero]
    go_big_quiet_on
    go_big_quiet_want
    go_big_quiet_op
    first | go_big_quiet_on | (refine ⟨_, fun _ _ => rfl, ?_⟩; go_big_quiet_on)
    go_big_quiet_want
    go_big_quiet_op
    first | go_big_quiet_on | (refine ⟨_, fun _ _ => rfl, ?_⟩; go_big_quiet_on)
    refine wpQuiet_nil ?_
    intro w7 hw7
    clear k1 k2 k3 k4
    obtain ⟨hn2, hm2⟩ := hx (by trivial)
    have hfn : x.Body.Fixtures.length = fn := by
      rcases T5.out.2.1.row.2 with ⟨e, h0⟩ | ⟨g, cap, cur, e, -⟩
      · cases e; exact h0
      · cases e; rfl
    have hsl : hs.length = fn := T5.out.2.1.len.symm.trans hfn
    have hD24 : D.toArray[24]? = some (.slice fa fn fc) := by rw [T5.out.2.2.1]; rfl
    have S0 : Aside (SW w4.heap.size w5.heap.size w5.heap.size D 36 x.Body.Fixtures (.slice fa fn fc) hs w7 ∧ Below w4.heap.size w4 w7) :=
      ⟨SW.start T5.out.2.1 (T6.out.2.1.trans (hw7.mono (Nat.le_of_lt T6.out.2.2))) ((hw7.block _ T6.out.2.2).trans T6.out.1), (T5.out.1.trans (T6.out.2.1.mono T5.out.1.size)).trans (hw7.mono (Nat.le_trans T5.out.1.size (Nat.le_of_lt T6.out.2.2)))⟩
    have HM : Hid (_ ∧ _ ∧ _ ∧ _ ∧ _) := ⟨hm2, hfn, hsl, hD24, hw7⟩
    have hn2 : fn ≤ 1000000 := hfn ▸ hn2
    clear hm2 hfn hsl hD24 hw7
    go_wp2
    go_loopg [7] fn (fun kx s7 wr => ∃ (i : Nat), s7 = .int .i64 i ∧ i ≤ fn ∧ fn - i ≤ kx ∧ Aside (SW w4.heap.size w5.heap.size w5.heap.size D 36 x.Body.Fixtures (.slice fa fn fc) hs wr ∧ Below w4.heap.size w4 wr))
    case atStart => exact ⟨0, rfl, Nat.zero_le _, Nat.le_refl _, S0⟩
    case round =>
      clear S0
      obtain ⟨i, rfl, hin, hkx, S1⟩ := hrel
      have hcell : wr.cell? ⟨w5.heap.size, 24, none⟩ = some (.slice fa fn fc) := box_cell S1.out.1.box 24 HM.out.2.2.2.1
      by_cases hlt : (i : Int) < fn
      · have hi1 : i < x.Body.Fixtures.length := by have := HM.out.2.1; omega
        obtain ⟨g, eF⟩ : ∃ g, fa = some ⟨g, 0, none⟩ := by
          obtain h0 | ⟨g, cap, eF, -⟩ := S1.out.1.row
          · omega
          · cases eF; exact ⟨_, rfl⟩
        subst eF
        obtain ⟨f, hf⟩ : ∃ f, x.Body.Fixtures[i]? = some f := ⟨_, List.getElem?_eq_getElem hi1⟩
        obtain ⟨h, hh⟩ : ∃ h, hs[i]? = some h := ⟨_, List.getElem?_eq_getElem (by have := HM.out.2.2.1; omega)⟩
        obtain ⟨n, hn⟩ : ∃ n, f.Shape.Vertices.length = n := ⟨_, rfl⟩
        have hnb : n ≤ 1099511627776 := hn ▸ HM.out.1 f (List.mem_of_getElem? hf)
        obtain ⟨ha, hc, eh⟩ : ∃ ha hc, h = .slice ha n hc := by
          rcases S1.out.1.vs i f h hf hh with ⟨h0, ad, cap, e⟩ | ⟨b, cap, cur, T, e, -⟩
          · exact ⟨ad, cap, by rw [e, ← hn, h0]⟩
          · exact ⟨_, cap, by rw [e, hn]⟩
        subst eh
        have wi : IntKind.i64.wrap ((i : Int) + 1) = ((i + 1 : Nat) : Int) := by rw [IntKind.wrap_i64]; omega
        have ti : ((i : Int)).toNat = i := by omega
        have pi : (0 : Int) ≤ (i : Int) := by omega
        have HF : Hid (_ ∧ _ ∧ _) := ⟨hf, hh, hn⟩
        clear hf hh hn
        go_wp2
        clear hcell
        go_loopg [8] n (fun kj s8 wq => ∃ (j : Nat), s8 = .int .i64 j ∧ j ≤ n ∧ n - j ≤ kj ∧ Aside (SW w4.heap.size w5.heap.size w5.heap.size D 36 x.Body.Fixtures (.slice (some ⟨g, 0, none⟩) fn fc) hs wq ∧ Below w4.heap.size w4 wq))
        case atStart => exact ⟨0, rfl, Nat.zero_le _, Nat.le_refl _, S1⟩
        case round =>
          clear S1
          obtain ⟨j, rfl, hjn, hkj, S2⟩ := hrel
          have hcell : wr.cell? ⟨w5.heap.size, 24, none⟩ = some (.slice (some ⟨g, 0, none⟩) fn fc) := box_cell S2.out.1.box 24 HM.out.2.2.2.1
          obtain ⟨cur, T, q3, c2, d, c3⟩ : ∃ cur T, wr.heap[g]? = some (.cells cur T (0, 0)) ∧ cur[i * 10 + 2]? = some (.slice ha n hc) ∧ ∃ d, cur[i * 10 + 3]? = some (.int .i64 d) := by
            obtain h0 | ⟨g', cap, eF, cur, T, q1, q2, q3, q4⟩ := S2.out.1.row
            · omega
            · cases eF
              obtain ⟨c2, d, c3⟩ := q4 i _ HF.out.2.1
              exact ⟨cur, T, q3, c2, d, c3⟩
          have r2 : wr.cell? ⟨g, i * 10 + 2, none⟩ = _ := box_cell q3 (i * 10 + 2) c2
          by_cases hlj : (j : Int) < n
          · obtain ⟨b, cap, cur2, T2, e, p1, p2, p3, p4, p5⟩ : ∃ b cap cur T, ha = some ⟨b, 0, none⟩ ∧ hc = cap ∧ w4.heap.size ≤ b ∧ b < w5.heap.size ∧ wr.heap[b]? = some (.cells cur T (0, 0)) ∧ ∃ v, cur[j * 2]? = some (.int .i64 v) := by
              rcases S2.out.1.vs i f _ HF.out.1 HF.out.2.1 with ⟨h0, -⟩ | ⟨b, cap, cur, T, e, p1, p2, -, p4, p5⟩
              · have := HF.out.2.2; omega
              · cases e
                obtain ⟨v, -, h1, -⟩ := p5 j (by have := HF.out.2.2; omega)
                exact ⟨b, _, cur, T, rfl, rfl, p1, p2, p4, v, h1⟩
            subst e
            subst p1
            obtain ⟨v, p5⟩ := p5
            have r4 : wr.cell? ⟨b, j * 2, none⟩ = _ := box_cell p4 (j * 2) p5
            have z4 : wr.frozen? ⟨b, j * 2, none⟩ = false := box_free p4 (j * 2)
            have wj : IntKind.i64.wrap ((j : Int) + 1) = ((j + 1 : Nat) : Int) := by rw [IntKind.wrap_i64]; omega
            have tj : ((j : Int)).toNat = j := by omega
            have pj : (0 : Int) ≤ (j : Int) := by omega
            have S3 : ∀ z : Int, Aside (SW w4.heap.size w5.heap.size w5.heap.size D 36 x.Body.Fixtures (.slice (some ⟨g, 0, none⟩) fn fc) hs (wr.setCell ⟨b, j * 2, none⟩ (.int .i64 z)) ∧ Below w4.heap.size w4 (wr.setCell ⟨b, j * 2, none⟩ (.int .i64 z))) :=
              fun z => ⟨S2.out.1.setV (Nat.le_refl _) HF.out.1 HF.out.2.1 (by have := HF.out.2.2; omega) _ _, S2.out.2.setCell (p := ⟨b, j * 2, none⟩) p2 _⟩
            clear S2 p4 p5 p3 p2 q3 c2 c3
            go_wp2
            go_roundg (n - (j + 1))
            case measure => omega
            case rel => exact ⟨j + 1, by simp, by omega, by omega, S3 _⟩
          · have r3 : wr.cell? ⟨g, i * 10 + 3, none⟩ = _ := box_cell q3 (i * 10 + 3) c3
            have z3 : wr.frozen? ⟨g, i * 10 + 3, none⟩ = false := box_free q3 (i * 10 + 3)
            have gB : w4.heap.size ≤ g := by
              obtain h0 | ⟨g', cap, eF, cur, T, q1, -⟩ := S2.out.1.row
              · omega
              · cases eF; exact q1
            have S3 : ∀ z : Int, Aside (SW w4.heap.size w5.heap.size w5.heap.size D 36 x.Body.Fixtures (.slice (some ⟨g, 0, none⟩) fn fc) hs (wr.setCell ⟨g, i * 10 + 3, none⟩ (.int .i64 z)) ∧ Below w4.heap.size w4 (wr.setCell ⟨g, i * 10 + 3, none⟩ (.int .i64 z))) :=
              fun z => ⟨S2.out.1.setD (Nat.le_refl _) rfl (by omega) i _, S2.out.2.setCell (p := ⟨g, i * 10 + 3, none⟩) gB _⟩
            clear S2 q3 c2 c3
            go_wp2
            go_roundg (fn - (i + 1))
            case measure => omega
            case rel => exact ⟨i + 1, by simp, by omega, by omega, S3 _⟩
      · have lo : Below w4.heap.size w4 wr := S1.out.2
        have i4 := S4.out.size
        have bA := (lo.block _ (by omega)).trans S4.out.ba
        have bC := (lo.block _ T4.out.2.2).trans T4.out.1
        have rA := HA.out.1.mono (le_all (HA.out.2.2.2.2.below (S4.out.below.trans (lo.mono (by omega)))))
        have rC := R3.out.mono (le_all ((imm_all w3).below (T4.out.2.1.trans (lo.mono (Nat.le_of_lt T4.out.2.2)))))
        have HL : Hid (_ ∧ _ ∧ _ ∧ _ ∧ _) := ⟨bA, bC, rA, rC, lo⟩
        clear bA bC rA rC lo S1
        go_wp2_with (first
          | (refine wpList_loadat (cs := A) rfl rfl rfl rfl HR.out.1 (by rw [hAl]; exact HR.out.2) HL.out.1 (fun j v e => by rw [Nat.zero_add]; simpa using e) ?_)
          | (refine wpList_loadat (cs := C) rfl rfl rfl rfl HR.out.1 (by rw [hCl]; exact HR.out.2) HL.out.2.1 (fun j v e => by rw [Nat.zero_add]; simpa using e) ?_)
          | (go_at_call 22; refine (call_v (h22w (by trivial)) wr [.agg A.toArray, .agg C.toArray] (.cons HL.out.2.2.1 (.cons HL.out.2.2.2.1 .nil))).mono ?_; rintro _ w8 ⟨rfl, hb8⟩; have B8 : Hid (Below w4.heap.size w4 w8) := HL.out.2.2.2.2.trans (hb8.mono HL.out.2.2.2.2.size); clear hb8)
          | (go_at_call 10; refine (call_v hex w8 [] .nil).mono ?_; rintro _ w9 ⟨rfl, hb9⟩; have B9 : Hid (Below w4.heap.size w4 w9) := B8.out.trans (hb9.mono B8.out.size); clear hb9))
        go_ret
        exact ⟨rfl, S4.out.below.trans (B9.out.mono (by omega))⟩
end GoForm
end

section
/- InputCloneEqual: the law answers true. No conditions. -/
set_option linter.all false
set_option maxRecDepth 100000
open Go Go.Rx Go.Proofs Go.RowKit
namespace GoForm
theorem fnr5 (x y : Input) : FnR Tryz.prog 5 [e_Input x, e_Input y] (.v (.bool true)) [] := by
  have hex : FnR Tryz.prog 10 [] (.v (.bool true)) [] := c_10.ok () _ true trivial example43
  have hfew : FnR Tryz.prog 9 [e_sl_Input [x, y]] (.v (.bool (fewB x.Body && fewB y.Body))) [] := c_9.ok ([x, y], ()) _ _ ⟨rfl, trivial⟩ (few43_two x y)
  have h8 : (fewB x.Body && fewB y.Body) = true → x.Body.Fixtures.length ≤ 8 ∧ ∀ f ∈ x.Body.Fixtures, f.Shape.Vertices.length ≤ 20 := fun h => allF8 _ (by rw [Bool.and_eq_true] at h; exact h.1)
  have hbd : (fewB x.Body && fewB y.Body) = true → Bd x.Body := fun h => ⟨sm_of (h8 h).1 (by omega), fun f hf => sm_of ((h8 h).2 f hf) (by omega)⟩
  have key : ∃ q, (fewB x.Body && fewB y.Body) = true → input_Equal x y = some q ∧ caromref43_Equal x y = some q ∧ input_Equal x x = some true ∧ caromref43_Equal x x = some true ∧ caromref43_Clone x = some x := by
    by_cases h : (fewB x.Body && fewB y.Body) = true
    · obtain ⟨q, h1, h2, -⟩ := EI_eq x y (hbd h)
      obtain ⟨q2, h3, h4, h5⟩ := EI_eq x x (hbd h)
      rw [h5 rfl] at h3 h4
      refine ⟨q, fun _ => ⟨h1, h2, h3, h4, ?_⟩⟩
      unfold caromref43_Clone
      rw [CB_eq x.Body (by have := (h8 h).1; omega) (fun f hf => by have := (h8 h).2 f hf; omega), Bind_snr]
    · exact ⟨true, fun h2 => absurd h2 h⟩
  obtain ⟨q, hq⟩ := key
  generalize (fewB x.Body && fewB y.Body) = ex at *
  refine FnR.ofCalls fun w m args hi hr => ?_
  obtain ⟨v1, v2, rfl, r1, r2⟩ := reps2 hr
  refine (law_walk x y ex hex hfew (fun h => ?_) x (fun h => ?_) q (fun h => ?_) (fun h => ?_) (fun h => ?_) (fun h => ?_) (fun h => ?_) m v1 v2 w hi r1 r2).mono ?_
  · obtain ⟨a, b⟩ := h8 h
    exact ⟨by omega, fun f hf => by have := b f hf; omega⟩
  · exact c_19.ok (x, ()) _ x ⟨rfl, trivial⟩ (hq h).2.2.2.2
  · exact c_21.ok (x, y, ()) _ q ⟨rfl, rfl, trivial⟩ (hq h).1
  · exact c_22.ok (x, y, ()) _ q ⟨rfl, rfl, trivial⟩ (hq h).2.1
  · exact c_21.ok (x, x, ()) _ true ⟨rfl, rfl, trivial⟩ (hq h).2.2.1
  · exact c_22.ok (x, x, ()) _ true ⟨rfl, rfl, trivial⟩ (hq h).2.2.2.1
  · exact c_22.ok (x, x, ()) _ true ⟨rfl, rfl, trivial⟩ (hq h).2.2.2.1
  · rintro e w' ⟨rfl, hb⟩
    exact ⟨_, rfl, hb, .v⟩
theorem caromlaw43_InputCloneEqual_fnr (x y : Input) {P Q : Prop} (_ : P) (_ : Q) : FnR Tryz.prog 5 [e_Input x, e_Input y] (.v (.bool true)) [] := fnr5 x y
end GoForm
end
