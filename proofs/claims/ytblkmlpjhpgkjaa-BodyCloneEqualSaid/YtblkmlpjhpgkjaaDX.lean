/- Several texts in one. No conditions. -/
import Derived.Test.YtblkmlpjhpgkjaaF23T
import Derived.Test.YtblkmlpjhpgkjaaF23C
import Derived.Test.YtblkmlpjhpgkjaaQF
import Derived.Handy
import Derived.Orders
import Derived.Deep.Cut
import Derived.BigQuiet
import Derived.Shelf.RegionOpenPlain
import Derived.Test.YtblkmlpjhpgkjaaQ1
import Derived.Test.YtblkmlpjhpgkjaaQE
section
/- Bodies and fixtures as cells; slices that own their rows. No conditions. -/
set_option linter.all false
set_option maxRecDepth 100000
open Go Go.Rx Go.Proofs Go.RowKit
namespace GoForm
def fixC (f : Fixture) (h : Value) : List Value := [.int .i64 f.Shape.Kind, .int .i64 f.Shape.Radius, h, .int .i64 f.Density, .int .i64 f.Friction, .int .i64 f.Restitution, .bool f.Sensor, .int .i64 f.Category, .int .i64 f.Mask, .int .i64 f.Group]
def fixA (f : Fixture) : List AV := [.v (.int .i64 f.Shape.Kind), .v (.int .i64 f.Shape.Radius), e_sl_Vec f.Shape.Vertices, .v (.int .i64 f.Density), .v (.int .i64 f.Friction), .v (.int .i64 f.Restitution), .v (.bool f.Sensor), .v (.int .i64 f.Category), .v (.int .i64 f.Mask), .v (.int .i64 f.Group)]
def bodC (b : Body) (h : Value) : List Value := [.int .i64 b.ID, .int .i64 b.Kind, .int .i64 b.Transform.Position.X, .int .i64 b.Transform.Position.Y, .int .i64 b.Transform.Angle, .int .i64 b.Velocity.X, .int .i64 b.Velocity.Y, .int .i64 b.AngularVelocity, .int .i64 b.Force.X, .int .i64 b.Force.Y, .int .i64 b.Torque, .int .i64 b.LinearDamping, .int .i64 b.AngularDamping, .int .i64 b.GravityScale, .bool b.Bullet, .bool b.FixedRotation, .bool b.NoSleep, .bool b.Asleep, .int .i64 b.IdleSteps, h]
def bodA (b : Body) : List AV := [.v (.int .i64 b.ID), .v (.int .i64 b.Kind), .v (.int .i64 b.Transform.Position.X), .v (.int .i64 b.Transform.Position.Y), .v (.int .i64 b.Transform.Angle), .v (.int .i64 b.Velocity.X), .v (.int .i64 b.Velocity.Y), .v (.int .i64 b.AngularVelocity), .v (.int .i64 b.Force.X), .v (.int .i64 b.Force.Y), .v (.int .i64 b.Torque), .v (.int .i64 b.LinearDamping), .v (.int .i64 b.AngularDamping), .v (.int .i64 b.GravityScale), .v (.bool b.Bullet), .v (.bool b.FixedRotation), .v (.bool b.NoSleep), .v (.bool b.Asleep), .v (.int .i64 b.IdleSteps), e_sl_Fixture b.Fixtures]
theorem e_Fixture_eq (f : Fixture) : e_Fixture f = .agg (fixA f) := rfl
theorem e_Body_eq (b : Body) : e_Body b = .agg (bodA b) := rfl
theorem e_slV (l : List Vec) : e_sl_Vec l = .sl false 2 (l.map e_Vec) := rfl
theorem e_slF (l : List Fixture) : e_sl_Fixture l = .sl false 10 (l.map e_Fixture) := rfl
def vecC (x : Vec) : List Value := [.int .i64 x.X, .int .i64 x.Y]
theorem e_Vec_eq (x : Vec) : e_Vec x = .agg ((vecC x).map AV.v) := rfl
def vecsC (l : List Vec) : List Value := l.flatMap vecC
theorem vecsC_len (l : List Vec) : (vecsC l).length = l.length * 2 := by
  induction l with
  | nil => rfl
  | cons x l ih => show (vecC x ++ vecsC l).length = _; rw [List.length_append, ih, List.length_cons]; show 2 + _ = _; omega
theorem cells_V (l : List Vec) : (l.map e_Vec).flatMap AV.cells = (vecsC l).map AV.v := by
  induction l with
  | nil => rfl
  | cons x l ih =>
    show AV.cells (e_Vec x) ++ (l.map e_Vec).flatMap AV.cells = _
    rw [ih, e_Vec_eq]
    show _ = ((vecC x) ++ vecsC l).map AV.v
    rw [List.map_append]; rfl
theorem vecsC_one (l : List Vec) : ∀ v ∈ vecsC l, oneCell v = true := by
  intro v hv
  obtain ⟨x, -, hx⟩ := List.mem_flatMap.1 hv
  simp [vecC] at hx
  rcases hx with rfl | rfl <;> rfl

theorem repsV {m : Mem} {bl : Names} : ∀ l : List Value, Reps m bl (l.map AV.v) l
  | [] => .nil
  | a :: l => .cons .v (repsV l)
theorem repsV_eq {m : Mem} {bl : Names} : ∀ {l vs : List Value}, Reps m bl (l.map AV.v) vs → vs = l
  | [], _, .nil => rfl
  | a :: l, _, .cons h t => by rw [Rep.eq_v h, repsV_eq t]
theorem _root_.Go.Rx.Reps.inv {m bl x l vs} (h : Reps m bl (x :: l) vs) : ∃ v t, vs = v :: t ∧ Rep m bl x v ∧ Reps m bl l t := by
  cases h with
  | cons a b => exact ⟨_, _, rfl, a, b⟩
theorem _root_.Go.Rx.Reps.inv0 {m bl vs} (h : Reps m bl [] vs) : vs = [] := by cases h; rfl
theorem _root_.Go.Rx.Reps.invV {m bl x l vs} (h : Reps m bl (.v x :: l) vs) : ∃ t, vs = x :: t ∧ Reps m bl l t := by
  obtain ⟨v, t, rfl, a, b⟩ := h.inv
  exact ⟨t, by rw [Rep.eq_v a], b⟩
theorem fixA_inv {m bl f vs} (h : Reps m bl (fixA f) vs) : ∃ x, vs = fixC f x ∧ Rep m bl (e_sl_Vec f.Shape.Vertices) x := by
  unfold fixA at h
  obtain ⟨t1, rfl, h1⟩ := h.invV
  obtain ⟨t2, rfl, h2⟩ := h1.invV
  obtain ⟨x, t3, rfl, hx, h3⟩ := h2.inv
  obtain ⟨t4, rfl, h4⟩ := h3.invV
  obtain ⟨t5, rfl, h5⟩ := h4.invV
  obtain ⟨t6, rfl, h6⟩ := h5.invV
  obtain ⟨t7, rfl, h7⟩ := h6.invV
  obtain ⟨t8, rfl, h8⟩ := h7.invV
  obtain ⟨t9, rfl, h9⟩ := h8.invV
  obtain ⟨t10, rfl, h10⟩ := h9.invV
  obtain rfl := h10.inv0
  exact ⟨x, rfl, hx⟩
theorem fixA_mk {m bl f x} (h : Rep m bl (e_sl_Vec f.Shape.Vertices) x) : Reps m bl (fixA f) (fixC f x) :=
  .cons .v (.cons .v (.cons h (.cons .v (.cons .v (.cons .v (.cons .v (.cons .v (.cons .v (.cons .v .nil)))))))))
theorem bodA_inv {m bl b vs} (h : Reps m bl (bodA b) vs) : ∃ x, vs = bodC b x ∧ Rep m bl (e_sl_Fixture b.Fixtures) x := by
  unfold bodA at h
  obtain ⟨_, rfl, h1⟩ := h.invV
  obtain ⟨_, rfl, h2⟩ := h1.invV
  obtain ⟨_, rfl, h3⟩ := h2.invV
  obtain ⟨_, rfl, h4⟩ := h3.invV
  obtain ⟨_, rfl, h5⟩ := h4.invV
  obtain ⟨_, rfl, h6⟩ := h5.invV
  obtain ⟨_, rfl, h7⟩ := h6.invV
  obtain ⟨_, rfl, h8⟩ := h7.invV
  obtain ⟨_, rfl, h9⟩ := h8.invV
  obtain ⟨_, rfl, h10⟩ := h9.invV
  obtain ⟨_, rfl, h11⟩ := h10.invV
  obtain ⟨_, rfl, h12⟩ := h11.invV
  obtain ⟨_, rfl, h13⟩ := h12.invV
  obtain ⟨_, rfl, h14⟩ := h13.invV
  obtain ⟨_, rfl, h15⟩ := h14.invV
  obtain ⟨_, rfl, h16⟩ := h15.invV
  obtain ⟨_, rfl, h17⟩ := h16.invV
  obtain ⟨_, rfl, h18⟩ := h17.invV
  obtain ⟨_, rfl, h19⟩ := h18.invV
  obtain ⟨x, _, rfl, hx, h20⟩ := h19.inv
  obtain rfl := h20.inv0
  exact ⟨x, rfl, hx⟩
theorem bodA_mk {m bl b x} (h : Rep m bl (e_sl_Fixture b.Fixtures) x) : Reps m bl (bodA b) (bodC b x) :=
  .cons .v (.cons .v (.cons .v (.cons .v (.cons .v (.cons .v (.cons .v (.cons .v (.cons .v (.cons .v (.cons .v (.cons .v (.cons .v (.cons .v (.cons .v (.cons .v (.cons .v (.cons .v (.cons .v (.cons h .nil)))))))))))))))))))
theorem rep_agg {m bl l v} (h : Rep m bl (.agg l) v) : ∃ cs, v = .agg cs.toArray ∧ Reps m bl l cs ∧ ∀ c ∈ cs, oneCell c = true := by
  cases h with
  | agg a b => exact ⟨_, rfl, a, b⟩
theorem repBody {m b v} (h : Rep m noNames (e_Body b) v) : ∃ x, v = .agg (bodC b x).toArray ∧ Rep m noNames (e_sl_Fixture b.Fixtures) x ∧ oneCell x = true := by
  rw [e_Body_eq] at h
  obtain ⟨cs, rfl, h1, h2⟩ := rep_agg h
  obtain ⟨x, rfl, hx⟩ := bodA_inv h1
  exact ⟨x, rfl, hx, h2 x (by simp [bodC])⟩
theorem one_slice {m bl c sz l x} (h : Rep m bl (.sl c sz l) x) : oneCell x = true := by
  cases h <;> rfl
theorem mkBody {m b x} (h : Rep m noNames (e_sl_Fixture b.Fixtures) x) : Rep m noNames (e_Body b) (.agg (bodC b x).toArray) := by
  rw [e_Body_eq]
  refine .agg (bodA_mk h) ?_
  intro c hc
  have hx : oneCell x = true := by rw [e_slF] at h; exact one_slice h
  simp [bodC] at hc
  rcases hc with rfl | rfl | rfl | rfl | rfl | rfl | rfl | rfl | rfl | rfl | rfl | rfl | rfl | rfl | rfl | rfl | rfl | rfl | rfl | rfl <;> first | rfl | exact hx
theorem fixC_one {f x} (hx : oneCell x = true) : ∀ c ∈ fixC f x, oneCell c = true := by
  intro c hc
  simp [fixC] at hc
  rcases hc with rfl | rfl | rfl | rfl | rfl | rfl | rfl | rfl | rfl | rfl <;> first | rfl | exact hx

/-- The cells of fixtures whose vertices are these slices. -/
def fixsC : List Fixture → List Value → List Value
  | f :: fs, h :: hs => fixC f h ++ fixsC fs hs
  | _, _ => []
theorem fixsC_len : ∀ (fs : List Fixture) (hs : List Value), fs.length = hs.length → (fixsC fs hs).length = fs.length * 10
  | [], [], _ => rfl
  | f :: fs, h :: hs, e => by
    show (fixC f h ++ fixsC fs hs).length = _
    rw [List.length_append, fixsC_len fs hs (by simpa using e), List.length_cons]
    show 10 + _ = _; omega
theorem fixsC_get : ∀ (fs : List Fixture) (hs : List Value) (k j : Nat) (f : Fixture) (h : Value), fs[k]? = some f → hs[k]? = some h → j < 10 → (fixsC fs hs)[k * 10 + j]? = (fixC f h)[j]?
  | [], _, k, j, f, h, e, _, _ => by simp at e
  | _ :: _, [], k, j, f, h, _, e, _ => by simp at e
  | f0 :: fs, h0 :: hs, 0, j, f, h, e1, e2, hj => by
    simp at e1 e2; subst e1; subst e2
    show (fixC f0 h0 ++ fixsC fs hs)[0 * 10 + j]? = _
    rw [Nat.zero_mul, Nat.zero_add, List.getElem?_append_left (by exact hj)]
  | f0 :: fs, h0 :: hs, k + 1, j, f, h, e1, e2, hj => by
    show (fixC f0 h0 ++ fixsC fs hs)[(k + 1) * 10 + j]? = _
    have hl : (fixC f0 h0).length = 10 := rfl
    rw [List.getElem?_append_right (by rw [hl]; omega), hl, show (k + 1) * 10 + j - 10 = k * 10 + j by omega]
    exact fixsC_get fs hs k j f h (by simpa using e1) (by simpa using e2) hj
theorem fixsC_snoc : ∀ (fs : List Fixture) (hs : List Value) (f : Fixture) (h : Value), fs.length = hs.length → fixsC (fs ++ [f]) (hs ++ [h]) = fixsC fs hs ++ fixC f h
  | [], [], f, h, _ => by simp [fixsC]
  | f0 :: fs, h0 :: hs, f, h, e => by
    show fixC f0 h0 ++ fixsC (fs ++ [f]) (hs ++ [h]) = (fixC f0 h0 ++ fixsC fs hs) ++ fixC f h
    rw [fixsC_snoc fs hs f h (by simpa using e), List.append_assoc]
theorem fixs_inv {m bl} : ∀ (fs : List Fixture) (cs : List Value), Reps m bl ((fs.map e_Fixture).flatMap AV.cells) cs → ∃ hs, cs = fixsC fs hs ∧ fs.length = hs.length ∧ ∀ (k : Nat) (f : Fixture) (x : Value), fs[k]? = some f → hs[k]? = some x → Rep m bl (e_sl_Vec f.Shape.Vertices) x
  | [], cs, h => ⟨[], by have := h.inv0; simpa [fixsC] using this, rfl, by intro k f x e; simp at e⟩
  | f :: fs, cs, h => by
    have h : Reps m bl (fixA f ++ (fs.map e_Fixture).flatMap AV.cells) cs := h
    have a := h.take 10
    have b := h.drop 10
    have e1 : (fixA f ++ (fs.map e_Fixture).flatMap AV.cells).take 10 = fixA f := by
      rw [List.take_append_of_le_length (by exact Nat.le_refl _)]; rfl
    have e2 : (fixA f ++ (fs.map e_Fixture).flatMap AV.cells).drop 10 = (fs.map e_Fixture).flatMap AV.cells := by
      rw [List.drop_append_of_le_length (by exact Nat.le_refl _)]; rfl
    rw [e1] at a
    rw [e2] at b
    obtain ⟨x, hx, hr⟩ := fixA_inv a
    obtain ⟨hs, hy, hl, hk⟩ := fixs_inv fs _ b
    refine ⟨x :: hs, ?_, by simp [hl], ?_⟩
    · rw [← List.take_append_drop 10 cs, hx, hy]; rfl
    · intro k g y e1 e2
      cases k with
      | zero => simp at e1 e2; subst e1; subst e2; exact hr
      | succ k => exact hk k g y (by simpa using e1) (by simpa using e2)
theorem fixs_mk {m bl} : ∀ (fs : List Fixture) (hs : List Value), fs.length = hs.length → (∀ (k : Nat) (f : Fixture) (x : Value), fs[k]? = some f → hs[k]? = some x → Rep m bl (e_sl_Vec f.Shape.Vertices) x) → Reps m bl ((fs.map e_Fixture).flatMap AV.cells) (fixsC fs hs)
  | [], [], _, _ => .nil
  | f :: fs, x :: hs, e, h => by
    show Reps m bl (fixA f ++ (fs.map e_Fixture).flatMap AV.cells) (fixC f x ++ fixsC fs hs)
    exact (fixA_mk (h 0 f x rfl rfl)).append (fixs_mk fs hs (by simpa using e) fun k g y e1 e2 => h (k + 1) g y (by simpa using e1) (by simpa using e2))

/-- What a slice of fixtures is in memory. -/
theorem repFixs {m fs v} (h : Rep m noNames (e_sl_Fixture fs) v) : ∃ ad cap, v = .slice ad fs.length cap ∧ (0 < fs.length → ∃ blk off hs, ad = some ⟨blk, off, none⟩ ∧ fs.length = hs.length ∧ (∀ j x, (fixsC fs hs)[j]? = some x → m blk (off + j) = some x) ∧ (∀ c ∈ fixsC fs hs, oneCell c = true) ∧ ∀ (k : Nat) (f : Fixture) (x : Value), fs[k]? = some f → hs[k]? = some x → Rep m noNames (e_sl_Vec f.Shape.Vertices) x) := by
  rw [e_slF] at h
  generalize hl : fs.map e_Fixture = l at h
  cases h with
  | slnil =>
    have : fs = [] := by simpa using hl
    subst this
    exact ⟨none, 0, rfl, fun h => absurd h (by simp)⟩
  | @sl _ _ _ _ a cap cs h1 h2 h3 h4 h5 h6 h7 =>
    have hn : l.length = fs.length := by rw [← hl]; simp
    rw [hn]
    refine ⟨some a, cap, rfl, fun hp => ?_⟩
    rw [← hl] at h2
    obtain ⟨hs, rfl, e, hk⟩ := fixs_inv fs cs h2
    refine ⟨a.block, a.off, hs, ?_, e, h5, h3, hk⟩
    have := h4 (by rw [fixsC_len _ _ e]; omega)
    cases a
    simp at this
    rw [this]
end GoForm
end

section
/- shape.Clone: its vertices are its own. No conditions. -/
set_option linter.all false
set_option maxRecDepth 100000
open Go Go.Rx Go.Proofs Go.RowKit
namespace GoForm
/-- A slice of a row of one's own: nothing, or the block's first cells. -/
def VOw (B : Nat) (w : World) (h : Value) (n : Nat) (xs : List Value) : Prop :=
  (n = 0 ∧ xs = [] ∧ ∃ ad cap, h = .slice ad 0 cap ∧ (ad = none → cap = 0)) ∨ ∃ g cap cur T, h = .slice (some ⟨g, 0, none⟩) n cap ∧ B ≤ g ∧ g < w.heap.size ∧ w.heap[g]? = some (.cells cur T (0, 0)) ∧ n ≤ cap ∧ xs.length ≤ cur.size ∧ cur.toList.take xs.length = xs
theorem heap_at (w : World) (o : Obj) (b : Nat) (h : b = w.heap.size) : (w.alloc o).heap[b]? = some o := by subst h; show (w.heap.push o)[w.heap.size]? = _; simp
theorem heap_past (w : World) (o : Obj) (b : Nat) (h : b < w.heap.size) : (w.alloc o).heap[b]? = w.heap[b]? := by show (w.heap.push o)[b]? = _; rw [Array.getElem?_push_lt h]; simp [h]
theorem box_cell {w : World} {b : Nat} {cs : Array Value} {T : TypeId} (h : w.heap[b]? = some (.cells cs T (0, 0))) (j : Nat) {v : Value} (e : cs[j]? = some v) : w.cell? ⟨b, j, none⟩ = some v := by rw [cell_of_blk h]; exact e
theorem box_free {w : World} {b : Nat} {cs : Array Value} {T : TypeId} (h : w.heap[b]? = some (.cells cs T (0, 0))) (j : Nat) : w.frozen? ⟨b, j, none⟩ = false := by unfold World.frozen?; rw [h]; simp
theorem VOw.mono {B B' w h n xs} (v : VOw B w h n xs) (hb : B' ≤ B) : VOw B' w h n xs := by
  rcases v with v | ⟨g, cap, cur, T, h1, h2, h3⟩
  · exact .inl v
  · exact .inr ⟨g, cap, cur, T, h1, Nat.le_trans hb h2, h3⟩
theorem heap_set (w : World) (a : Addr) (x : Value) (b : Nat) (h : b ≠ a.block) : (w.setCell a x).heap[b]? = w.heap[b]? := Go.RowKit.Below.heap_setCell _ _ _ _ h
theorem size_set (w : World) (a : Addr) (x : Value) : (w.setCell a x).heap.size = w.heap.size := by simp [World.setCell]
theorem VOw.set {B w h n xs} (v : VOw B w h n xs) (a : Addr) (x : Value) (ha : a.block < B) : VOw B (w.setCell a x) h n xs := by
  rcases v with v | ⟨g, cap, cur, T, h1, h2, h3, h4, h5⟩
  · exact .inl v
  · exact .inr ⟨g, cap, cur, T, h1, h2, by rw [size_set]; exact h3, by rw [heap_set _ _ _ _ (by omega)]; exact h4, h5⟩
theorem heap_own {w : World} {b : Nat} {cs : Array Value} {T : TypeId} {fr} (h : w.heap[b]? = some (.cells cs T fr)) (j : Nat) (v : Value) (cs' : Array Value) (e : cs.setIfInBounds j v = cs') : (w.setCell ⟨b, j, none⟩ v).heap[b]? = some (.cells cs' T fr) := by
  subst e
  unfold World.setCell
  simp [Array.getElem?_modify, h]
theorem results_box {P : Program} {fn : Func} {t : Tmp} {ty : TypeId} {b : Nat} {cs : List Value} {T : TypeId} {w : World} {tmps : Array Value} (h : fn.results = #[.cell t ty]) (ht : tmps.getD t undef = .pointer (some ⟨b, 0, none⟩)) (ha : tAg P ty = some true) (hs : tSz P ty = some cs.length) (hb : w.heap[b]? = some (.cells cs.toArray T (0, 0))) :
    (results fn tmps).run P w = .ok (.agg cs.toArray) w := by
  have := run_loadVar_agg (P := P) (ty := ty) (w := w) (b := b) (o := 0) (cs := cs) ha hs (fun j v e => by rw [Nat.zero_add]; exact box_cell hb j (by simpa using e))
  have ht : tmps[t]?.getD undef = .pointer (some ⟨b, 0, none⟩) := by simpa using ht
  simp [results, h, ht, this, asAddr]
theorem cloneV_some (l : List Vec) (h : l.length ≤ 1099511627776) : slices_Clone l = some l := by
  unfold slices_Clone
  rw [Alike_of (by intro h; subst h; rfl), Chk_of (by omega)]
theorem own_ansV (l : List Vec) : (ansS tb cd [0] [Ix.tsl_Vec] l 0).1.av = .rw 0 2 ∧ ((ansS tb cd [0] [Ix.tsl_Vec] l 0).2.map fun p => (p.1, p.2.av)) = [(0, .cells (elC tb Ix.tVec l))] := ⟨rfl, rfl⟩
theorem elC_V (l : List Vec) : elC tb Ix.tVec l = (vecsC l).map AV.v := by
  induction l with
  | nil => rfl
  | cons x l ih =>
    show AV.cells (e_Vec x) ++ elC tb Ix.tVec l = _
    rw [ih, e_Vec_eq]
    show _ = ((vecC x) ++ vecsC l).map AV.v
    rw [List.map_append]; rfl
theorem vec_fresh (l : List Vec) (h40 : l.length ≤ 1099511627776) (m : Mem) (v : Value) (w : World) (hi : Imm m w) (hr : Rep m noNames (e_sl_Vec l) v) :
    Calls Try.prog 50 #[v] w fun e w' => ∃ h, e = .returned h ∧ Below w.heap.size w w' ∧ VOw w.heap.size w' h l.length (vecsC l) := by
  have hcl := c_50.ok (l, ()) [e_sl_Vec l] l ⟨rfl, trivial⟩ (cloneV_some l h40)
  have hcl : FnR Try.prog 50 [e_sl_Vec l] (.rw 0 2) [(0, .cells (elC tb Ix.tVec l))] := hcl
  refine (hcl w m [v] hi (.cons hr .nil)).mono ?_
  rintro e w1 ⟨v1, m', bl', rfl, hb, hws, -, hrep⟩
  refine ⟨v1, rfl, hb, ?_⟩
  generalize hz : AV.rw 0 2 = z at hrep
  cases hrep <;> cases hz
  case rwnil ad hnil =>
    have hl : l = [] := by
      rcases hws.blk 0 _ (by rw [find_cons, if_pos rfl]) with ⟨-, h⟩ | ⟨b, n, arr, T, pre, rest, h, -⟩
      · have := congrArg List.length h
        rw [elC_V, List.length_map, vecsC_len] at this
        exact List.length_eq_zero_iff.1 (by have e0 : ([] : List AV).length = 0 := rfl; omega)
      · rw [hnil] at h; cases h
    subst hl
    exact .inl ⟨rfl, rfl, ad, 0, rfl, fun _ => rfl⟩
  case rw b n cap len hcap hbl hlen hsz =>
    rcases hws.blk 0 _ (by rw [find_cons, if_pos rfl]) with ⟨h, -⟩ | ⟨b', n', arr, T, pre, rest, h1, h2, h3, h4, h5, h6⟩
    · rw [hbl] at h; cases h
    rw [hbl] at h1
    cases h1
    rw [elC_V] at h5
    obtain rfl := repsV_eq h5
    have h31 : arr.size = n.1 := congrArg Prod.fst h3
    have h32 : (vecsC l).length = n.2 := congrArg Prod.snd h3
    obtain rfl : len = l.length := by rw [← h32, vecsC_len] at hlen; omega
    obtain ⟨o1, o2, o3⟩ := hws.own 0 b n hbl
    have hle : (vecsC l).length ≤ arr.size := by
      have := congrArg List.length h4
      rw [List.length_append] at this
      have e : arr.toList.length = arr.size := by simp
      omega
    exact .inr ⟨b, cap, arr, T, rfl, o1, o2, h2, hcap, hle, by rw [h4, List.take_left']; rfl⟩
set_option maxHeartbeats 4000000 in
theorem shape_fresh (l : List Vec) (h40 : l.length ≤ 1099511627776) (m : Mem) (x0 x1 : Int) (f2 : Value) (w : World) (hi : Imm m w) (hr : Rep m noNames (e_sl_Vec l) f2) :
    Calls Try.prog 24 #[.agg #[(.int .i64 x0), (.int .i64 x1), f2]] w fun e w' => ∃ h, e = .returned (.agg #[(.int .i64 x0), (.int .i64 x1), h]) ∧ Below w.heap.size w w' ∧ VOw w.heap.size w' h l.length (vecsC l) := by
  have e50 := Try.call50
  have o2 : f2.oneCell' = true := by rw [e_slV] at hr; exact one_slice hr
  go_enter Try.func24, Try.ntmps24
  have key : ∀ w2 : World, w2 = (w.alloc (.cells #[(.int .i64 x0), (.int .i64 x1), f2] 37)).alloc (.cells #[.int .i64 0, .int .i64 0, .slice none 0 0] 37) → Calls Try.prog 50 #[f2] w2 fun e w' => ∃ ad n cap, e = .returned (.slice ad n cap) ∧ Below w.heap.size w w' ∧ w'.heap[w.heap.size]? = some (.cells #[(.int .i64 x0), (.int .i64 x1), f2] 37 (0, 0)) ∧ w'.heap[w.heap.size + 1]? = some (.cells #[.int .i64 0, .int .i64 0, .slice none 0 0] 37 (0, 0)) ∧ VOw (w.heap.size + 2) w' (.slice ad n cap) l.length (vecsC l) := by
    rintro w2 hw2
    have hb2 : Below w.heap.size w w2 := by rw [hw2]; exact ((Below.refl _ _).alloc (Nat.le_refl _) _).alloc (by simp) _
    have hs2 : w2.heap.size = w.heap.size + 2 := by rw [hw2]; simp
    refine (vec_fresh l h40 m f2 w2 (hi.below hb2) hr).mono ?_
    rintro e w1 ⟨h, rfl, hb, hv⟩
    rw [hs2] at hv
    have q1 : w1.heap[w.heap.size]? = w2.heap[w.heap.size]? := hb.block _ (by omega)
    have q2 : w1.heap[w.heap.size + 1]? = w2.heap[w.heap.size + 1]? := hb.block _ (by omega)
    obtain ⟨ad, n, cap, rfl⟩ : ∃ ad n cap, h = .slice ad n cap := by
      rcases hv with ⟨-, -, ad, cap, rfl, -⟩ | ⟨g, cap, cur, T, rfl, -⟩ <;> exact ⟨_, _, _, rfl⟩
    refine ⟨ad, n, cap, rfl, hb2.trans (hb.mono (by omega)), ?_, ?_, hv⟩
    · rw [q1, hw2, heap_past _ _ _ (by simp), heap_at _ _ _ rfl]
    · rw [q2, hw2, heap_at _ _ _ (by simp)]
  go_wp2_with (go_at_call 50; refine (key _ rfl).mono ?_; rintro _ w1 ⟨ad, n, cap, rfl, hb, b1, b2, hv⟩; have g0 := box_cell b1 0 rfl; have g1 := box_cell b1 1 rfl; have g2 := box_cell b1 2 rfl; have z2 := box_free b1 2; have y0 := box_cell b2 0 rfl; have y1 := box_cell b2 1 rfl; have y2 := box_cell b2 2 rfl; have u0 := box_free b2 0; have u1 := box_free b2 1; have u2 := box_free b2 2)
  have s0 := (heap_set w1 ⟨w.heap.size, 2, none⟩ (.slice ad n cap) (w.heap.size + 1) (by simp)).trans b2
  have s1 := heap_own s0 0 (.int .i64 x0) #[.int .i64 x0, .int .i64 0, .slice none 0 0] rfl
  have s2 := heap_own s1 1 (.int .i64 x1) #[.int .i64 x0, .int .i64 x1, .slice none 0 0] rfl
  have s3 := heap_own s2 2 (.slice ad n cap) [.int .i64 x0, .int .i64 x1, .slice ad n cap].toArray rfl

  have r0 : Try.f24.results = #[.cell 2 37] := rfl
  have ra : tAg Try.prog 37 = some true := by kernel_rfl
  have rz : tSz Try.prog 37 = some 3 := by kernel_rfl
  have hbf := (((hb.setCell (p := ⟨w.heap.size, 2, none⟩) (by simp) (.slice ad n cap)).setCell (p := ⟨w.heap.size + 1, 0, none⟩) (by simp) (.int .i64 x0)).setCell (p := ⟨w.heap.size + 1, 1, none⟩) (by simp) (.int .i64 x1)).setCell (p := ⟨w.heap.size + 1, 2, none⟩) (by simp) (.slice ad n cap)
  have hvf := ((((hv.set ⟨w.heap.size, 2, none⟩ (.slice ad n cap) (by simp)).set ⟨w.heap.size + 1, 0, none⟩ (.int .i64 x0) (by simp)).set ⟨w.heap.size + 1, 1, none⟩ (.int .i64 x1) (by simp)).set ⟨w.heap.size + 1, 2, none⟩ (.slice ad n cap) (by simp)).mono (show w.heap.size ≤ w.heap.size + 2 by omega)
  generalize ((((w1.setCell ⟨w.heap.size, 2, none⟩ (.slice ad n cap)).setCell ⟨w.heap.size + 1, 0, none⟩ (.int .i64 x0)).setCell ⟨w.heap.size + 1, 1, none⟩ (.int .i64 x1)).setCell ⟨w.heap.size + 1, 2, none⟩ (.slice ad n cap)) = wf at s3 hbf hvf ⊢
  refine bodyPost_ret (results_box (cs := [.int .i64 x0, .int .i64 x1, .slice ad n cap]) r0 rfl ra rz s3) rfl ?_
  exact ⟨_, rfl, hbf, hvf⟩
end GoForm
end

section
/- body.Clone: its fixtures and their vertices are its own. No conditions. -/
set_option linter.all false
set_option maxRecDepth 100000
open Go Go.Rx Go.Proofs Go.RowKit
namespace GoForm
/-- Such a row lies elsewhere. -/
def Off (h : Value) (n : Nat) (row : Option Nat) : Prop := n = 0 ∨ ∀ g cap, h = .slice (some ⟨g, 0, none⟩) n cap → some g ≠ row
/-- A body in memory of one's own from B on. -/
structure FOw (B : Nat) (w : World) (fs : List Fixture) (hF : Value) (hs : List Value) : Prop where
  row : w.ownsRow B 39 10 hF fs.length (fixsC fs hs)
  len : fs.length = hs.length
  vs : ∀ (k : Nat) (f : Fixture) (h : Value), fs[k]? = some f → hs[k]? = some h → VOw B w h f.Shape.Vertices.length (vecsC f.Shape.Vertices) ∧ Off h f.Shape.Vertices.length hF.ownBlock ∧ h.oneCell' = true
theorem VOw.kept {B w h n xs w' row} (v : VOw B w h n xs) (hx : n = 0 → xs = []) (ho : Off h n row) (hg : w.grownBy w' row) : VOw B w' h n xs := by
  by_cases h0 : n = 0
  · subst h0
    obtain ⟨ad, cap, e, e'⟩ : ∃ ad cap, h = .slice ad 0 cap ∧ (ad = none → cap = 0) := by
      rcases v with ⟨-, -, ad, cap, e⟩ | ⟨g, cap, cur, T, e, -⟩
      · exact ⟨_, _, e⟩
      · exact ⟨_, _, e, fun h => by cases h⟩
    exact .inl ⟨rfl, hx rfl, ad, cap, e, e'⟩
  · rcases v with ⟨e, -⟩ | ⟨g, cap, cur, T, h1, h2, h3, h4, h5⟩
    · exact absurd e h0
    · have hne : some g ≠ row := by
        rcases ho with e | e
        · exact absurd e h0
        · exact e g cap h1
      exact .inr ⟨g, cap, cur, T, h1, h2, Nat.lt_of_lt_of_le h3 hg.size, (hg.block g h3 hne).trans h4, h5⟩
theorem below_grown {w w' : World} (h : Below w.heap.size w w') : w.grownBy w' none := ⟨h.os, h.tape, h.output, h.size, fun k hk _ => h.block k hk⟩
theorem VOw.below {B w h n xs w'} (v : VOw B w h n xs) (hb : Below w.heap.size w w') : VOw B w' h n xs := by
  rcases v with v | ⟨g, cap, cur, T, h1, h2, h3, h4, h5⟩
  · exact .inl v
  · exact .inr ⟨g, cap, cur, T, h1, h2, Nat.lt_of_lt_of_le h3 hb.size, (hb.block g h3).trans h4, h5⟩
theorem vecsC_nil {l : List Vec} (h : l.length = 0) : vecsC l = [] := by
  have : l = [] := List.length_eq_zero_iff.1 h
  subst this; rfl
theorem FOw.below {B w fs hF hs w'} (h : FOw B w fs hF hs) (hb : Below w.heap.size w w') : FOw B w' fs hF hs :=
  ⟨h.row.kept (below_grown hb) (by cases hF.ownBlock <;> simp), h.len, fun k f x e1 e2 => ⟨(h.vs k f x e1 e2).1.below hb, (h.vs k f x e1 e2).2⟩⟩
section
variable {P : Program} {w : World}
theorem append_block (base : Nat) (t ty e : TypeId) (i : TypeInfo) (z : Value) (size bytes : Nat) (ht : P.underlying t = some (.slice e)) (hi : P.info? e = some i) (hz : i.zero = some z)
    (hsize : i.size = size) (hby : i.bytes = bytes)
    (v : Value) (n : Nat) (xs : List Value) (hown : w.ownsRow base e size v n xs)
    (a : Addr) (m c : Nat) (news : List Value) (hl : news.length = m * size) (hnews : ∀ j u, news[j]? = some u → w.cell? (a.add j) = some u) (h1 : ∀ u ∈ news, u.oneCell' = true)
    (h63 : n + m ≤ maxLen) (hbytes : (n + m) * bytes ≤ 140737488355328) (hm : 0 < m) (v' : Value) (w' : World)
    (hr : (Builtin.append_ #[t, t] ty #[v, .slice (some a) m c]).run P w = .ok v' w') : v'.ownBlock = v.ownBlock ∨ v'.ownBlock = some w.heap.size := by
  subst hsize
  subst hby
  simp only [maxLen] at h63
  rcases hown.2 with ⟨rfl, rfl⟩ | ⟨g, cap, cur, rfl, hbg, hg, hnc, hcm, hcs, htake⟩
  · have h := run_append_nil (P := P) w t ty e i z ht hi hz a m c news hl hnews hm (by omega) (by have hb := hbytes; simp only [Nat.zero_add] at hb; omega)
    rw [hr] at h
    cases h
    exact .inr rfl
  · by_cases hroom : n + m ≤ cap
    · have hfit : n * i.size + news.length ≤ cur.size := by rw [hl, hcs, ← Nat.add_mul]; exact Nat.mul_le_mul_right _ hroom
      have h := run_append_room (P := P) w t ty e i ht hi g n cap cur hg a m c news hl hnews h1 hroom hfit
      rw [hr] at h
      cases h
      exact .inl rfl
    · have holds : ∀ j u, xs[j]? = some u → w.cell? ((⟨g, 0, none⟩ : Addr).add j) = some u := hown.cells (g := g) rfl
      have h := run_append_grow (P := P) w t ty e i z ht hi hz ⟨g, 0, none⟩ n cap xs hown.1 holds a m c news hl hnews (by omega) (by omega) (growslice_fits (by omega) hbytes)
      rw [hr] at h
      cases h
      exact .inr rfl
theorem wpList_append_two {ops : Array Oper} {rest : List Oper} {o : Oper} {a : Act} {Q : Exit → Act → World → Prop} (hgd : o.guard = none) (s x : Operand) (t : TypeId)
    (ho : o.op = .call { callee := .builtin .append, args := #[s, x], argTypes := #[t, t] })
    (base : Nat) (e : TypeId) (i : TypeInfo) (z : Value) (size bytes : Nat) (ht : P.underlying t = some (.slice e)) (hi : P.info? e = some i) (hz : i.zero = some z)
    (hsize : i.size = size) (hby : i.bytes = bytes) (hzs : z.cells.size = size) (hsz : 0 < size)
    (v : Value) (n : Nat) (xs : List Value) (hs : a.eval s = v) (hown : w.ownsRow base e size v n xs)
    (ad : Addr) (m c : Nat) (news : List Value) (hx : a.eval x = .slice (some ad) m c) (hl : news.length = m * size) (hnews : ∀ j u, news[j]? = some u → w.cell? (ad.add j) = some u) (h1 : ∀ u ∈ news, u.oneCell' = true)
    (h63 : n + m ≤ maxLen) (hbytes : (n + m) * bytes ≤ 140737488355328) (hbase : base ≤ w.heap.size) (hm : 0 < m)
    (h : ∀ v' w', w'.ownsRow base e size v' (n + m) (xs ++ news) → w.grownBy w' v.ownBlock → (v'.ownBlock = v.ownBlock ∨ v'.ownBlock = some w.heap.size) → wpList P ops Q rest (a.put o.dst v') w') : wpList P ops Q (o :: rest) a w :=
  wpList_plain hgd fun K hK => by
    obtain ⟨v', w', hr, h2, h3, -⟩ := run_append_own (P := P) w base t o.type e i z size bytes ht hi hz hsize hby hzs hsz v n xs hown ad m c news hl hnews h1 h63 hbytes hbase
    have hb := append_block (P := P) (w := w) base t o.type e i z size bytes ht hi hz hsize hby v n xs hown ad m c news hl hnews h1 h63 hbytes hm v' w' hr
    unfold Oper.wp execOp
    simp only [ho, resolve, invoke, builtin, Sem.run_bind, Sem.run_pure, Result.andThen_ok, List.map_toArray, List.map_cons, List.map_nil, hs, hx, hr]
    exact hK _ _ (h v' w' h2 h3 hb)
end
structure LInv (w : World) (b : Body) (hdr : Value) (i : Nat) (hs : List Value) (hF : Value) (wr : World) : Prop where
  below : Below w.heap.size w wr
  box1 : wr.heap[w.heap.size]? = some (.cells (bodC b hdr).toArray 29 (0, 0))
  box2 : wr.heap[w.heap.size + 1]? = some (.cells #[.int .i64 0, .int .i64 0, .int .i64 0, .int .i64 0, .int .i64 0, .int .i64 0, .int .i64 0, .int .i64 0, .int .i64 0, .int .i64 0, .int .i64 0, .int .i64 0, .int .i64 0, .int .i64 0, .bool false, .bool false, .bool false, .bool false, .int .i64 0, .slice none 0 0] 29 (0, 0))
  size : w.heap.size + 2 ≤ wr.heap.size
  own : FOw (w.heap.size + 2) wr (b.Fixtures.take i) hF hs
theorem VOw.off {B w h n xs row} (v : VOw B w h n xs) (hr : ∀ g, B ≤ g → g < w.heap.size → some g ≠ row) : Off h n row := by
  rcases v with ⟨e, -⟩ | ⟨g, cap, cur, T, h1, h2, h3, h4, h5⟩
  · exact .inl e
  · refine .inr fun g' cap' e => ?_
    rw [h1] at e
    cases e
    exact hr _ h2 h3
theorem Off.both {h n r1 r2 r3} {B w xs} (v : VOw B w h n xs) (o : Off h n r1) (e : r2 = r1 ∨ r2 = some r3) (hr : w.heap.size ≤ r3) : Off h n r2 := by
  rcases e with e | e
  · rw [e]; exact o
  · rw [e]
    exact v.off fun g _ h2 h3 => by have := Option.some.inj h3; omega
theorem LInv.step {w : World} {b : Body} {hdr : Value} {i : Nat} {hs : List Value} {u3 : Value} {wr w1 w2 : World} {f : Fixture} {h v1 : Value} (S : LInv w b hdr i hs u3 wr) (hf : b.Fixtures[i]? = some f) (hb1 : Below wr.heap.size wr w1)
    (hv : VOw (wr.heap.size + 1) w1 h f.Shape.Vertices.length (vecsC f.Shape.Vertices)) (oh : h.oneCell' = true)
    (hown : w2.ownsRow (w.heap.size + 2) 39 10 v1 ((b.Fixtures.take i).length + 1) (fixsC (b.Fixtures.take i) hs ++ fixC f h)) (hg : w1.grownBy w2 u3.ownBlock) (hblk : v1.ownBlock = u3.ownBlock ∨ v1.ownBlock = some w1.heap.size) :
    LInv w b hdr (i + 1) (hs ++ [h]) v1 w2 := by
  have hlt : i < b.Fixtures.length := (List.getElem?_eq_some_iff.1 hf).1
  have hrow := S.own.row.lt
  have hsz := S.size
  have hbs := hb1.size
  have ht : b.Fixtures.take (i + 1) = b.Fixtures.take i ++ [f] := by
    rw [List.take_succ, hf]; rfl
  have hne : ∀ k, k < w.heap.size + 2 → some k ≠ u3.ownBlock := fun k hk e => by
    have := hrow k e.symm
    omega
  have hB : Below w.heap.size w w1 := S.below.trans (hb1.mono (by omega))
  refine ⟨hB.grown hg (by omega) (fun k e => by have := (hrow k e).1; omega), ?_, ?_, ?_, ?_⟩
  · rw [hg.block _ (by omega) (hne _ (by omega)), hb1.block _ (by omega)]; exact S.box1
  · rw [hg.block _ (by omega) (hne _ (by omega)), hb1.block _ (by omega)]; exact S.box2
  · have := hg.size; omega
  · rw [ht]
    refine ⟨?_, by have := S.own.len; simp only [List.length_append, this]; rfl, ?_⟩
    · rw [fixsC_snoc _ _ _ _ S.own.len, List.length_append]; exact hown
    · intro k f' x e1 e2
      have hl : (b.Fixtures.take i).length = i := by rw [List.length_take]; omega
      have hl2 : hs.length = i := by rw [← S.own.len]; exact hl
      by_cases hk : k < i
      · rw [List.getElem?_append_left (by omega)] at e1 e2
        obtain ⟨q1, q2, q3⟩ := S.own.vs k f' x e1 e2
        refine ⟨(q1.below hb1).kept vecsC_nil q2 hg, Off.both q1 q2 hblk hbs, q3⟩
      · rw [List.getElem?_append_right (by omega), hl] at e1
        rw [List.getElem?_append_right (by omega), hl2] at e2
        obtain ⟨j, hj⟩ : ∃ j, j = k - i := ⟨_, rfl⟩
        rw [← hj] at e1 e2
        have h0 : j = 0 := by
          have := (List.getElem?_eq_some_iff.1 e1).1
          simp only [List.length_singleton] at this; omega
        subst h0
        have e1 : f = f' := Option.some.inj e1
        have e2 : h = x := Option.some.inj e2
        subst e1
        subst e2
        have o1 : Off h f.Shape.Vertices.length u3.ownBlock := hv.off fun g h1 h2 e => by have := (hrow g e.symm).2; omega
        exact ⟨(hv.kept vecsC_nil o1 hg).mono (by omega), Off.both hv o1 hblk (Nat.le_refl _), oh⟩
theorem cells_new (w : World) (cs : List Value) (T : TypeId) (b : Nat) (hb : b = w.heap.size) (j : Nat) (u : Value) (e : cs[j]? = some u) : (w.alloc (.cells cs.toArray T)).cell? ((⟨b, 0, none⟩ : Addr).add j) = some u := by
  rw [addr_add, Nat.zero_add]
  exact box_cell (heap_at w _ b hb) j (by simpa using e)
theorem own_set {B : Nat} {w : World} {fs hF hs} (h : FOw B w fs hF hs) (a : Addr) (x : Value) (ha : a.block < B) : FOw B (w.setCell a x) fs hF hs :=
  ⟨(show w.grownBy (w.setCell a x) (some a.block) from ⟨rfl, rfl, rfl, by rw [size_set]; exact Nat.le_refl _, fun k _ hk => heap_set _ _ _ _ (fun e => hk (by rw [e]))⟩) |> fun g => h.row.kept g (by
      cases e : hF.ownBlock with
      | none => exact .inl rfl
      | some k => refine .inr fun e2 => ?_; have := (h.row.lt k e).1; have := Option.some.inj e2; omega), h.len, fun k f y e1 e2 => ⟨(h.vs k f y e1 e2).1.set a x ha, (h.vs k f y e1 e2).2⟩⟩
theorem row_mono {w : World} {base base' : Nat} {e : TypeId} {size : Nat} {v : Value} {n : Nat} {xs : List Value} (h : w.ownsRow base e size v n xs) (hb : base' ≤ base) : w.ownsRow base' e size v n xs := by
  obtain ⟨h1, h2 | ⟨g, cap, cur, q1, q2, q3⟩⟩ := h
  · exact ⟨h1, .inl h2⟩
  · exact ⟨h1, .inr ⟨g, cap, cur, q1, Nat.le_trans hb q2, q3⟩⟩
theorem own_mono {B B' : Nat} {w : World} {fs hF hs} (h : FOw B w fs hF hs) (hb : B' ≤ B) : FOw B' w fs hF hs :=
  ⟨row_mono h.row hb, h.len, fun k f y e1 e2 => ⟨(h.vs k f y e1 e2).1.mono hb, (h.vs k f y e1 e2).2⟩⟩
theorem wpList_copybox {P : Program} {ops : Array Oper} {Q : Exit → Act → World → Prop} {o1 o2 : Oper} {a : Act} {w : World} {ty : TypeId} {y z t : Operand} {d : Nat} {b1 b2 : Nat} {cs : List Value} {c0 : Array Value} {T1 T2 : TypeId}
    (g1 : o1.guard = none) (g2 : o2.guard = none) (e1 : o1.op = .load ty y) (d1 : o1.dst = some d) (e2 : o2.op = .store ty t z) (d2 : o2.dst = none)
    (hy : a.eval y = .pointer (some ⟨b1, 0, none⟩)) (ht : (a.put (some d) (.agg cs.toArray)).eval t = .pointer (some ⟨b2, 0, none⟩)) (hz : (a.put (some d) (.agg cs.toArray)).eval z = .agg cs.toArray)
    (ha : tAg P ty = some true) (hs : tSz P ty = some cs.length) (hb1 : w.heap[b1]? = some (.cells cs.toArray T1 (0, 0))) (hb2 : w.heap[b2]? = some (.cells c0 T2 (0, 0))) (hl : c0.size = cs.length) (h1 : ∀ c ∈ cs, c.oneCell' = true)
    (h : ∀ w', w'.heap[b2]? = some (.cells cs.toArray T2 (0, 0)) → w.grownBy w' (some b2) → Q .normal (a.put (some d) (.agg cs.toArray)) w') : wpList P ops Q [o1, o2] a w := by
  have hld := run_loadVar_agg (P := P) (ty := ty) (w := w) (b := b1) (o := 0) (cs := cs) ha hs (fun j v e => by rw [Nat.zero_add]; exact box_cell hb1 j (by simpa using e))
  have hst := run_storeCells_at P b2 0 T2 cs 0 c0 w hb2 (by omega) h1
  have hnil : c0.toList.drop cs.length = [] := List.drop_eq_nil_of_le (by simp [hl])
  simp only [Nat.add_zero, Nat.zero_add, List.take_zero, List.nil_append, hnil, List.append_nil] at hst
  refine wpList_plain g1 fun K hK => ?_
  have r1 : (execOp a.eval o1).run P w = .ok (.value (.agg cs.toArray)) w := by simp [execOp, e1, hy, Instr.loadAt, Instr.sureAddr, hld]
  unfold Oper.wp
  rw [r1, Oper.upon_value, d1]
  refine hK _ _ (wpList_plain g2 fun K2 hK2 => ?_)
  have r2 : (execOp (a.put (some d) (.agg cs.toArray)).eval o2).run P w = .ok .skip (w.setRow b2 cs.toArray) := by
    have e : (Value.agg cs.toArray).cells.size = cs.length := by simp [Value.cells]
    have hst : Sem.run P (storeCells ⟨b2, 0, none⟩ cs) w = Result.ok () (w.setRow b2 cs.toArray) := hst
    simp [execOp, e2, ht, hz, Instr.storeAt, Instr.sureAddr, storeVar, run_sizeOf_of hs, Value.cells, hst]
  unfold Oper.wp
  rw [r2, Oper.upon_skip]
  refine hK2 _ _ ?_
  show Q .normal ((a.put (some d) (.agg cs.toArray)).put o2.dst undef) _
  rw [d2]
  exact h _ (setRow_heap w b2 c0 cs.toArray T2 (0, 0) hb2) ⟨rfl, rfl, rfl, by simp, fun k _ hk => setRow_other w b2 k _ (fun e => hk (by rw [e]))⟩
theorem own_grown {B : Nat} {w w' : World} {fs hF hs row} (h : FOw B w fs hF hs) (hg : w.grownBy w' row) (hr : ∀ g, B ≤ g → some g ≠ row) : FOw B w' fs hF hs :=
  ⟨World.ownsRow.kept h.row hg (by
      cases e : hF.ownBlock with
      | none => exact .inl rfl
      | some k => exact .inr (hr k (h.row.lt k e).1)), h.len, fun k f y e1 e2 => ⟨(h.vs k f y e1 e2).1.kept vecsC_nil ((h.vs k f y e1 e2).1.off fun g h2 _ => hr g h2) hg, (h.vs k f y e1 e2).2⟩⟩
theorem bodC_one {b x} (hx : oneCell x = true) : ∀ c ∈ bodC b x, oneCell c = true := by
  intro c hc
  simp [bodC] at hc
  rcases hc with rfl | rfl | rfl | rfl | rfl | rfl | rfl | rfl | rfl | rfl | rfl | rfl | rfl | rfl | rfl | rfl | rfl | rfl | rfl | rfl <;> first | rfl | exact hx
def Few2 (b : List Fixture) : Prop := b.length ≤ 1000000 ∧ ∀ f ∈ b, f.Shape.Vertices.length ≤ 1099511627776
theorem rep_slice {m bl c sz l x} (h : Rep m bl (.sl c sz l) x) : ∃ a n k, x = .slice a n k := by
  cases h <;> exact ⟨_, _, _, rfl⟩
set_option maxHeartbeats 8000000 in
theorem body_fresh (b : Body) (h40 : Few2 b.Fixtures) (m : Mem) (v : Value) (w : World) (hi : Imm m w) (hr : Rep m noNames (e_Body b) v) :
    Calls Try.prog 9 #[v] w fun e w' => ∃ hF hs, e = .returned (.agg (bodC b hF).toArray) ∧ Below w.heap.size w w' ∧ FOw w.heap.size w' b.Fixtures hF hs := by
  obtain ⟨x, rfl, hx, ox⟩ := repBody hr
  obtain ⟨ad, cap, rfl, hx2⟩ := repFixs hx
  obtain ⟨n, hn⟩ : ∃ n, b.Fixtures.length = n := ⟨_, rfl⟩
  have e24 := Try.call24
  unfold bodC
  rw [hn]
  obtain ⟨i0, hi0, hz0, hz1, hz2⟩ := info_parts (P := Try.prog) (e := 39) (z := .agg #[.int .i64 0, .int .i64 0, .slice none 0 0, .int .i64 0, .int .i64 0, .int .i64 0, .bool false, .int .i64 0, .int .i64 0, .int .i64 0]) (size := 10) (bytes := 96) (by kernel_rfl)
  have z68 := Try.sizeOf39
  have a68 := Try.isAgg39
  obtain ⟨L0, hL0⟩ : ∃ L0, L0 = LInv w b (.slice ad n cap) := ⟨_, rfl⟩
  go_enter Try.func9, Try.ntmps9
  go_wp2
  go_loopg [3, 9] n (fun kx s3 s9 wr => ∃ (i : Nat) (hs : List Value), s9 = .int .i64 i ∧ i ≤ n ∧ n - i ≤ kx ∧ Aside (L0 i hs s3 wr))
  case atStart =>
    subst hL0
    refine ⟨0, [], rfl, Nat.zero_le _, Nat.le_refl _, (⟨((Below.refl _ _).alloc (Nat.le_refl _) _).alloc (by simp) _, ?_, ?_, by simp, ⟨by exact World.ownsRow_nil _ _ _ _, rfl, fun k f h e => by simp at e⟩⟩ : LInv w b _ 0 [] (.slice none 0 0) _)⟩
    · rw [heap_past _ _ _ (by simp), heap_at _ _ _ rfl]; rfl
    · rw [heap_at _ _ _ (by simp)]
  case round =>
    obtain ⟨i, hs, rfl, hin, hkx, S⟩ := hrel
    by_cases hlt : (i : Int) < n
    · obtain ⟨blk, off, hxs, rfl, hxl, hxm, hx1, hxv⟩ := hx2 (by omega)
      have hi1 : i < b.Fixtures.length := by omega
      obtain ⟨f, hf⟩ : ∃ f, b.Fixtures[i]? = some f := ⟨_, List.getElem?_eq_getElem hi1⟩
      obtain ⟨x, hxi⟩ : ∃ x, hxs[i]? = some x := ⟨_, List.getElem?_eq_getElem (by omega)⟩
      have hV := hxv i f x hf hxi
      obtain ⟨xa, xn, xc, rfl⟩ : ∃ xa xn xc, x = .slice xa xn xc := by
        rw [e_slV] at hV; exact rep_slice hV
      subst hL0
      have hb := S.out.below
      have himr := hi.below hb
      have hc : ∀ (j : Nat) (v : Value), (fixC f (.slice xa xn xc))[j]? = some v → wr.cell? ⟨blk, off + i * 10 + j, none⟩ = some v := fun j v e => by
        have hj : j < 10 := (List.getElem?_eq_some_iff.1 e).1
        have := hxm (i * 10 + j) v (by rw [fixsC_get _ _ i j f _ hf hxi hj]; exact e)
        exact himr _ _ _ (by rw [Nat.add_assoc]; exact this)
      have c0 : wr.cell? ⟨blk, off + i * 10, none⟩ = some (.int .i64 f.Shape.Kind) := hc 0 _ rfl
      have c1 := hc 1 _ rfl
      have c2 := hc 2 _ rfl
      have c3 := hc 3 _ rfl
      have c4 := hc 4 _ rfl
      have c5 := hc 5 _ rfl
      have c6 := hc 6 _ rfl
      have c7 := hc 7 _ rfl
      have c8 := hc 8 _ rfl
      have c9 := hc 9 _ rfl
      have hnb : n ≤ 1000000 := hn ▸ h40.1
      have wi : IntKind.i64.wrap ((i : Int) + 1) = ((i + 1 : Nat) : Int) := by rw [IntKind.wrap_i64]; omega
      have ti : ((i : Int)).toNat = i := by omega
      have pi : (0 : Int) ≤ (i : Int) := by omega
      obtain ⟨W, hW⟩ : ∃ W, W = wr.heap.size := ⟨_, rfl⟩
      have HX : Hid (W = wr.heap.size ∧ ∀ (k : Nat) (f : Fixture) (x : Value), b.Fixtures[k]? = some f → hxs[k]? = some x → Rep m noNames (e_sl_Vec f.Shape.Vertices) x) := ⟨hW, hxv⟩
      have HI : Hid (Try.prog.info? 39 = some i0 ∧ i0.zero = some (.agg #[.int .i64 0, .int .i64 0, .slice none 0 0, .int .i64 0, .int .i64 0, .int .i64 0, .bool false, .int .i64 0, .int .i64 0, .int .i64 0]) ∧ i0.size = 10 ∧ i0.bytes = 96) := ⟨hi0, hz0, hz1, hz2⟩
      have HF : Hid (b.Fixtures[i]? = some f) := hf
      have hlen0 : Hid ((b.Fixtures.take i).length = i) := by show _ = _; rw [List.length_take]; omega
      clear hc hW hxv hxm hx1 hxl hx2 hr hx ox hi0 hz0 hz1 hz2 hxi
      have hvl : f.Shape.Vertices.length ≤ 1099511627776 := h40.2 f (List.mem_of_getElem? hf)
      have key : ∀ w2 : World, w2 = wr.alloc (.cells #[.int .i64 f.Shape.Kind, .int .i64 f.Shape.Radius, .slice xa xn xc, .int .i64 f.Density, .int .i64 f.Friction, .int .i64 f.Restitution, .bool f.Sensor, .int .i64 f.Category, .int .i64 f.Mask, .int .i64 f.Group] 39) → Calls Try.prog 24 #[.agg #[.int .i64 f.Shape.Kind, .int .i64 f.Shape.Radius, .slice xa xn xc]] w2 fun e w' => ∃ ha hn hc, e = .returned (.agg #[.int .i64 f.Shape.Kind, .int .i64 f.Shape.Radius, .slice ha hn hc]) ∧ Below wr.heap.size wr w' ∧ w'.heap[wr.heap.size]? = some (.cells #[.int .i64 f.Shape.Kind, .int .i64 f.Shape.Radius, .slice xa xn xc, .int .i64 f.Density, .int .i64 f.Friction, .int .i64 f.Restitution, .bool f.Sensor, .int .i64 f.Category, .int .i64 f.Mask, .int .i64 f.Group] 39 (0, 0)) ∧ VOw (wr.heap.size + 1) w' (.slice ha hn hc) f.Shape.Vertices.length (vecsC f.Shape.Vertices) := by
        intro w2 hw2
        have hb2 : Below wr.heap.size wr w2 := by rw [hw2]; exact (Below.refl _ _).alloc (Nat.le_refl _) _
        have hs2 : w2.heap.size = wr.heap.size + 1 := by rw [hw2]; simp
        refine (shape_fresh f.Shape.Vertices hvl m _ _ _ w2 (hi.below (hb.trans (hb2.mono (by have := S.out.size; omega)))) hV).mono ?_
        rintro e w1 ⟨h, rfl, hbb, hv⟩
        rw [hs2] at hv
        obtain ⟨ha, hn, hc, rfl⟩ : ∃ ha hn hc, h = .slice ha hn hc := by
          rcases hv with ⟨-, -, ad, cap, rfl, -⟩ | ⟨g, cap, cur, T, rfl, -⟩ <;> exact ⟨_, _, _, rfl⟩
        refine ⟨ha, hn, hc, rfl, hb2.trans (hbb.mono (by omega)), ?_, hv⟩
        rw [hbb.block _ (by omega), hw2, heap_at _ _ _ rfl]
      clear hV
      go_wp2_with (first
        | (go_at_call 24; refine (key _ rfl).mono ?_; rintro _ w1 ⟨ha, hn, hc, rfl, hb1, x1, hv⟩; have g0 := box_cell x1 0 rfl; have g1 := box_cell x1 1 rfl; have g2 := box_cell x1 2 rfl; have g3 := box_cell x1 3 rfl; have g4 := box_cell x1 4 rfl; have g5 := box_cell x1 5 rfl; have g6 := box_cell x1 6 rfl; have g7 := box_cell x1 7 rfl; have g8 := box_cell x1 8 rfl; have g9 := box_cell x1 9 rfl; have z0 := box_free x1 0; have z1 := box_free x1 1; have z2 := box_free x1 2; clear key)
        | (at_builtin; refine wpList_append_two rfl (.tmp 17) (.tmp 19) 27 rfl (w.heap.size + 2) 39 i0 (.agg #[.int .i64 0, .int .i64 0, .slice none 0 0, .int .i64 0, .int .i64 0, .int .i64 0, .bool false, .int .i64 0, .int .i64 0, .int .i64 0]) 10 96 Try.underlying27 HI.out.1 HI.out.2.1 HI.out.2.2.1 HI.out.2.2.2 rfl (by decide) _ _ _ rfl (S.out.own.below ((((hb1.setCell (p := ⟨wr.heap.size, 0, none⟩) (Nat.le_refl _) _).setCell (p := ⟨wr.heap.size, 1, none⟩) (Nat.le_refl _) _).setCell (p := ⟨wr.heap.size, 2, none⟩) (Nat.le_refl _) _).alloc (by have := hb1.size; simp; omega) _)).row ⟨w1.heap.size, 0, none⟩ 1 1 (fixC f (.slice ha hn hc)) rfl rfl (cells_new _ (fixC f (.slice ha hn hc)) 39 _ (by simp)) (fixC_one rfl) (by rw [hlen0.out]; simp only [maxLen]; omega) (by rw [hlen0.out]; omega) (by have := S.out.size; have := hb1.size; simp; omega) (by decide) ?_
           intro v1 w2 hown2 hgrow2 hblk2
           have S2 : Aside (LInv w b (.slice (some ⟨blk, off, none⟩) n cap) (i + 1) (hs ++ [.slice ha hn hc]) v1 w2) := S.out.step HF.out ((((hb1.setCell (p := ⟨wr.heap.size, 0, none⟩) (Nat.le_refl _) _).setCell (p := ⟨wr.heap.size, 1, none⟩) (Nat.le_refl _) _).setCell (p := ⟨wr.heap.size, 2, none⟩) (Nat.le_refl _) _).alloc (by have := hb1.size; simp; omega) _) ((((hv.set ⟨wr.heap.size, 0, none⟩ _ (Nat.lt_succ_self _)).set ⟨wr.heap.size, 1, none⟩ _ (Nat.lt_succ_self _)).set ⟨wr.heap.size, 2, none⟩ _ (Nat.lt_succ_self _)).below ((Below.refl _ _).alloc (Nat.le_refl _) _)) rfl hown2 hgrow2 hblk2
           clear hown2 hgrow2 hblk2 g0 g1 g2 g3 g4 g5 g6 g7 g8 g9 z0 z1 z2 x1 hv hb1))
      go_roundg (n - (i + 1))
      case measure => omega
      case rel => exact ⟨i + 1, _, by simp, by omega, by omega, S2⟩
    · have hin' : i = n := by omega
      subst hin'
      subst hL0
      have hfull : b.Fixtures.take i = b.Fixtures := by rw [← hn]; exact List.take_length
      have S1 := S.out
      have hsz := S1.size
      have own : FOw (w.heap.size + 2) wr b.Fixtures u3 hs := hfull ▸ S1.own
      obtain ⟨ua, un, uc, rfl⟩ : ∃ ua un uc, u3 = .slice ua un uc := by
        rcases own.row.2 with ⟨e, -⟩ | ⟨g, cap, cur, e, -⟩ <;> exact ⟨_, _, _, e⟩
      have x1 := S1.box1
      have x2 := S1.box2
      have hb := S1.below
      have p0 : wr.cell? ⟨w.heap.size, 0, none⟩ = some (.int .i64 b.ID) := box_cell x1 0 rfl
      have p1 : wr.cell? ⟨w.heap.size, 1, none⟩ = some (.int .i64 b.Kind) := box_cell x1 1 rfl
      have p2 : wr.cell? ⟨w.heap.size, 2, none⟩ = some (.int .i64 b.Transform.Position.X) := box_cell x1 2 rfl
      have p3 : wr.cell? ⟨w.heap.size, 3, none⟩ = some (.int .i64 b.Transform.Position.Y) := box_cell x1 3 rfl
      have p4 : wr.cell? ⟨w.heap.size, 4, none⟩ = some (.int .i64 b.Transform.Angle) := box_cell x1 4 rfl
      have p5 : wr.cell? ⟨w.heap.size, 5, none⟩ = some (.int .i64 b.Velocity.X) := box_cell x1 5 rfl
      have p6 : wr.cell? ⟨w.heap.size, 6, none⟩ = some (.int .i64 b.Velocity.Y) := box_cell x1 6 rfl
      have p7 : wr.cell? ⟨w.heap.size, 7, none⟩ = some (.int .i64 b.AngularVelocity) := box_cell x1 7 rfl
      have p8 : wr.cell? ⟨w.heap.size, 8, none⟩ = some (.int .i64 b.Force.X) := box_cell x1 8 rfl
      have p9 : wr.cell? ⟨w.heap.size, 9, none⟩ = some (.int .i64 b.Force.Y) := box_cell x1 9 rfl
      have p10 : wr.cell? ⟨w.heap.size, 10, none⟩ = some (.int .i64 b.Torque) := box_cell x1 10 rfl
      have p11 : wr.cell? ⟨w.heap.size, 11, none⟩ = some (.int .i64 b.LinearDamping) := box_cell x1 11 rfl
      have p12 : wr.cell? ⟨w.heap.size, 12, none⟩ = some (.int .i64 b.AngularDamping) := box_cell x1 12 rfl
      have p13 : wr.cell? ⟨w.heap.size, 13, none⟩ = some (.int .i64 b.GravityScale) := box_cell x1 13 rfl
      have p14 : wr.cell? ⟨w.heap.size, 14, none⟩ = some (.bool b.Bullet) := box_cell x1 14 rfl
      have p15 : wr.cell? ⟨w.heap.size, 15, none⟩ = some (.bool b.FixedRotation) := box_cell x1 15 rfl
      have p16 : wr.cell? ⟨w.heap.size, 16, none⟩ = some (.bool b.NoSleep) := box_cell x1 16 rfl
      have p17 : wr.cell? ⟨w.heap.size, 17, none⟩ = some (.bool b.Asleep) := box_cell x1 17 rfl
      have p18 : wr.cell? ⟨w.heap.size, 18, none⟩ = some (.int .i64 b.IdleSteps) := box_cell x1 18 rfl
      have p19 : wr.cell? ⟨w.heap.size, 19, none⟩ = some (.slice ad i cap) := box_cell x1 19 rfl
      have q19 := box_free x1 19
      have e1 : (wr.setCell ⟨w.heap.size, 19, none⟩ (.slice ua un uc)).heap[w.heap.size]? = some (.cells [(.int .i64 b.ID), (.int .i64 b.Kind), (.int .i64 b.Transform.Position.X), (.int .i64 b.Transform.Position.Y), (.int .i64 b.Transform.Angle), (.int .i64 b.Velocity.X), (.int .i64 b.Velocity.Y), (.int .i64 b.AngularVelocity), (.int .i64 b.Force.X), (.int .i64 b.Force.Y), (.int .i64 b.Torque), (.int .i64 b.LinearDamping), (.int .i64 b.AngularDamping), (.int .i64 b.GravityScale), (.bool b.Bullet), (.bool b.FixedRotation), (.bool b.NoSleep), (.bool b.Asleep), (.int .i64 b.IdleSteps), .slice ua un uc].toArray 29 (0, 0)) := heap_own x1 19 _ _ rfl
      have e2 := (heap_set wr ⟨w.heap.size, 19, none⟩ (.slice ua un uc) (w.heap.size + 1) (by simp)).trans x2
      have B0 := hb.setCell (p := ⟨w.heap.size, 19, none⟩) (Nat.le_refl _) (.slice ua un uc)
      have O0 := own_set own ⟨w.heap.size, 19, none⟩ (.slice ua un uc) (by simp)
      have ra : tAg Try.prog 29 = some true := by kernel_rfl
      have rz : tSz Try.prog 29 = some 20 := by kernel_rfl
      have HB : Hid (_ ∧ _ ∧ _ ∧ _ ∧ _ ∧ _) := ⟨e1, e2, B0, O0, ra, rz⟩
      clear hb own x2 x1 S1 S hx2 hr hx ox hi0 hz0 hz1 hz2 hfull h40 e1 e2 B0 O0 ra rz
      go_wp2_with (refine wpList_copybox (cs := [(.int .i64 b.ID), (.int .i64 b.Kind), (.int .i64 b.Transform.Position.X), (.int .i64 b.Transform.Position.Y), (.int .i64 b.Transform.Angle), (.int .i64 b.Velocity.X), (.int .i64 b.Velocity.Y), (.int .i64 b.AngularVelocity), (.int .i64 b.Force.X), (.int .i64 b.Force.Y), (.int .i64 b.Torque), (.int .i64 b.LinearDamping), (.int .i64 b.AngularDamping), (.int .i64 b.GravityScale), (.bool b.Bullet), (.bool b.FixedRotation), (.bool b.NoSleep), (.bool b.Asleep), (.int .i64 b.IdleSteps), .slice ua un uc]) rfl rfl rfl rfl rfl rfl rfl rfl rfl HB.out.2.2.2.2.1 HB.out.2.2.2.2.2 HB.out.1 HB.out.2.1 rfl (bodC_one rfl) ?_; intro wf s20 hgf; have HG : Hid (_ ∧ _) := ⟨s20, hgf⟩; clear s20 hgf)
      have r0 : Try.f9.results = #[.cell 2 29] := rfl
      refine bodyPost_ret (results_box (cs := [(.int .i64 b.ID), (.int .i64 b.Kind), (.int .i64 b.Transform.Position.X), (.int .i64 b.Transform.Position.Y), (.int .i64 b.Transform.Angle), (.int .i64 b.Velocity.X), (.int .i64 b.Velocity.Y), (.int .i64 b.AngularVelocity), (.int .i64 b.Force.X), (.int .i64 b.Force.Y), (.int .i64 b.Torque), (.int .i64 b.LinearDamping), (.int .i64 b.AngularDamping), (.int .i64 b.GravityScale), (.bool b.Bullet), (.bool b.FixedRotation), (.bool b.NoSleep), (.bool b.Asleep), (.int .i64 b.IdleSteps), .slice ua un uc]) r0 rfl HB.out.2.2.2.2.1 HB.out.2.2.2.2.2 HG.out.1) rfl ?_
      have hgf := HG.out.2
      refine ⟨_, rfl, HB.out.2.2.1.grown hgf (by rw [size_set]; omega) (fun k e => by have := Option.some.inj e; omega), hs, ?_⟩
      have O := HB.out.2.2.2.1
      refine own_mono (own_grown O hgf ?_) (by omega)
      intro g hg; exact fun e => by have := Option.some.inj e; omega
end GoForm
end

section
/- input.Clone: the body's fixtures and their vertices are its own. No conditions. -/
set_option linter.all false
set_option maxRecDepth 100000
open Go Go.Rx Go.Proofs Go.RowKit
namespace GoForm
theorem wpList_loadat {P : Program} {ops : Array Oper} {rest : List Oper} {Q : Exit → Act → World → Prop} {o : Oper} {a : Act} {w : World} {ty : TypeId} {y : Operand} {d b off : Nat} {cs : List Value} {arr : Array Value} {T : TypeId} {fr : Nat × Nat}
    (g : o.guard = none) (e : o.op = .load ty y) (hd : o.dst = some d) (hy : a.eval y = .pointer (some ⟨b, off, none⟩)) (ha : tAg P ty = some true) (hs : tSz P ty = some cs.length)
    (hb : w.heap[b]? = some (.cells arr T fr)) (hc : ∀ j v, cs[j]? = some v → arr[off + j]? = some v) (h : wpList P ops Q rest (a.put (some d) (.agg cs.toArray)) w) : wpList P ops Q (o :: rest) a w := by
  have hld := run_loadVar_agg (P := P) (ty := ty) (w := w) (b := b) (o := off) (cs := cs) ha hs (fun j v e => by rw [cell_of_blk hb]; exact hc j v e)
  refine wpList_plain g fun K hK => ?_
  have r1 : (execOp a.eval o).run P w = .ok (.value (.agg cs.toArray)) w := by simp [execOp, e, hy, Instr.loadAt, Instr.sureAddr, hld]
  unfold Oper.wp
  rw [r1, Oper.upon_value, hd]
  exact hK _ _ h
theorem wpList_storeat {P : Program} {ops : Array Oper} {rest : List Oper} {Q : Exit → Act → World → Prop} {o : Oper} {a : Act} {w : World} {ty : TypeId} {t z : Operand} {b off : Nat} {cs arr : List Value} {T : TypeId}
    (g : o.guard = none) (e : o.op = .store ty t z) (hd : o.dst = none) (ht : a.eval t = .pointer (some ⟨b, off, none⟩)) (hz : a.eval z = .agg cs.toArray) (hs : tSz P ty = some cs.length)
    (hb : w.heap[b]? = some (.cells arr.toArray T (0, 0))) (hfit : off + cs.length ≤ arr.length) (h1 : ∀ c ∈ cs, c.oneCell' = true)
    (h : ∀ w', w'.heap[b]? = some (.cells (arr.take off ++ cs ++ arr.drop (off + cs.length)).toArray T (0, 0)) → w.grownBy w' (some b) → wpList P ops Q rest a w') : wpList P ops Q (o :: rest) a w := by
  have hst := run_storeCells_at P b off T cs 0 arr.toArray w hb (by simpa using hfit) h1
  simp only [Nat.add_zero] at hst
  refine wpList_plain g fun K hK => ?_
  have r2 : (execOp a.eval o).run P w = .ok .skip (w.setRow b (arr.take off ++ cs ++ arr.drop (off + cs.length)).toArray) := by
    have hst : Sem.run P (storeCells ⟨b, off, none⟩ cs) w = Result.ok () (w.setRow b (arr.take off ++ cs ++ arr.drop (off + cs.length)).toArray) := hst
    simp [execOp, e, ht, hz, Instr.storeAt, Instr.sureAddr, storeVar, run_sizeOf_of hs, Value.cells, hst]
  unfold Oper.wp
  rw [r2, Oper.upon_skip, hd]
  exact hK _ _ (h _ (setRow_heap w b _ _ T (0, 0) hb) ⟨rfl, rfl, rfl, by simp, fun k _ hk => setRow_other w b k _ (fun e => hk (by rw [e]))⟩)

end GoForm
end

section
/- What lies in memory of one's own is what was cloned; writes into it. No conditions. -/
set_option linter.all false
set_option maxRecDepth 100000
open Go Go.Rx Go.Proofs Go.RowKit
namespace GoForm
/-- All that the world holds. -/
def allM (w : World) : Mem := fun b o => w.cell? ⟨b, o, none⟩
theorem imm_all (w : World) : Imm (allM w) w := fun _ _ _ h => h
theorem le_all {m : Mem} {w : World} (h : Imm m w) : Mem.le m (allM w) := fun b o v e => h b o v e
theorem VOw.rep {B w l h} (v : VOw B w h l.length (vecsC l)) : Rep (allM w) noNames (e_sl_Vec l) h := by
  rw [e_slV]
  rcases v with ⟨h0, -, ad, cap, rfl, hc⟩ | ⟨g, cap, cur, T, rfl, h2, h3, h4, h5, h6, h7⟩
  · have : l = [] := List.length_eq_zero_iff.1 h0
    subst this
    cases ad with
    | none => rw [hc rfl]; exact .slnil
    | some a => exact .sl (l := []) (by simp) .nil (by simp) (by simp) (by simp) (Nat.zero_le _) (by simp)
  · have hl : l.length = (l.map e_Vec).length := by simp
    rw [hl]
    refine .sl (cs := vecsC l) ?_ ?_ (vecsC_one l) (fun _ => rfl) ?_ (by rw [← hl]; exact h5) (by simp)
    · intro e he
      obtain ⟨x, -, rfl⟩ := List.mem_map.1 he
      rfl
    · rw [cells_V]; exact repsV _
    · intro j x e
      show w.cell? ⟨g, 0 + j, none⟩ = some x
      rw [Nat.zero_add, cell_of_blk h4]
      have hj : j < (vecsC l).length := (List.getElem?_eq_some_iff.1 e).1
      rw [← h7, List.getElem?_take_of_lt hj] at e
      rw [← Array.getElem?_toList]; exact e
theorem FOw.rep {B w fs hF hs} (h : FOw B w fs hF hs) : Rep (allM w) noNames (e_sl_Fixture fs) hF := by
  rw [e_slF]
  obtain ⟨hlen, ⟨rfl, h0⟩ | ⟨g, cap, cur, rfl, q1, q2, q3, q4, q5, q6⟩⟩ := h.row
  · have : fs = [] := List.length_eq_zero_iff.1 h0
    subst this
    exact .slnil
  · have hl : fs.length = (fs.map e_Fixture).length := by simp
    rw [hl]
    refine .sl (cs := fixsC fs hs) ?_ (fixs_mk fs hs h.len fun k f x e1 e2 => (h.vs k f x e1 e2).1.rep) ?_ (fun _ => rfl) ?_ (by rw [← hl]; exact q3) (by simp)
    · intro e he
      obtain ⟨x, -, rfl⟩ := List.mem_map.1 he
      rfl
    · intro c hc
      obtain ⟨j, hj, e⟩ := List.getElem_of_mem hc
      have hj10 : j < fs.length * 10 := by rwa [fixsC_len _ _ h.len] at hj
      have k1 : j / 10 < fs.length := by omega
      have k2 : j / 10 < hs.length := by rw [← h.len]; exact k1
      have := fixsC_get fs hs (j / 10) (j % 10) fs[j / 10] hs[j / 10] (List.getElem?_eq_getElem k1) (List.getElem?_eq_getElem k2) (by omega)
      rw [show j / 10 * 10 + j % 10 = j by omega, List.getElem?_eq_getElem hj, e] at this
      exact fixC_one (h.vs (j / 10) fs[j / 10] hs[j / 10] (List.getElem?_eq_getElem k1) (List.getElem?_eq_getElem k2)).2.2 c (List.mem_of_getElem? this.symm)
    · intro j x e
      show w.cell? ⟨g, 0 + j, none⟩ = some x
      rw [Nat.zero_add, cell_of_blk q2]
      have hj : j < (fixsC fs hs).length := (List.getElem?_eq_some_iff.1 e).1
      rw [← q6, List.getElem?_take_of_lt (by rw [← hlen]; exact hj)] at e
      rw [← Array.getElem?_toList]; exact e
end GoForm
end

section
/- The worlds of two loops that write into a clone: its vertices and densities. No conditions. -/
set_option linter.all false
set_option maxRecDepth 100000
open Go Go.Rx Go.Proofs Go.RowKit
namespace GoForm
/-- A fixture's vertices in memory of one's own: whatever integers. -/
def VB (B E : Nat) (W : World) (row : Option Nat) (n : Nat) (h : Value) : Prop :=
  (n = 0 ∧ ∃ ad cap, h = .slice ad 0 cap) ∨ ∃ b cap cur T, h = .slice (some ⟨b, 0, none⟩) n cap ∧ B ≤ b ∧ b < E ∧ some b ≠ row ∧ W.heap[b]? = some (.cells cur T (0, 0)) ∧ ∀ q, q < n → ∃ i j, cur[q * 2]? = some (.int .i64 i) ∧ cur[q * 2 + 1]? = some (.int .i64 j)
/-- A row of fixtures of one's own: these vertices, whatever densities. -/
def RB (B E : Nat) (W : World) (g : Nat) (hs : List Value) : Prop :=
  ∃ cur T, B ≤ g ∧ g < E ∧ W.heap[g]? = some (.cells cur T (0, 0)) ∧ ∀ (k : Nat) (h : Value), hs[k]? = some h → cur[k * 10 + 2]? = some h ∧ ∃ d, cur[k * 10 + 3]? = some (.int .i64 d)
structure SW (B E bx : Nat) (D : List Value) (TD : TypeId) (fs : List Fixture) (hF : Value) (hs : List Value) (W : World) : Prop where
  box : W.heap[bx]? = some (.cells D.toArray TD (0, 0))
  row : fs.length = 0 ∨ ∃ g cap, hF = .slice (some ⟨g, 0, none⟩) fs.length cap ∧ RB B E W g hs
  vs : ∀ (k : Nat) (f : Fixture) (h : Value), fs[k]? = some f → hs[k]? = some h → VB B E W hF.ownBlock f.Shape.Vertices.length h
theorem vecsC_get (l : List Vec) (q : Nat) (h : q < l.length) : ∃ i j, (vecsC l)[q * 2]? = some (.int .i64 i) ∧ (vecsC l)[q * 2 + 1]? = some (.int .i64 j) := by
  induction l generalizing q with
  | nil => simp at h
  | cons x l ih =>
    cases q with
    | zero => exact ⟨x.X, x.Y, rfl, rfl⟩
    | succ q =>
      obtain ⟨i, j, h1, h2⟩ := ih q (by simpa using h)
      refine ⟨i, j, ?_, ?_⟩
      · show (vecC x ++ vecsC l)[(q + 1) * 2]? = _
        rw [List.getElem?_append_right (by show 2 ≤ _; omega), show (q + 1) * 2 - (vecC x).length = q * 2 by show (q + 1) * 2 - 2 = _; omega]
        exact h1
      · show (vecC x ++ vecsC l)[(q + 1) * 2 + 1]? = _
        rw [List.getElem?_append_right (by show 2 ≤ _; omega), show (q + 1) * 2 + 1 - (vecC x).length = q * 2 + 1 by show (q + 1) * 2 + 1 - 2 = _; omega]
        exact h2
theorem SW.start {B bx : Nat} {D : List Value} {TD : TypeId} {fs hF hs} {w5 W : World} (h : FOw B w5 fs hF hs) (hb : ∀ k, B ≤ k → k < w5.heap.size → W.heap[k]? = w5.heap[k]?) (hbx : W.heap[bx]? = some (.cells D.toArray TD (0, 0))) : SW B w5.heap.size bx D TD fs hF hs W := by
  refine ⟨hbx, ?_, ?_⟩
  · obtain ⟨hlen, ⟨rfl, h0⟩ | ⟨g, cap, cur, rfl, q1, q2, q3, q4, q5, q6⟩⟩ := h.row
    · exact .inl h0
    · have hg : g < w5.heap.size := by rw [Array.getElem?_eq_some_iff] at q2; exact q2.1
      refine .inr ⟨g, cap, rfl, cur, 39, q1, hg, (hb g q1 hg).trans q2, fun k x e => ?_⟩
      have kl : k < fs.length := by rw [h.len]; exact (List.getElem?_eq_some_iff.1 e).1
      have e1 := fixsC_get fs hs k 2 fs[k] x (List.getElem?_eq_getElem kl) e (by omega)
      have e2 := fixsC_get fs hs k 3 fs[k] x (List.getElem?_eq_getElem kl) e (by omega)
      have hl := fixsC_len fs hs h.len
      have key : ∀ j v, j < fs.length * 10 → (fixsC fs hs)[j]? = some v → cur[j]? = some v := fun j v hj ev => by
        rw [← q6, List.getElem?_take_of_lt hj] at ev
        rw [← Array.getElem?_toList]; exact ev
      exact ⟨key _ _ (by omega) (e1.trans rfl), fs[k].Density, key _ _ (by omega) (e2.trans rfl)⟩
  · intro k f x e1 e2
    obtain ⟨v, off, -⟩ := h.vs k f x e1 e2
    by_cases h0 : f.Shape.Vertices.length = 0
    · refine .inl ⟨h0, ?_⟩
      rcases v with ⟨-, -, ad, cap, e, -⟩ | ⟨g, cap, cur, T, e, -⟩
      · exact ⟨ad, cap, e⟩
      · exact ⟨_, cap, by rw [e, h0]⟩
    · rcases v with ⟨e, -⟩ | ⟨g, cap, cur, T, e, q1, q2, q3, q4, q5, q6⟩
      · exact absurd e h0
      · refine .inr ⟨g, cap, cur, T, e, q1, q2, ?_, (hb g q1 q2).trans q3, fun q hq => ?_⟩
        · rcases off with o | o
          · exact absurd o h0
          · exact o g cap e
        · obtain ⟨i, j, g1, g2⟩ := vecsC_get f.Shape.Vertices q hq
          have hl := vecsC_len f.Shape.Vertices
          have key : ∀ j v, j < f.Shape.Vertices.length * 2 → (vecsC f.Shape.Vertices)[j]? = some v → cur[j]? = some v := fun j v hj ev => by
            rw [← q6, List.getElem?_take_of_lt (by omega)] at ev
            rw [← Array.getElem?_toList]; exact ev
          exact ⟨i, j, key _ _ (by omega) g1, key _ _ (by omega) g2⟩
theorem heap_setc {W : World} {b : Nat} {cs : Array Value} {T : TypeId} {fr} (h : W.heap[b]? = some (.cells cs T fr)) (j : Nat) (v : Value) : (W.setCell ⟨b, j, none⟩ v).heap[b]? = some (.cells (cs.setIfInBounds j v) T fr) := heap_own h j v _ rfl
theorem set_get {cs : Array Value} {j : Nat} (v : Value) (i : Nat) (h : j ≠ i) : (cs.setIfInBounds j v)[i]? = cs[i]? := Array.getElem?_setIfInBounds_ne h
theorem set_int {cs : Array Value} {j i : Nat} {z : Int} (h : ∃ d, cs[i]? = some (.int .i64 d)) : ∃ d, (cs.setIfInBounds j (.int .i64 z))[i]? = some (.int .i64 d) := by
  obtain ⟨d, h⟩ := h
  by_cases e : j = i
  · subst e
    exact ⟨z, by rw [Array.getElem?_setIfInBounds_self_of_lt (by rw [Array.getElem?_eq_some_iff] at h; exact h.1)]⟩
  · exact ⟨d, by rw [set_get _ _ e]; exact h⟩
section
variable {B E bx : Nat} {D : List Value} {TD : TypeId} {fs : List Fixture} {hF : Value} {hs : List Value} {W : World}
/-- A density is written. -/
theorem SW.setD (h : SW B E bx D TD fs hF hs W) (hbx : bx < B ∨ E ≤ bx) {g n cap : Nat} (hg : hF = .slice (some ⟨g, 0, none⟩) n cap) (h0 : fs.length ≠ 0) (k : Nat) (z : Int) : SW B E bx D TD fs hF hs (W.setCell ⟨g, k * 10 + 3, none⟩ (.int .i64 z)) := by
  obtain h1 | ⟨g', cap', e, cur, T, q1, q2, q3, q4⟩ := h.row
  · exact absurd h1 h0
  have eg : g' = g := by rw [e] at hg; cases hg; rfl
  subst eg
  refine ⟨?_, .inr ⟨g', cap', e, _, T, q1, q2, heap_setc q3 _ _, fun k' x ex => ?_⟩, fun k' f x e1 e2 => ?_⟩
  · rw [heap_set _ _ _ _ (by show bx ≠ g'; omega)]; exact h.box
  · obtain ⟨a1, d, a2⟩ := q4 k' x ex
    exact ⟨by rw [set_get _ _ (by omega)]; exact a1, set_int ⟨d, a2⟩⟩
  · rcases h.vs k' f x e1 e2 with v | ⟨b, c2, cur2, T2, w1, w2, w3, w4, w5, w6⟩
    · exact .inl v
    · refine .inr ⟨b, c2, cur2, T2, w1, w2, w3, w4, ?_, w6⟩
      rw [heap_set _ _ _ _ (fun eb => w4 (by rw [eb, e]; rfl))]; exact w5
/-- A vertex's coordinate is written. -/
theorem SW.setV (h : SW B E bx D TD fs hF hs W) (hbx : bx < B ∨ E ≤ bx) {k : Nat} {f : Fixture} {b n cap : Nat} (hf : fs[k]? = some f) (hh : hs[k]? = some (.slice (some ⟨b, 0, none⟩) n cap)) (hn : f.Shape.Vertices.length ≠ 0) (q : Nat) (z : Int) : SW B E bx D TD fs hF hs (W.setCell ⟨b, q, none⟩ (.int .i64 z)) := by
  obtain ⟨e0, -⟩ | ⟨b', c', cur, T, e, q1, q2, q3, q4, q5⟩ := h.vs k f _ hf hh
  · exact absurd e0 hn
  have eb : b = b' := by cases e; rfl
  subst eb
  refine ⟨?_, ?_, fun k' f' x e1 e2 => ?_⟩
  · rw [heap_set _ _ _ _ (by show bx ≠ b; omega)]; exact h.box
  · rcases h.row with r | ⟨g, c2, eg, cur2, T2, w1, w2, w3, w4⟩
    · exact .inl r
    · refine .inr ⟨g, c2, eg, cur2, T2, w1, w2, ?_, w4⟩
      rw [heap_set _ _ _ _ (fun e2 => q3 (by rw [eg]; exact congrArg some (show b = g from e2.symm)))]; exact w3
  · rcases h.vs k' f' x e1 e2 with v | ⟨b2, c2, cur2, T2, w1, w2, w3, w4, w5, w6⟩
    · exact .inl v
    · by_cases e3 : b2 = b
      · subst e3
        rw [q4] at w5
        cases w5
        refine .inr ⟨b2, c2, _, T, w1, w2, w3, w4, heap_setc q4 _ _, fun q' hq' => ?_⟩
        obtain ⟨i, j, g1, g2⟩ := w6 q' hq'
        obtain ⟨i', g1'⟩ := set_int (j := q) (z := z) ⟨i, g1⟩
        obtain ⟨j', g2'⟩ := set_int (j := q) (z := z) ⟨j, g2⟩
        exact ⟨i', j', g1', g2'⟩
      · refine .inr ⟨b2, c2, cur2, T2, w1, w2, w3, w4, ?_, w6⟩
        rw [heap_set _ _ _ _ e3]; exact w5
end
end GoForm
end

section
/- A region that draws its order, by an invariant; clones in memory of their own. No conditions. -/
set_option linter.all false
set_option maxRecDepth 100000
open Go Go.Rx Go.Proofs Go.RowKit
namespace GoForm
section
variable {P : Program}
theorem cover_step {l : List Nat} {i : Nat} (h : i ∈ l) : (l.filter (fun j => j != i)).length < l.length := by
  rw [List.length_filter_lt_length_iff_exists]
  exact ⟨i, h, by simp⟩
theorem wp_any_inv {Q : Exit → Act → World → Prop} {ops : Array Oper} (I : (Nat → Bool) → Act → World → Prop)
    (hd : ∀ (i : Nat) (o : Oper), ops[i]? = some o → ∀ e ∈ o.after, e.on < i)
    (hs : ∀ f a w i o, I f a w → ops[i]? = some o → f i = false → (∀ e ∈ o.after, Region.binds .any e = true → f e.on = true) → wpOp P ops Q i (I (fun j => if j = i then true else f j)) a w)
    (he : ∀ f a w, I f a w → (∀ i, i < ops.size → f i = true) → Q .normal a w) : ∀ (fuel : Nat) (listed : Array Bool) (a : Act) (w : World), listed.size = ops.size → I (fun j => listed.getD j false) a w →
      (∃ l : List Nat, l.length ≤ fuel ∧ ∀ j, j < ops.size → listed.getD j false = false → j ∈ l) → wpAny P .any ops Q fuel listed a w := by
  have inb : ∀ (listed : Array Bool) (j : Nat) (x y : Bool), j < listed.size → listed.getD j x = listed.getD j y := fun listed j x y h => by
    simp only [Array.getD_eq_getD_getElem?, Array.getElem?_eq_getElem h, Option.getD_some]
  have all : ∀ listed : Array Bool, listed.size = ops.size → Region.ready .any ops listed = [] → ∀ i, i < ops.size → listed.getD i false = true := by
    intro listed hz h i
    induction i using Nat.strongRecOn with
    | ind i ih =>
      intro hi
      cases hl : listed.getD i false with
      | true => rfl
      | false =>
        have : i ∈ Region.ready .any ops listed := by
          unfold Region.ready
          rw [List.mem_filter]
          refine ⟨List.mem_range.2 hi, ?_⟩
          rw [inb listed i true false (by omega), hl]
          obtain ⟨o, ho⟩ : ∃ o, ops[i]? = some o := ⟨_, Array.getElem?_eq_getElem hi⟩
          rw [ho]
          simp only [Bool.not_false, Option.map_some, Option.getD_some, Bool.true_and, Array.all_eq_true_iff_forall_mem, Bool.or_eq_true]
          intro e hm
          exact .inr (ih e.on (hd i o ho e hm) (Nat.lt_trans (hd i o ho e hm) hi))
        rw [h] at this
        cases this
  intro fuel
  induction fuel with
  | zero =>
    intro listed a w hz hI ⟨l, hl, hc⟩
    have hall : ∀ j, j < ops.size → listed.getD j false = true := fun j hj => by
      cases e : listed.getD j false with
      | true => rfl
      | false =>
        have := hc j hj e
        have h0 : l = [] := List.length_eq_zero_iff.1 (by omega)
        rw [h0] at this
        cases this
    refine ⟨?_, he _ a w hI hall⟩
    unfold Region.ready
    rw [List.filter_eq_nil_iff]
    intro i hi
    have hi := List.mem_range.1 hi
    rw [inb listed i true false (by omega), hall i hi]
    simp
  | succ fuel ih =>
    intro listed a w hz hI ⟨l, hl, hc⟩
    refine ⟨fun h => he _ a w hI (all listed hz h), fun i hi => ?_⟩
    unfold Region.ready at hi
    rw [List.mem_filter] at hi
    obtain ⟨h1, h2⟩ := hi
    have h1 := List.mem_range.1 h1
    obtain ⟨o, ho⟩ : ∃ o, ops[i]? = some o := ⟨_, Array.getElem?_eq_getElem h1⟩
    rw [ho, inb listed i true false (by omega)] at h2
    simp only [Option.map_some, Option.getD_some, Bool.and_eq_true, Bool.not_eq_true', Array.all_eq_true_iff_forall_mem, Bool.or_eq_true] at h2
    have hf : (fun j => (listed.setIfInBounds i true).getD j false) = fun j => if j = i then true else listed.getD j false := by
      funext j
      simp only [Array.getD_eq_getD_getElem?]
      by_cases e : j = i
      · subst e
        rw [Array.getElem?_setIfInBounds_self_of_lt (by omega)]; simp
      · rw [Array.getElem?_setIfInBounds_ne (fun h => e h.symm)]; simp [e]
    refine wpOp_mono ?_ (hs _ a w i o hI ho h2.1 fun e he' hb => ?_)
    · intro a' w' hI'
      refine ih _ a' w' (by simpa using hz) (by rw [hf]; exact hI') ⟨l.filter (fun j => j != i), ?_, fun j hj hju => ?_⟩
      · have := cover_step (hc i h1 h2.1); omega
      · rw [congrFun hf j] at hju
        by_cases e : j = i
        · rw [if_pos e] at hju; cases hju
        · rw [if_neg e] at hju
          rw [List.mem_filter]
          exact ⟨hc j hj hju, by simpa using e⟩
    · rcases h2.2 e he' with h | h
      · rw [hb] at h; simp at h
      · exact h
/-- A region that draws its order: what holds whatever is done already. -/
theorem wp_region_inv {id : Nat} {Q : Exit → Act → World → Prop} {ops : Array Oper} {a : Act} {w : World} (hm : P.follows .mixedOrders = true) (I : (Nat → Bool) → Act → World → Prop)
    (hd : ∀ (i : Nat) (o : Oper), ops[i]? = some o → ∀ e ∈ o.after, e.on < i)
    (h0 : I (fun _ => false) a w.drew)
    (hs : ∀ f a w i o, I f a w → ops[i]? = some o → f i = false → (∀ e ∈ o.after, Region.binds .any e = true → f e.on = true) → wpOp P ops Q i (I (fun j => if j = i then true else f j)) a w)
    (he : ∀ f a w, I f a w → (∀ i, i < ops.size → f i = true) → Q .normal a w) : (Code.region id ops true).wp P Q a w := by
  refine wp_region_any hm (wp_any_inv I hd hs he _ _ a _ (by simp) ?_ ⟨List.range ops.size, by simp, fun j hj _ => List.mem_range.2 hj⟩)
  have : (fun j => (Array.replicate ops.size false).getD j false) = fun _ => false := by
    funext j
    simp only [Array.getD_eq_getD_getElem?, Array.getElem?_replicate]
    split <;> rfl
  rw [this]
  exact h0
variable {ops : Array Oper} {i : Nat} {o : Oper} {Q : Exit → Act → World → Prop} {K : Act → World → Prop} {a : Act} {w : World}
theorem wpOp_of (hi : ops[i]? = some o) (g : o.guard = none) (h : o.wp P a w K Q) : wpOp P ops Q i K a w := by
  unfold wpOp
  rw [hi]
  simp only [Region.wanted, g, if_true]
  exact .inl h
theorem op_load {ty : TypeId} {y : Operand} {b : Nat} {cs : List Value} {T : TypeId} {fr : Nat × Nat} (e : o.op = .load ty y) (hy : a.eval y = .pointer (some ⟨b, 0, none⟩)) (ha : tAg P ty = some true) (hs : tSz P ty = some cs.length)
    (hb : w.heap[b]? = some (.cells cs.toArray T fr)) (hk : K (a.put o.dst (.agg cs.toArray)) w) : o.wp P a w K Q := by
  have hld := run_loadVar_agg (P := P) (ty := ty) (w := w) (b := b) (o := 0) (cs := cs) ha hs (fun j v e => by rw [Nat.zero_add, cell_of_blk hb]; simpa using e)
  have r1 : (execOp a.eval o).run P w = .ok (.value (.agg cs.toArray)) w := by simp [execOp, e, hy, Instr.loadAt, Instr.sureAddr, hld]
  unfold Oper.wp
  rw [r1]
  exact hk
theorem op_call {f : FuncId} {xs : Array Operand} {tys : Array TypeId} {vs : Array Value} (e : o.op = .call { callee := .value (.func f), args := xs, argTypes := tys }) (hc : ∀ (args : Array Value) (w : World), Sem.run P (callFunc f args) w = .ok (.enter f args) w)
    (hv : xs.map a.eval = vs) (h : Calls P f vs w fun e w' => ∃ v, e = .returned v ∧ K (a.put o.dst v) w') : o.wp P a w K Q := by
  have r1 : (execOp a.eval o).run P w = .ok (.enter f vs) w := by subst hv; simp [execOp, e, resolve, invoke, hc, go_sem]
  unfold Oper.wp
  rw [r1]
  refine Calls.mono h ?_
  rintro _ w' ⟨v, rfl, hk⟩
  exact hk
theorem op_alloc {T : TypeId} {z : Value} (e : o.op = .alloc T) (hz : ∀ w, Sem.run P (zeroValue T) w = .ok z w) (hk : K (a.put o.dst (.pointer (some ⟨w.heap.size, 0, none⟩))) (w.alloc (.cells z.cells T))) : o.wp P a w K Q := by
  have r1 : (execOp a.eval o).run P w = .ok (.value (.pointer (some ⟨w.heap.size, 0, none⟩))) (w.alloc (.cells z.cells T)) := by simp [execOp, e, Instr.alloc, hz, newVar, newRow]
  unfold Oper.wp
  rw [r1]
  exact hk
theorem op_store {ty : TypeId} {t z : Operand} {b : Nat} {cs : List Value} {arr : Array Value} {T : TypeId} (e : o.op = .store ty t z) (ht : a.eval t = .pointer (some ⟨b, 0, none⟩)) (hz : a.eval z = .agg cs.toArray) (hs : tSz P ty = some cs.length)
    (hb : w.heap[b]? = some (.cells arr T (0, 0))) (hl : arr.size = cs.length) (h1 : ∀ c ∈ cs, c.oneCell' = true)
    (hk : ∀ w', w'.heap[b]? = some (.cells cs.toArray T (0, 0)) → w.grownBy w' (some b) → K (a.put o.dst undef) w') : o.wp P a w K Q := by
  have hst := run_storeCells_at P b 0 T cs 0 arr w hb (by omega) h1
  have hnil : arr.toList.drop cs.length = [] := List.drop_eq_nil_of_le (by simp [hl])
  simp only [Nat.add_zero, Nat.zero_add, List.take_zero, List.nil_append, hnil, List.append_nil] at hst
  have r2 : (execOp a.eval o).run P w = .ok .skip (w.setRow b cs.toArray) := by
    have hst : Sem.run P (storeCells ⟨b, 0, none⟩ cs) w = Result.ok () (w.setRow b cs.toArray) := hst
    simp [execOp, e, ht, hz, Instr.storeAt, Instr.sureAddr, storeVar, run_sizeOf_of hs, Value.cells, hst]
  unfold Oper.wp
  rw [r2]
  exact hk _ (setRow_heap w b arr cs.toArray T (0, 0) hb) ⟨rfl, rfl, rfl, by simp, fun k _ hk => setRow_other w b k _ (fun e => hk (by rw [e]))⟩
end
/-- What lies in these blocks. -/
def ownM (p q : Nat) (w : World) : Mem := fun b o => if p ≤ b ∧ b < q then w.cell? ⟨b, o, none⟩ else none
/-- The two worlds agree on these blocks. -/
def Agr (p q : Nat) (w w' : World) : Prop := ∀ k, p ≤ k → k < q → w'.heap[k]? = w.heap[k]?
theorem ownM_le {p q : Nat} {w w' : World} (h : Agr p q w w') : Mem.le (ownM p q w) (allM w') := fun b o v e => by
  unfold ownM at e
  by_cases hb : p ≤ b ∧ b < q
  · rw [if_pos hb] at e
    show w'.cell? ⟨b, o, none⟩ = some v
    rw [← e]
    unfold World.cell?
    simp only [h b hb.1 hb.2]
  · rw [if_neg hb] at e; cases e
theorem VOw.rep' {B w l h} (v : VOw B w h l.length (vecsC l)) : Rep (ownM B w.heap.size w) noNames (e_sl_Vec l) h := by
  rw [e_slV]
  rcases v with ⟨h0, -, ad, cap, rfl, hc⟩ | ⟨g, cap, cur, T, rfl, h2, h3, h4, h5, h6, h7⟩
  · have : l = [] := List.length_eq_zero_iff.1 h0
    subst this
    cases ad with
    | none => rw [hc rfl]; exact .slnil
    | some a => exact .sl (l := []) (by simp) .nil (by simp) (by simp) (by simp) (Nat.zero_le _) (by simp)
  · have hl : l.length = (l.map e_Vec).length := by simp
    rw [hl]
    refine .sl (cs := vecsC l) ?_ ?_ (vecsC_one l) (fun _ => rfl) ?_ (by rw [← hl]; exact h5) (by simp)
    · intro e he
      obtain ⟨x, -, rfl⟩ := List.mem_map.1 he
      rfl
    · rw [cells_V]; exact repsV _
    · intro j x e
      show ownM B w.heap.size w g (0 + j) = some x
      unfold ownM
      rw [if_pos ⟨h2, h3⟩, Nat.zero_add, cell_of_blk h4]
      have hj : j < (vecsC l).length := (List.getElem?_eq_some_iff.1 e).1
      rw [← h7, List.getElem?_take_of_lt hj] at e
      rw [← Array.getElem?_toList]; exact e
theorem FOw.rep' {B w fs hF hs} (h : FOw B w fs hF hs) : Rep (ownM B w.heap.size w) noNames (e_sl_Fixture fs) hF := by
  rw [e_slF]
  obtain ⟨hlen, ⟨rfl, h0⟩ | ⟨g, cap, cur, rfl, q1, q2, q3, q4, q5, q6⟩⟩ := h.row
  · have : fs = [] := List.length_eq_zero_iff.1 h0
    subst this
    exact .slnil
  · have hl : fs.length = (fs.map e_Fixture).length := by simp
    rw [hl]
    refine .sl (cs := fixsC fs hs) ?_ (fixs_mk fs hs h.len fun k f x e1 e2 => (h.vs k f x e1 e2).1.rep') ?_ (fun _ => rfl) ?_ (by rw [← hl]; exact q3) (by simp)
    · intro e he
      obtain ⟨x, -, rfl⟩ := List.mem_map.1 he
      rfl
    · intro c hc
      obtain ⟨j, hj, e⟩ := List.getElem_of_mem hc
      have hj10 : j < fs.length * 10 := by rwa [fixsC_len _ _ h.len] at hj
      have k1 : j / 10 < fs.length := by omega
      have k2 : j / 10 < hs.length := by rw [← h.len]; exact k1
      have := fixsC_get fs hs (j / 10) (j % 10) fs[j / 10] hs[j / 10] (List.getElem?_eq_getElem k1) (List.getElem?_eq_getElem k2) (by omega)
      rw [show j / 10 * 10 + j % 10 = j by omega, List.getElem?_eq_getElem hj, e] at this
      exact fixC_one (h.vs (j / 10) fs[j / 10] hs[j / 10] (List.getElem?_eq_getElem k1) (List.getElem?_eq_getElem k2)).2.2 c (List.mem_of_getElem? this.symm)
    · intro j x e
      have hg : g < w.heap.size := by rw [Array.getElem?_eq_some_iff] at q2; exact q2.1
      show ownM B w.heap.size w g (0 + j) = some x
      unfold ownM
      rw [if_pos ⟨q1, hg⟩, Nat.zero_add, cell_of_blk q2]
      have hj : j < (fixsC fs hs).length := (List.getElem?_eq_some_iff.1 e).1
      rw [← q6, List.getElem?_take_of_lt (by rw [← hlen]; exact hj)] at e
      rw [← Array.getElem?_toList]; exact e
end GoForm
end

section
/- The region that clones twice: whatever order its operations come in. No conditions. -/
set_option linter.all false
set_option maxRecDepth 100000
open Go Go.Rx Go.Proofs Go.RowKit
namespace GoForm
/-- The eight operations. -/
structure O3 (ops : Array Oper) : Prop where
  size : ops.size = 8
  o0 : ∃ o, ops[0]? = some o ∧ o.guard = none ∧ o.op = .load 29 (.tmp 3) ∧ o.dst = some 21
  o1 : ∃ o, ops[1]? = some o ∧ o.guard = none ∧ o.op = .call { callee := .value (.func 9), args := #[.tmp 21], argTypes := #[29] } ∧ o.dst = some 22
  o2 : ∃ o, ops[2]? = some o ∧ o.guard = none ∧ o.op = .load 29 (.tmp 3) ∧ o.dst = some 23
  o3 : ∃ o, ops[3]? = some o ∧ o.guard = none ∧ o.op = .call { callee := .value (.func 9), args := #[.tmp 23], argTypes := #[29] } ∧ o.dst = some 24
  o4 : ∃ o, ops[4]? = some o ∧ o.guard = none ∧ o.op = .alloc 29 ∧ o.dst = some 7
  o5 : ∃ o, ops[5]? = some o ∧ o.guard = none ∧ o.op = .alloc 29 ∧ o.dst = some 8
  o6 : ∃ o, ops[6]? = some o ∧ o.guard = none ∧ o.op = .store 29 (.tmp 7) (.tmp 22) ∧ o.dst = none
  o7 : ∃ o, ops[7]? = some o ∧ o.guard = none ∧ o.op = .store 29 (.tmp 8) (.tmp 24) ∧ o.dst = none
  d1 : ∀ o, ops[1]? = some o → ∀ f : Nat → Bool, (∀ e ∈ o.after, Region.binds .any e = true → f e.on = true) → f 0 = true
  d3 : ∀ o, ops[3]? = some o → ∀ f : Nat → Bool, (∀ e ∈ o.after, Region.binds .any e = true → f e.on = true) → f 2 = true ∧ f 1 = true
  d6 : ∀ o, ops[6]? = some o → ∀ f : Nat → Bool, (∀ e ∈ o.after, Region.binds .any e = true → f e.on = true) → f 4 = true ∧ f 1 = true ∧ f 3 = true ∧ f 5 = true
  d7 : ∀ o, ops[7]? = some o → ∀ f : Nat → Bool, (∀ e ∈ o.after, Region.binds .any e = true → f e.on = true) → f 5 = true ∧ f 3 = true ∧ f 6 = true ∧ f 4 = true ∧ f 1 = true
  back : ∀ (i : Nat) (o : Oper), ops[i]? = some o → ∀ e ∈ o.after, e.on < i
/-- What holds whatever is done. -/
structure R3 (x : Body) (A : List Value) (a0 : Act) (w0 : World) (f : Nat → Bool) (a : Act) (w : World) (p : Nat) (wq : World) (hF : Value) (hs : List Value) (r : Nat) (wr : World) (hG : Value) (gs : List Value) (b7 b8 : Nat) : Prop where
  tm : ∀ j, j ≠ 7 → j ≠ 8 → j ≠ 21 → j ≠ 22 → j ≠ 23 → j ≠ 24 → a.tmps[j]? = a0.tmps[j]?
  sz : a.tmps.size = a0.tmps.size
  df : a.defers = a0.defers
  bel : Below w0.heap.size w0 w
  o31 : f 3 = true → f 1 = true
  o61 : f 6 = true → f 1 = true
  o64 : f 6 = true → f 4 = true
  o73 : f 7 = true → f 3 = true
  o75 : f 7 = true → f 5 = true
  c0 : f 0 = true → a.tmps[21]? = some (.agg A.toArray)
  c2 : f 2 = true → a.tmps[23]? = some (.agg A.toArray)
  c1 : f 1 = true → a.tmps[22]? = some (.agg (bodC x hF).toArray) ∧ w0.heap.size ≤ p ∧ wq.heap.size ≤ w.heap.size ∧ p ≤ wq.heap.size ∧ FOw p wq x.Fixtures hF hs ∧ Agr p wq.heap.size wq w
  c3 : f 3 = true → a.tmps[24]? = some (.agg (bodC x hG).toArray) ∧ wq.heap.size ≤ r ∧ wr.heap.size ≤ w.heap.size ∧ r ≤ wr.heap.size ∧ FOw r wr x.Fixtures hG gs ∧ Agr r wr.heap.size wr w
  c4 : f 4 = true → a.tmps[7]? = some (.pointer (some ⟨b7, 0, none⟩)) ∧ w0.heap.size ≤ b7 ∧ b7 < w.heap.size ∧ (∃ cs, w.heap[b7]? = some (.cells cs 29 (0, 0)) ∧ cs.size = 20 ∧ (f 6 = true → cs = (bodC x hF).toArray)) ∧ (f 1 = true → b7 < p ∨ wq.heap.size ≤ b7) ∧ (f 3 = true → b7 < r ∨ wr.heap.size ≤ b7)
  c5 : f 5 = true → a.tmps[8]? = some (.pointer (some ⟨b8, 0, none⟩)) ∧ w0.heap.size ≤ b8 ∧ b8 < w.heap.size ∧ (∃ cs, w.heap[b8]? = some (.cells cs 29 (0, 0)) ∧ cs.size = 20 ∧ (f 7 = true → cs = (bodC x hG).toArray)) ∧ (f 1 = true → b8 < p ∨ wq.heap.size ≤ b8) ∧ (f 3 = true → b8 < r ∨ wr.heap.size ≤ b8) ∧ (f 4 = true → b7 ≠ b8)
theorem ev {a : Act} {t : Nat} {v : Value} (h : a.tmps[t]? = some v) : a.eval (.tmp t) = v := by
  simp [Act.eval, h]
theorem Agr.below {p q : Nat} {w0 w w' : World} (h : Agr p q w0 w) (hq : q ≤ w.heap.size) (hb : Below w.heap.size w w') : Agr p q w0 w' := fun k h1 h2 => (hb.block k (by omega)).trans (h k h1 h2)
section
variable {x : Body} {A : List Value} {a0 : Act} {w0 : World} {f : Nat → Bool} {a : Act} {w : World} {p : Nat} {wq : World} {hF : Value} {hs : List Value} {r : Nat} {wr : World} {hG : Value} {gs : List Value} {b7 b8 : Nat}
theorem R3.world (S : R3 x A a0 w0 f a w p wq hF hs r wr hG gs b7 b8) {w' : World} (hb : Below w.heap.size w w') : R3 x A a0 w0 f a w' p wq hF hs r wr hG gs b7 b8 := by
  have hsz := hb.size
  refine ⟨S.tm, S.sz, S.df, S.bel.trans (hb.mono S.bel.size), S.o31, S.o61, S.o64, S.o73, S.o75, S.c0, S.c2, fun h => ?_, fun h => ?_, fun h => ?_, fun h => ?_⟩
  · obtain ⟨g1, g2, g3, g4, g5, g6⟩ := S.c1 h
    exact ⟨g1, g2, by omega, g4, g5, g6.below g3 hb⟩
  · obtain ⟨g1, g2, g3, g4, g5, g6⟩ := S.c3 h
    exact ⟨g1, g2, by omega, g4, g5, g6.below g3 hb⟩
  · obtain ⟨g1, g2, g3, ⟨cs, g4, g5⟩, g6⟩ := S.c4 h
    exact ⟨g1, g2, by omega, ⟨cs, (hb.block _ g3).trans g4, g5⟩, g6⟩
  · obtain ⟨g1, g2, g3, ⟨cs, g4, g5⟩, g6⟩ := S.c5 h
    exact ⟨g1, g2, by omega, ⟨cs, (hb.block _ g3).trans g4, g5⟩, g6⟩
theorem put_ne {a : Act} {d j : Nat} {v : Value} (h : j ≠ d) : (a.put (some d) v).tmps[j]? = a.tmps[j]? := Array.getElem?_setIfInBounds_ne (fun e => h e.symm)
theorem put_eq {a : Act} {d : Nat} {v : Value} (h : d < a.tmps.size) : (a.put (some d) v).tmps[d]? = some v := Array.getElem?_setIfInBounds_self_of_lt h
theorem put_sz {a : Act} {d : Nat} {v : Value} : (a.put (some d) v).tmps.size = a.tmps.size := by simp [Act.put]
def nx (f : Nat → Bool) (i : Nat) : Nat → Bool := fun j => if j = i then true else f j
theorem nx_eq {f : Nat → Bool} {i : Nat} : nx f i i = true := if_pos rfl
theorem nx_ne {f : Nat → Bool} {i j : Nat} (h : j ≠ i) : nx f i j = f j := if_neg h
theorem R3.s0 (S : R3 x A a0 w0 f a w p wq hF hs r wr hG gs b7 b8) (h24 : 24 < a0.tmps.size) : R3 x A a0 w0 (nx f 0) (a.put (some 21) (.agg A.toArray)) w p wq hF hs r wr hG gs b7 b8 := by
  have hz : 21 < a.tmps.size := by rw [S.sz]; omega
  refine ⟨fun j h1 h2 h3 h4 h5 h6 => (put_ne h3).trans (S.tm j h1 h2 h3 h4 h5 h6), put_sz.trans S.sz, S.df, S.bel, ?_, ?_, ?_, ?_, ?_, fun _ => put_eq hz, ?_, ?_, ?_, ?_, ?_⟩
  all_goals simp only [nx_ne (show (1 : Nat) ≠ 0 by decide), nx_ne (show (2 : Nat) ≠ 0 by decide), nx_ne (show (3 : Nat) ≠ 0 by decide), nx_ne (show (4 : Nat) ≠ 0 by decide), nx_ne (show (5 : Nat) ≠ 0 by decide), nx_ne (show (6 : Nat) ≠ 0 by decide), nx_ne (show (7 : Nat) ≠ 0 by decide), nx_eq]
  all_goals try simp only [put_ne (a := a) (v := .agg A.toArray) (show (7 : Nat) ≠ 21 by decide), put_ne (a := a) (v := .agg A.toArray) (show (8 : Nat) ≠ 21 by decide), put_ne (a := a) (v := .agg A.toArray) (show (22 : Nat) ≠ 21 by decide), put_ne (a := a) (v := .agg A.toArray) (show (23 : Nat) ≠ 21 by decide), put_ne (a := a) (v := .agg A.toArray) (show (24 : Nat) ≠ 21 by decide)]
  · exact S.o31
  · exact S.o61
  · exact S.o64
  · exact S.o73
  · exact S.o75
  · exact S.c2
  · exact S.c1
  · exact S.c3
  · exact S.c4
  · exact S.c5
theorem R3.s2 (S : R3 x A a0 w0 f a w p wq hF hs r wr hG gs b7 b8) (h24 : 24 < a0.tmps.size) : R3 x A a0 w0 (nx f 2) (a.put (some 23) (.agg A.toArray)) w p wq hF hs r wr hG gs b7 b8 := by
  have hz : 23 < a.tmps.size := by rw [S.sz]; omega
  refine ⟨fun j h1 h2 h3 h4 h5 h6 => (put_ne h5).trans (S.tm j h1 h2 h3 h4 h5 h6), put_sz.trans S.sz, S.df, S.bel, ?_, ?_, ?_, ?_, ?_, ?_, fun _ => put_eq hz, ?_, ?_, ?_, ?_⟩
  all_goals simp only [nx_ne (show (0 : Nat) ≠ 2 by decide), nx_ne (show (1 : Nat) ≠ 2 by decide), nx_ne (show (3 : Nat) ≠ 2 by decide), nx_ne (show (4 : Nat) ≠ 2 by decide), nx_ne (show (5 : Nat) ≠ 2 by decide), nx_ne (show (6 : Nat) ≠ 2 by decide), nx_ne (show (7 : Nat) ≠ 2 by decide), nx_eq]
  all_goals try simp only [put_ne (a := a) (v := .agg A.toArray) (show (7 : Nat) ≠ 23 by decide), put_ne (a := a) (v := .agg A.toArray) (show (8 : Nat) ≠ 23 by decide), put_ne (a := a) (v := .agg A.toArray) (show (21 : Nat) ≠ 23 by decide), put_ne (a := a) (v := .agg A.toArray) (show (22 : Nat) ≠ 23 by decide), put_ne (a := a) (v := .agg A.toArray) (show (24 : Nat) ≠ 23 by decide)]
  · exact S.o31
  · exact S.o61
  · exact S.o64
  · exact S.o73
  · exact S.o75
  · exact S.c0
  · exact S.c1
  · exact S.c3
  · exact S.c4
  · exact S.c5
theorem R3.s1 (S : R3 x A a0 w0 f a w p wq hF hs r wr hG gs b7 b8) (h24 : 24 < a0.tmps.size) (h1 : f 1 = false) {w' : World} {hF' : Value} {hs' : List Value} (hb : Below w.heap.size w w') (hO : FOw w.heap.size w' x.Fixtures hF' hs') :
    R3 x A a0 w0 (nx f 1) (a.put (some 22) (.agg (bodC x hF').toArray)) w' w.heap.size w' hF' hs' r wr hG gs b7 b8 := by
  have hz : 22 < a.tmps.size := by rw [S.sz]; omega
  have n3 : f 3 = true → False := fun h => by have := S.o31 h; rw [h1] at this; cases this
  have n6 : f 6 = true → False := fun h => by have := S.o61 h; rw [h1] at this; cases this
  have S0 := S
  have S := S.world hb
  refine ⟨fun j h1 h2 h3 h4 h5 h6 => (put_ne h4).trans (S.tm j h1 h2 h3 h4 h5 h6), put_sz.trans S.sz, S.df, S.bel, ?_, ?_, ?_, ?_, ?_, ?_, ?_, fun _ => ⟨put_eq hz, S0.bel.size, Nat.le_refl _, hb.size, hO, fun _ _ _ => rfl⟩, ?_, ?_, ?_⟩
  all_goals simp only [nx_ne (show (0 : Nat) ≠ 1 by decide), nx_ne (show (2 : Nat) ≠ 1 by decide), nx_ne (show (3 : Nat) ≠ 1 by decide), nx_ne (show (4 : Nat) ≠ 1 by decide), nx_ne (show (5 : Nat) ≠ 1 by decide), nx_ne (show (6 : Nat) ≠ 1 by decide), nx_ne (show (7 : Nat) ≠ 1 by decide), nx_eq]
  all_goals try simp only [put_ne (a := a) (v := .agg (bodC x hF').toArray) (show (7 : Nat) ≠ 22 by decide), put_ne (a := a) (v := .agg (bodC x hF').toArray) (show (8 : Nat) ≠ 22 by decide), put_ne (a := a) (v := .agg (bodC x hF').toArray) (show (21 : Nat) ≠ 22 by decide), put_ne (a := a) (v := .agg (bodC x hF').toArray) (show (23 : Nat) ≠ 22 by decide), put_ne (a := a) (v := .agg (bodC x hF').toArray) (show (24 : Nat) ≠ 22 by decide)]
  · exact fun h => (n3 h).elim
  · exact fun h => (n6 h).elim
  · exact S.o64
  · exact S.o73
  · exact S.o75
  · exact S.c0
  · exact S.c2
  · exact fun h => (n3 h).elim
  · intro h
    obtain ⟨g1, g2, g3, ⟨cs, g4, g5, -⟩, -⟩ := S.c4 h
    exact ⟨g1, g2, g3, ⟨cs, g4, g5, fun h => (n6 h).elim⟩, fun _ => .inl (S0.c4 h).2.2.1, fun h => (n3 h).elim⟩
  · intro h
    obtain ⟨g1, g2, g3, ⟨cs, g4, g5, -⟩, -, -, g7⟩ := S.c5 h
    exact ⟨g1, g2, g3, ⟨cs, g4, g5, fun h => (n3 (S.o73 h)).elim⟩, fun _ => .inl (S0.c5 h).2.2.1, fun h => (n3 h).elim, g7⟩
theorem R3.s3 (S : R3 x A a0 w0 f a w p wq hF hs r wr hG gs b7 b8) (h24 : 24 < a0.tmps.size) (h1 : f 3 = false) (h2 : f 1 = true) {w' : World} {hG' : Value} {gs' : List Value} (hb : Below w.heap.size w w') (hO : FOw w.heap.size w' x.Fixtures hG' gs') :
    R3 x A a0 w0 (nx f 3) (a.put (some 24) (.agg (bodC x hG').toArray)) w' p wq hF hs w.heap.size w' hG' gs' b7 b8 := by
  have hz : 24 < a.tmps.size := by rw [S.sz]; omega
  have n7 : f 7 = true → False := fun h => by have := S.o73 h; rw [h1] at this; cases this
  have S0 := S
  have S := S.world hb
  refine ⟨fun j h1 h2 h3 h4 h5 h6 => (put_ne h6).trans (S.tm j h1 h2 h3 h4 h5 h6), put_sz.trans S.sz, S.df, S.bel, ?_, ?_, ?_, ?_, ?_, ?_, ?_, ?_, fun _ => ⟨put_eq hz, (S0.c1 h2).2.2.1, Nat.le_refl _, hb.size, hO, fun _ _ _ => rfl⟩, ?_, ?_⟩
  all_goals simp only [nx_ne (show (0 : Nat) ≠ 3 by decide), nx_ne (show (1 : Nat) ≠ 3 by decide), nx_ne (show (2 : Nat) ≠ 3 by decide), nx_ne (show (4 : Nat) ≠ 3 by decide), nx_ne (show (5 : Nat) ≠ 3 by decide), nx_ne (show (6 : Nat) ≠ 3 by decide), nx_ne (show (7 : Nat) ≠ 3 by decide), nx_eq]
  all_goals try simp only [put_ne (a := a) (v := .agg (bodC x hG').toArray) (show (7 : Nat) ≠ 24 by decide), put_ne (a := a) (v := .agg (bodC x hG').toArray) (show (8 : Nat) ≠ 24 by decide), put_ne (a := a) (v := .agg (bodC x hG').toArray) (show (21 : Nat) ≠ 24 by decide), put_ne (a := a) (v := .agg (bodC x hG').toArray) (show (22 : Nat) ≠ 24 by decide), put_ne (a := a) (v := .agg (bodC x hG').toArray) (show (23 : Nat) ≠ 24 by decide)]
  · exact fun _ => h2
  · exact S.o61
  · exact S.o64
  · exact fun h => (n7 h).elim
  · exact S.o75
  · exact S.c0
  · exact S.c2
  · exact S.c1
  · intro h
    obtain ⟨g1, g2, g3, ⟨cs, g4, g5, g6⟩, g7, -⟩ := S.c4 h
    exact ⟨g1, g2, g3, ⟨cs, g4, g5, g6⟩, g7, fun _ => .inl (S0.c4 h).2.2.1⟩
  · intro h
    obtain ⟨g1, g2, g3, ⟨cs, g4, g5, -⟩, g6, -, g7⟩ := S.c5 h
    exact ⟨g1, g2, g3, ⟨cs, g4, g5, fun h => (n7 h).elim⟩, g6, fun _ => .inl (S0.c5 h).2.2.1, g7⟩
theorem R3.s4 (S : R3 x A a0 w0 f a w p wq hF hs r wr hG gs b7 b8) (h24 : 24 < a0.tmps.size) (h1 : f 4 = false) {cs : Array Value} (hcs : cs.size = 20) :
    R3 x A a0 w0 (nx f 4) (a.put (some 7) (.pointer (some ⟨w.heap.size, 0, none⟩))) (w.alloc (.cells cs 29)) p wq hF hs r wr hG gs w.heap.size b8 := by
  have hz : 7 < a.tmps.size := by rw [S.sz]; omega
  have n6 : f 6 = true → False := fun h => by have := S.o64 h; rw [h1] at this; cases this
  have hb : Below w.heap.size w (w.alloc (.cells cs 29)) := (Below.refl _ _).alloc (Nat.le_refl _) _
  have S0 := S
  have S := S.world hb
  refine ⟨fun j h1 h2 h3 h4 h5 h6 => (put_ne h1).trans (S.tm j h1 h2 h3 h4 h5 h6), put_sz.trans S.sz, S.df, S.bel, ?_, ?_, ?_, ?_, ?_, ?_, ?_, ?_, ?_, fun _ => ⟨put_eq hz, S0.bel.size, by simp, ⟨cs, heap_at _ _ _ rfl, hcs, ?_⟩, ?_, ?_⟩, ?_⟩
  all_goals simp only [nx_ne (show (0 : Nat) ≠ 4 by decide), nx_ne (show (1 : Nat) ≠ 4 by decide), nx_ne (show (2 : Nat) ≠ 4 by decide), nx_ne (show (3 : Nat) ≠ 4 by decide), nx_ne (show (5 : Nat) ≠ 4 by decide), nx_ne (show (6 : Nat) ≠ 4 by decide), nx_ne (show (7 : Nat) ≠ 4 by decide), nx_eq]
  all_goals try simp only [put_ne (a := a) (v := .pointer (some ⟨w.heap.size, 0, none⟩)) (show (8 : Nat) ≠ 7 by decide), put_ne (a := a) (v := .pointer (some ⟨w.heap.size, 0, none⟩)) (show (21 : Nat) ≠ 7 by decide), put_ne (a := a) (v := .pointer (some ⟨w.heap.size, 0, none⟩)) (show (22 : Nat) ≠ 7 by decide), put_ne (a := a) (v := .pointer (some ⟨w.heap.size, 0, none⟩)) (show (23 : Nat) ≠ 7 by decide), put_ne (a := a) (v := .pointer (some ⟨w.heap.size, 0, none⟩)) (show (24 : Nat) ≠ 7 by decide)]
  · exact S.o31
  · exact S.o61
  · exact fun h => (n6 h).elim
  · exact S.o73
  · exact S.o75
  · exact S.c0
  · exact S.c2
  · exact S.c1
  · exact S.c3
  · exact fun h => (n6 h).elim
  · exact fun h => .inr (S0.c1 h).2.2.1
  · exact fun h => .inr (S0.c3 h).2.2.1
  · intro h
    obtain ⟨g1, g2, g3, ⟨cs, g4, g5, g6⟩, g7, g8, -⟩ := S.c5 h
    exact ⟨g1, g2, g3, ⟨cs, g4, g5, g6⟩, g7, g8, fun _ e => by have := (S0.c5 h).2.2.1; omega⟩
theorem R3.s5 (S : R3 x A a0 w0 f a w p wq hF hs r wr hG gs b7 b8) (h24 : 24 < a0.tmps.size) (h1 : f 5 = false) {cs : Array Value} (hcs : cs.size = 20) :
    R3 x A a0 w0 (nx f 5) (a.put (some 8) (.pointer (some ⟨w.heap.size, 0, none⟩))) (w.alloc (.cells cs 29)) p wq hF hs r wr hG gs b7 w.heap.size := by
  have hz : 8 < a.tmps.size := by rw [S.sz]; omega
  have n7 : f 7 = true → False := fun h => by have := S.o75 h; rw [h1] at this; cases this
  have hb : Below w.heap.size w (w.alloc (.cells cs 29)) := (Below.refl _ _).alloc (Nat.le_refl _) _
  have S0 := S
  have S := S.world hb
  refine ⟨fun j h1 h2 h3 h4 h5 h6 => (put_ne h2).trans (S.tm j h1 h2 h3 h4 h5 h6), put_sz.trans S.sz, S.df, S.bel, ?_, ?_, ?_, ?_, ?_, ?_, ?_, ?_, ?_, ?_, fun _ => ⟨put_eq hz, S0.bel.size, by simp, ⟨cs, heap_at _ _ _ rfl, hcs, ?_⟩, ?_, ?_, ?_⟩⟩
  all_goals simp only [nx_ne (show (0 : Nat) ≠ 5 by decide), nx_ne (show (1 : Nat) ≠ 5 by decide), nx_ne (show (2 : Nat) ≠ 5 by decide), nx_ne (show (3 : Nat) ≠ 5 by decide), nx_ne (show (4 : Nat) ≠ 5 by decide), nx_ne (show (6 : Nat) ≠ 5 by decide), nx_ne (show (7 : Nat) ≠ 5 by decide), nx_eq]
  all_goals try simp only [put_ne (a := a) (v := .pointer (some ⟨w.heap.size, 0, none⟩)) (show (7 : Nat) ≠ 8 by decide), put_ne (a := a) (v := .pointer (some ⟨w.heap.size, 0, none⟩)) (show (21 : Nat) ≠ 8 by decide), put_ne (a := a) (v := .pointer (some ⟨w.heap.size, 0, none⟩)) (show (22 : Nat) ≠ 8 by decide), put_ne (a := a) (v := .pointer (some ⟨w.heap.size, 0, none⟩)) (show (23 : Nat) ≠ 8 by decide), put_ne (a := a) (v := .pointer (some ⟨w.heap.size, 0, none⟩)) (show (24 : Nat) ≠ 8 by decide)]
  · exact S.o31
  · exact S.o61
  · exact S.o64
  · exact S.o73
  · exact fun h => (n7 h).elim
  · exact S.c0
  · exact S.c2
  · exact S.c1
  · exact S.c3
  · exact S.c4
  · exact fun h => (n7 h).elim
  · exact fun h => .inr (S0.c1 h).2.2.1
  · exact fun h => .inr (S0.c3 h).2.2.1
  · exact fun h e => by have := (S0.c4 h).2.2.1; omega
theorem Agr.grown {p q b : Nat} {w0 w w' : World} (h : Agr p q w0 w) (hq : q ≤ w.heap.size) (hg : w.grownBy w' (some b)) (hb : b < p ∨ q ≤ b) : Agr p q w0 w' := fun k h1 h2 => (hg.block k (by omega) (fun e => by have := Option.some.inj e; omega)).trans (h k h1 h2)
theorem put0 {a : Act} {v : Value} : a.put none v = a := rfl
theorem R3.s6 (S : R3 x A a0 w0 f a w p wq hF hs r wr hG gs b7 b8) (h24 : 24 < a0.tmps.size) (h4 : f 4 = true) (h1 : f 1 = true) (h3 : f 3 = true) (h5 : f 5 = true) {w' : World} (hh : w'.heap[b7]? = some (.cells (bodC x hF).toArray 29 (0, 0))) (hg : w.grownBy w' (some b7)) :
    R3 x A a0 w0 (nx f 6) a w' p wq hF hs r wr hG gs b7 b8 := by
  obtain ⟨k1, k2, k3, ⟨cs, k4, k5, k6⟩, k7, k8⟩ := S.c4 h4
  have hsz := hg.size
  refine ⟨S.tm, S.sz, S.df, S.bel.grown hg (S.bel.size) (fun k e => by have := Option.some.inj e; omega), ?_, ?_, ?_, ?_, ?_, ?_, ?_, ?_, ?_, ?_, ?_⟩
  all_goals simp only [nx_ne (show (0 : Nat) ≠ 6 by decide), nx_ne (show (1 : Nat) ≠ 6 by decide), nx_ne (show (2 : Nat) ≠ 6 by decide), nx_ne (show (3 : Nat) ≠ 6 by decide), nx_ne (show (4 : Nat) ≠ 6 by decide), nx_ne (show (5 : Nat) ≠ 6 by decide), nx_ne (show (7 : Nat) ≠ 6 by decide), nx_eq]
  · exact S.o31
  · exact fun _ => h1
  · exact fun _ => h4
  · exact S.o73
  · exact S.o75
  · exact S.c0
  · exact S.c2
  · intro h
    obtain ⟨g1, g2, g3, g4, g5, g6⟩ := S.c1 h
    exact ⟨g1, g2, by omega, g4, g5, g6.grown g3 hg (k7 h)⟩
  · intro h
    obtain ⟨g1, g2, g3, g4, g5, g6⟩ := S.c3 h
    exact ⟨g1, g2, by omega, g4, g5, g6.grown g3 hg (k8 h)⟩
  · exact fun _ => ⟨k1, k2, by omega, ⟨_, hh, rfl, fun _ => rfl⟩, k7, k8⟩
  · intro h
    obtain ⟨g1, g2, g3, ⟨cs, g4, g5, g6⟩, g7, g8, g9⟩ := S.c5 h
    exact ⟨g1, g2, by omega, ⟨cs, (hg.block _ g3 (fun e => g9 h4 (Option.some.inj e).symm)).trans g4, g5, g6⟩, g7, g8, g9⟩
theorem R3.s7 (S : R3 x A a0 w0 f a w p wq hF hs r wr hG gs b7 b8) (h24 : 24 < a0.tmps.size) (h4 : f 4 = true) (h1 : f 1 = true) (h3 : f 3 = true) (h5 : f 5 = true) {w' : World} (hh : w'.heap[b8]? = some (.cells (bodC x hG).toArray 29 (0, 0))) (hg : w.grownBy w' (some b8)) :
    R3 x A a0 w0 (nx f 7) a w' p wq hF hs r wr hG gs b7 b8 := by
  obtain ⟨k1, k2, k3, ⟨cs, k4, k5, k6⟩, k7, k8, k9⟩ := S.c5 h5
  have hsz := hg.size
  refine ⟨S.tm, S.sz, S.df, S.bel.grown hg (S.bel.size) (fun k e => by have := Option.some.inj e; omega), ?_, ?_, ?_, ?_, ?_, ?_, ?_, ?_, ?_, ?_, ?_⟩
  all_goals simp only [nx_ne (show (0 : Nat) ≠ 7 by decide), nx_ne (show (1 : Nat) ≠ 7 by decide), nx_ne (show (2 : Nat) ≠ 7 by decide), nx_ne (show (3 : Nat) ≠ 7 by decide), nx_ne (show (4 : Nat) ≠ 7 by decide), nx_ne (show (5 : Nat) ≠ 7 by decide), nx_ne (show (6 : Nat) ≠ 7 by decide), nx_eq]
  · exact S.o31
  · exact S.o61
  · exact S.o64
  · exact fun _ => h3
  · exact fun _ => h5
  · exact S.c0
  · exact S.c2
  · intro h
    obtain ⟨g1, g2, g3, g4, g5, g6⟩ := S.c1 h
    exact ⟨g1, g2, by omega, g4, g5, g6.grown g3 hg (k7 h)⟩
  · intro h
    obtain ⟨g1, g2, g3, g4, g5, g6⟩ := S.c3 h
    exact ⟨g1, g2, by omega, g4, g5, g6.grown g3 hg (k8 h)⟩
  · intro h
    obtain ⟨g1, g2, g3, ⟨cs, g4, g5, g6⟩, g7, g8⟩ := S.c4 h
    exact ⟨g1, g2, by omega, ⟨cs, (hg.block _ g3 (fun e => k9 h (Option.some.inj e))).trans g4, g5, g6⟩, g7, g8⟩
  · exact fun _ => ⟨k1, k2, by omega, ⟨_, hh, rfl, fun _ => rfl⟩, k7, k8, k9⟩
/-- The region: afterwards two clones lie in memory of their own, each behind a variable. -/
theorem region3 {id : Nat} {Q : Exit → Act → World → Prop} {ops : Array Oper} {w : World} {m : Mem} {bA : Nat} (hm : Try.prog.follows .mixedOrders = true) (O : O3 ops) (h40 : Few2 x.Fixtures) (h24 : 24 < a0.tmps.size)
    (hi : Imm m w) (hr : Rep m noNames (e_Body x) (.agg A.toArray)) (h3 : a0.tmps[3]? = some (.pointer (some ⟨bA, 0, none⟩))) (hA : w.heap[bA]? = some (.cells A.toArray 29 (0, 0))) (hAl : A.length = 20) (hbA : bA < w.heap.size)
    (ra : tAg Try.prog 29 = some true) (rz : tSz Try.prog 29 = some 20)
    (h : ∀ a w' p wq hF hs r wr hG gs b7 b8, R3 x A a0 w.drew (fun _ => true) a w' p wq hF hs r wr hG gs b7 b8 → Q .normal a w') : (Code.region id ops true).wp Try.prog Q a0 w := by
  refine wp_region_inv hm (fun f a w' => ∃ p wq hF hs r wr hG gs b7 b8, R3 x A a0 w.drew f a w' p wq hF hs r wr hG gs b7 b8) O.back ?_ ?_ ?_
  · exact ⟨0, w, .slice none 0 0, [], 0, w, .slice none 0 0, [], 0, 0, fun _ _ _ _ _ _ _ => rfl, rfl, rfl, Below.refl _ _, by simp, by simp, by simp, by simp, by simp, by simp, by simp, by simp, by simp, by simp, by simp⟩
  · rintro f a w1 i o ⟨p, wq, hF, hs, r, wr, hG, gs, b7, b8, S⟩ ho hf hdep
    have hi8 : i < 8 := by
      have := (Array.getElem?_eq_some_iff.1 ho).1
      rw [O.size] at this; exact this
    have hbel : Below w.heap.size w w1 := ((Below.refl _ w).drew).trans S.bel
    have e3 : a.eval (.tmp 3) = .pointer (some ⟨bA, 0, none⟩) := ev ((S.tm 3 (by decide) (by decide) (by decide) (by decide) (by decide) (by decide)).trans h3)
    have hA1 : w1.heap[bA]? = some (.cells A.toArray 29 (0, 0)) := (hbel.block _ hbA).trans hA
    have c9 := Try.call9
    have body := fun v (hv : Rep m noNames (e_Body x) v) => body_fresh x h40 m v w1 (hi.below hbel) hv
    match i, hi8 with
    | 0, _ =>
      obtain ⟨o', q1, q2, q3, q4⟩ := O.o0
      rw [q1] at ho; cases ho
      refine wpOp_of q1 q2 (op_load q3 e3 ra (by rw [hAl]; exact rz) hA1 ?_)
      rw [q4]
      exact ⟨p, wq, hF, hs, r, wr, hG, gs, b7, b8, S.s0 h24⟩
    | 1, _ =>
      obtain ⟨o', q1, q2, q3, q4⟩ := O.o1
      have hd := O.d1 o ho f hdep
      rw [q1] at ho; cases ho
      refine wpOp_of q1 q2 (op_call (vs := #[.agg A.toArray]) q3 c9 (by simp [ev (S.c0 hd)]) ((body _ hr).mono ?_))
      rintro e w' ⟨hF', hs', rfl, hb, hO⟩
      refine ⟨_, rfl, ?_⟩
      rw [q4]
      exact ⟨_, _, _, _, r, wr, hG, gs, b7, b8, S.s1 h24 hf hb hO⟩
    | 2, _ =>
      obtain ⟨o', q1, q2, q3, q4⟩ := O.o2
      rw [q1] at ho; cases ho
      refine wpOp_of q1 q2 (op_load q3 e3 ra (by rw [hAl]; exact rz) hA1 ?_)
      rw [q4]
      exact ⟨p, wq, hF, hs, r, wr, hG, gs, b7, b8, S.s2 h24⟩
    | 3, _ =>
      obtain ⟨o', q1, q2, q3, q4⟩ := O.o3
      have hd := O.d3 o ho f hdep
      rw [q1] at ho; cases ho
      refine wpOp_of q1 q2 (op_call (vs := #[.agg A.toArray]) q3 c9 (by simp [ev (S.c2 hd.1)]) ((body _ hr).mono ?_))
      rintro e w' ⟨hF', hs', rfl, hb, hO⟩
      refine ⟨_, rfl, ?_⟩
      rw [q4]
      exact ⟨p, wq, hF, hs, _, _, _, _, b7, b8, S.s3 h24 hf hd.2 hb hO⟩
    | 4, _ =>
      obtain ⟨o', q1, q2, q3, q4⟩ := O.o4
      rw [q1] at ho; cases ho
      refine wpOp_of q1 q2 (op_alloc q3 Try.zeroValue29 ?_)
      rw [q4]
      exact ⟨p, wq, hF, hs, r, wr, hG, gs, _, b8, S.s4 h24 hf rfl⟩
    | 5, _ =>
      obtain ⟨o', q1, q2, q3, q4⟩ := O.o5
      rw [q1] at ho; cases ho
      refine wpOp_of q1 q2 (op_alloc q3 Try.zeroValue29 ?_)
      rw [q4]
      exact ⟨p, wq, hF, hs, r, wr, hG, gs, b7, _, S.s5 h24 hf rfl⟩
    | 6, _ =>
      obtain ⟨o', q1, q2, q3, q4⟩ := O.o6
      obtain ⟨d4, d1, d3, d5⟩ := O.d6 o ho f hdep
      rw [q1] at ho; cases ho
      obtain ⟨k1, k2, k3, ⟨cs, k4, k5, k6⟩, k7, k8⟩ := S.c4 d4
      obtain ⟨g1, -, -, -, g5, -⟩ := S.c1 d1
      have one : ∀ c ∈ bodC x hF, c.oneCell' = true := bodC_one (by have := g5.rep'; rw [e_slF] at this; exact one_slice this)
      refine wpOp_of q1 q2 (op_store q3 (ev k1) (ev g1) (by exact rz) k4 (by rw [k5]; rfl) one fun w' hh hg => ?_)
      rw [q4]
      exact ⟨p, wq, hF, hs, r, wr, hG, gs, b7, b8, S.s6 h24 d4 d1 d3 d5 hh hg⟩
    | 7, _ =>
      obtain ⟨o', q1, q2, q3, q4⟩ := O.o7
      obtain ⟨d5, d3, d6, d4, d1⟩ := O.d7 o ho f hdep
      rw [q1] at ho; cases ho
      obtain ⟨k1, k2, k3, ⟨cs, k4, k5, k6⟩, k7, k8⟩ := S.c5 d5
      obtain ⟨g1, -, -, -, g5, -⟩ := S.c3 d3
      have one : ∀ c ∈ bodC x hG, c.oneCell' = true := bodC_one (by have := g5.rep'; rw [e_slF] at this; exact one_slice this)
      refine wpOp_of q1 q2 (op_store q3 (ev k1) (ev g1) (by exact rz) k4 (by rw [k5]; rfl) one fun w' hh hg => ?_)
      rw [q4]
      exact ⟨p, wq, hF, hs, r, wr, hG, gs, b7, b8, S.s7 h24 d4 d1 d3 d5 hh hg⟩
  · rintro f a w1 ⟨p, wq, hF, hs, r, wr, hG, gs, b7, b8, S⟩ hall
    rw [O.size] at hall
    refine h a w1 p wq hF hs r wr hG gs b7 b8 ?_
    exact ⟨S.tm, S.sz, S.df, S.bel, fun _ => rfl, fun _ => rfl, fun _ => rfl, fun _ => rfl, fun _ => rfl, fun _ => S.c0 (hall 0 (by decide)), fun _ => S.c2 (hall 2 (by decide)), fun _ => S.c1 (hall 1 (by decide)), fun _ => S.c3 (hall 3 (by decide)),
      fun _ => by
        obtain ⟨g1, g2, g3, ⟨cs, g4, g5, g6⟩, g7, g8⟩ := S.c4 (hall 4 (by decide))
        exact ⟨g1, g2, g3, ⟨cs, g4, g5, fun _ => g6 (hall 6 (by decide))⟩, fun _ => g7 (hall 1 (by decide)), fun _ => g8 (hall 3 (by decide))⟩,
      fun _ => by
        obtain ⟨g1, g2, g3, ⟨cs, g4, g5, g6⟩, g7, g8, g9⟩ := S.c5 (hall 5 (by decide))
        exact ⟨g1, g2, g3, ⟨cs, g4, g5, fun _ => g6 (hall 7 (by decide))⟩, fun _ => g7 (hall 1 (by decide)), fun _ => g8 (hall 3 (by decide)), fun _ => g9 (hall 4 (by decide))⟩⟩
end
end GoForm
end

section
/- Two worlds that differ in a clone's own blocks alone. No conditions. -/
set_option linter.all false
set_option maxRecDepth 100000
open Go Go.Rx Go.Proofs Go.RowKit
namespace GoForm
structure Out (p q : Nat) (w4 W : World) : Prop where
  os : W.os = w4.os
  tape : W.tape = w4.tape
  output : W.output = w4.output
  size : w4.heap.size ≤ W.heap.size
  block : ∀ k, k < w4.heap.size → (k < p ∨ q ≤ k) → W.heap[k]? = w4.heap[k]?
theorem Out.refl (p q : Nat) (w : World) : Out p q w w := ⟨rfl, rfl, rfl, Nat.le_refl _, fun _ _ _ => rfl⟩
theorem Out.drew {p q w4 W} (h : Out p q w4 W) : Out p q w4 W.drew := ⟨h.os, h.tape, h.output, h.size, h.block⟩
theorem Out.set {p q w4 W} (h : Out p q w4 W) (a : Addr) (v : Value) (h1 : p ≤ a.block) (h2 : a.block < q) : Out p q w4 (W.setCell a v) :=
  ⟨h.os, h.tape, h.output, by rw [size_set]; exact h.size, fun k hk ho => by rw [heap_set _ _ _ _ (by omega)]; exact h.block k hk ho⟩
theorem Out.below {p q B w w4 W} (h : Out p q w4 W) (hb : Below B w w4) (hB : B ≤ p) (hw : B ≤ w4.heap.size) : Below B w W :=
  ⟨h.os.trans hb.os, h.tape.trans hb.tape, h.output.trans hb.output, Nat.le_trans hb.size h.size, fun k hk => (h.block k (by omega) (.inl (by omega))).trans (hb.block k hk)⟩
section
variable {B E bx : Nat} {D : List Value} {TD : TypeId} {fs : List Fixture} {hF : Value} {hs : List Value} {W : World}
theorem SW.drew (h : SW B E bx D TD fs hF hs W) : SW B E bx D TD fs hF hs W.drew := ⟨h.box, h.row, h.vs⟩
end
end GoForm
end

section
/- The clone that is changed: what the law reads at its end. No conditions. -/
set_option linter.all false
set_option maxRecDepth 100000
open Go Go.Rx Go.Proofs Go.RowKit
namespace GoForm
theorem xor_par (a b : Nat) : (a ^^^ b) % 2 = (a + b) % 2 := by
  have h := Nat.testBit_xor a b 0
  simp only [Nat.testBit_zero] at h
  have e1 : (a + b) % 2 = (a % 2 + b % 2) % 2 := by omega
  rw [e1]
  rcases Nat.mod_two_eq_zero_or_one a with ha | ha <;> rcases Nat.mod_two_eq_zero_or_one b with hb | hb <;> rcases Nat.mod_two_eq_zero_or_one (a ^^^ b) with hc | hc <;> simp [ha, hb, hc] at h ⊢
theorem xor_ne (n : Int) : bits .xor .i64 n 1 ≠ n := by
  intro h
  have e1 : ((BitVec.ofInt 64 n ^^^ BitVec.ofInt 64 1).toNat) % 2 = ((BitVec.ofInt 64 n).toNat + 1) % 2 := by
    rw [BitVec.toNat_xor, xor_par]
    have : (BitVec.ofInt 64 1).toNat = 1 := by decide
    rw [this]
  have e2 : ((BitVec.ofInt 64 n).toNat : Int) = n % 18446744073709551616 := by
    rw [BitVec.toNat_ofInt]
    omega
  have e3 := w64_or ((BitVec.ofInt 64 n ^^^ BitVec.ofInt 64 1).toNat : Int)
  have e4 : w64 ((BitVec.ofInt 64 n ^^^ BitVec.ofInt 64 1).toNat : Int) = n := h
  generalize (BitVec.ofInt 64 n ^^^ BitVec.ofInt 64 1).toNat = z at e1 e3 e4
  omega
structure P8 (x : Body) (w : World) (A G : List Value) (b8 b11 : Nat) (w8 : World) : Prop where
  bel : Below w.heap.size w w8
  ba : w8.heap[w.heap.size]? = some (.cells A.toArray 29 (0, 0))
  bg : w8.heap[b8]? = some (.cells G.toArray 29 (0, 0))
  ra : Rep (allM w8) noNames (e_Body x) (.agg A.toArray)
  rg : Rep (allM w8) noNames (e_Body x) (.agg G.toArray)
  lt : w.heap.size < w8.heap.size ∧ b8 < w8.heap.size ∧ b11 < w8.heap.size
  z : ∃ (z : Body) (E : List Value), z ≠ x ∧ E.length = 20 ∧ w8.heap[b11]? = some (.cells E.toArray 29 (0, 0)) ∧ Rep (allM w8) noNames (e_Body z) (.agg E.toArray)
theorem P8.below {x : Body} {w : World} {A G : List Value} {b8 b11 : Nat} {w8 w9 : World} (h : P8 x w A G b8 b11 w8) (hb : Below w8.heap.size w8 w9) : P8 x w A G b8 b11 w9 := by
  obtain ⟨l1, l2, l3⟩ := h.lt
  have sz := hb.size
  obtain ⟨z, E, z1, z2, z3, z4⟩ := h.z
  exact ⟨h.bel.trans (hb.mono h.bel.size), (hb.block _ l1).trans h.ba, (hb.block _ l2).trans h.bg, h.ra.mono (le_all ((imm_all w8).below hb)), h.rg.mono (le_all ((imm_all w8).below hb)), ⟨by omega, by omega, by omega⟩, z, E, z1, z2, (hb.block _ l3).trans z3, z4.mono (le_all ((imm_all w8).below hb))⟩
/-- What holds ahead of the change. -/
structure P7 (x : Body) (w : World) (A G : List Value) (b8 : Nat) (wr w6 w7 : World) (hE : Value) (es : List Value) : Prop where
  bel : Below w.heap.size w wr
  ba : wr.heap[w.heap.size]? = some (.cells A.toArray 29 (0, 0))
  bg : wr.heap[b8]? = some (.cells G.toArray 29 (0, 0))
  ra : Rep (allM wr) noNames (e_Body x) (.agg A.toArray)
  rg : Rep (allM wr) noNames (e_Body x) (.agg G.toArray)
  lt : w.heap.size < wr.heap.size ∧ b8 < wr.heap.size
  b6 : Below wr.heap.size wr w6
  own : FOw wr.heap.size w6 x.Fixtures hE es
  box : w7.heap[w6.heap.size]? = some (.cells (bodC x hE).toArray 29 (0, 0))
  b7 : Below w6.heap.size w6 w7
  lt7 : w6.heap.size < w7.heap.size
section
variable {x : Body} {w : World} {A G : List Value} {b8 : Nat} {wr w6 w7 : World} {hE : Value} {es : List Value}
theorem P7.r7 (h : P7 x w A G b8 wr w6 w7 hE es) : Below wr.heap.size wr w7 := h.b6.trans (h.b7.mono h.b6.size)
theorem P7.go (h : P7 x w A G b8 wr w6 w7 hE es) {w8 : World} (h8 : Below wr.heap.size wr w8) (hl : w6.heap.size < w8.heap.size)
    (hz : ∃ (z : Body) (E : List Value), z ≠ x ∧ E.length = 20 ∧ w8.heap[w6.heap.size]? = some (.cells E.toArray 29 (0, 0)) ∧ Rep (allM w8) noNames (e_Body z) (.agg E.toArray)) : P8 x w A G b8 w6.heap.size w8 := by
  obtain ⟨l1, l2⟩ := h.lt
  have s8 := h8.size
  exact ⟨h.bel.trans (h8.mono h.bel.size), (h8.block _ l1).trans h.ba, (h8.block _ l2).trans h.bg, h.ra.mono (le_all ((imm_all wr).below h8)), h.rg.mono (le_all ((imm_all wr).below h8)), ⟨by omega, by omega, hl⟩, hz⟩
/-- One field is written. -/
theorem P7.set (h : P7 x w A G b8 wr w6 w7 hE es) (z : Body) (hzx : z ≠ x) (hf : z.Fixtures = x.Fixtures) (off : Nat) (v : Value) (he : (bodC x hE).toArray.setIfInBounds off v = (bodC z hE).toArray) : P8 x w A G b8 w6.heap.size (w7.setCell ⟨w6.heap.size, off, none⟩ v) := by
  refine h.go (h.r7.setCell (p := ⟨w6.heap.size, off, none⟩) h.b6.size v) (by rw [size_set]; exact h.lt7) ⟨z, bodC z hE, hzx, rfl, heap_own h.box off v _ he, mkBody ?_⟩
  rw [hf]
  refine h.own.rep'.mono (ownM_le fun k h1 h2 => ?_)
  rw [heap_set _ _ _ _ (by show k ≠ w6.heap.size; omega)]
  exact h.b7.block k h2
theorem VOw.into {B w h n xs w'} (v : VOw B w h n xs) (hb : Agr B w.heap.size w w') (hs : w.heap.size ≤ w'.heap.size) : VOw B w' h n xs := by
  rcases v with v | ⟨g, cap, cur, T, h1, h2, h3, h4, h5⟩
  · exact .inl v
  · exact .inr ⟨g, cap, cur, T, h1, h2, by omega, (hb g h2 h3).trans h4, h5⟩
/-- The fixture whose fields are zero. -/
def ZFx : Fixture := { Shape := { Kind := 0, Radius := 0, Vertices := [] }, Density := 0, Friction := 0, Restitution := 0, Sensor := false, Category := 0, Mask := 0, Group := 0 : Fixture }
theorem P7.box8 (h : P7 x w A G b8 wr w6 w7 hE es) {w1 w2 : World} (hb1 : Below w7.heap.size w7 w1) (hg : w1.grownBy w2 hE.ownBlock) : w2.heap[w6.heap.size]? = some (.cells (bodC x hE).toArray 29 (0, 0)) := by
  have hrow := h.own.row.lt
  have lt7 := h.lt7
  have s1 := hb1.size
  exact (hg.block _ (by omega) (fun e => by have := (hrow _ e.symm).2; omega)).trans ((hb1.block _ lt7).trans h.box)
/-- A fixture without vertices comes behind. -/
theorem P7.app (h : P7 x w A G b8 wr w6 w7 hE es) {w1 w2 : World} {v1 : Value} {f : Fixture} {o : Value} (hf : f.Shape.Vertices = []) (hb1 : Below w7.heap.size w7 w1) (h1 : o.oneCell' = true)
    (ho : o = .slice none 0 0) (hown : w2.ownsRow wr.heap.size 39 10 v1 (x.Fixtures.length + 1) (fixsC x.Fixtures es ++ fixC f o)) (hg : w1.grownBy w2 hE.ownBlock) (hblk : v1.ownBlock = hE.ownBlock ∨ v1.ownBlock = some w1.heap.size)
    (hv1 : v1.oneCell' = true) :
    P8 x w A G b8 w6.heap.size (w2.setCell ⟨w6.heap.size, 19, none⟩ v1) := by
  have hrow := h.own.row.lt
  have s6 := h.b6.size
  have s7 := h.b7.size
  have s1 := hb1.size
  have s2 := hg.size
  have lt7 := h.lt7
  have r1 : Below wr.heap.size wr w1 := h.r7.trans (hb1.mono (by omega))
  have r2 : Below wr.heap.size wr w2 := r1.grown hg (by omega) (fun k e => (hrow k e).1)
  have hbox1 : w1.heap[w6.heap.size]? = some (.cells (bodC x hE).toArray 29 (0, 0)) := (hb1.block _ lt7).trans h.box
  have hbox2 : w2.heap[w6.heap.size]? = some (.cells (bodC x hE).toArray 29 (0, 0)) := (hg.block _ (by omega) (fun e => by have := (hrow _ e.symm).2; omega)).trans hbox1
  have hr : ∀ g, v1.ownBlock = some g → g ≠ w6.heap.size := fun g e e2 => by
    rcases hblk with e3 | e3
    · rw [e3] at e; have := (hrow g e).2; omega
    · rw [e3] at e; have := Option.some.inj e; omega
  have h3 : w2.grownBy (w2.setCell ⟨w6.heap.size, 19, none⟩ v1) (some w6.heap.size) := ⟨rfl, rfl, rfl, by rw [size_set]; exact Nat.le_refl _, fun k _ hk => heap_set _ _ _ _ (fun e => hk (by rw [e]))⟩
  have hF : FOw wr.heap.size (w2.setCell ⟨w6.heap.size, 19, none⟩ v1) (x.Fixtures ++ [f]) v1 (es ++ [o]) := by
    refine ⟨?_, by simp [h.own.len], ?_⟩
    · refine World.ownsRow.kept ?_ h3 ?_
      · rw [fixsC_snoc _ _ _ _ h.own.len, List.length_append]; exact hown
      · cases e : v1.ownBlock with
        | none => exact .inl rfl
        | some k => exact .inr fun e2 => hr k e (Option.some.inj e2)
    · intro k f' y e1 e2
      by_cases hk : k < x.Fixtures.length
      · rw [List.getElem?_append_left hk] at e1
        rw [List.getElem?_append_left (by rw [← h.own.len]; exact hk)] at e2
        obtain ⟨q1, q2, q3⟩ := h.own.vs k f' y e1 e2
        have q5 : Off y f'.Shape.Vertices.length (some w6.heap.size) := q1.off fun g h1 h2 e => by have := Option.some.inj e; omega
        refine ⟨(((q1.below h.b7).below hb1).kept vecsC_nil q2 hg).kept vecsC_nil q5 h3, ?_, q3⟩
        exact Off.both (q1.below h.b7) q2 hblk s1
      · rw [List.getElem?_append_right (by omega)] at e1
        rw [List.getElem?_append_right (by rw [← h.own.len]; omega), ← h.own.len] at e2
        have hk0 : k - x.Fixtures.length = 0 := by
          have := (List.getElem?_eq_some_iff.1 e1).1
          simp only [List.length_singleton] at this; omega
        rw [hk0] at e1 e2
        have e1 : f = f' := Option.some.inj e1
        have e2 : o = y := Option.some.inj e2
        subst e1
        subst e2
        rw [hf]
        exact ⟨.inl ⟨rfl, rfl, none, 0, ho, fun _ => rfl⟩, .inl rfl, h1⟩
  refine h.go (r2.setCell (p := ⟨w6.heap.size, 19, none⟩) s6 v1) (by rw [size_set]; omega) ⟨{ x with Fixtures := x.Fixtures ++ [f] }, bodC { x with Fixtures := x.Fixtures ++ [f] } v1, ?_, rfl, heap_own hbox2 19 v1 _ rfl, mkBody hF.rep⟩
  intro e
  have := congrArg (fun b => b.Fixtures.length) e
  simp at this
end
end GoForm
end

section
/- BodyCloneEqual: the law's walk. No conditions. -/
set_option linter.all false
set_option maxRecDepth 100000
open Go Go.Rx Go.Proofs Go.RowKit
namespace GoForm
theorem wpList_loadat_g {P : Program} {ops : Array Oper} {rest : List Oper} {Q : Exit → Act → World → Prop} {o : Oper} {a : Act} {w : World} {ty : TypeId} {y : Operand} {d b off : Nat} {cs : List Value} {arr : Array Value} {T : TypeId} {fr : Nat × Nat}
    (g : Region.wanted o (yielded ops a.tmps) = true) (e : o.op = .load ty y) (hd : o.dst = some d) (hy : a.eval y = .pointer (some ⟨b, off, none⟩)) (ha : tAg P ty = some true) (hs : tSz P ty = some cs.length)
    (hb : w.heap[b]? = some (.cells arr T fr)) (hc : ∀ j v, cs[j]? = some v → arr[off + j]? = some v) (h : wpList P ops Q rest (a.put (some d) (.agg cs.toArray)) w) : wpList P ops Q (o :: rest) a w := by
  have hld := run_loadVar_agg (P := P) (ty := ty) (w := w) (b := b) (o := off) (cs := cs) ha hs (fun j v e => by rw [cell_of_blk hb]; exact hc j v e)
  refine wpList_step fun K hK => ?_
  rw [if_pos g]
  have r1 : (execOp a.eval o).run P w = .ok (.value (.agg cs.toArray)) w := by simp [execOp, e, hy, Instr.loadAt, Instr.sureAddr, hld]
  unfold Oper.wp
  rw [r1, Oper.upon_value, hd]
  exact hK _ _ h
/-- A contract with one plain answer, in whatever world. -/
theorem call_v {P : Program} {f : FuncId} {avs : List AV} {r : Value} (h : FnR P f avs (.v r) []) (w : World) (vs : List Value) (hr : Reps (allM w) noNames avs vs) :
    Calls P f vs.toArray w fun e w' => e = .returned r ∧ Below w.heap.size w w' := by
  refine (h w (allM w) vs (imm_all w) hr).mono ?_
  rintro e w' ⟨v, m', bl', rfl, hb, -, -, hr⟩
  exact ⟨by rw [Rep.eq_v hr], hb⟩
theorem quiet_loadbox {P : Program} {C : World → Prop} {o : Oper} {a : Act} {K : Act → Prop} {ty : TypeId} {y : Operand} {b : Nat} {cs : List Value} {T : TypeId} {fr : Nat × Nat}
    (e : o.op = .load ty y) (hy : a.eval y = .pointer (some ⟨b, 0, none⟩)) (ha : tAg P ty = some true) (hs : tSz P ty = some cs.length)
    (hC : ∀ w, C w → w.heap[b]? = some (.cells cs.toArray T fr)) (hk : K (a.put o.dst (.agg cs.toArray))) : o.quiet P a C K :=
  ⟨_, fun w hw => by
    have hld := run_loadVar_agg (P := P) (ty := ty) (w := w) (b := b) (o := 0) (cs := cs) ha hs (fun j v e => by rw [Nat.zero_add, cell_of_blk (hC w hw)]; simpa using e)
    have r1 : (execOp a.eval o).run P w = .ok (.value (.agg cs.toArray)) w := by simp [execOp, e, hy, Instr.loadAt, Instr.sureAddr, hld]
    unfold Oper.quietAt
    rw [r1]
    exact ⟨rfl, rfl⟩, hk⟩
theorem ws_all (w : World) : WSim w.heap.size (allM w) [] (allM w) noNames w :=
  ⟨imm_all w, Mem.le.refl _, fun _ _ _ h => .inl h, (by intro id l h; simp [find] at h), (by intro id s p h; simp [find] at h), (by intro id b n h; cases h), (by intro id id' b n n' h; cases h)⟩
/-- An operation of the framework's, in whatever world. -/
theorem wpList_q {P : Program} {ops : Array Oper} {rest : List Oper} {Q : Exit → Act → World → Prop} {o : Oper} {a : Act} {w : World} {e : Env} {x : AV} {d : Nat}
    (h : QEx P o e [] x) (g : o.guard = none) (hd : o.dst = some d) (hr : Reads o e (allM w) noNames a)
    (k : ∀ v w', Below w.heap.size w w' → Rep (allM w') noNames x v → wpList P ops Q rest (a.put (some d) v) w') : wpList P ops Q (o :: rest) a w :=
  wpList_plain g fun K hK => h w.heap.size (allM w) [] (allM w) noNames a w (ws_all w) (Nat.le_refl _) (by simp) hr K Q fun v w' m' h1 h2 h3 h4 => hK _ _ (by rw [hd]; exact k v w' h2 (h4.mono (le_all h3.imm)))
/-- The boxes of the two arguments. -/
structure BX (w : World) (A B : List Value) (W : World) : Prop where
  below : Below w.heap.size w W
  ba : W.heap[w.heap.size]? = some (.cells A.toArray 29 (0, 0))
  bb : W.heap[w.heap.size + 1]? = some (.cells B.toArray 29 (0, 0))
  size : w.heap.size + 2 ≤ W.heap.size
theorem BX.start (w : World) (A B : List Value) : BX w A B ((w.alloc (.cells A.toArray 29)).alloc (.cells B.toArray 29)) :=
  ⟨((Below.refl _ _).alloc (Nat.le_refl _) _).alloc (by simp) _, (heap_past _ _ _ (by simp)).trans (heap_at _ _ _ rfl), heap_at _ _ _ (by simp), by simp⟩
theorem BX.go {w : World} {A B : List Value} {W W' : World} (h : BX w A B W) (hb : Below W.heap.size W W') : BX w A B W' :=
  ⟨h.below.trans (hb.mono (by have := h.size; omega)), (hb.block _ (by have := h.size; omega)).trans h.ba, (hb.block _ (by have := h.size; omega)).trans h.bb, Nat.le_trans h.size hb.size⟩
theorem call_r {P : Program} {f : FuncId} {avs : List AV} {r : AV} (h : FnR P f avs r []) (w : World) (vs : List Value) (hr : Reps (allM w) noNames avs vs) :
    Calls P f vs.toArray w fun e w' => ∃ v, e = .returned v ∧ Below w.heap.size w w' ∧ Rep (allM w') noNames r v := by
  refine (h w (allM w) vs (imm_all w) hr).mono ?_
  rintro e w' ⟨v, m', bl', rfl, hb, hws, hn, hr⟩
  have : bl' = noNames := by funext id; exact hn id rfl
  subst this
  exact ⟨v, rfl, hb, hr.mono (le_all hws.imm)⟩
theorem quiet_callf {P : Program} {C : World → Prop} {o : Oper} {a : Act} {K : Act → Prop} {f : FuncId} {xs : Array Operand} {tys : Array TypeId} {vs : Array Value} {v : Value}
    (e : o.op = .call { callee := .value (.func f), args := xs, argTypes := tys }) (hc : ∀ (args : Array Value) (w : World), Sem.run P (callFunc f args) w = .ok (.enter f args) w) (hv : xs.map a.eval = vs)
    (hC : ∀ w, C w → Calls P f vs w fun e w' => e = .returned v ∧ C w') (hk : K (a.put o.dst v)) : o.quiet P a C K :=
  ⟨v, fun w hw => by
    have r1 : (execOp a.eval o).run P w = .ok (.enter f vs) w := by subst hv; simp [execOp, e, resolve, invoke, hc, go_sem]
    unfold Oper.quietAt
    rw [r1]
    exact ⟨rfl, hC w hw⟩, hk⟩
theorem wp_region_bel {P : Program} {id : Nat} {Q : Exit → Act → World → Prop} {a : Act} {w : World} {l : List Oper} (hm : P.follows .mixedOrders = true) (hB : Region.lexB .any l.toArray = true)
    (h : wpQuiet P l.toArray (fun w' => Below w.heap.size w w') (fun a' => ∀ w', Below w.heap.size w w' → Q .normal a' w') l a) : (Code.region id l.toArray true).wp P Q a w :=
  wp_region_quiet (C := fun w' => Below w.heap.size w w') hm hB ((Below.refl _ w).drew) (by simpa using h)
theorem call_c {f : FuncId} {avs : List AV} {r : Value} (h : FnR Try.prog f avs (.v r) []) (w6 : World) (vs : List Value) (hr : Reps (allM w6) noNames avs vs) (w : World) (hw : Below w6.heap.size w6 w) :
    Calls Try.prog f vs.toArray w fun e w' => e = .returned r ∧ Below w6.heap.size w6 w' := by
  refine (call_v h w vs (hr.mono (le_all ((imm_all w6).below hw)))).mono ?_
  rintro e w' ⟨rfl, hb⟩
  exact ⟨rfl, hw.trans (hb.mono hw.size)⟩
theorem R3.act {x : Body} {A : List Value} {a0 : Act} {w0 : World} {a : Act} {w : World} {p : Nat} {wq : World} {hF : Value} {hs : List Value} {r : Nat} {wr : World} {hG : Value} {gs : List Value} {b7 b8 : Nat}
    (S : R3 x A a0 w0 (fun _ => true) a w p wq hF hs r wr hG gs b7 b8) (h24 : 24 < a0.tmps.size) :
    a = { tmps := (((((a0.tmps.setIfInBounds 7 (.pointer (some ⟨b7, 0, none⟩))).setIfInBounds 8 (.pointer (some ⟨b8, 0, none⟩))).setIfInBounds 21 (.agg A.toArray)).setIfInBounds 22 (.agg (bodC x hF).toArray)).setIfInBounds 23 (.agg A.toArray)).setIfInBounds 24 (.agg (bodC x hG).toArray), defers := a0.defers } := by
  obtain ⟨tm, df⟩ := a
  have e : df = a0.defers := S.df
  subst e
  refine congrArg (fun t => Act.mk t _) ?_
  refine Array.ext_getElem? fun j => ?_
  have n (d : Nat) (v : Value) (arr : Array Value) (h : j ≠ d) : (arr.setIfInBounds d v)[j]? = arr[j]? := Array.getElem?_setIfInBounds_ne (fun e => h e.symm)
  have q (d : Nat) (v : Value) (arr : Array Value) (h : j = d) (hz : arr.size = a0.tmps.size) (hd : d ≤ 24) : (arr.setIfInBounds d v)[j]? = some v := by
    subst h; exact Array.getElem?_setIfInBounds_self_of_lt (by omega)
  by_cases e24 : j = 24
  · rw [q _ _ _ e24 (by simp) (by omega), e24]; exact (S.c3 rfl).1
  rw [n _ _ _ e24]
  by_cases e23 : j = 23
  · rw [q _ _ _ e23 (by simp) (by omega), e23]; exact S.c2 rfl
  rw [n _ _ _ e23]
  by_cases e22 : j = 22
  · rw [q _ _ _ e22 (by simp) (by omega), e22]; exact (S.c1 rfl).1
  rw [n _ _ _ e22]
  by_cases e21 : j = 21
  · rw [q _ _ _ e21 (by simp) (by omega), e21]; exact S.c0 rfl
  rw [n _ _ _ e21]
  by_cases e8 : j = 8
  · rw [q _ _ _ e8 (by simp) (by omega), e8]; exact (S.c5 rfl).1
  rw [n _ _ _ e8]
  by_cases e7 : j = 7
  · rw [q _ _ _ e7 (by simp) (by omega), e7]; exact (S.c4 rfl).1
  rw [n _ _ _ e7]
  exact S.tm j e7 e8 e21 e22 e23 e24
set_option maxHeartbeats 8000000 in
theorem law_walk (x y : Body) (k : Int) (sx sy : Bool) (hex : FnR Try.prog 8 [] (.v (.bool true)) [])
    (hsx : FnR Try.prog 7 [e_Body x] (.v (.bool sx)) []) (hsy : FnR Try.prog 7 [e_Body y] (.v (.bool sy)) []) (hx : sx = true → Few2 x.Fixtures)
    (q : Bool) (hxy : sx = true → sy = true → FnR Try.prog 10 [e_Body x, e_Body y] (.v (.bool q)) []) (rxy : sx = true → sy = true → FnR Try.prog 11 [e_Body x, e_Body y] (.v (.bool q)) [])
    (hyx : sx = true → sy = true → FnR Try.prog 10 [e_Body y, e_Body x] (.v (.bool q)) []) (hxx : sx = true → FnR Try.prog 10 [e_Body x, e_Body x] (.v (.bool true)) [])
    (hne : sx = true → ∀ z : Body, z ≠ x → FnR Try.prog 10 [e_Body x, e_Body z] (.v (.bool false)) [])
    (m : Mem) (v1 v2 : Value) (w : World) (hi : Imm m w) (hr1 : Rep m noNames (e_Body x) v1) (hr2 : Rep m noNames (e_Body y) v2) :
    Calls Try.prog 3 #[v1, v2, .int .u8 k] w fun e w' => e = .returned (.bool true) ∧ Below w.heap.size w w' := by
  obtain ⟨k1, rfl, hk1, o1⟩ := repBody hr1
  obtain ⟨k2, rfl, hk2, o2⟩ := repBody hr2
  have e7 := Try.call7
  have e8 := Try.call8
  have e9 := Try.call9
  have e10 := Try.call10
  have e11 := Try.call11
  obtain ⟨A, hA⟩ : ∃ A, A = bodC x k1 := ⟨_, rfl⟩
  obtain ⟨B, hB⟩ : ∃ B, B = bodC y k2 := ⟨_, rfl⟩
  have hAl : A.length = 20 := by rw [hA]; rfl
  have hBl : B.length = 20 := by rw [hB]; rfl
  rw [← hA] at hr1 ⊢
  rw [← hB] at hr2 ⊢
  have ra2 : tAg Try.prog 29 = some true := by kernel_rfl
  have rz2 : tSz Try.prog 29 = some 20 := by kernel_rfl
  have hAs : A.toArray.size = 20 := by simpa using hAl
  have hBs : B.toArray.size = 20 := by simpa using hBl
  have HR : Hid (_ ∧ _) := ⟨ra2, rz2⟩
  have HA : Hid (_ ∧ _ ∧ _ ∧ _ ∧ _) := ⟨hr1, hr2, hA, hB, hi⟩
  have hb0 : Hid (BX w A B ((w.alloc (.cells A.toArray 29)).alloc (.cells B.toArray 29))) := BX.start w A B
  clear ra2 rz2 hA hB hr1 hr2
  cases sx
  · go_enter Try.func3, Try.ntmps3
    go_wp2_with (first
      | (refine wpList_loadat (cs := A) rfl rfl rfl rfl HR.out.1 (by rw [hAl]; exact HR.out.2) ((heap_past _ _ _ (by simp)).trans (heap_at _ _ _ rfl)) (fun j v e => by rw [Nat.zero_add]; simpa using e) ?_)
      | (go_at_call 7; refine (call_v hsx ((w.alloc (.cells A.toArray 29)).alloc (.cells B.toArray 29)) [.agg A.toArray] (.cons (HA.out.1.mono (le_all (HA.out.2.2.2.2.below hb0.out.below))) .nil)).mono ?_; rintro _ w2 ⟨rfl, hb2⟩; have S2 : Hid (BX w A B w2) := hb0.out.go hb2; clear hb2)
      | (go_at_call 8; refine (call_v hex w2 [] .nil).mono ?_; rintro _ w3 ⟨rfl, hb3⟩; have S3 : Hid (BX w A B w3) := S2.out.go hb3; clear hb3))
    go_ret
    exact ⟨rfl, S3.out.below⟩
  cases sy
  · go_enter Try.func3, Try.ntmps3
    go_wp2_with (first
      | (refine wpList_loadat (cs := A) rfl rfl rfl rfl HR.out.1 (by rw [hAl]; exact HR.out.2) ((heap_past _ _ _ (by simp)).trans (heap_at _ _ _ rfl)) (fun j v e => by rw [Nat.zero_add]; simpa using e) ?_)
      | (go_at_call 7; refine (call_v hsy w2 [.agg B.toArray] (.cons (HA.out.2.1.mono (le_all (HA.out.2.2.2.2.below S2.out.below))) .nil)).mono ?_; rintro _ w3 ⟨rfl, hb3⟩; have S3 : Hid (BX w A B w3) := S2.out.go hb3; clear hb3)
      | (refine wpList_loadat_g (cs := B) (by first | rfl | decide) rfl rfl rfl HR.out.1 (by rw [hBl]; exact HR.out.2) S2.out.bb (fun j v e => by rw [Nat.zero_add]; simpa using e) ?_)
      | (go_at_call 7; refine (call_v hsx ((w.alloc (.cells A.toArray 29)).alloc (.cells B.toArray 29)) [.agg A.toArray] (.cons (HA.out.1.mono (le_all (HA.out.2.2.2.2.below hb0.out.below))) .nil)).mono ?_; rintro _ w2 ⟨rfl, hb2⟩; have S2 : Hid (BX w A B w2) := hb0.out.go hb2; clear hb2)
      | (go_at_call 8; refine (call_v hex w3 [] .nil).mono ?_; rintro _ w4 ⟨rfl, hb4⟩; have S4 : Hid (BX w A B w4) := S3.out.go hb4; clear hb4))
    go_ret
    exact ⟨rfl, S4.out.below⟩
  go_enter Try.func3, Try.ntmps3
  go_wp2_with (first
      | (refine wpList_loadat (cs := A) rfl rfl rfl rfl HR.out.1 (by rw [hAl]; exact HR.out.2) ((heap_past _ _ _ (by simp)).trans (heap_at _ _ _ rfl)) (fun j v e => by rw [Nat.zero_add]; simpa using e) ?_)
      | (go_at_call 7; refine (call_v hsy w2 [.agg B.toArray] (.cons (HA.out.2.1.mono (le_all (HA.out.2.2.2.2.below S2.out.below))) .nil)).mono ?_; rintro _ w3 ⟨rfl, hb3⟩; have S3 : Hid (BX w A B w3) := S2.out.go hb3; clear hb3)
      | (refine wpList_loadat_g (cs := B) (by first | rfl | decide) rfl rfl rfl HR.out.1 (by rw [hBl]; exact HR.out.2) S2.out.bb (fun j v e => by rw [Nat.zero_add]; simpa using e) ?_)
      | (go_at_call 7; refine (call_v hsx ((w.alloc (.cells A.toArray 29)).alloc (.cells B.toArray 29)) [.agg A.toArray] (.cons (HA.out.1.mono (le_all (HA.out.2.2.2.2.below hb0.out.below))) .nil)).mono ?_; rintro _ w2 ⟨rfl, hb2⟩; have S2 : Hid (BX w A B w2) := hb0.out.go hb2; clear hb2))
  have mixed : Try.prog.follows .mixedOrders = true := by kernel_rfl
  refine region3 (x := x) (A := A) (m := m) (bA := w.heap.size) mixed ?_ (hx (by trivial)) (by simp) (HA.out.2.2.2.2.below S3.out.below) HA.out.1 rfl S3.out.ba hAl (by have := S3.out.size; omega) HR.out.1 HR.out.2 ?_
  · refine ⟨rfl, ⟨_, rfl, rfl, rfl, rfl⟩, ⟨_, rfl, rfl, rfl, rfl⟩, ⟨_, rfl, rfl, rfl, rfl⟩, ⟨_, rfl, rfl, rfl, rfl⟩, ⟨_, rfl, rfl, rfl, rfl⟩, ⟨_, rfl, rfl, rfl, rfl⟩, ⟨_, rfl, rfl, rfl, rfl⟩, ⟨_, rfl, rfl, rfl, rfl⟩, ?_, ?_, ?_, ?_, ?_⟩
    · intro o ho f hf
      cases ho
      simpa [Region.binds] using hf
    · intro o ho f hf
      cases ho
      simpa [Region.binds] using hf
    · intro o ho f hf
      cases ho
      simp [Region.binds] at hf
      simp [hf]
    · intro o ho f hf
      cases ho
      simp [Region.binds] at hf
      simp [hf]
    · intro i o ho
      match i with
      | 0 => cases ho; simp
      | 1 => cases ho; simp
      | 2 => cases ho; simp
      | 3 => cases ho; simp
      | 4 => cases ho; simp
      | 5 => cases ho; simp
      | 6 => cases ho; simp
      | 7 => cases ho; simp
      | j + 8 => simp at ho
  intro a w4 p wq hF hs r wz hG gs b7 b8 S
  have ea := S.act (by simp)
  subst ea
  simp only [List.setIfInBounds_toArray, List.set_cons_succ, List.set_cons_zero]
  have hb34 : Below w3.heap.size w3 w4 := ((Below.refl _ w3).drew).trans S.bel
  have S4 : Hid (BX w A B w4) := S3.out.go hb34
  obtain ⟨-, p0, p1, p2, pF, pA⟩ := S.c1 rfl
  obtain ⟨-, r0, r1, r2, rF, rA⟩ := S.c3 rfl
  obtain ⟨-, g7a, g7b, ⟨c7, g7c, -, g7d⟩, g7e, g7f⟩ := S.c4 rfl
  obtain ⟨-, g8a, g8b, ⟨c8, g8c, -, g8d⟩, g8e, g8f, g78⟩ := S.c5 rfl
  obtain rfl := g7d rfl
  obtain rfl := g8d rfl
  obtain ⟨fa, fn, fc, rfl⟩ : ∃ ha hn hc, hF = .slice ha hn hc := by
    rcases pF.row.2 with ⟨e, -⟩ | ⟨g, cap, cur, e, -⟩ <;> exact ⟨_, _, _, e⟩
  obtain ⟨ga, gn, gc, rfl⟩ : ∃ ha hn hc, hG = .slice ha hn hc := by
    rcases rF.row.2 with ⟨e, -⟩ | ⟨g, cap, cur, e, -⟩ <;> exact ⟨_, _, _, e⟩
  have hmD : Rep (allM w4) noNames (e_Body x) (.agg (bodC x (.slice fa fn fc)).toArray) := mkBody (pF.rep'.mono (ownM_le pA))
  obtain ⟨D, hD⟩ : ∃ D, D = bodC x (.slice fa fn fc) := ⟨_, rfl⟩
  have hDl : D.length = 20 := by rw [hD]; rfl
  obtain ⟨G, hG⟩ : ∃ G, G = bodC x (.slice ga gn gc) := ⟨_, rfl⟩
  have hGl : G.length = 20 := by rw [hG]; rfl
  have h33 : w3.heap.size ≤ w4.heap.size := hb34.size
  have p0 : w3.heap.size ≤ p := p0
  have T4 : Hid (_ ∧ _ ∧ _ ∧ _ ∧ _ ∧ _ ∧ _ ∧ _ ∧ _ ∧ _ ∧ _ ∧ _ ∧ _ ∧ _ ∧ _ ∧ _ ∧ _ ∧ _ ∧ _ ∧ _) := ⟨p0, p1, p2, pF, pA, r0, r1, r2, rF, rA, g7a, g7b, g7c, g7e rfl, g8a, g8b, g8c, g8e rfl, hD, hG⟩
  rw [← hD] at hmD g7c ⊢
  rw [← hG] at g8c ⊢
  have hmA : Rep (allM w4) noNames (e_Body x) (.agg A.toArray) := HA.out.1.mono (le_all (HA.out.2.2.2.2.below S4.out.below))
  have hmB : Rep (allM w4) noNames (e_Body y) (.agg B.toArray) := HA.out.2.1.mono (le_all (HA.out.2.2.2.2.below S4.out.below))
  have bA := S4.out.ba
  have bB := S4.out.bb
  have s4 := S4.out.size
  have HQ : Hid (_ ∧ _ ∧ _ ∧ _ ∧ _ ∧ _ ∧ _ ∧ _ ∧ _) := ⟨hmA, hmB, hmD, bA, bB, g7c, (show w.heap.size < w4.heap.size by omega), (show w.heap.size + 1 < w4.heap.size by omega), g7b⟩
  clear hmA hmB hmD bA bB s4 p0 p1 p2 pF pA r0 r1 r2 rF rA g7a g7b g7c g7e g7f g8a g8b g8c g8e g8f g78 hD hG S hb34 h33 g7d g8d
  go_wp2
  refine wp_region_bel mixed (by kernel_rfl) ?_
  have k1 := fun w' hw' => call_c (hxx (by trivial)) w4 [.agg A.toArray, .agg D.toArray] (.cons HQ.out.1 (.cons HQ.out.2.2.1 .nil)) w' hw'
  have k2 := fun w' hw' => call_c (hxy (by trivial) (by trivial)) w4 [.agg A.toArray, .agg B.toArray] (.cons HQ.out.1 (.cons HQ.out.2.1 .nil)) w' hw'
  have k3 := fun w' hw' => call_c (rxy (by trivial) (by trivial)) w4 [.agg A.toArray, .agg B.toArray] (.cons HQ.out.1 (.cons HQ.out.2.1 .nil)) w' hw'
  have k4 := fun w' hw' => call_c (hyx (by trivial) (by trivial)) w4 [.agg B.toArray, .agg A.toArray] (.cons HQ.out.2.1 (.cons HQ.out.1 .nil)) w' hw'
  go_big_quiet_want
  refine quiet_loadbox (cs := A) (b := w.heap.size) rfl rfl HR.out.1 (by rw [hAl]; exact HR.out.2) (fun w' hw => (hw.block _ HQ.out.2.2.2.2.2.2.1).trans HQ.out.2.2.2.1) ?_
  simp only [Act.put, List.setIfInBounds_toArray, List.set_cons_succ, List.set_cons_zero]
  go_big_quiet_on
  go_big_quiet_want
  refine quiet_loadbox (cs := D) (b := b7) rfl rfl HR.out.1 (by rw [hDl]; exact HR.out.2) (fun w' hw => (hw.block _ HQ.out.2.2.2.2.2.2.2.2).trans HQ.out.2.2.2.2.2.1) ?_
  simp only [Act.put, List.setIfInBounds_toArray, List.set_cons_succ, List.set_cons_zero]
  go_big_quiet_on
  go_big_quiet_want
  refine quiet_callf (f := 10) (xs := #[.tmp 25, .tmp 26]) (tys := #[29, 29]) (vs := #[.agg A.toArray, .agg D.toArray]) (v := .bool true) rfl e10 (by simp [Act.eval]) (fun w' hw' => k1 w' hw') ?_
  simp only [Act.put, List.setIfInBounds_toArray, List.set_cons_succ, List.set_cons_zero]
  go_big_quiet_on
  go_big_quiet_want
  go_big_quiet_op
  first | go_big_quiet_on | (refine ⟨_, fun _ _ => rfl, ?_⟩; go_big_quiet_on)
  go_big_quiet_want
  go_big_quiet_op
  first | go_big_quiet_on | (refine ⟨_, fun _ _ => rfl, ?_⟩; go_big_quiet_on)
  go_big_quiet_want
  refine quiet_loadbox (cs := A) (b := w.heap.size) rfl rfl HR.out.1 (by rw [hAl]; exact HR.out.2) (fun w' hw => (hw.block _ HQ.out.2.2.2.2.2.2.1).trans HQ.out.2.2.2.1) ?_
  simp only [Act.put, List.setIfInBounds_toArray, List.set_cons_succ, List.set_cons_zero]
  go_big_quiet_on
  go_big_quiet_want
  refine quiet_loadbox (cs := B) (b := w.heap.size + 1) rfl rfl HR.out.1 (by rw [hBl]; exact HR.out.2) (fun w' hw => (hw.block _ HQ.out.2.2.2.2.2.2.2.1).trans HQ.out.2.2.2.2.1) ?_
  simp only [Act.put, List.setIfInBounds_toArray, List.set_cons_succ, List.set_cons_zero]
  go_big_quiet_on
  go_big_quiet_want
  refine quiet_callf (f := 10) (xs := #[.tmp 30, .tmp 31]) (tys := #[29, 29]) (vs := #[.agg A.toArray, .agg B.toArray]) (v := .bool q) rfl e10 (by simp [Act.eval]) (fun w' hw' => k2 w' hw') ?_
  simp only [Act.put, List.setIfInBounds_toArray, List.set_cons_succ, List.set_cons_zero]
  go_big_quiet_on
  go_big_quiet_want
  refine quiet_loadbox (cs := A) (b := w.heap.size) rfl rfl HR.out.1 (by rw [hAl]; exact HR.out.2) (fun w' hw => (hw.block _ HQ.out.2.2.2.2.2.2.1).trans HQ.out.2.2.2.1) ?_
  simp only [Act.put, List.setIfInBounds_toArray, List.set_cons_succ, List.set_cons_zero]
  go_big_quiet_on
  go_big_quiet_want
  refine quiet_loadbox (cs := B) (b := w.heap.size + 1) rfl rfl HR.out.1 (by rw [hBl]; exact HR.out.2) (fun w' hw => (hw.block _ HQ.out.2.2.2.2.2.2.2.1).trans HQ.out.2.2.2.2.1) ?_
  simp only [Act.put, List.setIfInBounds_toArray, List.set_cons_succ, List.set_cons_zero]
  go_big_quiet_on
  go_big_quiet_want
  refine quiet_callf (f := 11) (xs := #[.tmp 33, .tmp 34]) (tys := #[29, 29]) (vs := #[.agg A.toArray, .agg B.toArray]) (v := .bool q) rfl e11 (by simp [Act.eval]) (fun w' hw' => k3 w' hw') ?_
  simp only [Act.put, List.setIfInBounds_toArray, List.set_cons_succ, List.set_cons_zero]
  go_big_quiet_on
  go_big_quiet_want
  go_big_quiet_op
  first | go_big_quiet_on | (refine ⟨_, fun _ _ => rfl, ?_⟩; go_big_quiet_on)
  go_big_quiet_want
  go_big_quiet_op
  first | go_big_quiet_on | (refine ⟨_, fun _ _ => rfl, ?_⟩; go_big_quiet_on)
  go_big_quiet_want
  go_big_quiet_op
  first | go_big_quiet_on | (refine ⟨_, fun _ _ => rfl, ?_⟩; go_big_quiet_on)
  go_big_quiet_want
  refine quiet_loadbox (cs := B) (b := w.heap.size + 1) rfl rfl HR.out.1 (by rw [hBl]; exact HR.out.2) (fun w' hw => (hw.block _ HQ.out.2.2.2.2.2.2.2.1).trans HQ.out.2.2.2.2.1) ?_
  simp only [Act.put, List.setIfInBounds_toArray, List.set_cons_succ, List.set_cons_zero]
  go_big_quiet_on
  go_big_quiet_want
  refine quiet_loadbox (cs := A) (b := w.heap.size) rfl rfl HR.out.1 (by rw [hAl]; exact HR.out.2) (fun w' hw => (hw.block _ HQ.out.2.2.2.2.2.2.1).trans HQ.out.2.2.2.1) ?_
  simp only [Act.put, List.setIfInBounds_toArray, List.set_cons_succ, List.set_cons_zero]
  go_big_quiet_on
  go_big_quiet_want
  refine quiet_callf (f := 10) (xs := #[.tmp 39, .tmp 40]) (tys := #[29, 29]) (vs := #[.agg B.toArray, .agg A.toArray]) (v := .bool q) rfl e10 (by simp [Act.eval]) (fun w' hw' => k4 w' hw') ?_
  simp only [Act.put, List.setIfInBounds_toArray, List.set_cons_succ, List.set_cons_zero]
  go_big_quiet_on
  go_big_quiet_want
  refine quiet_loadbox (cs := A) (b := w.heap.size) rfl rfl HR.out.1 (by rw [hAl]; exact HR.out.2) (fun w' hw => (hw.block _ HQ.out.2.2.2.2.2.2.1).trans HQ.out.2.2.2.1) ?_
  simp only [Act.put, List.setIfInBounds_toArray, List.set_cons_succ, List.set_cons_zero]
  go_big_quiet_on
  go_big_quiet_want
  refine quiet_loadbox (cs := B) (b := w.heap.size + 1) rfl rfl HR.out.1 (by rw [hBl]; exact HR.out.2) (fun w' hw => (hw.block _ HQ.out.2.2.2.2.2.2.2.1).trans HQ.out.2.2.2.2.1) ?_
  simp only [Act.put, List.setIfInBounds_toArray, List.set_cons_succ, List.set_cons_zero]
  go_big_quiet_on
  go_big_quiet_want
  refine quiet_callf (f := 10) (xs := #[.tmp 42, .tmp 43]) (tys := #[29, 29]) (vs := #[.agg A.toArray, .agg B.toArray]) (v := .bool q) rfl e10 (by simp [Act.eval]) (fun w' hw' => k2 w' hw') ?_
  simp only [Act.put, List.setIfInBounds_toArray, List.set_cons_succ, List.set_cons_zero]
  go_big_quiet_on
  go_big_quiet_want
  go_big_quiet_op
  first | go_big_quiet_on | (refine ⟨_, fun _ _ => rfl, ?_⟩; go_big_quiet_on)
  go_big_quiet_want
  go_big_quiet_op
  first | go_big_quiet_on | (refine ⟨_, fun _ _ => rfl, ?_⟩; go_big_quiet_on)
  refine wpQuiet_nil ?_
  intro w5 hw5
  clear k1 k2 k3 k4
  obtain ⟨hn2, hm2⟩ := hx (by trivial)
  obtain ⟨t1, t2, t3, tF, tA, t6, t7, t8, tR, tS, t11, t12, t13, t14, t15, t16, t17, t18, tD, tG⟩ := T4.out
  have hfn : x.Fixtures.length = fn := by
    rcases tF.row.2 with ⟨e, h0⟩ | ⟨g, cap, cur, e, -⟩
    · cases e; exact h0
    · cases e; rfl
  have hsl : hs.length = fn := tF.len.symm.trans hfn
  have hD19 : D.toArray[19]? = some (.slice fa fn fc) := by rw [tD]; rfl
  have s45 : w4.heap.size ≤ w5.heap.size := hw5.size
  have S0 : Aside (SW p wq.heap.size b7 D 29 x.Fixtures (.slice fa fn fc) hs w5 ∧ Out p wq.heap.size w5 w5) :=
    ⟨SW.start tF (tA.below (by omega) hw5) ((hw5.block _ t12).trans (tD ▸ t13)), Out.refl _ _ _⟩
  have HM : Hid (_ ∧ _ ∧ _ ∧ _ ∧ _ ∧ _) := ⟨hm2, hfn, hsl, hD19, hw5, t14⟩
  have hn2 : fn ≤ 1000000 := hfn ▸ hn2
  clear hm2 hfn hsl hD19 t1 t2 t3 tF tA t6 t7 t8 tR tS t11 t12 t13 t14 t15 t16 t17 t18 tD tG s45 hw5
  go_wp2
  go_loopg [9] fn (fun kx s9 wr => ∃ (i : Nat), s9 = .int .i64 i ∧ i ≤ fn ∧ fn - i ≤ kx ∧ Aside (SW p wq.heap.size b7 D 29 x.Fixtures (.slice fa fn fc) hs wr ∧ Out p wq.heap.size w5 wr))
  case atStart => exact ⟨0, rfl, Nat.zero_le _, Nat.le_refl _, S0⟩
  case round =>
    clear S0
    obtain ⟨i, rfl, hin, hkx, S1⟩ := hrel
    have hcell : wr.cell? ⟨b7, 19, none⟩ = some (.slice fa fn fc) := box_cell S1.out.1.box 19 HM.out.2.2.2.1
    by_cases hlt : (i : Int) < fn
    · have hi1 : i < x.Fixtures.length := by have := HM.out.2.1; omega
      obtain ⟨g, eF⟩ : ∃ g, fa = some ⟨g, 0, none⟩ := by
        obtain h0 | ⟨g, cap, eF, -⟩ := S1.out.1.row
        · omega
        · cases eF; exact ⟨_, rfl⟩
      subst eF
      obtain ⟨f, hf⟩ : ∃ f, x.Fixtures[i]? = some f := ⟨_, List.getElem?_eq_getElem hi1⟩
      obtain ⟨h, hh⟩ : ∃ h, hs[i]? = some h := ⟨_, List.getElem?_eq_getElem (by have := HM.out.2.2.1; omega)⟩
      obtain ⟨n, hn⟩ : ∃ n, f.Shape.Vertices.length = n := ⟨_, rfl⟩
      have hnb : n ≤ 1099511627776 := hn ▸ HM.out.1 f (List.mem_of_getElem? hf)
      obtain ⟨ha, hc, eh⟩ : ∃ ha hc, h = .slice ha n hc := by
        rcases S1.out.1.vs i f h hf hh with ⟨h0, ad, cap, e⟩ | ⟨b, cap, cur, T, e, -⟩
        · exact ⟨ad, cap, by rw [e, ← hn, h0]⟩
        · exact ⟨_, cap, by rw [e, hn]⟩
      subst eh
      have wi : IntKind.i64.wrap ((i : Int) + 1) = ((i + 1 : Nat) : Int) := by rw [IntKind.wrap_i64]; omega
      have ti : ((i : Int)).toNat = i := by omega
      have pi : (0 : Int) ≤ (i : Int) := by omega
      have HF : Hid (_ ∧ _ ∧ _) := ⟨hf, hh, hn⟩
      clear hf hh hn
      obtain ⟨cur, T, q3, c2, d, c3, gB, gE⟩ : ∃ cur T, wr.heap[g]? = some (.cells cur T (0, 0)) ∧ cur[i * 10 + 2]? = some (.slice ha n hc) ∧ ∃ d, cur[i * 10 + 3]? = some (.int .i64 d) ∧ p ≤ g ∧ g < wq.heap.size := by
        obtain h0 | ⟨g', cap, eF, cur, T, q1, q2, q3, q4⟩ := S1.out.1.row
        · omega
        · cases eF
          obtain ⟨c2, d, c3⟩ := q4 i _ HF.out.2.1
          exact ⟨cur, T, q3, c2, d, c3, q1, q2⟩
      have r3 : wr.drew.cell? ⟨g, i * 10 + 3, none⟩ = _ := box_cell (w := wr.drew) q3 (i * 10 + 3) c3
      have z3 : wr.drew.frozen? ⟨g, i * 10 + 3, none⟩ = false := box_free (w := wr.drew) q3 (i * 10 + 3)
      have S2 : ∀ z : Int, Aside (SW p wq.heap.size b7 D 29 x.Fixtures (.slice (some ⟨g, 0, none⟩) fn fc) hs (wr.drew.setCell ⟨g, i * 10 + 3, none⟩ (.int .i64 z)) ∧ Out p wq.heap.size w5 (wr.drew.setCell ⟨g, i * 10 + 3, none⟩ (.int .i64 z))) :=
        fun z => ⟨S1.out.1.drew.setD HM.out.2.2.2.2.2 rfl (by omega) i z, S1.out.2.drew.set _ _ gB gE⟩
      have hcd : wr.drew.cell? ⟨b7, 19, none⟩ = some (.slice (some ⟨g, 0, none⟩) fn fc) := hcell
      clear S1 q3 c2 c3 gB gE
      go_wp2
      go_region
      obtain ⟨w2, hw2⟩ : ∃ w2, w2 = (wr.setCell ⟨g, i * 10 + 3, none⟩ (.int .i64 (bits .xor .i64 d 1))).drew := ⟨_, rfl⟩
      rw [← hw2]
      have S3 : Aside (SW p wq.heap.size b7 D 29 x.Fixtures (.slice (some ⟨g, 0, none⟩) fn fc) hs w2 ∧ Out p wq.heap.size w5 w2) := by rw [hw2]; exact S2 _
      clear S2 hw2 r3 z3 hcd hcell
      go_wp2
      go_loopg [10] n (fun kj s10 wq_ => ∃ (j : Nat), s10 = .int .i64 j ∧ j ≤ n ∧ n - j ≤ kj ∧ Aside (SW p wq.heap.size b7 D 29 x.Fixtures (.slice (some ⟨g, 0, none⟩) fn fc) hs wq_ ∧ Out p wq.heap.size w5 wq_))
      case atStart => exact ⟨0, rfl, Nat.zero_le _, Nat.le_refl _, S3⟩
      case round =>
        clear S3
        obtain ⟨j, rfl, hjn, hkj, S2⟩ := hrel
        have hcell : wr.cell? ⟨b7, 19, none⟩ = some (.slice (some ⟨g, 0, none⟩) fn fc) := box_cell S2.out.1.box 19 HM.out.2.2.2.1
        obtain ⟨cur, T, q3, c2⟩ : ∃ cur T, wr.heap[g]? = some (.cells cur T (0, 0)) ∧ cur[i * 10 + 2]? = some (.slice ha n hc) := by
          obtain h0 | ⟨g', cap, eF, cur, T, q1, q2, q3, q4⟩ := S2.out.1.row
          · omega
          · cases eF
            obtain ⟨c2, d, c3⟩ := q4 i _ HF.out.2.1
            exact ⟨cur, T, q3, c2⟩
        have r2 : wr.cell? ⟨g, i * 10 + 2, none⟩ = _ := box_cell q3 (i * 10 + 2) c2
        by_cases hlj : (j : Int) < n
        · obtain ⟨b, cap, cur2, T2, e, p1, p2, p3, p4, v, v2, p5, p6⟩ : ∃ b cap cur T, ha = some ⟨b, 0, none⟩ ∧ hc = cap ∧ p ≤ b ∧ b < wq.heap.size ∧ wr.heap[b]? = some (.cells cur T (0, 0)) ∧ ∃ v v2, cur[j * 2]? = some (.int .i64 v) ∧ cur[j * 2 + 1]? = some (.int .i64 v2) := by
            rcases S2.out.1.vs i f _ HF.out.1 HF.out.2.1 with ⟨h0, -⟩ | ⟨b, cap, cur, T, e, p1, p2, -, p4, p5⟩
            · have := HF.out.2.2; omega
            · cases e
              obtain ⟨v, v2, h1, h2⟩ := p5 j (by have := HF.out.2.2; omega)
              exact ⟨b, _, cur, T, rfl, rfl, p1, p2, p4, v, v2, h1, h2⟩
          subst e
          subst p1
          have r4 : wr.cell? ⟨b, j * 2, none⟩ = _ := box_cell p4 (j * 2) p5
          have r5 : wr.cell? ⟨b, j * 2 + 1, none⟩ = _ := box_cell p4 (j * 2 + 1) p6
          have z4 : wr.frozen? ⟨b, j * 2, none⟩ = false := box_free p4 (j * 2)
          have z5 : wr.frozen? ⟨b, j * 2 + 1, none⟩ = false := box_free p4 (j * 2 + 1)
          have wj : IntKind.i64.wrap ((j : Int) + 1) = ((j + 1 : Nat) : Int) := by rw [IntKind.wrap_i64]; omega
          have tj : ((j : Int)).toNat = j := by omega
          have pj : (0 : Int) ≤ (j : Int) := by omega
          have S3 : ∀ z1 z2 : Int, Aside (SW p wq.heap.size b7 D 29 x.Fixtures (.slice (some ⟨g, 0, none⟩) fn fc) hs ((wr.setCell ⟨b, j * 2, none⟩ (.int .i64 z1)).setCell ⟨b, j * 2 + 1, none⟩ (.int .i64 z2)) ∧ Out p wq.heap.size w5 ((wr.setCell ⟨b, j * 2, none⟩ (.int .i64 z1)).setCell ⟨b, j * 2 + 1, none⟩ (.int .i64 z2))) :=
            fun z1 z2 => ⟨(S2.out.1.setV HM.out.2.2.2.2.2 HF.out.1 HF.out.2.1 (by have := HF.out.2.2; omega) _ z1).setV HM.out.2.2.2.2.2 HF.out.1 HF.out.2.1 (by have := HF.out.2.2; omega) _ z2, (S2.out.2.set _ _ p2 p3).set _ _ p2 p3⟩
          clear S2 p4 p5 p6 p3 p2 q3 c2
          go_wp2
          go_roundg (n - (j + 1))
          case measure => omega
          case rel => exact ⟨j + 1, by simp, by omega, by omega, S3 _ _⟩
        · have S3 := S2
          clear S2 q3 c2
          go_wp2
          go_roundg (fn - (i + 1))
          case measure => omega
          case rel => exact ⟨i + 1, by simp, by omega, by omega, S3⟩
    · obtain ⟨t1, t2, t3, tF, tA, t6, t7, t8, tR, tS, t11, t12, t13, t14, t15, t16, t17, t18, tD, tG⟩ := T4.out
      have lo : Out p wq.heap.size w5 wr := S1.out.2
      have hw5 := HM.out.2.2.2.2.1
      have s45 := hw5.size
      have s5 := lo.size
      have i3 := S3.out.size
      have bel5 : Below w.heap.size w w5 := S4.out.below.trans (hw5.mono S4.out.below.size)
      have belr : Below w.heap.size w wr := lo.below bel5 (by omega) bel5.size
      have bA : wr.heap[w.heap.size]? = some (.cells A.toArray 29 (0, 0)) := (lo.block _ (by omega) (.inl (by omega))).trans ((hw5.block _ (by omega)).trans S4.out.ba)
      have b8r : wr.heap[b8]? = some (.cells G.toArray 29 (0, 0)) := (lo.block _ (by omega) t18).trans ((hw5.block _ t16).trans (tG ▸ t17))
      have rA : Rep (allM wr) noNames (e_Body x) (.agg A.toArray) := HA.out.1.mono (le_all (HA.out.2.2.2.2.below belr))
      have rG : Rep (allM wr) noNames (e_Body x) (.agg G.toArray) := by
        rw [tG]
        refine mkBody (tR.rep'.mono (ownM_le fun k h1 h2 => ?_))
        rw [lo.block k (by omega) (.inr (by omega)), hw5.block k (by omega)]
        exact tS k h1 h2
      have HL : Hid (_ ∧ _ ∧ _ ∧ _ ∧ _ ∧ _ ∧ _) := ⟨belr, bA, b8r, rA, rG, (show w.heap.size < wr.heap.size by omega), (show b8 < wr.heap.size by omega)⟩
      have hfew := hx (by trivial)
      clear belr bA b8r rA rG S1 lo hw5 s45 s5 i3 bel5 t1 t2 t3 tF tA t6 t7 t8 tR tS t11 t12 t13 t14 t15 t16 t17 t18 tD tG
      go_upto_region 15 with (first
        | (refine wpList_loadat (cs := A) rfl rfl rfl rfl HR.out.1 (by rw [hAl]; exact HR.out.2) HL.out.2.1 (fun j v e => by rw [Nat.zero_add]; simpa using e) ?_)
        | (go_at_call 9; refine (body_fresh x hfew m (.agg A.toArray) wr (HA.out.2.2.2.2.below HL.out.1) HA.out.1).mono ?_
           rintro _ w6 ⟨hE, es, rfl, hb6, hO⟩
           obtain ⟨ea, en, ec, rfl⟩ : ∃ ha hn hc, hE = .slice ha hn hc := by
             rcases hO.row.2 with ⟨e, -⟩ | ⟨g, cap, cur, e, -⟩ <;> exact ⟨_, _, _, e⟩
           obtain ⟨E, hE⟩ : ∃ E, E = bodC x (.slice ea en ec) := ⟨_, rfl⟩
           have hEl : E.length = 20 := by rw [hE]; rfl
           have T6 : Hid (Below wr.heap.size wr w6 ∧ FOw wr.heap.size w6 x.Fixtures (.slice ea en ec) es ∧ E = bodC x (.slice ea en ec) ∧ (∀ c ∈ E, c.oneCell' = true)) := ⟨hb6, hO, hE, by rw [hE]; exact bodC_one rfl⟩
           rw [← hE]
           clear hb6 hO hE)
        | (refine wpList_storeat (cs := E) rfl rfl rfl rfl rfl (by rw [hEl]; exact HR.out.2) (heap_at _ _ _ rfl) (by rw [hEl]; exact Nat.le_refl 20) T6.out.2.2.2 ?_
           intro w7 y7 g7
           have T7 : Hid (w7.heap[w6.heap.size]? = some (.cells E.toArray 29 (0, 0)) ∧ Below w6.heap.size w6 w7 ∧ w6.heap.size < w7.heap.size) := ⟨by rw [y7, List.drop_eq_nil_of_le (by rw [hEl]; exact Nat.le_refl 20)]; simp, ((Below.refl _ _).alloc (Nat.le_refl _) _).grown g7 (by simp) (fun k e => by have := Option.some.inj e; omega), by have := g7.size; simp at this; omega⟩
           clear y7 g7))
      have HP : Hid (P7 x w A G b8 wr w6 w7 (.slice ea en ec) es) := ⟨HL.out.1, HL.out.2.1, HL.out.2.2.1, HL.out.2.2.2.1, HL.out.2.2.2.2.1, ⟨HL.out.2.2.2.2.2.1, HL.out.2.2.2.2.2.2⟩, T6.out.1, T6.out.2.1, (T6.out.2.2.1 ▸ T7.out.1), T7.out.2.1, T7.out.2.2⟩
      have cc0 : w7.cell? ⟨w6.heap.size, 0, none⟩ = some (.int .i64 x.ID) := box_cell T7.out.1 0 (by rw [T6.out.2.2.1]; rfl)
      have zz0 : w7.frozen? ⟨w6.heap.size, 0, none⟩ = false := box_free T7.out.1 0
      have cc4 : w7.cell? ⟨w6.heap.size, 4, none⟩ = some (.int .i64 x.Transform.Angle) := box_cell T7.out.1 4 (by rw [T6.out.2.2.1]; rfl)
      have zz4 : w7.frozen? ⟨w6.heap.size, 4, none⟩ = false := box_free T7.out.1 4
      have cc18 : w7.cell? ⟨w6.heap.size, 18, none⟩ = some (.int .i64 x.IdleSteps) := box_cell T7.out.1 18 (by rw [T6.out.2.2.1]; rfl)
      have zz18 : w7.frozen? ⟨w6.heap.size, 18, none⟩ = false := box_free T7.out.1 18
      have cc10 : w7.cell? ⟨w6.heap.size, 10, none⟩ = some (.int .i64 x.Torque) := box_cell T7.out.1 10 (by rw [T6.out.2.2.1]; rfl)
      have zz10 : w7.frozen? ⟨w6.heap.size, 10, none⟩ = false := box_free T7.out.1 10
      have cc12 : w7.cell? ⟨w6.heap.size, 12, none⟩ = some (.int .i64 x.AngularDamping) := box_cell T7.out.1 12 (by rw [T6.out.2.2.1]; rfl)
      have zz12 : w7.frozen? ⟨w6.heap.size, 12, none⟩ = false := box_free T7.out.1 12
      have cc9 : w7.cell? ⟨w6.heap.size, 9, none⟩ = some (.int .i64 x.Force.Y) := box_cell T7.out.1 9 (by rw [T6.out.2.2.1]; rfl)
      have zz9 : w7.frozen? ⟨w6.heap.size, 9, none⟩ = false := box_free T7.out.1 9
      have cc16 : w7.cell? ⟨w6.heap.size, 16, none⟩ = some (.bool x.NoSleep) := box_cell T7.out.1 16 (by rw [T6.out.2.2.1]; rfl)
      have zz16 : w7.frozen? ⟨w6.heap.size, 16, none⟩ = false := box_free T7.out.1 16
      have cc19 : w7.cell? ⟨w6.heap.size, 19, none⟩ = some (.slice ea en ec) := box_cell T7.out.1 19 (by rw [T6.out.2.2.1]; rfl)
      have zz19 : w7.frozen? ⟨w6.heap.size, 19, none⟩ = false := box_free T7.out.1 19
      obtain ⟨i0, hi0, hz0, hz1, hz2⟩ := info_parts (P := Try.prog) (e := 39) (z := (.agg #[.int .i64 0, .int .i64 0, .slice none 0 0, .int .i64 0, .int .i64 0, .int .i64 0, .bool false, .int .i64 0, .int .i64 0, .int .i64 0])) (size := 10) (bytes := 96) (by kernel_rfl)
      have HI : Hid (_ ∧ _ ∧ _ ∧ _) := ⟨hi0, hz0, hz1, hz2⟩
      clear hi0 hz0 hz1 hz2
      go_upto_region 31 with (first
        | (at_builtin; refine wpList_append_two rfl (.tmp 95) (.tmp 97) 27 rfl wr.heap.size 39 i0 (.agg #[.int .i64 0, .int .i64 0, .slice none 0 0, .int .i64 0, .int .i64 0, .int .i64 0, .bool false, .int .i64 0, .int .i64 0, .int .i64 0]) 10 96 Try.underlying27 HI.out.1 HI.out.2.1 HI.out.2.2.1 HI.out.2.2.2 rfl (by decide) (.slice ea en ec) x.Fixtures.length (fixsC x.Fixtures es) rfl ((HP.out.own.below HP.out.b7).below ((Below.refl _ _).alloc (Nat.le_refl _) _)).row ⟨w7.heap.size, 0, none⟩ 1 1 (fixC ZFx (.slice none 0 0)) rfl rfl (cells_new w7 (fixC ZFx (.slice none 0 0)) 39 _ rfl) (fixC_one rfl) (by simp only [maxLen]; have := hfew.1; omega) (by have := hfew.1; omega) (by have := HP.out.b6.size; have := HP.out.b7.size; simp; omega) (by decide) ?_
           intro v1 w8 hown8 hgrow8 hblk8
           obtain ⟨va, vn, vc, rfl⟩ : ∃ a n c, v1 = .slice a n c := by
             rcases hown8.2 with ⟨e, -⟩ | ⟨g, cap, cur, e, -⟩ <;> exact ⟨_, _, _, e⟩
           have S8 : Hid (P8 x w A G b8 w6.heap.size (w8.setCell ⟨w6.heap.size, 19, none⟩ (.slice va vn vc))) := HP.out.app (f := ZFx) (o := .slice none 0 0) rfl ((Below.refl _ _).alloc (Nat.le_refl _) _) rfl rfl hown8 hgrow8 hblk8 rfl
           have hb8 : w8.heap[w6.heap.size]? = some (.cells (bodC x (.slice ea en ec)).toArray 29 (0, 0)) := HP.out.box8 ((Below.refl _ _).alloc (Nat.le_refl _) _) hgrow8
           have zz : w8.frozen? ⟨w6.heap.size, 19, none⟩ = false := box_free hb8 19
           have cz : w8.cell? ⟨w6.heap.size, 19, none⟩ = some (.slice ea en ec) := box_cell hb8 19 rfl
           clear hown8 hgrow8 hblk8 hb8))
      all_goals first
        | (obtain ⟨w8, hw8⟩ : ∃ w8, w8 = w7.setCell ⟨w6.heap.size, 0, none⟩ (.int .i64 (bits .xor .i64 x.ID 1)) := ⟨_, rfl⟩
           rw [← hw8]
           have S8 : Hid (P8 x w A G b8 w6.heap.size w8) := by rw [hw8]; exact HP.out.set { x with ID := bits .xor .i64 x.ID 1 } (fun e => xor_ne x.ID (congrArg (fun b : Body => b.ID) e)) rfl 0 _ rfl
           clear hw8)
        | (obtain ⟨w8, hw8⟩ : ∃ w8, w8 = w7.setCell ⟨w6.heap.size, 4, none⟩ (.int .i64 (bits .xor .i64 x.Transform.Angle 1)) := ⟨_, rfl⟩
           rw [← hw8]
           have S8 : Hid (P8 x w A G b8 w6.heap.size w8) := by rw [hw8]; exact HP.out.set { x with Transform := { x.Transform with Angle := bits .xor .i64 x.Transform.Angle 1 } } (fun e => xor_ne x.Transform.Angle (congrArg (fun b : Body => b.Transform.Angle) e)) rfl 4 _ rfl
           clear hw8)
        | (obtain ⟨w8, hw8⟩ : ∃ w8, w8 = w7.setCell ⟨w6.heap.size, 18, none⟩ (.int .i64 (bits .xor .i64 x.IdleSteps 1)) := ⟨_, rfl⟩
           rw [← hw8]
           have S8 : Hid (P8 x w A G b8 w6.heap.size w8) := by rw [hw8]; exact HP.out.set { x with IdleSteps := bits .xor .i64 x.IdleSteps 1 } (fun e => xor_ne x.IdleSteps (congrArg (fun b : Body => b.IdleSteps) e)) rfl 18 _ rfl
           clear hw8)
        | (obtain ⟨w8, hw8⟩ : ∃ w8, w8 = w7.setCell ⟨w6.heap.size, 10, none⟩ (.int .i64 (bits .xor .i64 x.Torque 1)) := ⟨_, rfl⟩
           rw [← hw8]
           have S8 : Hid (P8 x w A G b8 w6.heap.size w8) := by rw [hw8]; exact HP.out.set { x with Torque := bits .xor .i64 x.Torque 1 } (fun e => xor_ne x.Torque (congrArg (fun b : Body => b.Torque) e)) rfl 10 _ rfl
           clear hw8)
        | (obtain ⟨w8, hw8⟩ : ∃ w8, w8 = w7.setCell ⟨w6.heap.size, 12, none⟩ (.int .i64 (bits .xor .i64 x.AngularDamping 1)) := ⟨_, rfl⟩
           rw [← hw8]
           have S8 : Hid (P8 x w A G b8 w6.heap.size w8) := by rw [hw8]; exact HP.out.set { x with AngularDamping := bits .xor .i64 x.AngularDamping 1 } (fun e => xor_ne x.AngularDamping (congrArg (fun b : Body => b.AngularDamping) e)) rfl 12 _ rfl
           clear hw8)
        | (obtain ⟨w8, hw8⟩ : ∃ w8, w8 = w7.setCell ⟨w6.heap.size, 9, none⟩ (.int .i64 (bits .xor .i64 x.Force.Y 1)) := ⟨_, rfl⟩
           rw [← hw8]
           have S8 : Hid (P8 x w A G b8 w6.heap.size w8) := by rw [hw8]; exact HP.out.set { x with Force := { x.Force with Y := bits .xor .i64 x.Force.Y 1 } } (fun e => xor_ne x.Force.Y (congrArg (fun b : Body => b.Force.Y) e)) rfl 9 _ rfl
           clear hw8)
        | (obtain ⟨w8, hw8⟩ : ∃ w8, w8 = w7.setCell ⟨w6.heap.size, 16, none⟩ (.bool (!x.NoSleep)) := ⟨_, rfl⟩
           rw [← hw8]
           have S8 : Hid (P8 x w A G b8 w6.heap.size w8) := by rw [hw8]; exact HP.out.set { x with NoSleep := !x.NoSleep } (fun e => by have := congrArg (fun b : Body => b.NoSleep) e; simp at this) rfl 16 _ rfl
           clear hw8)
        | (clear zz cz; generalize w8.setCell ⟨w6.heap.size, 19, none⟩ (.slice va vn vc) = w9 at S8 ⊢; skip)
      all_goals
        obtain ⟨z, EZ, z1, z2, z3, z4⟩ := S8.out.z
        have HZ : Hid (_ ∧ _) := ⟨z3, z4⟩
        clear z3 z4 cc0 zz0 cc4 zz4 cc18 zz18 cc10 zz10 cc12 zz12 cc9 zz9 cc16 zz16 cc19 zz19
        go_wp2_with (first
          | (refine wpList_loadat (cs := A) rfl rfl rfl rfl HR.out.1 (by rw [hAl]; exact HR.out.2) S8.out.ba (fun j v e => by rw [Nat.zero_add]; simpa using e) ?_)
          | (refine wpList_loadat (cs := G) rfl rfl rfl rfl HR.out.1 (by rw [hGl]; exact HR.out.2) S8.out.bg (fun j v e => by rw [Nat.zero_add]; simpa using e) ?_)
          | (go_at_call 8; refine (call_v hex wy [] .nil).mono ?_; rintro _ wz2 ⟨rfl, hbz⟩; have SZ : Hid (Below w.heap.size w wz2) := SY.out.trans (hbz.mono SY.out.size); clear hbz)
          | (go_at_call 10; refine (call_v (hne (by trivial) z z1) wx [.agg A.toArray, .agg EZ.toArray] (.cons SX.out.1.ra (.cons SX.out.2.2 .nil))).mono ?_; rintro _ wy ⟨rfl, hby⟩; have SY : Hid (Below w.heap.size w wy) := SX.out.1.bel.trans (hby.mono SX.out.1.bel.size); clear hby)
          | (refine wpList_loadat_g (cs := A) (by first | rfl | decide) rfl rfl rfl HR.out.1 (by rw [hAl]; exact HR.out.2) SX.out.1.ba (fun j v e => by rw [Nat.zero_add]; simpa using e) ?_)
          | (refine wpList_loadat_g (cs := EZ) (by first | rfl | decide) rfl rfl rfl HR.out.1 (by rw [z2]; exact HR.out.2) SX.out.2.1 (fun j v e => by rw [Nat.zero_add]; simpa using e) ?_)
          | (go_at_call 10; refine (call_v (hxx (by trivial)) _ [.agg A.toArray, .agg G.toArray] (.cons S8.out.ra (.cons S8.out.rg .nil))).mono ?_
             rintro _ wx ⟨rfl, hbx⟩
             have SX : Hid (_ ∧ _ ∧ _) := ⟨S8.out.below hbx, (hbx.block _ S8.out.lt.2.2).trans HZ.out.1, HZ.out.2.mono (le_all ((imm_all _).below hbx))⟩
             clear hbx))
        go_ret
        exact ⟨rfl, SZ.out⟩
end GoForm
end

section
/- BodyCloneEqual: the law answers true. No conditions. -/
set_option linter.all false
set_option maxRecDepth 100000
open Go Go.Rx Go.Proofs Go.RowKit
namespace GoForm
theorem bd_of (x : Body) (h : x.Fixtures.length ≤ 8 ∧ ∀ f ∈ x.Fixtures, f.Shape.Vertices.length ≤ 20) : Bd x := ⟨sm_of h.1 (by omega), fun f hf => sm_of (h.2 f hf) (by omega)⟩
theorem fnr3 (x y : Body) (k : UInt8) : FnR Try.prog 3 [e_Body x, e_Body y, e_byte k] (.v (.bool true)) [] := by
  have hex : FnR Try.prog 8 [] (.v (.bool true)) [] := c_8.ok () _ true trivial example23
  obtain ⟨sx, hsx, hx⟩ := Small_ex x
  obtain ⟨sy, hsy, hy⟩ := Small_ex y
  refine FnR.ofCalls fun w m args hi hr => ?_
  obtain ⟨v1, vs, rfl, r1, hr⟩ := hr.inv
  obtain ⟨v2, vs, rfl, r2, hr⟩ := hr.inv
  obtain ⟨v3, vs, rfl, r3, hr⟩ := hr.inv
  obtain rfl := hr.inv0
  obtain rfl : v3 = .int .u8 k.toNat := Rep.eq_v r3
  refine (law_walk x y k.toNat sx sy hex (c_7.ok (x, ()) _ sx ⟨rfl, trivial⟩ hsx) (c_7.ok (y, ()) _ sy ⟨rfl, trivial⟩ hsy) (fun h => ?_) (decide (x = y)) (fun h _ => ?_) (fun h _ => ?_) (fun _ h => ?_) (fun h => ?_) (fun h z hz => ?_) m v1 v2 w hi r1 r2).mono ?_
  · obtain ⟨a, b⟩ := hx h
    exact ⟨by omega, fun f hf => by have := b f hf; omega⟩
  · exact c_10.ok (x, y, ()) _ _ ⟨rfl, rfl, trivial⟩ (EB_eq x y (bd_of x (hx h)))
  · exact c_11.ok (x, y, ()) _ _ ⟨rfl, rfl, trivial⟩ (EB2_eq x y (bd_of x (hx h)))
  · have e : decide (x = y) = decide (y = x) := dec_of eq_comm
    rw [e]
    exact c_10.ok (y, x, ()) _ _ ⟨rfl, rfl, trivial⟩ (EB_eq y x (bd_of y (hy h)))
  · exact c_10.ok (x, x, ()) _ true ⟨rfl, rfl, trivial⟩ ((EB_eq x x (bd_of x (hx h))).trans (congrArg some (decide_eq_true rfl)))
  · exact c_10.ok (x, z, ()) _ false ⟨rfl, rfl, trivial⟩ ((EB_eq x z (bd_of x (hx h))).trans (congrArg some (decide_eq_false (fun e => hz e.symm))))
  · rintro e w' ⟨rfl, hb⟩
    exact ⟨_, rfl, hb, .v⟩
theorem caromlaw23_BodyCloneEqual_fnr (x y : Body) (k : UInt8) {P Q R : Prop} (_ : P) (_ : Q) (_ : R) : FnR Try.prog 3 [e_Body x, e_Body y, e_byte k] (.v (.bool true)) [] := fnr3 x y k
end GoForm
end
