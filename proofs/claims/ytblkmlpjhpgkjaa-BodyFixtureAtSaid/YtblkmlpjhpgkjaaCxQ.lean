/-
  Small arrays. No conditions.
-/
import Derived.Test.YtblkmlpjhpgkjaaCxS
set_option linter.all false
namespace Go.Cx
open Go.RowKit
structure Arr2 (α : Type) where
  x0 : α
  x1 : α
  deriving DecidableEq, Inhabited
def Arr2.get {α : Type} (a : Arr2 α) (i : Int) : α := if i = 0 then a.x0 else a.x1
def Arr2.set {α : Type} (a : Arr2 α) (i : Int) (v : α) : Arr2 α := if i = 0 then { a with x0 := v } else { a with x1 := v }
theorem dyn2 {p : Int → Prop} {i : Int} (h : 0 ≤ i ∧ i < 2) (h0 : p 0) (h1 : p 1) : p i := by
  have : i = 0 ∨ i = 1 := by omega
  rcases this with rfl | rfl <;> assumption
def Arr2.beq {α : Type} [DecidableEq α] (x y : Arr2 α) : Bool := decide (x.x0 = y.x0) && (decide (x.x1 = y.x1))
structure Arr3 (α : Type) where
  x0 : α
  x1 : α
  x2 : α
  deriving DecidableEq, Inhabited
def Arr3.get {α : Type} (a : Arr3 α) (i : Int) : α := if i = 0 then a.x0 else if i = 1 then a.x1 else a.x2
def Arr3.set {α : Type} (a : Arr3 α) (i : Int) (v : α) : Arr3 α := if i = 0 then { a with x0 := v } else if i = 1 then { a with x1 := v } else { a with x2 := v }
theorem dyn3 {p : Int → Prop} {i : Int} (h : 0 ≤ i ∧ i < 3) (h0 : p 0) (h1 : p 1) (h2 : p 2) : p i := by
  have : i = 0 ∨ i = 1 ∨ i = 2 := by omega
  rcases this with rfl | rfl | rfl <;> assumption
def Arr3.beq {α : Type} [DecidableEq α] (x y : Arr3 α) : Bool := decide (x.x0 = y.x0) && (decide (x.x1 = y.x1) && (decide (x.x2 = y.x2)))
structure Arr4 (α : Type) where
  x0 : α
  x1 : α
  x2 : α
  x3 : α
  deriving DecidableEq, Inhabited
def Arr4.get {α : Type} (a : Arr4 α) (i : Int) : α := if i = 0 then a.x0 else if i = 1 then a.x1 else if i = 2 then a.x2 else a.x3
def Arr4.set {α : Type} (a : Arr4 α) (i : Int) (v : α) : Arr4 α := if i = 0 then { a with x0 := v } else if i = 1 then { a with x1 := v } else if i = 2 then { a with x2 := v } else { a with x3 := v }
theorem dyn4 {p : Int → Prop} {i : Int} (h : 0 ≤ i ∧ i < 4) (h0 : p 0) (h1 : p 1) (h2 : p 2) (h3 : p 3) : p i := by
  have : i = 0 ∨ i = 1 ∨ i = 2 ∨ i = 3 := by omega
  rcases this with rfl | rfl | rfl | rfl <;> assumption
def Arr4.beq {α : Type} [DecidableEq α] (x y : Arr4 α) : Bool := decide (x.x0 = y.x0) && (decide (x.x1 = y.x1) && (decide (x.x2 = y.x2) && (decide (x.x3 = y.x3))))
structure Arr9 (α : Type) where
  x0 : α
  x1 : α
  x2 : α
  x3 : α
  x4 : α
  x5 : α
  x6 : α
  x7 : α
  x8 : α
  deriving DecidableEq, Inhabited
def Arr9.get {α : Type} (a : Arr9 α) (i : Int) : α := if i = 0 then a.x0 else if i = 1 then a.x1 else if i = 2 then a.x2 else if i = 3 then a.x3 else if i = 4 then a.x4 else if i = 5 then a.x5 else if i = 6 then a.x6 else if i = 7 then a.x7 else a.x8
def Arr9.set {α : Type} (a : Arr9 α) (i : Int) (v : α) : Arr9 α := if i = 0 then { a with x0 := v } else if i = 1 then { a with x1 := v } else if i = 2 then { a with x2 := v } else if i = 3 then { a with x3 := v } else if i = 4 then { a with x4 := v } else if i = 5 then { a with x5 := v } else if i = 6 then { a with x6 := v } else if i = 7 then { a with x7 := v } else { a with x8 := v }
theorem dyn9 {p : Int → Prop} {i : Int} (h : 0 ≤ i ∧ i < 9) (h0 : p 0) (h1 : p 1) (h2 : p 2) (h3 : p 3) (h4 : p 4) (h5 : p 5) (h6 : p 6) (h7 : p 7) (h8 : p 8) : p i := by
  have : i = 0 ∨ i = 1 ∨ i = 2 ∨ i = 3 ∨ i = 4 ∨ i = 5 ∨ i = 6 ∨ i = 7 ∨ i = 8 := by omega
  rcases this with rfl | rfl | rfl | rfl | rfl | rfl | rfl | rfl | rfl <;> assumption
def Arr9.beq {α : Type} [DecidableEq α] (x y : Arr9 α) : Bool := decide (x.x0 = y.x0) && (decide (x.x1 = y.x1) && (decide (x.x2 = y.x2) && (decide (x.x3 = y.x3) && (decide (x.x4 = y.x4) && (decide (x.x5 = y.x5) && (decide (x.x6 = y.x6) && (decide (x.x7 = y.x7) && (decide (x.x8 = y.x8)))))))))

section
variable {P : Program} {o : Oper} {e : Env}
theorem QEx.idxP {t y z E n sz k i id off} (r : Nat) (ho : o.op = .indexAddr t y z) (hT : P.underlying t = some (.array n E)) (hs : tSz P E = some sz) (hy : OpdOk P e 0 y (.ptr id off))
    (hz : OpdOk P e 0 z (kAV k i)) (h : 0 ≤ i ∧ i < n) (hr : off + i.toNat * sz = r) : QEx P o e [] false (.ptr id r) := hr ▸ QEx.indexP ho hT hs hy hz h.1 h.2
theorem QEx.idxC {t y z E n sz k i l} (r : List AV) (ho : o.op = .indexAddr t y z) (hT : P.underlying t = some (.array n E)) (hs : tSz P E = some sz) (hy : OpdOk P e 0 y (.cptr l))
    (hz : OpdOk P e 0 z (kAV k i)) (h : 0 ≤ i ∧ i < n) (hr : (l.drop (i.toNat * sz)).take sz = r) : QEx P o e [] false (.cptr r) := by
  subst hr
  exact .pure fun _ _ _ m bl hh ac w hws _ hr => by
    have r1 := hy.rep hr (by simp [ho, Op.operands])
    have r2 := (hz.rep hr (by simp [ho, Op.operands])).eq_v
    generalize hv : ac.eval y = v at r1
    cases r1 with
    | cptr g1 g2 g3 =>
      rename_i b off cs
      refine ⟨.pointer (some ⟨b, off + i.toNat * sz, none⟩), ?_, .cptr (cs := (cs.drop (i.toNat * sz)).take sz) ((g1.drop _).take _) (fun c hc => g2 c (List.mem_of_mem_drop (List.mem_of_mem_take hc))) ?_⟩
      · simp [execOp, ho, hv, r2, Instr.indexAt, asIntOf, run_underlying_of hT, Instr.sureAddr, h.1, h.2, run_sizeOf_of hs, addr_add]
      · intro j v hj
        rw [Nat.add_assoc]
        exact g3 _ v (take_drop_get hj)
theorem QEx.idxA {t y z E n sz k i l x} (ho : o.op = .index t y z) (hT : P.underlying t = some (.array n E)) (hs : tSz P E = some sz) (ha : tAg P E = some false) (hy : OpdOk P e t y (.agg l))
    (hz : OpdOk P e 0 z (kAV k i)) (h : 0 ≤ i ∧ i < n) (hr : l[i.toNat * sz]? = some x) : QEx P o e [] false x :=
  .pure fun _ _ _ m bl hh ac w hws _ hrd => by
    have r1 := hy.rep hrd (by simp [ho, Op.operands])
    have r2 := (hz.rep hrd (by simp [ho, Op.operands])).eq_v
    generalize hv : ac.eval y = v at r1
    cases r1 with
    | agg g1 g2 =>
      rename_i cs
      obtain ⟨v, hv1, hv2⟩ := g1.get _ x hr
      refine ⟨v, ?_, hv2⟩
      simp only [execOp, ho, hv, r2]
      simp [Instr.index, asIntOf, run_underlying_of hT, h.1, h.2, run_sizeOf_of hs, part, run_isAgg_of ha, hv1]

theorem QEx.buildA {t ps n E sz Z0 Z} (ho : o.op = .build t ps) (hT : P.underlying t = some (.array n E)) (hs : tSz P E = some sz) (hz : ZeroT P t Z0)
    (h : FillOk P e (fun i => some (i * sz, sz)) ps.toList Z0 Z) : QEx P o e [] false (.agg Z) :=
  .pure fun _ _ _ m bl hh a w hws _ hr => by
    obtain ⟨zs, hz0, hzs, h1⟩ := hz
    obtain ⟨z, hz1, hz2⟩ := run_zero_of hz0 w
    obtain ⟨cells', k1, k2, k3⟩ := h.run (o := o) hr (fun p hp => by rw [ho]; simp only [Op.operands]; simp; exact ⟨p.1, by simpa using hp⟩) z.cells
      (by rw [hz2]; exact hzs.reps) (by rw [hz2]; simpa using h1)
    refine ⟨.agg cells', ?_, by have := Rep.agg k2 k3; simpa using this⟩
    have k1' : Instr.fill (fun i => some (i * sz, sz)) z.cells (ps.map fun (i, x) => (i, a.eval x)).toList = some cells' := by simpa using k1
    simp only [execOp, ho, Instr.build, Sem.run_bind, hz1, Result.andThen_ok, run_underlying_of hT, run_sizeOf_of hs, k1', Sem.run_pure]
theorem run_equalIn_arr4 {t E : TypeId} {k : IntKind} (ht : P.underlying t = some (.array 4 E)) (hE : P.underlying E = some (.int k)) (hs : tSz P E = some 1) (ha : tAg P E = some false) (w : World) (d : Nat) (a0 a1 a2 a3 b0 b1 b2 b3 : Int) :
    (Op.equalIn (d + 2) t (.agg #[.int k a0, .int k a1, .int k a2, .int k a3]) (.agg #[.int k b0, .int k b1, .int k b2, .int k b3])).run P w = .ok (decide (a0 = b0) && (decide (a1 = b1) && (decide (a2 = b2) && decide (a3 = b3)))) w := by
  have hp : ∀ (cs : Array Value) (j : Nat) (v : Value), cs[j]? = some v → (part E cs j).run P w = .ok v w := by
    intro cs j v h; simp [part, run_isAgg_of ha, h]
  have he : ∀ (a b : Int), (Op.equalIn (d + 1) E (.int k a) (.int k b)).run P w = .ok (a == b) w := fun a b => run_equalIn_int w d E k k a b hE
  unfold Op.equalIn
  simp only [Sem.run_bind, run_underlying_of ht, Result.andThen_ok, run_sizeOf_of hs]
  simp only [Std.Legacy.Range.forIn_eq_forIn_range', Std.Legacy.Range.size]
  simp [List.range', hp, he]
  by_cases h0 : a0 = b0 <;> by_cases h1 : a1 = b1 <;> by_cases h2 : a2 = b2 <;> by_cases h3 : a3 = b3 <;> simp [*]
end
end Go.Cx
