/-
  Zeros appended to nothing; a slice cleared. No conditions.
-/
import Derived.Test.YtdknhngjfoaphaaGreatRxY
set_option linter.all false
namespace Go.Rx
open Go.RowKit
section
variable {P : Program}
theorem run_append_zeros (w : World) (t tx ty e : TypeId) (i : TypeInfo) (z : Value) (k : IntKind) (ht : P.underlying t = some (.slice e)) (hx : P.underlying tx = some (.int k)) (hi : P.info? e = some i) (hz : i.zero = some z) (hp : 0 < i.size) (base : Option Addr)
    (hold : (Builtin.firstCells i.size 0 (.slice base 0 0)).run P w.drew = .ok #[] w.drew) (n : Int) (hn : 0 < n) (h63 : n ≤ 9223372036854775807) (hb : n.toNat * i.bytes ≤ 140737488355328) :
    (Builtin.append_ #[t, tx] ty #[.slice base 0 0, .int k n]).run P w =
      .ok (.slice (some ⟨w.heap.size, 0, none⟩) n.toNat (grownCap w n.toNat 0 e))
        (w.drew.alloc (.cells (Builtin.zeroCells z.cells n.toNat ++ Builtin.zeroCells z.cells (grownCap w n.toNat 0 e - n.toNat)) e)) := by
  have hw : IntKind.i64.wrap n = n := by simp [IntKind.wrap, IntKind.bits, IntKind.signed]; omega
  have h1 : ¬ n < 0 := by omega
  have hcast : (n.toNat : Int) = n := by omega
  have h2 : ¬ (281474976710656 : Int) < n * i.bytes := by
    have : ((n.toNat * i.bytes : Nat) : Int) = n * i.bytes := by rw [Int.natCast_mul, hcast]
    omega
  have h3 : ¬ n.toNat ≤ 0 := by omega
  have h4 : ¬ (9223372036854775807 : Int) < n.toNat := by omega
  have hfit := growslice_fits (need := n.toNat) (bytes := i.bytes) (old := 0) (by omega) hb
  have h5 : ¬ 281474976710656 < Builtin.nextslicecap n.toNat 0 * i.bytes := by omega
  have h6 : ¬ (n.toNat = 0 ∨ i.size = 0) := by omega
  have h7 : ¬ n ≤ 0 := by omega
  have h8 : max n 0 = n := by omega
  have h9 : ¬ (9223372036854775807 : Int) < n := by omega
  have h10 : ¬ n.toNat * i.size = 0 := by rw [Nat.mul_eq_zero]; exact h6
  simp [Builtin.append_, run_underlying ht, run_underlying hx, sizeOf, typeInfo, zeroValue, hi, hz, asInt, asIntOf, hw, h1, h2, h3, h4, h5, h7, h8, h9, h10, Question.forced, hold, newRow, grownCap]

/-- Zeros appended to nothing. -/
theorem LEx.appZ {ops : Array Oper} {N : Nat} {o : Oper} {e : Env} {t tz y z E sz by_ d nm k n Z} (hg : o.guard = none) (hd : o.dst = some d) (hN : d < N) (ho : o.op = .call { callee := .builtin .append, args := #[y, z], argTypes := #[t, tz] }) (ht : ElemT P t E sz by_) (hZ : ZeroT P E Z) (hp : 0 < sz)
    (htz : P.underlying tz = some (.int k)) (hy : OpdOk e y (.sl true sz [])) (hz : OpdOk e z (.v (.int k n))) (h0 : 0 < n) (hlen : n.toNat * by_ ≤ 140737488355328) (h63 : n ≤ 9223372036854775807) :
    LEx P ops N o ⟨reOf e (o.looksAt ops), [], [(d, .rw nm sz)], [(nm, .cells (List.replicate n.toNat Z).flatten)], [nm]⟩ := by
  refine .ofA hg (fun d' h' => by rw [hd] at h'; cases h'; exact hN) ?_
  intro e2 s h f f' hre hrh hnm hf' N W0 m0 sa m bl a w S hdN next Q kk
  have hR : Reads o e m bl a := fun t ht y hy => S.env t y (agree_looks hre t (operand_looks ht) y hy)
  obtain ⟨ad, n0, cap, cs, hv, hn1, hc, el, reps, one, emp, hcap, at_⟩ := sl_cells (hy.rep hR (by simp [ho, Op.operands, Call.operands]))
  obtain rfl := hcap rfl
  simp only [List.length_nil] at hn1
  subst hn1
  have hzv := (hz.rep hR (by simp [ho, Op.operands, Call.operands])).eq_v
  obtain ⟨i, zv, hi1, hi2, hi3, hi4, hi5, hi6⟩ := ht.info
  obtain ⟨zs, hz0, hzs, hz1⟩ := hZ
  have hzz : zv.cells.toList = zs := by unfold tZero at hz0; rw [hi1] at hz0; simp [hi2] at hz0; exact hz0
  have hzl : zs.length = sz := by rw [← hzz, ← hi5]; simp
  have hfl : ∀ n : Nat, (List.replicate n zs).flatten.length = n * sz := by intro n; simp [List.length_flatten, hzl]
  have hfree : bl nm = none := S.free nm (hnm nm (by simp))
  unfold Oper.wp
  have hold : (Builtin.firstCells i.size 0 (.slice ad 0 0)).run P w.drew = .ok (#[] : Array Value) w.drew := by
    cases ad with
    | none => exact run_firstCells_none (P := P) w.drew _ _ _ _
    | some a1 => exact run_firstCells_some (P := P) w.drew i.size 0 a1 _ _ [] (by simp) (by simp)
  have hrun := run_append_zeros (P := P) w t tz o.type E i zv k ht.under htz hi1 hi2 (by rw [hi3]; exact hp) ad hold n h0 h63 (by rw [hi4]; exact hlen)
  rw [run_append2 ho (v := _) (w' := _) (by rw [hv, hzv]; exact hrun), Oper.upon_value]
  generalize hcap2 : grownCap w n.toNat 0 E = cap'
  have hge : n.toNat ≤ cap' := by rw [← hcap2]; exact grownCap_ge w _ _ E
  have hzf : ∀ n, (Builtin.zeroCells zv.cells n).toList = (List.replicate n zs).flatten := fun n => by rw [zeroCells_flat, hzz]
  have hone : ∀ n, ∀ c ∈ (List.replicate n zs).flatten, oneCell c = true := by
    intro n c hc
    obtain ⟨l', hl', hc'⟩ := List.mem_flatten.1 hc
    obtain ⟨-, rfl⟩ := List.mem_replicate.1 hl'
    exact List.all_eq_true.1 hz1 c hc'
  have hsz : (Builtin.zeroCells zv.cells n.toNat ++ Builtin.zeroCells zv.cells (cap' - n.toNat)).size = cap' * sz := by
    rw [Array.size_append, size_zeroCells, size_zeroCells, hi5, ← Nat.add_mul]; congr 1; omega
  obtain ⟨q1, q2⟩ := S.ws.newOwn (w' := w.drew.alloc (.cells (Builtin.zeroCells zv.cells n.toNat ++ Builtin.zeroCells zv.cells (cap' - n.toNat)) E)) (d := nm) (arr := Builtin.zeroCells zv.cells n.toNat ++ Builtin.zeroCells zv.cells (cap' - n.toNat)) (T := E)
    (Z := (List.replicate n.toNat Z).flatten) (pre := (List.replicate n.toNat zs).flatten) (rest := (List.replicate (cap' - n.toNat) zs).flatten) S.below.size hfree rfl (by rw [Array.toList_append, hzf, hzf]) ((hzs.reps).zeros _) (hone _)
  rw [hsz] at q1 q2
  refine kk _ _ _ m _ rfl ⟨?_, ?_, ((S.below.drew).alloc S.below.size _), q1, ?_, S.stk.widen q2, ?_⟩
  · simp [Act.put, hd, S.defers]
  · simp [Act.put, hd, S.size]
  · rw [hd]
    exact EnvRep.put (S.env.widen q2) (.rw (b := w.heap.size) (n := (cap' * sz, (List.replicate n.toNat zs).flatten.length)) (by simp [updN]) (hfl _).symm hge (Nat.le_refl _)) (by rw [S.size]; exact hdN d hd)
  · intro d' hd'
    obtain ⟨g1, g2⟩ := hf' d' hd'
    unfold updN; rw [if_neg (by simpa using g2)]; exact S.free d' g1
end
end Go.Rx
