/-
  An own slice clipped to its length. Conditions: those named in each rule.
-/
import Derived.Test.YtdknhngjfoaphaaGreatRzF
set_option linter.all false
namespace Go.Rx
open Go.RowKit
section
variable {P : Program} {o : Oper} {e : Env}
/-- s[:len(s):len(s)] of an own slice: the same slice, without spare capacity. -/
theorem QEx.slice3R {t y hi mx E sz by_ id k k' need} {xs : List AV} (ho : o.op = .slice t y none (some hi) (some mx)) (ht : ElemT P t E sz by_) (hy : OpdOk e y (.rw id sz)) (hn : (id, xs.flatMap AV.cells) ∈ need) (hxs : ∀ x ∈ xs, x.cells.length = sz) (hp : 0 < sz)
    (hhi : OpdOk e hi (.v (.int k xs.length))) (hmx : OpdOk e mx (.v (.int k' xs.length))) : QEx P o e need (.rw id sz) :=
  .pure fun _ _ _ m bl ac w hws hnd hr => by
    have q1 := hy.rep hr (by simp [ho, Op.operands])
    have q2 := (hhi.rep hr (by simp [ho, Op.operands])).eq_v
    have q3 := (hmx.rep hr (by simp [ho, Op.operands])).eq_v
    generalize hv : ac.eval y = v at q1
    have hf := hnd _ hn
    have hfl := flat_len hxs
    cases q1 with
    | rwnil hb =>
      rename_i ad
      have : xs = [] := by
        rcases hws.blk id _ hf with ⟨-, g⟩ | ⟨b, n, arr, T, pre, rest, g1, -⟩
        · rw [show (xs.flatMap AV.cells) = [] from g] at hfl
          rcases Nat.mul_eq_zero.1 (show xs.length * sz = 0 by rw [← hfl]; rfl) with h | h
          · exact List.eq_nil_of_length_eq_zero h
          · omega
        · rw [g1] at hb; cases hb
      subst this
      refine ⟨.slice ad 0 0, ?_, .rwnil hb⟩
      simp [execOp, ho, hv, Instr.sliceAt, run_underlying_of ht.under, Instr.slice, Instr.sliceBounds, q2, q3, Instr.sliceBound, asIntOf, run_sizeOf_of ht.sz, Addr.add]
    | rw hb g1 g2 g3 =>
      rename_i b n cap len
      obtain ⟨arr, T, pre, rest, r1, r2, r3, r4, r5⟩ := hws.at_ hf hb
      have hn2 : n.2 = pre.length := by rw [← r2]
      have : len = xs.length := Nat.eq_of_mul_eq_mul_right hp (by rw [g1, hn2, ← r4.length, hfl])
      subst this
      refine ⟨.slice (some ⟨b, 0, none⟩) xs.length xs.length, ?_, .rw hb g1 (Nat.le_refl _) (Nat.le_trans (Nat.mul_le_mul_right _ g2) g3)⟩
      have hc : (xs.length : Int) ≤ (cap : Int) := by omega
      have h0 : 0 ≤ (xs.length : Int) := by omega
      simp [execOp, ho, hv, Instr.sliceAt, run_underlying_of ht.under, Instr.slice, Instr.sliceBounds, q2, q3, Instr.sliceBound, asIntOf, run_sizeOf_of ht.sz, Addr.add, h0, hc]
      try (intro h; omega)
end
section
variable {P : Program} {tb : Tb} {ρ : Type} {cx : Ctx P tb}
def qSlice3R (L : SLS tb) (G : Gd) (t id : Nat) (E : tb.Ix) (hi mx : Operand) (P : Program) (k : SV tb → List Nat → Option ρ) : Option ρ :=
  got (opd L G hi) fun b => got (asI b) fun p => got (opd L G mx) fun c => got (asI c) fun q => got (elemT P t (tb.sz E)) fun _ => got (arrAt L id E) fun l => chk G (p.2 = (l.length : Int) ∧ q.2 = (l.length : Int)) (k (.rw id E) [id])
def qSlice3W (cx : Ctx P tb) (L : SLS tb) (G : Gd) (t : Nat) (y hi mx : Operand) (k : SV tb → List Nat → Option ρ) : Option ρ := match opd L G y with
  | some (.rw id E) => qSlice3R L G t id E hi mx P k
  | _ => qSlice3 P L G t y hi mx k
theorem qSlice3W_ok {L : SLS tb} {G o t y hi mx} {k : SV tb → List Nat → Option ρ} {r} (ho : o.op = .slice t y none (some hi) (some mx)) (h : qSlice3W cx L G t y hi mx k = some r) : QOk P L G o k r := by
  unfold qSlice3W at h
  split at h
  · rename_i id E ha
    unfold qSlice3R at h
    obtain ⟨b, hb, h⟩ := got_e h
    obtain ⟨p, hp, h⟩ := got_e h
    obtain ⟨c, hc1, h⟩ := got_e h
    obtain ⟨q, hq, h⟩ := got_e h
    obtain ⟨ET, hE, h⟩ := got_e h
    obtain ⟨l, hl, h⟩ := got_e h
    have hl := arrAt_e hl
    obtain ⟨hc, h⟩ := chk_e h
    have hy := fun u => opd_ok (L := L) (G := G) u ha
    have hz := fun u => opd_ok (L := L) (G := G) u hb
    have hw := fun u => opd_ok (L := L) (G := G) u hc1
    rw [asI_e hp] at hz
    rw [asI_e hq] at hw
    refine ⟨_, _, h, fun u => ?_⟩
    rw [needAV_one hl]
    obtain ⟨h1, h2⟩ := hc u.on
    rw [h1] at hz
    rw [h2] at hw
    exact QEx.slice3R (xs := l.map (tb.el E)) ho (elemT_e hE) (hy u) (show _ ∈ [(id, elC tb E l)] from mem1) (elC_len cx.ok) (cx.ok E).pos (by rw [List.length_map]; exact hz u) (by rw [List.length_map]; exact hw u)
  · exact qSlice3_ok ho h
end
end Go.Rx
