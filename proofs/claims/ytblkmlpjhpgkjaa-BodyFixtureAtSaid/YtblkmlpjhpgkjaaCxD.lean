/-
  The operations, each by its rule: what it yields on abstract operands. Conditions: those named in each rule.
-/
import Derived.Test.YtblkmlpjhpgkjaaCxC
set_option linter.all false
namespace Go.Cx
open Go.RowKit

theorem QEx.pure {P : Program} {o : Oper} {e : Env} {need : List (Nat × List AV)} {x : AV}
    (H : ∀ (B : Nat) (m0 : Mem) (h : Hp) (m : Mem) (bl : Names) (hh : Spare) (a : Act) (w : World), WSim B m0 h m bl hh w → (∀ p ∈ need, find p.1 h = some (.cells p.2)) → Reads o e m bl hh a →
      ∃ v, (execOp a.eval o).run P w = .ok (.value v) w ∧ Rep m bl hh x v) : QEx P o e need false x := by
  intro B m0 h m bl hh a w hws hB hn hr hcr next Q k
  obtain ⟨v, h1, h2⟩ := H B m0 h m bl hh a w hws hn hr
  unfold Oper.wp
  rw [h1, Oper.upon_value]
  exact k v w m hh (Mem.le.refl m) (Below.refl _ _) hws (fun _ _ e => e) (fun _ _ => rfl) h2

section
variable {P : Program} {o : Oper} {e : Env}

theorem QEx.move {y x} (ho : o.op = .move y) (hx : OpdOk P e o.type y x) : QEx P o e [] false x :=
  .pure fun _ _ _ _ _ _ a w _ _ hr => ⟨a.eval y, by simp [execOp, ho], hx.rep hr (by simp [ho, Op.operands])⟩

theorem QEx.assign {y x} (ho : o.op = .assign y) (hx : OpdOk P e o.type y x) : QEx P o e [] false x :=
  .pure fun _ _ _ _ _ _ a w _ _ hr => ⟨a.eval y, by simp [execOp, ho], hx.rep hr (by simp [ho, Op.operands])⟩

theorem QEx.pick {c y z t s r} (ho : o.op = .pick c y z) (hc : OpdOk P e o.type c (.v (.bool t))) (hy : t = true → OpdOk P e o.type y (.v (.bool s)))
    (hz : t = false → OpdOk P e o.type z (.v (.bool r))) : QEx P o e [] false (.v (.bool (cond t s r))) :=
  .pure fun _ _ _ _ _ _ a w _ _ hr => by
    have h1 := (hc.rep hr (by simp [ho, Op.operands])).eq_v
    refine ⟨.bool (cond t s r), ?_, .v⟩
    cases ht : t with
    | true =>
      have h2 := ((hy ht).rep hr (by simp [ho, Op.operands])).eq_v
      simp [execOp, ho, h1, asBool, ht, h2]
    | false =>
      have h2 := ((hz ht).rep hr (by simp [ho, Op.operands])).eq_v
      simp [execOp, ho, h1, asBool, ht, h2]

theorem QEx.extract {y i l x} (ho : o.op = .extract y i) (hy : OpdOk P e 0 y (.tup l)) (hi : l[i]? = some x) : QEx P o e [] false x :=
  .pure fun _ _ _ _ _ _ a w _ _ hr => by
    have h1 := hy.rep hr (by simp [ho, Op.operands])
    generalize hv : a.eval y = v at h1
    cases h1 with
    | tup h =>
      obtain ⟨v, hv1, hv2⟩ := h.get i x hi
      exact ⟨v, by simp [execOp, ho, hv, Instr.extract, hv1], hv2⟩

/-- Integer arithmetic and comparison. -/
def binI (op : BinOp) (k : IntKind) (x y : Int) : Option Value :=
  match op with
  | .add => some (.int k (k.wrap (x + y)))
  | .sub => some (.int k (k.wrap (x - y)))
  | .mul => some (.int k (k.wrap (x * y)))
  | .and => some (.int k (k.wrap (BitVec.ofInt k.bits x &&& BitVec.ofInt k.bits y).toNat))
  | .or => some (.int k (k.wrap (BitVec.ofInt k.bits x ||| BitVec.ofInt k.bits y).toNat))
  | .xor => some (.int k (k.wrap (BitVec.ofInt k.bits x ^^^ BitVec.ofInt k.bits y).toNat))
  | .eql => some (.bool (x == y))
  | .neq => some (.bool (x != y))
  | .lss => some (.bool (x < y))
  | .leq => some (.bool (x ≤ y))
  | .gtr => some (.bool (x > y))
  | .geq => some (.bool (x ≥ y))
  | _ => none

theorem run_eqGuard_int {P : Program} {op t x y k n v} {w : World} : (eqGuard op t x y (.int k n) v).run P w = .ok () w := by
  unfold eqGuard; split <;> simp

theorem QEx.binI {op t y z yt k a b v} (ho : o.op = .binOp op t y z yt) (hy : OpdOk P e t y (.v (.int k a))) (hz : OpdOk P e yt z (.v (.int k b))) (h : binI op k a b = some v) :
    QEx P o e [] false (.v v) :=
  .pure fun _ _ _ _ _ _ ac w _ _ hr => by
    have h1 := (hy.rep hr (by simp [ho, Op.operands])).eq_v
    have h2 := (hz.rep hr (by simp [ho, Op.operands])).eq_v
    refine ⟨v, ?_, .v⟩
    cases op <;> simp only [Cx.binI, Option.some.injEq, reduceCtorEq] at h <;> subst h <;>
      simp [execOp, ho, h1, h2, run_eqGuard_int, binOp, Op.intArith, Op.intBits, Op.intCmp]

theorem QEx.quo {t y z yt k a b} (ho : o.op = .binOp .quo t y z yt) (hy : OpdOk P e t y (.v (.int k a))) (hz : OpdOk P e yt z (.v (.int k b))) (h : b ≠ 0) :
    QEx P o e [] false (.v (.int k (k.wrap (a.tdiv b)))) :=
  .pure fun _ _ _ _ _ _ ac w _ _ hr => by
    have h1 := (hy.rep hr (by simp [ho, Op.operands])).eq_v
    have h2 := (hz.rep hr (by simp [ho, Op.operands])).eq_v
    refine ⟨_, ?_, .v⟩
    simp [execOp, ho, h1, h2, run_eqGuard_int, binOp, Op.intDiv, h]

theorem QEx.rem {t y z yt k a b} (ho : o.op = .binOp .rem t y z yt) (hy : OpdOk P e t y (.v (.int k a))) (hz : OpdOk P e yt z (.v (.int k b))) (h : b ≠ 0) :
    QEx P o e [] false (.v (.int k (a.tmod b))) :=
  .pure fun _ _ _ _ _ _ ac w _ _ hr => by
    have h1 := (hy.rep hr (by simp [ho, Op.operands])).eq_v
    have h2 := (hz.rep hr (by simp [ho, Op.operands])).eq_v
    refine ⟨_, ?_, .v⟩
    simp [execOp, ho, h1, h2, run_eqGuard_int, binOp, Op.intDiv, h]

theorem QEx.shl {t y z yt k k' a b} (ho : o.op = .binOp .shl t y z yt) (hy : OpdOk P e t y (.v (.int k a))) (hz : OpdOk P e yt z (.v (.int k' b))) (h : 0 ≤ b) :
    QEx P o e [] false (.v (.int k (k.wrap (a * 2 ^ (min b.toNat k.bits))))) :=
  .pure fun _ _ _ _ _ _ ac w _ _ hr => by
    have h1 := (hy.rep hr (by simp [ho, Op.operands])).eq_v
    have h2 := (hz.rep hr (by simp [ho, Op.operands])).eq_v
    refine ⟨_, ?_, .v⟩
    simp [execOp, ho, h1, h2, run_eqGuard_int, binOp, Op.shift, Int.not_lt.2 h]

theorem QEx.shr {t y z yt k k' a b} (ho : o.op = .binOp .shr t y z yt) (hy : OpdOk P e t y (.v (.int k a))) (hz : OpdOk P e yt z (.v (.int k' b))) (h : 0 ≤ b) :
    QEx P o e [] false (.v (.int k (a.fdiv (2 ^ (min b.toNat k.bits))))) :=
  .pure fun _ _ _ _ _ _ ac w _ _ hr => by
    have h1 := (hy.rep hr (by simp [ho, Op.operands])).eq_v
    have h2 := (hz.rep hr (by simp [ho, Op.operands])).eq_v
    refine ⟨_, ?_, .v⟩
    simp [execOp, ho, h1, h2, run_eqGuard_int, binOp, Op.shift, Int.not_lt.2 h]

/-- Comparison and sum of strings. -/
def binS (op : BinOp) (s t : ByteArray) : Option Value :=
  match op with
  | .eql => some (.bool (s.toList == t.toList))
  | .neq => some (.bool !(s.toList == t.toList))
  | .lss => some (.bool (Op.bytesLess s.toList t.toList))
  | _ => none

theorem run_eqGuard_str {P : Program} {op t x y n v} {w : World} : (eqGuard op t x y (.string n) v).run P w = .ok () w := by
  unfold eqGuard; split <;> simp
theorem run_eqGuard_bool {P : Program} {op t x y n v} {w : World} : (eqGuard op t x y (.bool n) v).run P w = .ok () w := by
  unfold eqGuard; split <;> simp

theorem QEx.binS {op t y z yt a b v} (ho : o.op = .binOp op t y z yt) (hy : OpdOk P e t y (.v (.string a))) (hz : OpdOk P e yt z (.v (.string b))) (h : binS op a b = some v) :
    QEx P o e [] false (.v v) :=
  .pure fun _ _ _ _ _ _ ac w _ _ hr => by
    have h1 := (hy.rep hr (by simp [ho, Op.operands])).eq_v
    have h2 := (hz.rep hr (by simp [ho, Op.operands])).eq_v
    refine ⟨v, ?_, .v⟩
    cases op <;> simp only [Cx.binS, Option.some.injEq, reduceCtorEq] at h <;> subst h <;>
      simp [execOp, ho, h1, h2, run_eqGuard_str, binOp, Op.stringOp]

theorem QEx.catS {t y z yt a b} (ho : o.op = .binOp .add t y z yt) (hy : OpdOk P e t y (.v (.string a))) (hz : OpdOk P e yt z (.v (.string b))) (h : a.size + b.size ≤ 9223372036854775807) :
    QEx P o e [] false (.v (.string (a ++ b))) :=
  .pure fun _ _ _ _ _ _ ac w _ _ hr => by
    have h1 := (hy.rep hr (by simp [ho, Op.operands])).eq_v
    have h2 := (hz.rep hr (by simp [ho, Op.operands])).eq_v
    refine ⟨_, ?_, .v⟩
    have : (a.size : Int) + (b.size : Int) ≤ 9223372036854775807 := by omega
    simp [execOp, ho, h1, h2, run_eqGuard_str, binOp, Op.stringOp, this]

/-- Bools against each other. -/
def binB (op : BinOp) (s t : Bool) : Option Value :=
  match op with
  | .eql => some (.bool (s == t))
  | .neq => some (.bool (s != t))
  | _ => none

theorem QEx.not {t y b} (ho : o.op = .unOp .not t y) (hy : OpdOk P e 0 y (.v (.bool b))) : QEx P o e [] false (.v (.bool !b)) :=
  .pure fun _ _ _ _ _ _ ac w _ _ hr => by
    have h1 := (hy.rep hr (by simp [ho, Op.operands])).eq_v
    exact ⟨_, by simp [execOp, ho, h1, Op.unary], .v⟩

theorem QEx.neg {t y k n} (ho : o.op = .unOp .neg t y) (hy : OpdOk P e 0 y (.v (.int k n))) : QEx P o e [] false (.v (.int k (k.wrap (0 - n)))) :=
  .pure fun _ _ _ _ _ _ ac w _ _ hr => by
    have h1 := (hy.rep hr (by simp [ho, Op.operands])).eq_v
    exact ⟨_, by simp [execOp, ho, h1, Op.unary, Op.intArith], .v⟩

theorem QEx.convI {s d y k k' n} (ho : o.op = .convert s d y) (hd : P.underlying d = some (.int k)) (hs : (P.underlying s).isSome = true) (hy : OpdOk P e s y (.v (.int k' n))) :
    QEx P o e [] false (.v (.int k (k.wrap n))) :=
  .pure fun _ _ _ _ _ _ ac w _ _ hr => by
    have h1 := (hy.rep hr (by simp [ho, Op.operands])).eq_v
    obtain ⟨u, hu⟩ := Option.isSome_iff_exists.1 hs
    refine ⟨_, ?_, .v⟩
    simp only [execOp, ho, h1]
    simp [convert, underlying, hu, hd, Conv.intToInt]

theorem QEx.len {y t tk sz l} (ho : o.op = .call { callee := .builtin .len, args := #[y], argTypes := #[t] }) (ht : ∃ E, P.underlying t = some (.slice E)) (hy : OpdOk P e t y (.sl tk sz l)) :
    QEx P o e [] false (.v (.int .i64 l.length)) :=
  .pure fun _ _ _ _ _ _ ac w _ _ hr => by
    have h1 := hy.rep hr (by simp [ho, Op.operands, Call.operands])
    obtain ⟨E, hE⟩ := ht
    refine ⟨_, ?_, .v⟩
    generalize hv : ac.eval y = v at h1
    cases h1 <;>
      simp [execOp, ho, hv, resolve, invoke, builtin, Builtin.len_, underlying, hE, goInt, List.length_nil]

theorem QEx.lenS {y t s} (ho : o.op = .call { callee := .builtin .len, args := #[y], argTypes := #[t] }) (ht : P.underlying t = some .string) (hy : OpdOk P e t y (.v (.string s))) :
    QEx P o e [] false (.v (.int .i64 s.size)) :=
  .pure fun _ _ _ _ _ _ ac w _ _ hr => by
    have h1 := (hy.rep hr (by simp [ho, Op.operands, Call.operands])).eq_v
    refine ⟨_, ?_, .v⟩
    simp [execOp, ho, h1, resolve, invoke, builtin, Builtin.len_, underlying, ht, goInt]

end
end Go.Cx
