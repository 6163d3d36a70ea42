/-
  The operations that only yield a value, each by its rule. Conditions: those named in each rule.
-/
import Derived.Test.YtdknhngjfoaphaaGreatRxC
set_option linter.all false
namespace Go.Rx
open Go.RowKit
section
variable {P : Program} {o : Oper} {e : Env}
theorem QEx.move {y x} (ho : o.op = .move y) (hx : OpdOk e y x) : QEx P o e [] x :=
  .pure fun _ _ _ _ _ a w _ _ hr => ⟨a.eval y, by simp [execOp, ho], hx.rep hr (by simp [ho, Op.operands])⟩

theorem QEx.assign {y x} (ho : o.op = .assign y) (hx : OpdOk e y x) : QEx P o e [] x :=
  .pure fun _ _ _ _ _ a w _ _ hr => ⟨a.eval y, by simp [execOp, ho], hx.rep hr (by simp [ho, Op.operands])⟩

theorem QEx.pick {c y z t s r} (ho : o.op = .pick c y z) (hc : OpdOk e c (.v (.bool t))) (hy : t = true → OpdOk e y (.v (.bool s)))
    (hz : t = false → OpdOk e z (.v (.bool r))) : QEx P o e [] (.v (.bool (cond t s r))) :=
  .pure fun _ _ _ _ _ a w _ _ hr => by
    have h1 := (hc.rep hr (by simp [ho, Op.operands])).eq_v
    refine ⟨.bool (cond t s r), ?_, .v⟩
    cases ht : t with
    | true =>
      have h2 := ((hy ht).rep hr (by simp [ho, Op.operands])).eq_v
      simp [execOp, ho, h1, asBool, ht, h2]
    | false =>
      have h2 := ((hz ht).rep hr (by simp [ho, Op.operands])).eq_v
      simp [execOp, ho, h1, asBool, ht, h2]

theorem QEx.extract {y i l x} (ho : o.op = .extract y i) (hy : OpdOk e y (.tup l)) (hi : l[i]? = some x) : QEx P o e [] x :=
  .pure fun _ _ _ _ _ a w _ _ hr => by
    have h1 := hy.rep hr (by simp [ho, Op.operands])
    generalize hv : a.eval y = v at h1
    cases h1 with
    | tup h =>
      obtain ⟨v, hv1, hv2⟩ := h.get i x hi
      exact ⟨v, by simp [execOp, ho, hv, Instr.extract, hv1], hv2⟩

def binI (op : BinOp) (k : IntKind) (x y : Int) : Option Value :=
  match op with
  | .add => some (.int k (k.wrap (x + y)))
  | .sub => some (.int k (k.wrap (x - y)))
  | .mul => some (.int k (k.wrap (x * y)))
  | .and => some (.int k (k.wrap (BitVec.ofInt k.bits x &&& BitVec.ofInt k.bits y).toNat))
  | .or => some (.int k (k.wrap (BitVec.ofInt k.bits x ||| BitVec.ofInt k.bits y).toNat))
  | .xor => some (.int k (k.wrap (BitVec.ofInt k.bits x ^^^ BitVec.ofInt k.bits y).toNat))
  | .eql => some (.bool (x == y))
  | .neq => some (.bool (x != y))
  | .lss => some (.bool (x < y))
  | .leq => some (.bool (x ≤ y))
  | .gtr => some (.bool (x > y))
  | .geq => some (.bool (x ≥ y))
  | _ => none

theorem run_eqGuard_int {P : Program} {op t x y k n v} {w : World} : (eqGuard op t x y (.int k n) v).run P w = .ok () w := by
  unfold eqGuard; split <;> simp

theorem QEx.binI {op t y z yt k a b v} (ho : o.op = .binOp op t y z yt) (hy : OpdOk e y (.v (.int k a))) (hz : OpdOk e z (.v (.int k b))) (h : binI op k a b = some v) :
    QEx P o e [] (.v v) :=
  .pure fun _ _ _ _ _ ac w _ _ hr => by
    have h1 := (hy.rep hr (by simp [ho, Op.operands])).eq_v
    have h2 := (hz.rep hr (by simp [ho, Op.operands])).eq_v
    refine ⟨v, ?_, .v⟩
    cases op <;> simp only [Rx.binI, Option.some.injEq, reduceCtorEq] at h <;> subst h <;>
      simp [execOp, ho, h1, h2, run_eqGuard_int, binOp, Op.intArith, Op.intBits, Op.intCmp]

theorem QEx.quo {t y z yt k a b} (ho : o.op = .binOp .quo t y z yt) (hy : OpdOk e y (.v (.int k a))) (hz : OpdOk e z (.v (.int k b))) (h : b ≠ 0) :
    QEx P o e [] (.v (.int k (k.wrap (a.tdiv b)))) :=
  .pure fun _ _ _ _ _ ac w _ _ hr => by
    have h1 := (hy.rep hr (by simp [ho, Op.operands])).eq_v
    have h2 := (hz.rep hr (by simp [ho, Op.operands])).eq_v
    refine ⟨_, ?_, .v⟩
    simp [execOp, ho, h1, h2, run_eqGuard_int, binOp, Op.intDiv, h]

theorem QEx.rem {t y z yt k a b} (ho : o.op = .binOp .rem t y z yt) (hy : OpdOk e y (.v (.int k a))) (hz : OpdOk e z (.v (.int k b))) (h : b ≠ 0) :
    QEx P o e [] (.v (.int k (a.tmod b))) :=
  .pure fun _ _ _ _ _ ac w _ _ hr => by
    have h1 := (hy.rep hr (by simp [ho, Op.operands])).eq_v
    have h2 := (hz.rep hr (by simp [ho, Op.operands])).eq_v
    refine ⟨_, ?_, .v⟩
    simp [execOp, ho, h1, h2, run_eqGuard_int, binOp, Op.intDiv, h]

theorem QEx.shl {t y z yt k k' a b} (ho : o.op = .binOp .shl t y z yt) (hy : OpdOk e y (.v (.int k a))) (hz : OpdOk e z (.v (.int k' b))) (h : 0 ≤ b) :
    QEx P o e [] (.v (.int k (k.wrap (a * 2 ^ (min b.toNat k.bits))))) :=
  .pure fun _ _ _ _ _ ac w _ _ hr => by
    have h1 := (hy.rep hr (by simp [ho, Op.operands])).eq_v
    have h2 := (hz.rep hr (by simp [ho, Op.operands])).eq_v
    refine ⟨_, ?_, .v⟩
    simp [execOp, ho, h1, h2, run_eqGuard_int, binOp, Op.shift, Int.not_lt.2 h]

theorem QEx.shr {t y z yt k k' a b} (ho : o.op = .binOp .shr t y z yt) (hy : OpdOk e y (.v (.int k a))) (hz : OpdOk e z (.v (.int k' b))) (h : 0 ≤ b) :
    QEx P o e [] (.v (.int k (a.fdiv (2 ^ (min b.toNat k.bits))))) :=
  .pure fun _ _ _ _ _ ac w _ _ hr => by
    have h1 := (hy.rep hr (by simp [ho, Op.operands])).eq_v
    have h2 := (hz.rep hr (by simp [ho, Op.operands])).eq_v
    refine ⟨_, ?_, .v⟩
    simp [execOp, ho, h1, h2, run_eqGuard_int, binOp, Op.shift, Int.not_lt.2 h]

def binS (op : BinOp) (s t : ByteArray) : Option Value :=
  match op with
  | .eql => some (.bool (s.toList == t.toList))
  | .neq => some (.bool !(s.toList == t.toList))
  | .lss => some (.bool (Op.bytesLess s.toList t.toList))
  | _ => none

theorem run_eqGuard_str {P : Program} {op t x y n v} {w : World} : (eqGuard op t x y (.string n) v).run P w = .ok () w := by
  unfold eqGuard; split <;> simp
theorem run_eqGuard_bool {P : Program} {op t x y n v} {w : World} : (eqGuard op t x y (.bool n) v).run P w = .ok () w := by
  unfold eqGuard; split <;> simp

theorem QEx.binS {op t y z yt a b v} (ho : o.op = .binOp op t y z yt) (hy : OpdOk e y (.v (.string a))) (hz : OpdOk e z (.v (.string b))) (h : binS op a b = some v) :
    QEx P o e [] (.v v) :=
  .pure fun _ _ _ _ _ ac w _ _ hr => by
    have h1 := (hy.rep hr (by simp [ho, Op.operands])).eq_v
    have h2 := (hz.rep hr (by simp [ho, Op.operands])).eq_v
    refine ⟨v, ?_, .v⟩
    cases op <;> simp only [Rx.binS, Option.some.injEq, reduceCtorEq] at h <;> subst h <;>
      simp [execOp, ho, h1, h2, run_eqGuard_str, binOp, Op.stringOp]

theorem QEx.catS {t y z yt a b} (ho : o.op = .binOp .add t y z yt) (hy : OpdOk e y (.v (.string a))) (hz : OpdOk e z (.v (.string b))) (h : a.size + b.size ≤ 9223372036854775807) :
    QEx P o e [] (.v (.string (a ++ b))) :=
  .pure fun _ _ _ _ _ ac w _ _ hr => by
    have h1 := (hy.rep hr (by simp [ho, Op.operands])).eq_v
    have h2 := (hz.rep hr (by simp [ho, Op.operands])).eq_v
    refine ⟨_, ?_, .v⟩
    have : (a.size : Int) + (b.size : Int) ≤ 9223372036854775807 := by omega
    simp [execOp, ho, h1, h2, run_eqGuard_str, binOp, Op.stringOp, this]

def binB (op : BinOp) (s t : Bool) : Option Value :=
  match op with
  | .eql => some (.bool (s == t))
  | .neq => some (.bool (s != t))
  | _ => none

theorem QEx.not {t y b} (ho : o.op = .unOp .not t y) (hy : OpdOk e y (.v (.bool b))) : QEx P o e [] (.v (.bool !b)) :=
  .pure fun _ _ _ _ _ ac w _ _ hr => by
    have h1 := (hy.rep hr (by simp [ho, Op.operands])).eq_v
    exact ⟨_, by simp [execOp, ho, h1, Op.unary], .v⟩

theorem QEx.neg {t y k n} (ho : o.op = .unOp .neg t y) (hy : OpdOk e y (.v (.int k n))) : QEx P o e [] (.v (.int k (k.wrap (0 - n)))) :=
  .pure fun _ _ _ _ _ ac w _ _ hr => by
    have h1 := (hy.rep hr (by simp [ho, Op.operands])).eq_v
    exact ⟨_, by simp [execOp, ho, h1, Op.unary, Op.intArith], .v⟩

theorem QEx.convI {s d y k k' n} (ho : o.op = .convert s d y) (hd : P.underlying d = some (.int k)) (hs : (P.underlying s).isSome = true) (hy : OpdOk e y (.v (.int k' n))) :
    QEx P o e [] (.v (.int k (k.wrap n))) :=
  .pure fun _ _ _ _ _ ac w _ _ hr => by
    have h1 := (hy.rep hr (by simp [ho, Op.operands])).eq_v
    obtain ⟨u, hu⟩ := Option.isSome_iff_exists.1 hs
    refine ⟨_, ?_, .v⟩
    simp only [execOp, ho, h1]
    simp [convert, underlying, hu, hd, Conv.intToInt]

theorem QEx.len {y t c sz l} (ho : o.op = .call { callee := .builtin .len, args := #[y], argTypes := #[t] }) (ht : ∃ E, P.underlying t = some (.slice E)) (hy : OpdOk e y (.sl c sz l)) :
    QEx P o e [] (.v (.int .i64 l.length)) :=
  .pure fun _ _ _ _ _ ac w _ _ hr => by
    have h1 := hy.rep hr (by simp [ho, Op.operands, Call.operands])
    obtain ⟨E, hE⟩ := ht
    refine ⟨_, ?_, .v⟩
    generalize hv : ac.eval y = v at h1
    cases h1 <;>
      simp [execOp, ho, hv, resolve, invoke, builtin, Builtin.len_, underlying, hE, goInt, List.length_nil]

theorem QEx.lenS {y t s} (ho : o.op = .call { callee := .builtin .len, args := #[y], argTypes := #[t] }) (ht : P.underlying t = some .string) (hy : OpdOk e y (.v (.string s))) :
    QEx P o e [] (.v (.int .i64 s.size)) :=
  .pure fun _ _ _ _ _ ac w _ _ hr => by
    have h1 := (hy.rep hr (by simp [ho, Op.operands, Call.operands])).eq_v
    refine ⟨_, ?_, .v⟩
    simp [execOp, ho, h1, resolve, invoke, builtin, Builtin.len_, underlying, ht, goInt]

theorem QEx.binB {op t y z yt a b v} (ho : o.op = .binOp op t y z yt) (hy : OpdOk e y (.v (.bool a))) (hz : OpdOk e z (.v (.bool b))) (hv : Rx.binB op a b = some v) (ht : P.underlying t = some .bool) :
    QEx P o e [] (.v v) :=
  .pure fun _ _ _ _ _ ac w _ _ hr => by
    have h1 := (hy.rep hr (by simp [ho, Op.operands])).eq_v
    have h2 := (hz.rep hr (by simp [ho, Op.operands])).eq_v
    refine ⟨v, ?_, .v⟩
    cases op <;> simp only [Rx.binB, Option.some.injEq, reduceCtorEq] at hv <;> subst hv <;>
      simp [execOp, ho, h1, h2, run_eqGuard_bool, binOp, run_equal_bool, ht] <;> cases a <;> cases b <;> rfl

theorem flat_len {l : List AV} {sz : Nat} (h : ∀ e ∈ l, e.cells.length = sz) : (l.flatMap AV.cells).length = l.length * sz := by
  induction l with
  | nil => simp
  | cons x l ih =>
    simp only [List.flatMap_cons, List.length_append, List.length_cons, h x (by simp), ih fun e he => h e (by simp [he])]
    rw [Nat.add_mul]; omega

theorem flat_drop {sz : Nat} : ∀ {l : List AV} (n : Nat), (∀ e ∈ l, e.cells.length = sz) → (l.flatMap AV.cells).drop (n * sz) = (l.drop n).flatMap AV.cells
  | [], n, h => by simp
  | x :: l, 0, h => by simp
  | x :: l, n + 1, h => by
    have hx := h x (by simp)
    rw [List.flatMap_cons, List.drop_succ_cons, ← flat_drop n fun e he => h e (by simp [he])]
    have : (n + 1) * sz = x.cells.length + n * sz := by rw [hx, Nat.add_mul]; omega
    rw [this, ← List.drop_drop, List.drop_left]

theorem flat_take {sz : Nat} : ∀ {l : List AV} (n : Nat), (∀ e ∈ l, e.cells.length = sz) → (l.flatMap AV.cells).take (n * sz) = (l.take n).flatMap AV.cells
  | [], n, h => by simp
  | x :: l, 0, h => by simp
  | x :: l, n + 1, h => by
    have hx := h x (by simp)
    rw [List.flatMap_cons, List.take_succ_cons, List.flatMap_cons, ← flat_take n fun e he => h e (by simp [he])]
    have : (n + 1) * sz = x.cells.length + n * sz := by rw [hx, Nat.add_mul]; omega
    rw [this, List.take_append, List.take_of_length_le (by omega)]
    congr 2; omega

theorem flat_at {sz : Nat} {l : List AV} {n : Nat} {e : AV} (h : ∀ e ∈ l, e.cells.length = sz) (hn : l[n]? = some e) : ((l.flatMap AV.cells).drop (n * sz)).take sz = e.cells := by
  rw [flat_drop n h]
  have hlt : n < l.length := by
    rcases Nat.lt_or_ge n l.length with h | h
    · exact h
    · simp [List.getElem?_eq_none h] at hn
  have he : l[n] = e := by rw [List.getElem?_eq_getElem hlt] at hn; simpa using hn
  rw [List.drop_eq_getElem_cons hlt, List.flatMap_cons, he]
  have := h e (by rw [← he]; exact List.getElem_mem hlt)
  rw [← this, List.take_left]

theorem take_drop_get {α} {cs : List α} {i k j : Nat} {v : α} (h : ((cs.drop i).take k)[j]? = some v) : cs[i + j]? = some v := by
  rw [List.getElem?_take] at h
  split at h
  · simpa using h
  · simp at h

theorem QEx.indexAddr {t y z E sz c l k i x} (ho : o.op = .indexAddr t y z) (hT : P.underlying t = some (.slice E)) (hsz : tSz P E = some sz) (hpos : 0 < sz)
    (hy : OpdOk e y (.sl c sz l)) (hz : OpdOk e z (.v (.int k i))) (h0 : 0 ≤ i) (hi : l[i.toNat]? = some x) : QEx P o e [] (.cptr x.cells) :=
  .pure fun _ _ _ m bl ac w hws _ hr => by
    have h1 := hy.rep hr (by simp [ho, Op.operands])
    have h2 := (hz.rep hr (by simp [ho, Op.operands])).eq_v
    generalize hv : ac.eval y = v at h1
    have hlt : i.toNat < l.length := by
      rcases Nat.lt_or_ge i.toNat l.length with h | h
      · exact h
      · simp [List.getElem?_eq_none h] at hi
    cases h1 with
    | slnil => simp at hlt
    | sl g1 g2 g3 g4 g5 g6 g7 =>
      rename_i a cap cs
      have hlen := g2.length
      rw [flat_len g1] at hlen
      have hcs : 0 < cs.length := by rw [← hlen]; exact Nat.mul_pos (by omega) hpos
      have hsp := g4 hcs
      obtain ⟨b, off, sp⟩ := a
      simp only at hsp; subst hsp
      refine ⟨.pointer (some ⟨b, off + i.toNat * sz, none⟩), ?_, ?_⟩
      · have hi' : i < (l.length : Int) := by omega
        simp [execOp, ho, hv, h2, Instr.indexAt, asIntOf, run_underlying_of hT, h0, hi', run_sizeOf_of hsz, addr_add]
      · refine .cptr (cs := (cs.drop (i.toNat * sz)).take sz) ?_ ?_ ?_
        · have := (g2.drop (i.toNat * sz)).take sz
          rwa [flat_at g1 hi] at this
        · exact fun c hc => g3 c (List.mem_of_mem_drop (List.mem_of_mem_take hc))
        · intro j v hj
          have := g5 _ v (take_drop_get hj)
          rw [Nat.add_assoc]; exact this

theorem QEx.loadAgg {t y l} (ho : o.op = .load t y) (ha : tAg P t = some true) (hs : tSz P t = some l.length) (hy : OpdOk e y (.cptr l)) : QEx P o e [] (.agg l) :=
  .pure fun _ _ _ m bl ac w hws _ hr => by
    have h1 := hy.rep hr (by simp [ho, Op.operands])
    generalize hv : ac.eval y = v at h1
    cases h1 with
    | cptr g1 g2 g3 =>
      rename_i b off cs
      refine ⟨.agg cs.toArray, ?_, .agg (g1.widen (by simp [noNames])) g2⟩
      have := run_loadVar_agg (P := P) (ty := t) (cs := cs) (w := w) (b := b) (o := off) ha (by rw [hs, g1.length]) fun j v hj => hws.imm _ _ _ (g3 j v hj)
      simp [execOp, ho, hv, Instr.loadAt, Instr.sureAddr, this]

theorem QEx.load1 {t y x} (ho : o.op = .load t y) (ha : tAg P t = some false) (hy : OpdOk e y (.cptr [x])) : QEx P o e [] x :=
  .pure fun _ _ _ m bl ac w hws _ hr => by
    have h1 := hy.rep hr (by simp [ho, Op.operands])
    generalize hv : ac.eval y = v at h1
    cases h1 with
    | cptr g1 g2 g3 =>
      rename_i b off cs
      obtain ⟨v, hv1, hv2⟩ := g1.get 0 x rfl
      refine ⟨v, ?_, hv2.widen (by simp [noNames])⟩
      have hc := hws.imm _ _ _ (g3 0 v hv1)
      simp [execOp, ho, hv, Instr.loadAt, Instr.sureAddr, run_loadVar_one ha (by simpa using hc)]

theorem QEx.fieldC {t y f l fs fd sz} (ho : o.op = .fieldAddr t y f) (hT : P.underlying t = some (.struct fs)) (hf : fs[f]? = some fd) (hs : tSz P fd.type = some sz) (hpos : 0 < sz)
    (hy : OpdOk e y (.cptr l)) : QEx P o e [] (.cptr ((l.drop fd.offset).take sz)) :=
  .pure fun _ _ _ m bl ac w hws _ hr => by
    have h1 := hy.rep hr (by simp [ho, Op.operands])
    generalize hv : ac.eval y = v at h1
    cases h1 with
    | cptr g1 g2 g3 =>
      rename_i b off cs
      refine ⟨.pointer (some ⟨b, off + fd.offset, none⟩), ?_, .cptr (cs := (cs.drop fd.offset).take sz) ((g1.drop _).take _) (fun c hc => g2 c (List.mem_of_mem_drop (List.mem_of_mem_take hc))) ?_⟩
      · have : ¬ sz = 0 := by omega
        simp [execOp, ho, hv, Instr.fieldAt, run_underlying_of hT, hf, Instr.sureAddr, fieldPlace, run_sizeOf_of hs, this, addr_add]
      · intro j v hj
        rw [Nat.add_assoc]
        exact g3 _ v (take_drop_get hj)

theorem QEx.field {t y f l fs fd sz b} (ho : o.op = .field t y f) (hT : P.underlying t = some (.struct fs)) (hf : fs[f]? = some fd) (hs : tSz P fd.type = some sz) (ha : tAg P fd.type = some b)
    (hy : OpdOk e y (.agg l)) {x : AV} (hx : (b = true ∧ x = .agg ((l.drop fd.offset).take sz)) ∨ (b = false ∧ l[fd.offset]? = some x)) : QEx P o e [] x :=
  .pure fun _ _ _ m bl ac w hws _ hr => by
    have h1 := hy.rep hr (by simp [ho, Op.operands])
    generalize hv : ac.eval y = v at h1
    cases h1 with
    | agg g1 g2 =>
      rename_i cs
      rcases hx with ⟨rfl, rfl⟩ | ⟨rfl, hx⟩
      · refine ⟨.agg ((cs.drop fd.offset).take sz).toArray, ?_, .agg ((g1.drop _).take _) fun c hc => g2 c (List.mem_of_mem_drop (List.mem_of_mem_take hc))⟩
        simp only [execOp, ho, hv]
        simp [Instr.field, run_underlying_of hT, hf, asAgg, part, run_isAgg_of ha, run_sizeOf_of hs]
      · obtain ⟨v, hv1, hv2⟩ := g1.get _ x hx
        refine ⟨v, ?_, hv2⟩
        simp only [execOp, ho, hv]
        simp [Instr.field, run_underlying_of hT, hf, asAgg, part, run_isAgg_of ha, hv1]


inductive OpdsOk (e : Env) : List Operand → List AV → Prop
  | nil : OpdsOk e [] []
  | cons {y x ys xs} : OpdOk e y x → OpdsOk e ys xs → OpdsOk e (y :: ys) (x :: xs)

theorem OpdsOk.reps {ys xs} (h : OpdsOk e ys xs) {m bl a} (hr : Reads o e m bl a) (hx : ∀ y ∈ ys, y ∈ o.op.operands) : Reps m bl xs (ys.map a.eval) := by
  induction h with
  | nil => exact .nil
  | cons h _ ih => exact .cons (h.rep hr (hx _ (by simp))) (ih fun y hy => hx y (by simp [hy]))

end
end Go.Rx
