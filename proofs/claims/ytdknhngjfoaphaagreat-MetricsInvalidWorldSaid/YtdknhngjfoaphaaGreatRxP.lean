/-
  The operations on bytes and strings in plain words. Conditions: those named in each rule.
-/
import Derived.Test.YtdknhngjfoaphaaGreatRxO
set_option linter.all false
namespace Go.Rx
open Go.RowKit
def sAV (s : List UInt8) : AV := .v (.string ⟨s.toArray⟩)
def bAV (b : Bool) : AV := .v (.bool b)
def nAV (n : Int) : AV := .v (.int .i64 n)
section
variable {P : Program} {o : Oper} {e : Env}
variable {t yt : TypeId} {y z : Operand} {k : IntKind} {a b : Int} {p q : UInt8} {s r : List UInt8}
theorem toByte_nat (n : Int) : ((toByte n).toNat : Int) = n % 256 := by
  unfold toByte
  have h : (UInt8.ofNat (n % 256).toNat).toNat = (n % 256).toNat % 256 := UInt8.toNat_ofNat'
  rw [h]; omega

theorem byte_eq (p q : UInt8) : ((p.toNat : Int) == (q.toNat : Int)) = (p == q) := by
  rw [Bool.eq_iff_iff]; simp [← UInt8.toNat_inj]; omega
theorem QEx.eqlC (ho : o.op = .binOp .eql t y z yt) (hy : OpdOk e y (byteAV p)) (hz : OpdOk e z (byteAV q)) : QEx P o e [] (bAV (p == q)) := by
  rw [← byte_eq]; exact QEx.binI ho hy hz rfl
theorem QEx.neqC (ho : o.op = .binOp .neq t y z yt) (hy : OpdOk e y (byteAV p)) (hz : OpdOk e z (byteAV q)) : QEx P o e [] (bAV (p != q)) := by
  show QEx P o e [] (bAV (!(p == q))); rw [← byte_eq]; exact QEx.binI ho hy hz rfl
theorem byte_lt' (p q : UInt8) : decide ((p.toNat : Int) < (q.toNat : Int)) = decide (p < q) := by
  rw [Bool.eq_iff_iff]; simp [UInt8.lt_iff_toNat_lt]
theorem byte_le' (p q : UInt8) : decide ((p.toNat : Int) ≤ (q.toNat : Int)) = decide (p ≤ q) := by
  rw [Bool.eq_iff_iff]; simp [UInt8.le_iff_toNat_le]
theorem QEx.lssC (ho : o.op = .binOp .lss t y z yt) (hy : OpdOk e y (byteAV p)) (hz : OpdOk e z (byteAV q)) : QEx P o e [] (bAV (decide (p < q))) := by
  rw [← byte_lt']; exact QEx.binI ho hy hz rfl
theorem QEx.leqC (ho : o.op = .binOp .leq t y z yt) (hy : OpdOk e y (byteAV p)) (hz : OpdOk e z (byteAV q)) : QEx P o e [] (bAV (decide (p ≤ q))) := by
  rw [← byte_le']; exact QEx.binI ho hy hz rfl
theorem QEx.gtrC (ho : o.op = .binOp .gtr t y z yt) (hy : OpdOk e y (byteAV p)) (hz : OpdOk e z (byteAV q)) : QEx P o e [] (bAV (decide (q < p))) := by
  rw [← byte_lt']; exact QEx.binI ho hy hz rfl
theorem QEx.geqC (ho : o.op = .binOp .geq t y z yt) (hy : OpdOk e y (byteAV p)) (hz : OpdOk e z (byteAV q)) : QEx P o e [] (bAV (decide (q ≤ p))) := by
  rw [← byte_le']; exact QEx.binI ho hy hz rfl
theorem wrap_u8 (n : Int) : IntKind.u8.wrap n = n % 256 := by simp [IntKind.wrap, IntKind.bits, IntKind.signed]
theorem byteAV_wrap {c : UInt8} {n : Int} (h : (c.toNat : Int) = n % 256) : byteAV c = .v (.int .u8 (IntKind.u8.wrap n)) := by
  rw [wrap_u8, ← h]; rfl
theorem QEx.addC (ho : o.op = .binOp .add t y z yt) (hy : OpdOk e y (byteAV p)) (hz : OpdOk e z (byteAV q)) : QEx P o e [] (byteAV (p + q)) := by
  rw [byteAV_wrap (n := (p.toNat : Int) + q.toNat) (by rw [UInt8.toNat_add]; omega)]; exact QEx.binI ho hy hz rfl
theorem QEx.subC (ho : o.op = .binOp .sub t y z yt) (hy : OpdOk e y (byteAV p)) (hz : OpdOk e z (byteAV q)) : QEx P o e [] (byteAV (p - q)) := by
  rw [byteAV_wrap (n := (p.toNat : Int) - q.toNat) (by rw [UInt8.toNat_sub]; have := p.toNat_lt; have := q.toNat_lt; omega)]; exact QEx.binI ho hy hz rfl
theorem QEx.remC (ho : o.op = .binOp .rem t y z yt) (hy : OpdOk e y (byteAV p)) (hz : OpdOk e z (byteAV q)) (h : q ≠ 0) : QEx P o e [] (byteAV (p % q)) := by
  have hq : (q.toNat : Int) ≠ 0 := by
    intro h'; apply h; exact UInt8.toNat_inj.1 (by simpa using h')
  have := QEx.rem (P := P) ho hy hz hq
  have e : ((p.toNat : Int)).tmod (q.toNat : Int) = ((p % q).toNat : Int) := by rw [UInt8.toNat_mod]; exact (Int.ofNat_tmod _ _).symm
  rw [e] at this; exact this

theorem QEx.cvKC {s d y k' n} (ho : o.op = .convert s d y) (hd : P.underlying d = some (.int .u8)) (hs : (P.underlying s).isSome = true) (hy : OpdOk e y ((.v (.int k' n)))) : QEx P o e [] (byteAV (toByte n)) := by
  rw [byteAV_wrap (toByte_nat n)]; exact QEx.convI ho hd hs hy
theorem wrap_small {k : IntKind} (hk : k = .i64 ∨ k = .u64 ∨ k = .i32 ∨ k = .u32 ∨ k = .u16 ∨ k = .i16) (c : UInt8) : k.wrap (c.toNat : Int) = c.toNat := by
  have := c.toNat_lt
  rcases hk with rfl | rfl | rfl | rfl | rfl | rfl <;> simp [IntKind.wrap, IntKind.bits, IntKind.signed] <;> omega
theorem QEx.cvCK {s d y k} (ho : o.op = .convert s d y) (hd : P.underlying d = some (.int k)) (hs : (P.underlying s).isSome = true) (hy : OpdOk e y (byteAV p)) (hk : k = .i64 ∨ k = .u64 ∨ k = .i32 ∨ k = .u32 ∨ k = .u16 ∨ k = .i16) : QEx P o e [] (.v (.int k (p.toNat : Int))) := by
  have := QEx.convI (P := P) ho hd hs hy
  rw [wrap_small hk] at this; exact this
theorem QEx.eqlS (ho : o.op = .binOp .eql t y z yt) (hy : OpdOk e y (sAV s)) (hz : OpdOk e z (sAV r)) : QEx P o e [] (bAV (s == r)) := by
  rw [← str_beq]; exact QEx.binS ho hy hz rfl
theorem QEx.neqS (ho : o.op = .binOp .neq t y z yt) (hy : OpdOk e y (sAV s)) (hz : OpdOk e z (sAV r)) : QEx P o e [] (bAV (s != r)) := by
  show QEx P o e [] (bAV (!(s == r))); rw [← str_beq]; exact QEx.binS ho hy hz rfl
theorem QEx.lssS (ho : o.op = .binOp .lss t y z yt) (hy : OpdOk e y (sAV s)) (hz : OpdOk e z (sAV r)) : QEx P o e [] (bAV (strLess s r)) := by
  have : strLess s r = Op.bytesLess (ByteArray.mk s.toArray).toList (ByteArray.mk r.toArray).toList := by rw [ByteArray.toList_mk, ByteArray.toList_mk]; rfl
  rw [this]; exact QEx.binS ho hy hz rfl
theorem QEx.addS (ho : o.op = .binOp .add t y z yt) (hy : OpdOk e y (sAV s)) (hz : OpdOk e z (sAV r)) (h : s.length + r.length ≤ 9223372036854775807) : QEx P o e [] (sAV (s ++ r)) := by
  have := QEx.catS (P := P) ho hy hz (by simpa [ByteArray.size] using h)
  rw [str_app] at this; exact this
theorem QEx.lenStr {y t} (ho : o.op = .call { callee := .builtin .len, args := #[y], argTypes := #[t] }) (ht : P.underlying t = some .string) (hy : OpdOk e y (sAV s)) : QEx P o e [] (nAV s.length) := by
  have := QEx.lenS (P := P) ho ht hy
  have e : (ByteArray.mk s.toArray).size = s.length := by simp [ByteArray.size]
  rw [e] at this; exact this
theorem QEx.idxS {t y z k i} (ho : o.op = .index t y z) (ht : P.underlying t = some .string) (hy : OpdOk e y (sAV s)) (hz : OpdOk e z ((.v (.int k i)))) (h : 0 ≤ i ∧ i < s.length) : QEx P o e [] (byteAV (ix s i)) :=
  .pure fun _ _ _ m bl ac w hws _ hr => by
    have h1 := (hy.rep hr (by simp [ho, Op.operands])).eq_v
    have h2 := (hz.rep hr (by simp [ho, Op.operands])).eq_v
    refine ⟨.int .u8 (ix s i).toNat, ?_, .v⟩
    have hlt : i.toNat < s.length := by omega
    have hb : (⟨s.toArray⟩ : ByteArray)[i.toNat]? = some (ix s i) := by
      have hlt2 : i.toNat < (⟨s.toArray⟩ : ByteArray).size := by simpa [ByteArray.size] using hlt
      rw [getElem?_pos (⟨s.toArray⟩ : ByteArray) i.toNat hlt2]
      simp only [ix, List.getD, List.getElem?_eq_getElem hlt, Option.getD_some, Option.some.injEq]
      rfl
    simp [execOp, ho, h1, h2, Instr.index, asIntOf, run_underlying_of ht, h.1, hb]

theorem QEx.slStr {t y lo hi a b} (ho : o.op = .slice t y lo hi none) (ht : P.underlying t = some .string) (hy : OpdOk e y (sAV s))
    (hlo : BoundOk e lo 0 a) (hhi : BoundOk e hi s.length b) (hab : a ≤ b ∧ b ≤ s.length) : QEx P o e [] (sAV ((s.drop a).take (b - a))) :=
  .pure fun _ _ _ m bl ac w hws _ hr => by
    have h1 := (hy.rep hr (by simp [ho, Op.operands])).eq_v
    have hsz : (⟨s.toArray⟩ : ByteArray).size = s.length := by simp [ByteArray.size]
    have e1 : (Instr.sliceBounds false s.length s.length (lo.map ac.eval) (hi.map ac.eval) none).run P w = .ok (a, b, s.length) w := by
      cases hlo with
      | none =>
        cases hhi with
        | none => simp [Instr.sliceBounds]
        | some h2 h3 =>
          have := (h2.rep hr (by simp [ho, Op.operands])).eq_v
          rename_i k i
          have hi' : i ≤ (s.length : Int) := by omega
          simp [Instr.sliceBounds, this, Instr.sliceBound, asIntOf, h3, hi']
      | some g2 g3 =>
        have hg := (g2.rep hr (by simp [ho, Op.operands])).eq_v
        rename_i gk gi
        cases hhi with
        | none =>
          have hi' : gi ≤ (s.length : Int) := by omega
          simp [Instr.sliceBounds, hg, Instr.sliceBound, asIntOf, g3, hi']
        | some h2 h3 =>
          have := (h2.rep hr (by simp [ho, Op.operands])).eq_v
          rename_i k i
          have hi' : i ≤ (s.length : Int) := by omega
          have hg' : gi ≤ i := by omega
          have hm : max i 0 = i := by omega
          simp [Instr.sliceBounds, this, hg, Instr.sliceBound, asIntOf, h3, hi', g3, hg', hm]
    refine ⟨.string ⟨((s.drop a).take (b - a)).toArray⟩, ?_, .v⟩
    rw [← str_extract]
    simp only [execOp, ho, h1, Instr.sliceAt, Sem.run_bind, run_underlying_of ht, Result.andThen_ok, Instr.slice, Option.map_none, hsz, e1, Sem.run_pure, Option.isSome_none, Bool.false_eq_true, if_false]
end
end Go.Rx
