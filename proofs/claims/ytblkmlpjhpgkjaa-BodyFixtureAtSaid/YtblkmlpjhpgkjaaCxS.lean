/-
  The operations on values of Go's own kinds: integers, bytes, bools, strings, slices, structs. Conditions: those named in each rule.
-/
import Derived.Test.YtblkmlpjhpgkjaaCxO
import Derived.Laws.StructEq
set_option linter.all false
namespace Go.Cx
open Go.RowKit

def kAV (k : IntKind) (n : Int) : AV := .v (.int k n)
def boolAV (b : Bool) : AV := .v (.bool b)
def strAV (s : List UInt8) : AV := .v (.string ⟨s.toArray⟩)
def slAV {α : Type} (sz : Nat) (E : α → AV) (l : List α) : AV := .sl none sz (l.map E)
def slT {α : Type} (d j sz : Nat) (E : α → AV) (l : List α) : AV := .sl (some (d, j)) sz (l.map E)
abbrev iAV (n : Int) : AV := kAV .i64 n
abbrev w64 (n : Int) : Int := IntKind.i64.wrap n
def ix {α : Type} [Inhabited α] (l : List α) (i : Int) : α := l.getD i.toNat default
def toByte (n : Int) : UInt8 := UInt8.ofNat (n % 256).toNat

theorem toByte_nat (n : Int) : ((toByte n).toNat : Int) = n % 256 := by
  unfold toByte
  have h : (UInt8.ofNat (n % 256).toNat).toNat = (n % 256).toNat % 256 := UInt8.toNat_ofNat'
  rw [h]; omega

section
variable {P : Program} {o : Oper} {e : Env}

theorem OpdOk.cb {ty : TypeId} {n : Int} (c : UInt8) (h : (c.toNat : Int) = n) : OpdOk P e ty (.const (.int .u8 n)) (byteAV c) := by subst h; exact .con
theorem OpdOk.cs {ty : TypeId} {b : ByteArray} (s : List UInt8) (h : b = ⟨s.toArray⟩) : OpdOk P e ty (.const (.string b)) (strAV s) := by subst h; exact .con

variable {t yt : TypeId} {y z : Operand} {k : IntKind} {a b : Int}
theorem QEx.addK (ho : o.op = .binOp .add t y z yt) (hy : OpdOk P e t y (kAV k a)) (hz : OpdOk P e yt z (kAV k b)) : QEx P o e [] false (kAV k (k.wrap (a + b))) := QEx.binI ho hy hz rfl
theorem QEx.subK (ho : o.op = .binOp .sub t y z yt) (hy : OpdOk P e t y (kAV k a)) (hz : OpdOk P e yt z (kAV k b)) : QEx P o e [] false (kAV k (k.wrap (a - b))) := QEx.binI ho hy hz rfl
theorem QEx.mulK (ho : o.op = .binOp .mul t y z yt) (hy : OpdOk P e t y (kAV k a)) (hz : OpdOk P e yt z (kAV k b)) : QEx P o e [] false (kAV k (k.wrap (a * b))) := QEx.binI ho hy hz rfl
def bAnd (k : IntKind) (a b : Int) : Int := k.wrap (BitVec.ofInt k.bits a &&& BitVec.ofInt k.bits b).toNat
def bOr (k : IntKind) (a b : Int) : Int := k.wrap (BitVec.ofInt k.bits a ||| BitVec.ofInt k.bits b).toNat
def bXor (k : IntKind) (a b : Int) : Int := k.wrap (BitVec.ofInt k.bits a ^^^ BitVec.ofInt k.bits b).toNat
def bShl (k : IntKind) (a b : Int) : Int := k.wrap (a * 2 ^ (min b.toNat k.bits))
def bShr (k : IntKind) (a b : Int) : Int := a.fdiv (2 ^ (min b.toNat k.bits))
theorem QEx.andK (ho : o.op = .binOp .and t y z yt) (hy : OpdOk P e t y (kAV k a)) (hz : OpdOk P e yt z (kAV k b)) : QEx P o e [] false (kAV k (bAnd k a b)) := QEx.binI ho hy hz rfl
theorem QEx.orK (ho : o.op = .binOp .or t y z yt) (hy : OpdOk P e t y (kAV k a)) (hz : OpdOk P e yt z (kAV k b)) : QEx P o e [] false (kAV k (bOr k a b)) := QEx.binI ho hy hz rfl
theorem QEx.xorK (ho : o.op = .binOp .xor t y z yt) (hy : OpdOk P e t y (kAV k a)) (hz : OpdOk P e yt z (kAV k b)) : QEx P o e [] false (kAV k (bXor k a b)) := QEx.binI ho hy hz rfl
theorem QEx.shlK {k'} (ho : o.op = .binOp .shl t y z yt) (hy : OpdOk P e t y (kAV k a)) (hz : OpdOk P e yt z (kAV k' b)) (h : 0 ≤ b) : QEx P o e [] false (kAV k (bShl k a b)) := QEx.shl ho hy hz h
theorem QEx.shrK {k'} (ho : o.op = .binOp .shr t y z yt) (hy : OpdOk P e t y (kAV k a)) (hz : OpdOk P e yt z (kAV k' b)) (h : 0 ≤ b) : QEx P o e [] false (kAV k (bShr k a b)) := QEx.shr ho hy hz h
theorem QEx.quoK (ho : o.op = .binOp .quo t y z yt) (hy : OpdOk P e t y (kAV k a)) (hz : OpdOk P e yt z (kAV k b)) (h : b ≠ 0) : QEx P o e [] false (kAV k (k.wrap (a.tdiv b))) := QEx.quo ho hy hz h
theorem QEx.remK (ho : o.op = .binOp .rem t y z yt) (hy : OpdOk P e t y (kAV k a)) (hz : OpdOk P e yt z (kAV k b)) (h : b ≠ 0) : QEx P o e [] false (kAV k (a.tmod b)) := QEx.rem ho hy hz h
theorem QEx.eqlK (ho : o.op = .binOp .eql t y z yt) (hy : OpdOk P e t y (kAV k a)) (hz : OpdOk P e yt z (kAV k b)) : QEx P o e [] false (boolAV (a == b)) := QEx.binI ho hy hz rfl
theorem QEx.neqK (ho : o.op = .binOp .neq t y z yt) (hy : OpdOk P e t y (kAV k a)) (hz : OpdOk P e yt z (kAV k b)) : QEx P o e [] false (boolAV (a != b)) := QEx.binI ho hy hz rfl
theorem QEx.lssK (ho : o.op = .binOp .lss t y z yt) (hy : OpdOk P e t y (kAV k a)) (hz : OpdOk P e yt z (kAV k b)) : QEx P o e [] false (boolAV (decide (a < b))) := QEx.binI ho hy hz rfl
theorem QEx.leqK (ho : o.op = .binOp .leq t y z yt) (hy : OpdOk P e t y (kAV k a)) (hz : OpdOk P e yt z (kAV k b)) : QEx P o e [] false (boolAV (decide (a ≤ b))) := QEx.binI ho hy hz rfl
theorem QEx.gtrK (ho : o.op = .binOp .gtr t y z yt) (hy : OpdOk P e t y (kAV k a)) (hz : OpdOk P e yt z (kAV k b)) : QEx P o e [] false (boolAV (decide (b < a))) := QEx.binI ho hy hz rfl
theorem QEx.geqK (ho : o.op = .binOp .geq t y z yt) (hy : OpdOk P e t y (kAV k a)) (hz : OpdOk P e yt z (kAV k b)) : QEx P o e [] false (boolAV (decide (b ≤ a))) := QEx.binI ho hy hz rfl
theorem QEx.negK (ho : o.op = .unOp .neg t y) (hy : OpdOk P e 0 y (kAV k a)) : QEx P o e [] false (kAV k (k.wrap (0 - a))) := QEx.neg ho hy
theorem QEx.notK {b : Bool} (ho : o.op = .unOp .not t y) (hy : OpdOk P e 0 y (boolAV b)) : QEx P o e [] false (boolAV (!b)) := QEx.not ho hy
theorem QEx.pickK {c y z : Operand} {t s r : Bool} (ho : o.op = .pick c y z) (hc : OpdOk P e o.type c (boolAV t)) (hy : t = true → OpdOk P e o.type y (boolAV s))
    (hz : t = false → OpdOk P e o.type z (boolAV r)) : QEx P o e [] false (boolAV (cond t s r)) := QEx.pick ho hc hy hz
theorem QEx.eqlB {p q : Bool} (ho : o.op = .binOp .eql t y z yt) (hy : OpdOk P e t y (boolAV p)) (hz : OpdOk P e yt z (boolAV q)) (ht : P.underlying t = some .bool) : QEx P o e [] false (boolAV (p == q)) := QEx.binB ho hy hz rfl ht
theorem QEx.neqB {p q : Bool} (ho : o.op = .binOp .neq t y z yt) (hy : OpdOk P e t y (boolAV p)) (hz : OpdOk P e yt z (boolAV q)) (ht : P.underlying t = some .bool) : QEx P o e [] false (boolAV (p != q)) := QEx.binB ho hy hz rfl ht

/-! bytes -/
theorem byte_eq (p q : UInt8) : ((p.toNat : Int) == (q.toNat : Int)) = (p == q) := by
  rw [Bool.eq_iff_iff]; simp [← UInt8.toNat_inj]; omega
variable {p q : UInt8}
theorem QEx.eqlC (ho : o.op = .binOp .eql t y z yt) (hy : OpdOk P e t y (byteAV p)) (hz : OpdOk P e yt z (byteAV q)) : QEx P o e [] false (boolAV (p == q)) := by
  rw [← byte_eq]; exact QEx.binI ho hy hz rfl
theorem QEx.neqC (ho : o.op = .binOp .neq t y z yt) (hy : OpdOk P e t y (byteAV p)) (hz : OpdOk P e yt z (byteAV q)) : QEx P o e [] false (boolAV (p != q)) := by
  show QEx P o e [] false (boolAV (!(p == q))); rw [← byte_eq]; exact QEx.binI ho hy hz rfl
theorem byte_lt' (p q : UInt8) : decide ((p.toNat : Int) < (q.toNat : Int)) = decide (p < q) := by
  rw [Bool.eq_iff_iff]; simp [UInt8.lt_iff_toNat_lt]
theorem byte_le' (p q : UInt8) : decide ((p.toNat : Int) ≤ (q.toNat : Int)) = decide (p ≤ q) := by
  rw [Bool.eq_iff_iff]; simp [UInt8.le_iff_toNat_le]
theorem QEx.lssC (ho : o.op = .binOp .lss t y z yt) (hy : OpdOk P e t y (byteAV p)) (hz : OpdOk P e yt z (byteAV q)) : QEx P o e [] false (boolAV (decide (p < q))) := by
  rw [← byte_lt']; exact QEx.binI ho hy hz rfl
theorem QEx.leqC (ho : o.op = .binOp .leq t y z yt) (hy : OpdOk P e t y (byteAV p)) (hz : OpdOk P e yt z (byteAV q)) : QEx P o e [] false (boolAV (decide (p ≤ q))) := by
  rw [← byte_le']; exact QEx.binI ho hy hz rfl
theorem QEx.gtrC (ho : o.op = .binOp .gtr t y z yt) (hy : OpdOk P e t y (byteAV p)) (hz : OpdOk P e yt z (byteAV q)) : QEx P o e [] false (boolAV (decide (q < p))) := by
  rw [← byte_lt']; exact QEx.binI ho hy hz rfl
theorem QEx.geqC (ho : o.op = .binOp .geq t y z yt) (hy : OpdOk P e t y (byteAV p)) (hz : OpdOk P e yt z (byteAV q)) : QEx P o e [] false (boolAV (decide (q ≤ p))) := by
  rw [← byte_le']; exact QEx.binI ho hy hz rfl
theorem byteAV_wrap {c : UInt8} {n : Int} (h : (c.toNat : Int) = n % 256) : byteAV c = .v (.int .u8 (IntKind.u8.wrap n)) := by
  rw [wrap_u8, ← h]; rfl
theorem QEx.addC (ho : o.op = .binOp .add t y z yt) (hy : OpdOk P e t y (byteAV p)) (hz : OpdOk P e yt z (byteAV q)) : QEx P o e [] false (byteAV (p + q)) := by
  rw [byteAV_wrap (n := (p.toNat : Int) + q.toNat) (by rw [UInt8.toNat_add]; omega)]; exact QEx.binI ho hy hz rfl
theorem QEx.subC (ho : o.op = .binOp .sub t y z yt) (hy : OpdOk P e t y (byteAV p)) (hz : OpdOk P e yt z (byteAV q)) : QEx P o e [] false (byteAV (p - q)) := by
  rw [byteAV_wrap (n := (p.toNat : Int) - q.toNat) (by rw [UInt8.toNat_sub]; have := p.toNat_lt; have := q.toNat_lt; omega)]; exact QEx.binI ho hy hz rfl
theorem QEx.remC (ho : o.op = .binOp .rem t y z yt) (hy : OpdOk P e t y (byteAV p)) (hz : OpdOk P e yt z (byteAV q)) (h : q ≠ 0) : QEx P o e [] false (byteAV (p % q)) := by
  have hq : (q.toNat : Int) ≠ 0 := by
    intro h'; apply h; exact UInt8.toNat_inj.1 (by simpa using h')
  have := QEx.rem ho hy hz hq
  have e : ((p.toNat : Int)).tmod (q.toNat : Int) = ((p % q).toNat : Int) := by rw [UInt8.toNat_mod]; exact (Int.ofNat_tmod _ _).symm
  rw [e] at this; exact this

/-! conversions -/
theorem QEx.cvKK {s d y k k' n} (ho : o.op = .convert s d y) (hd : P.underlying d = some (.int k)) (hs : (P.underlying s).isSome = true) (hy : OpdOk P e s y (kAV k' n)) : QEx P o e [] false (kAV k (k.wrap n)) := QEx.convI ho hd hs hy
theorem QEx.cvKC {s d y k' n} (ho : o.op = .convert s d y) (hd : P.underlying d = some (.int .u8)) (hs : (P.underlying s).isSome = true) (hy : OpdOk P e s y (kAV k' n)) : QEx P o e [] false (byteAV (toByte n)) := by
  rw [byteAV_wrap (toByte_nat n)]; exact QEx.convI ho hd hs hy
theorem wrap_small {k : IntKind} (hk : k = .i64 ∨ k = .u64 ∨ k = .i32 ∨ k = .u32 ∨ k = .u16 ∨ k = .i16) (c : UInt8) : k.wrap (c.toNat : Int) = c.toNat := by
  have := c.toNat_lt
  rcases hk with rfl | rfl | rfl | rfl | rfl | rfl <;> simp [IntKind.wrap, IntKind.bits, IntKind.signed] <;> omega
theorem QEx.cvCK {s d y k} (ho : o.op = .convert s d y) (hd : P.underlying d = some (.int k)) (hs : (P.underlying s).isSome = true) (hy : OpdOk P e s y (byteAV p)) (hk : k = .i64 ∨ k = .u64 ∨ k = .i32 ∨ k = .u32 ∨ k = .u16 ∨ k = .i16) : QEx P o e [] false (kAV k (p.toNat : Int)) := by
  have := QEx.convI ho hd hs hy
  rw [wrap_small hk] at this; exact this
theorem QEx.maxK {x y ts a b} (ho : o.op = .call { callee := .builtin .max, args := #[x, y], argTypes := ts }) (hx : OpdOk P e 0 x (kAV k a)) (hy : OpdOk P e 0 y (kAV k b)) : QEx P o e [] false (kAV k (max a b)) := QEx.max2 ho hx hy
theorem QEx.minK {x y ts a b} (ho : o.op = .call { callee := .builtin .min, args := #[x, y], argTypes := ts }) (hx : OpdOk P e 0 x (kAV k a)) (hy : OpdOk P e 0 y (kAV k b)) : QEx P o e [] false (kAV k (min a b)) := QEx.min2 ho hx hy

/-! strings -/
variable {s r : List UInt8}
theorem str_beq (a b : List UInt8) : ((ByteArray.mk a.toArray).toList == (ByteArray.mk b.toArray).toList) = (a == b) := by rw [ByteArray.toList_mk, ByteArray.toList_mk]
theorem QEx.eqlS (ho : o.op = .binOp .eql t y z yt) (hy : OpdOk P e t y (strAV s)) (hz : OpdOk P e yt z (strAV r)) : QEx P o e [] false (boolAV (s == r)) := by
  rw [← str_beq]; exact QEx.binS ho hy hz rfl
theorem QEx.neqS (ho : o.op = .binOp .neq t y z yt) (hy : OpdOk P e t y (strAV s)) (hz : OpdOk P e yt z (strAV r)) : QEx P o e [] false (boolAV (s != r)) := by
  show QEx P o e [] false (boolAV (!(s == r))); rw [← str_beq]; exact QEx.binS ho hy hz rfl
def strLess (a b : List UInt8) : Bool := Op.bytesLess a b
theorem QEx.lssS (ho : o.op = .binOp .lss t y z yt) (hy : OpdOk P e t y (strAV s)) (hz : OpdOk P e yt z (strAV r)) : QEx P o e [] false (boolAV (strLess s r)) := by
  have : strLess s r = Op.bytesLess (ByteArray.mk s.toArray).toList (ByteArray.mk r.toArray).toList := by rw [ByteArray.toList_mk, ByteArray.toList_mk]; rfl
  rw [this]; exact QEx.binS ho hy hz rfl
theorem str_app (a b : List UInt8) : (⟨a.toArray⟩ : ByteArray) ++ ⟨b.toArray⟩ = ⟨(a ++ b).toArray⟩ := by
  apply ByteArray.ext
  simp
theorem QEx.addS (ho : o.op = .binOp .add t y z yt) (hy : OpdOk P e t y (strAV s)) (hz : OpdOk P e yt z (strAV r)) (h : s.length + r.length ≤ 9223372036854775807) : QEx P o e [] false (strAV (s ++ r)) := by
  have := QEx.catS ho hy hz (by simpa [ByteArray.size] using h)
  rw [str_app] at this; exact this
theorem QEx.lenStr {y t} (ho : o.op = .call { callee := .builtin .len, args := #[y], argTypes := #[t] }) (ht : P.underlying t = some .string) (hy : OpdOk P e t y (strAV s)) : QEx P o e [] false (iAV s.length) := by
  have := QEx.lenS ho ht hy
  have e : (ByteArray.mk s.toArray).size = s.length := by simp [ByteArray.size]
  rw [e] at this; exact this
theorem QEx.idxS {t y z k i} (ho : o.op = .index t y z) (ht : P.underlying t = some .string) (hy : OpdOk P e t y (strAV s)) (hz : OpdOk P e 0 z (kAV k i)) (h : 0 ≤ i ∧ i < s.length) : QEx P o e [] false (byteAV (ix s i)) :=
  .pure fun _ _ _ m bl hh ac w hws _ hr => by
    have h1 := (hy.rep hr (by simp [ho, Op.operands])).eq_v
    have h2 := (hz.rep hr (by simp [ho, Op.operands])).eq_v
    refine ⟨.int .u8 (ix s i).toNat, ?_, .v⟩
    have hlt : i.toNat < s.length := by omega
    have hb : (⟨s.toArray⟩ : ByteArray)[i.toNat]? = some (ix s i) := by
      have hlt2 : i.toNat < (⟨s.toArray⟩ : ByteArray).size := by simpa [ByteArray.size] using hlt
      rw [getElem?_pos (⟨s.toArray⟩ : ByteArray) i.toNat hlt2]
      simp only [ix, List.getD, List.getElem?_eq_getElem hlt, Option.getD_some, Option.some.injEq]
      rfl
    simp [execOp, ho, h1, h2, Instr.index, asIntOf, run_underlying_of ht, h.1, hb]

/-! slices -/
variable {α : Type} {E : α → AV} {l : List α} {tk : Option Tok} {sz : Nat}
theorem QEx.lenL {y t} (ho : o.op = .call { callee := .builtin .len, args := #[y], argTypes := #[t] }) (ht : ∃ E, P.underlying t = some (.slice E)) (hy : OpdOk P e t y (.sl tk sz (l.map E))) :
    QEx P o e [] false (iAV l.length) := QEx.lenM ho ht hy
theorem ix_map [Inhabited α] {i : Int} (h : 0 ≤ i ∧ i < l.length) : (l.map E)[i.toNat]? = some (E (ix l i)) := by
  have hi : i.toNat < l.length := by omega
  rw [List.getElem?_map, List.getElem?_eq_getElem hi]
  simp [ix, List.getD, List.getElem?_eq_getElem hi]
theorem QEx.idxL [Inhabited α] {t y z T by_ k i} (ho : o.op = .indexAddr t y z) (ht : ElemT P t T sz by_) (hy : OpdOk P e t y (.sl tk sz (l.map E))) (hz : OpdOk P e 0 z (kAV k i)) (h : 0 ≤ i ∧ i < l.length) :
    QEx P o e [] false (.cptr (E (ix l i)).cells) := QEx.indexAddr ho ht.under ht.sz ht.pos hy hz h.1 (ix_map h)
theorem QEx.slFrom {t y lo T by_ k a} (ho : o.op = .slice t y (some lo) none none) (ht : ElemT P t T sz by_) (hy : OpdOk P e t y (.sl tk sz (l.map E)))
    (hlo : OpdOk P e 0 lo (kAV k a)) (h : 0 ≤ a ∧ a ≤ l.length) : QEx P o e [] false (slAV sz E (l.drop a.toNat)) := QEx.sliceFrom ho ht hy hlo h.1 h.2
theorem QEx.slTo {t y hi T by_ k b} (ho : o.op = .slice t y none (some hi) none) (ht : ElemT P t T sz by_) (hy : OpdOk P e t y (.sl tk sz (l.map E)))
    (hhi : OpdOk P e 0 hi (kAV k b)) (h : 0 ≤ b ∧ b ≤ l.length) : QEx P o e [] false (slAV sz E (l.take b.toNat)) := QEx.sliceTo ho ht hy hhi h.1 h.2
theorem QEx.slMid {t y lo hi T by_ k k' a b} (ho : o.op = .slice t y (some lo) (some hi) none) (ht : ElemT P t T sz by_) (hy : OpdOk P e t y (.sl tk sz (l.map E)))
    (hlo : OpdOk P e 0 lo (kAV k a)) (hhi : OpdOk P e 0 hi (kAV k' b)) (h : 0 ≤ a ∧ a ≤ b ∧ b ≤ l.length) : QEx P o e [] false (slAV sz E ((l.drop a.toNat).take (b.toNat - a.toNat))) := QEx.sliceMid ho ht hy hlo hhi h.1 h.2.1 h.2.2
theorem QEx.slAll {t y T by_} (ho : o.op = .slice t y none none none) (ht : ElemT P t T sz by_) (hy : OpdOk P e t y (.sl tk sz (l.map E))) : QEx P o e [] false (slAV sz E l) := by
  have := QEx.slice ho ht hy .none .none (Nat.zero_le _) (Nat.le_refl _)
  have e : ((l.map E).drop 0).take ((l.map E).length - 0) = l.map E := by rw [List.drop_zero, Nat.sub_zero, List.take_length]
  rw [e] at this; exact this
/-- s[:n:n], n the length. -/
theorem QEx.sl3 {t y hi mx T by_ k k' d} (ho : o.op = .slice t y none (some hi) (some mx)) (ht : ElemT P t T sz by_) (hy : OpdOk P e t y (.sl tk sz (l.map E)))
    (hhi : OpdOk P e 0 hi (kAV k l.length)) (hmx : OpdOk P e 0 mx (kAV k' l.length)) : QEx P o e [] false (slT d 0 sz E l) :=
  QEx.slice3 ho ht hy (by rw [List.length_map]; exact hhi) (by rw [List.length_map]; exact hmx)
theorem QEx.strOf {d y t T tk} {bs : List UInt8} (ho : o.op = .convert t d y) (hs : P.underlying t = some (.slice T)) (hE : P.underlying T = some (.int .u8)) (hd : P.underlying d = some .string)
    (hy : OpdOk P e t y (.sl tk 1 (bs.map byteAV))) : QEx P o e [] false (strAV bs) := QEx.bytesStr ho hs hE hd hy rfl
theorem QEx.bytesOf {d y t T} (ho : o.op = .convert t d y) (hs : P.underlying t = some .string) (hd : P.underlying d = some (.slice T)) (hE : P.underlying T = some (.int .u8)) (hy : OpdOk P e t y (strAV s)) :
    QEx P o e [] false (slAV 1 byteAV s) := QEx.strBytes ho hs hd hE hy

/-! memory -/
theorem QEx.ldC {t y c x b n} (ho : o.op = .load t y) (ha : tAg P t = some b) (hs : tSz P t = some n) (hy : OpdOk P e 0 y (.cptr c)) (hc : (b = true ∧ x = .agg c ∧ c.length = n) ∨ (b = false ∧ c = [x])) : QEx P o e [] false x := by
  rcases hc with ⟨rfl, rfl, hc⟩ | ⟨rfl, rfl⟩
  · exact QEx.loadAgg ho ha (by rw [hs, hc]) hy
  · exact QEx.load1 ho ha hy

/-- A zero's cells. -/
inductive Zs : List AV → List Value → Prop
  | nil : Zs [] []
  | v {x l vs} : Zs l vs → Zs (.v x :: l) (x :: vs)
  | s {tk sz l vs} : Zs l vs → Zs (.sl tk sz [] :: l) (.slice none 0 0 :: vs)
theorem Zs.reps {m bl hh} : ∀ {l vs}, Zs l vs → Reps m bl hh l vs
  | _, _, .nil => .nil
  | _, _, .v h => .cons .v h.reps
  | _, _, .s h => .cons .slnil h.reps
def ZeroT (P : Program) (t : TypeId) (Z : List AV) : Prop := ∃ zs, tZero P t = some zs ∧ Zs Z zs ∧ zs.all oneCell = true

theorem AEx.alZ {L : LS} {T d f' Z} (ho : o.op = .alloc T) (hz : ZeroT P T Z) (hd : o.dst = some d) (hf : takeOut d L.f = some f') : AEx P o L ⟨(d, .ptr d 0) :: L.e, (d, .cells Z) :: L.h, f'⟩ := by
  obtain ⟨zs, hz1, hz2, h1⟩ := hz
  refine .newOwn hd (takeOut_spec hf) fun m bl hh a w _ => ?_
  obtain ⟨z, q1, q2⟩ := run_zero_of hz1 w
  refine ⟨z.cells, T, ?_, by rw [q2]; exact hz2.reps, by rw [q2]; simpa using h1⟩
  simp [execOp, ho, Instr.alloc, q1, newVar, newRow]

theorem QEx.buildZ {t ps fs Z0 Z} (ho : o.op = .build t ps) (hT : P.underlying t = some (.struct fs)) (hz : ZeroT P t Z0)
    (hf : fs.toList.all (fun f => (tSz P f.type).isSome) = true) (h : FillOk P e (fieldPl P fs) ps.toList Z0 Z) : QEx P o e [] false (.agg Z) :=
  .pure fun _ _ _ m bl hh a w hws _ hr => by
    obtain ⟨zs, hz0, hzs, h1⟩ := hz
    obtain ⟨z, hz1, hz2⟩ := run_zero_of hz0 w
    obtain ⟨cells', k1, k2, k3⟩ := h.run (o := o) hr (fun p hp => by rw [ho]; simp only [Op.operands]; simp; exact ⟨p.1, by simpa using hp⟩) z.cells
      (by rw [hz2]; exact hzs.reps) (by rw [hz2]; simpa using h1)
    refine ⟨.agg cells', ?_, by have := Rep.agg k2 k3; simpa using this⟩
    have hm : (fs.mapM fun f => (do Pure.pure (f.offset, ← sizeOf f.type) : Sem (Nat × Nat))).run P w = .ok (fs.map fun f => (f.offset, (tSz P f.type).getD 0)) w := by
      rw [Array.mapM_eq_mapM_toList, Sem.run_map, run_fields w fs.toList (fun f hf' => List.all_eq_true.1 hf f hf')]
      simp only [Result.andThen_ok]
      congr 1
      exact Array.ext' (by rw [Array.toList_map])
    have hpl : (fun i => (fs.map fun f => (f.offset, (tSz P f.type).getD 0))[i]?) = fieldPl P fs := by
      funext i; simp [fieldPl]
    have k1' : Instr.fill (fun i => (fs.map fun f => (f.offset, (tSz P f.type).getD 0))[i]?) z.cells (ps.map fun (i, x) => (i, a.eval x)).toList = some cells' := by
      rw [hpl]; simpa using k1
    simp only [execOp, ho, Instr.build, Sem.run_bind, hz1, Result.andThen_ok, run_underlying_of hT, hm, k1', Sem.run_pure]

theorem QEx.nilC {y c} (ho : o.op = .nilCheck y) (hy : OpdOk P e 0 y (.cptr c)) : QEx P o e [] false .undef :=
  .pure fun _ _ _ m bl hh ac w hws _ hr => by
    have h1 := hy.rep hr (by simp [ho, Op.operands])
    generalize hv : ac.eval y = v at h1
    cases h1 with
    | cptr => exact ⟨_, by simp [execOp, ho, hv]; rfl, .undef⟩
theorem QEx.nilP {y id off} (ho : o.op = .nilCheck y) (hy : OpdOk P e 0 y (.ptr id off)) : QEx P o e [] false (.ptr id off) :=
  .pure fun _ _ _ m bl hh ac w hws _ hr => by
    have h1 := hy.rep hr (by simp [ho, Op.operands])
    generalize hv : ac.eval y = v at h1
    cases h1 with
    | ptr hb => exact ⟨_, by simp [execOp, ho, hv], .ptr hb⟩
end
end Go.Cx
