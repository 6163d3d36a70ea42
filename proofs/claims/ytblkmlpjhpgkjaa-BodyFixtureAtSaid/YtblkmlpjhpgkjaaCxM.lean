/-
  Loops as the walks use them; integer arithmetic that stays in range; elements of lists of bytes and integers. Conditions: those named in each rule.
-/
import Derived.Test.YtblkmlpjhpgkjaaCxL
set_option linter.all false
namespace Go.Cx
open Go.RowKit

def keepH (h : Hp) : List Nat → Hp
  | [] => []
  | t :: ts => match find t h with
    | some y => (t, y) :: keepH h ts
    | none => keepH h ts

/-- A loop: 'mod' are the slots that a round turns and that are read again, 'ks' the slots that stay. -/
theorem Wp.loopK {P N c Q} {e : Env} {h : Hp} {f : List Nat} {S : Type} (mod : S → Env) (ks : List Nat) (modh : S → Hp) (hs : List Nat) (f' : List Nat) (inv : S → Prop) (μ : S → Nat) (ds : List Nat) (x0 : S) (h0 : inv x0)
    (hl : LS.back ds ⟨mod x0 ++ reOf e ks, modh x0 ++ keepH h hs, f'⟩ ⟨e, h, f⟩)
    (round : ∀ x, inv x → Wp P N c (AExit.then (fun L' => ∃ x', inv x' ∧ μ x' < μ x ∧ LS.back ds ⟨mod x' ++ reOf e ks, modh x' ++ keepH h hs, f'⟩ L') Q) ⟨mod x ++ reOf e ks, modh x ++ keepH h hs, f'⟩) :
    Wp P N (.loop c) Q ⟨e, h, f⟩ :=
  Wp.loop (fun x => ⟨mod x ++ reOf e ks, modh x ++ keepH h hs, f'⟩) inv μ ds x0 h0 hl round

theorem Sub.eq {x y : AV} (h : x = y) : Sub x y := h ▸ .same

theorem wrap_in (n : Int) (h1 : -9223372036854775808 ≤ n) (h2 : n ≤ 9223372036854775807) : IntKind.i64.wrap n = n := by
  simp [IntKind.wrap, IntKind.bits, IntKind.signed]; omega
theorem wrap_u64 (n : Int) : IntKind.u64.wrap n = n % 18446744073709551616 := by simp [IntKind.wrap, IntKind.bits, IntKind.signed]
theorem wrap_u8 (n : Int) : IntKind.u8.wrap n = n % 256 := by simp [IntKind.wrap, IntKind.bits, IntKind.signed]

theorem wrap_lo (n : Int) : -9223372036854775808 ≤ IntKind.i64.wrap n := by simp [IntKind.wrap, IntKind.bits, IntKind.signed]; omega
theorem wrap_hi (n : Int) : IntKind.i64.wrap n ≤ 9223372036854775807 := by simp [IntKind.wrap, IntKind.bits, IntKind.signed]; omega
theorem byte_lt (l : List UInt8) (n : Nat) : ((l.getD n 0).toNat : Int) < 256 := by have := UInt8.toNat_lt (l.getD n 0); omega

section
variable {P : Program} {o : Oper} {e : Env}

theorem QEx.binB {op t y z yt a b v} (ho : o.op = .binOp op t y z yt) (hy : OpdOk P e t y (.v (.bool a))) (hz : OpdOk P e yt z (.v (.bool b))) (hv : Cx.binB op a b = some v) (ht : P.underlying t = some .bool) :
    QEx P o e [] false (.v v) :=
  .pure fun _ _ _ _ _ _ ac w _ _ hr => by
    have h1 := (hy.rep hr (by simp [ho, Op.operands])).eq_v
    have h2 := (hz.rep hr (by simp [ho, Op.operands])).eq_v
    refine ⟨v, ?_, .v⟩
    cases op <;> simp only [Cx.binB, Option.some.injEq, reduceCtorEq] at hv <;> subst hv <;>
      simp [execOp, ho, h1, h2, run_eqGuard_bool, binOp, run_equal_bool, ht] <;> cases a <;> cases b <;> rfl

theorem QEx.addN {t y z yt a b} (ho : o.op = .binOp .add t y z yt) (hy : OpdOk P e t y (.v (.int .i64 a))) (hz : OpdOk P e yt z (.v (.int .i64 b))) (h : -9223372036854775808 ≤ a + b ∧ a + b ≤ 9223372036854775807) :
    QEx P o e [] false (.v (.int .i64 (a + b))) := by
  have := QEx.binI (v := .int .i64 (IntKind.i64.wrap (a + b))) ho hy hz rfl
  rwa [wrap_in _ h.1 h.2] at this
theorem QEx.subN {t y z yt a b} (ho : o.op = .binOp .sub t y z yt) (hy : OpdOk P e t y (.v (.int .i64 a))) (hz : OpdOk P e yt z (.v (.int .i64 b))) (h : -9223372036854775808 ≤ a - b ∧ a - b ≤ 9223372036854775807) :
    QEx P o e [] false (.v (.int .i64 (a - b))) := by
  have := QEx.binI (v := .int .i64 (IntKind.i64.wrap (a - b))) ho hy hz rfl
  rwa [wrap_in _ h.1 h.2] at this
theorem QEx.mulN {t y z yt a b} (ho : o.op = .binOp .mul t y z yt) (hy : OpdOk P e t y (.v (.int .i64 a))) (hz : OpdOk P e yt z (.v (.int .i64 b))) (h : -9223372036854775808 ≤ a * b ∧ a * b ≤ 9223372036854775807) :
    QEx P o e [] false (.v (.int .i64 (a * b))) := by
  have := QEx.binI (v := .int .i64 (IntKind.i64.wrap (a * b))) ho hy hz rfl
  rwa [wrap_in _ h.1 h.2] at this
theorem QEx.negN {t y n} (ho : o.op = .unOp .neg t y) (hy : OpdOk P e 0 y (.v (.int .i64 n))) (h : -9223372036854775808 ≤ 0 - n ∧ 0 - n ≤ 9223372036854775807) : QEx P o e [] false (.v (.int .i64 (0 - n))) := by
  have := QEx.neg ho hy
  rwa [wrap_in _ h.1 h.2] at this
/-- To int, in range. -/
theorem QEx.convN {s d y k' n} (ho : o.op = .convert s d y) (hd : P.underlying d = some (.int .i64)) (hs : (P.underlying s).isSome = true) (hy : OpdOk P e s y (.v (.int k' n))) (h : -9223372036854775808 ≤ n ∧ n ≤ 9223372036854775807) :
    QEx P o e [] false (.v (.int .i64 n)) := by
  have := QEx.convI ho hd hs hy
  rwa [wrap_in _ h.1 h.2] at this
/-- To a value that is known to be what the conversion gives. -/
theorem QEx.convE {s d y k k' n} (r : Int) (ho : o.op = .convert s d y) (hd : P.underlying d = some (.int k)) (hs : (P.underlying s).isSome = true) (hy : OpdOk P e s y (.v (.int k' n))) (h : k.wrap n = r) :
    QEx P o e [] false (.v (.int k r)) := by
  have := QEx.convI ho hd hs hy
  rwa [h] at this
/-- Integers, to a value that is known. -/
theorem QEx.binE {op t y z yt k a b v} (r : Int) (ho : o.op = .binOp op t y z yt) (hy : OpdOk P e t y (.v (.int k a))) (hz : OpdOk P e yt z (.v (.int k b))) (h : Cx.binI op k a b = some (.int k v)) (hr : v = r) :
    QEx P o e [] false (.v (.int k r)) := by
  subst hr; exact QEx.binI ho hy hz h
/-- Anything, to what is known to be the same. -/
theorem QEx.eq {cr need x y} (h : QEx P o e need cr x) (hr : x = y) : QEx P o e need cr y := hr ▸ h

theorem QEx.sliceFrom {α : Type} {F : α → AV} {t y lo E sz by_ tk k a} {l : List α} (ho : o.op = .slice t y (some lo) none none) (ht : ElemT P t E sz by_) (hy : OpdOk P e t y (.sl tk sz (l.map F)))
    (hlo : OpdOk P e 0 lo (.v (.int k a))) (h0 : 0 ≤ a) (h1 : a ≤ l.length) : QEx P o e [] false (.sl none sz ((l.drop a.toNat).map F)) := by
  have := QEx.slice ho ht hy (.some hlo h0) .none (by simp; omega) (Nat.le_refl _)
  have e1 : ((l.map F).drop a.toNat).take ((l.map F).length - a.toNat) = (l.drop a.toNat).map F := by
    rw [List.take_of_length_le (by simp), List.map_drop]
  rwa [e1] at this
theorem QEx.sliceTo {α : Type} {F : α → AV} {t y hi E sz by_ tk k b} {l : List α} (ho : o.op = .slice t y none (some hi) none) (ht : ElemT P t E sz by_) (hy : OpdOk P e t y (.sl tk sz (l.map F)))
    (hhi : OpdOk P e 0 hi (.v (.int k b))) (h0 : 0 ≤ b) (h1 : b ≤ l.length) : QEx P o e [] false (.sl none sz ((l.take b.toNat).map F)) := by
  have := QEx.slice ho ht hy .none (.some hhi h0) (Nat.zero_le _) (by simp; omega)
  have e1 : ((l.map F).drop 0).take (b.toNat - 0) = (l.take b.toNat).map F := by simp [List.map_take]
  rwa [e1] at this
theorem QEx.sliceMid {α : Type} {F : α → AV} {t y lo hi E sz by_ tk k k' a b} {l : List α} (ho : o.op = .slice t y (some lo) (some hi) none) (ht : ElemT P t E sz by_) (hy : OpdOk P e t y (.sl tk sz (l.map F)))
    (hlo : OpdOk P e 0 lo (.v (.int k a))) (hhi : OpdOk P e 0 hi (.v (.int k' b))) (h0 : 0 ≤ a) (h1 : a ≤ b) (h2 : b ≤ l.length) : QEx P o e [] false (.sl none sz (((l.drop a.toNat).take (b.toNat - a.toNat)).map F)) := by
  have := QEx.slice ho ht hy (.some hlo h0) (.some hhi (by omega)) (by omega) (by simp; omega)
  have e1 : ((l.map F).drop a.toNat).take (b.toNat - a.toNat) = ((l.drop a.toNat).take (b.toNat - a.toNat)).map F := by simp [List.map_take, List.map_drop]
  rwa [e1] at this
theorem QEx.lenM {α : Type} {F : α → AV} {y t tk sz} {l : List α} (ho : o.op = .call { callee := .builtin .len, args := #[y], argTypes := #[t] }) (ht : ∃ E, P.underlying t = some (.slice E)) (hy : OpdOk P e t y (.sl tk sz (l.map F))) :
    QEx P o e [] false (.v (.int .i64 l.length)) := by
  have := QEx.len ho ht hy
  rwa [List.length_map] at this
end

theorem bytes_at {b : List UInt8} {i : Int} (_h0 : 0 ≤ i) (h : i < b.length) : (b.map byteAV)[i.toNat]? = some (byteAV (b.getD i.toNat 0)) := by
  have hi : i.toNat < b.length := by omega
  rw [List.getElem?_map, List.getElem?_eq_getElem hi]
  simp [List.getD, List.getElem?_eq_getElem hi]
theorem ints_at {b : List Int} {i : Int} (_h0 : 0 ≤ i) (h : i < b.length) : (b.map intAV)[i.toNat]? = some (intAV (b.getD i.toNat 0)) := by
  have hi : i.toNat < b.length := by omega
  rw [List.getElem?_map, List.getElem?_eq_getElem hi]
  simp [List.getD, List.getElem?_eq_getElem hi]
end Go.Cx
