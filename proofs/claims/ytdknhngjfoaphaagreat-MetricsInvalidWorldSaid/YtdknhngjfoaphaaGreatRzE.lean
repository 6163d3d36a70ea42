/-
  Is a slice nil? No conditions.
-/
import Derived.Test.YtdknhngjfoaphaaGreatRzB
set_option linter.all false
namespace Go.Rx
open Go.RowKit
/-- Either way. -/
def If {ρ : Type} (t : Bool) (a b : Option ρ) : Option ρ := if t = true then a else b
/-- The rune at a place of a string; how many bytes it takes; is the place in the string? -/
def runeAt (s : List UInt8) (p : Nat) : Int := (Utf8.decode ⟨s.toArray⟩ p).1
def runeW (s : List UInt8) (p : Nat) : Nat := (Utf8.decode ⟨s.toArray⟩ p).2
def inStr (s : List UInt8) (p : Nat) : Bool := decide (p < s.length)
section
variable {P : Program} {tb : Tb} {ρ : Type} {cx : Ctx P tb}

theorem run_equalIn_nilslice {P : Program} {t E : TypeId} (ht : P.underlying t = some (.slice E)) (d : Nat) (ad : Option Addr) (n c : Nat) (w : World) : (Op.equalIn (d + 1) t (.slice ad n c) (.slice none 0 0)).run P w = .ok ad.isNone w := by
  cases ad <;> simp [Op.equalIn, run_underlying_of ht]
theorem run_eql_slice {P : Program} (t : TypeId) (ad : Option Addr) (n c : Nat) (w : World) : (binOp .eql t (.slice ad n c) (.slice none 0 0)).run P w = ((Op.equalIn 10000 t (.slice ad n c) (.slice none 0 0)).run P w).andThen fun b w' => .ok (.bool b) w' := by
  simp only [binOp]
  simp [Op.equal, Op.maxDepth]
theorem run_neq_slice {P : Program} (t : TypeId) (ad : Option Addr) (n c : Nat) (w : World) : (binOp .neq t (.slice ad n c) (.slice none 0 0)).run P w = ((Op.equalIn 10000 t (.slice ad n c) (.slice none 0 0)).run P w).andThen fun b w' => .ok (.bool (!b)) w' := by
  simp only [binOp]
  simp [Op.equal, Op.maxDepth]
theorem run_eqGuard_slice {P : Program} (op : BinOp) (t : TypeId) (x y : Operand) (ad : Option Addr) (n c : Nat) (v : Value) (w : World) : (eqGuard op t x y (.slice ad n c) v).run P w = .ok () w := by
  cases op <;> simp [eqGuard]
/-- What is known to be a slice; is it nil, then it is empty. -/
def SlQ (x : AV) (L : LS) (p : Prop) : Prop := ∀ {N W0 m0 sa m bl a w}, Sim N W0 m0 L sa a w m bl → ∀ v, Rep m bl x v → ∃ ad n c, v = .slice ad n c ∧ (ad = none → p)
theorem AEx.nilq {L : LS} {o : Oper} {d : Nat} {t yt E : TypeId} {y : Operand} {x p} (neg : Bool)
    (ho : o.op = .binOp (if neg then .neq else .eql) t y (.const (.slice none 0 0)) yt) (ht : P.underlying t = some (.slice E)) (hy : OpdOk L.e y x) (hx : SlQ x L p) (hd : o.dst = some d) :
    AEx P o L fun L' => ∃ b : Bool, (b = true → p) ∧ L' = ⟨(d, .v (.bool (b != neg))) :: L.e, L.s, L.h, L.f⟩ := by
  intro N W0 m0 sa m bl a w s hN next Q k
  have h1 := hy.rep (o := o) (fun t _ y hf => s.env t y hf) (by simp [ho, Op.operands])
  obtain ⟨ad, n, c, hv, hp⟩ := hx s _ h1
  have hz : a.eval (.const (.slice none 0 0)) = .slice none 0 0 := rfl
  have hrun : (execOp a.eval o).run P w = .ok (.value (.bool (ad.isNone != neg))) w := by
    cases neg with
    | false =>
      have h4 := run_eql_slice (P := P) t ad n c w
      rw [run_equalIn_nilslice ht 9999 ad n c w] at h4
      simp only [Result.andThen_ok] at h4
      simp [execOp, ho, hv, hz, Sem.run_bind, run_eqGuard_slice, Result.andThen_ok, h4, Sem.run_pure]
    | true =>
      have h4 := run_neq_slice (P := P) t ad n c w
      rw [run_equalIn_nilslice ht 9999 ad n c w] at h4
      simp only [Result.andThen_ok] at h4
      simp [execOp, ho, hv, hz, Sem.run_bind, run_eqGuard_slice, Result.andThen_ok, h4, Sem.run_pure]
  unfold Oper.wp
  rw [hrun, Oper.upon_value]
  refine k _ _ w m bl ⟨ad.isNone, fun h => hp (by simpa using h), rfl⟩ ⟨?_, ?_, s.below, s.ws, ?_, s.stk, s.free⟩
  · simp [Act.put, hd, s.defers]
  · simp [Act.put, hd, s.size]
  · rw [hd]; exact EnvRep.put s.env .v (by rw [s.size]; exact hN d hd)

/-- The slice's content. -/
def nilC (L : SLS tb) (x : SV tb) : Option ((E : tb.Ix) × List (tb.T E)) := match x with
  | .sl _ E l => some ⟨E, l⟩
  | .em E => some ⟨E, []⟩
  | .rw id E => got (arrAt L id E) fun l => some ⟨E, l⟩
  | _ => none
theorem nilC_ok (cx : Ctx P tb) {L : SLS tb} {x : SV tb} {p} (h : nilC L x = some p) : SlQ x.av L.av (p.2 = []) := by
  unfold nilC at h
  intro N W0 m0 sa m bl a w s v hv
  split at h
  · rename_i c E l
    cases h
    have hv : Rep m bl (.sl c (tb.sz E) (l.map (tb.el E))) v := hv
    generalize hq : l.map (tb.el E) = q at hv
    cases hv with
    | slnil => exact ⟨_, _, _, rfl, fun _ => by simpa using hq⟩
    | sl => exact ⟨_, _, _, rfl, fun h => by cases h⟩
  · cases h
    rename_i E
    have hv : Rep m bl (.sl true (tb.sz E) []) v := hv
    cases hv with
    | slnil => exact ⟨_, _, _, rfl, fun _ => rfl⟩
    | sl => exact ⟨_, _, _, rfl, fun _ => rfl⟩
  · rename_i id E
    obtain ⟨l, hl, h⟩ := got_e h
    cases h
    have hl := arrAt_e hl
    have hv : Rep m bl (.rw id (tb.sz E)) v := hv
    cases hv with
    | rwnil hb =>
      refine ⟨_, _, _, rfl, fun _ => ?_⟩
      rcases s.ws.blk id _ hl with ⟨-, g⟩ | ⟨b, n, arr, T, pre, rest, g1, -⟩
      · show l = []
        have hfl := flat_len (l := l.map (tb.el E)) (sz := tb.sz E) (by intro x hx; obtain ⟨y, -, rfl⟩ := List.mem_map.1 hx; exact (cx.ok E).len y)
        rw [show ((l.map (tb.el E)).flatMap AV.cells) = [] from g] at hfl
        have hp := (cx.ok E).pos
        rcases Nat.mul_eq_zero.1 (show (l.map (tb.el E)).length * tb.sz E = 0 by rw [← hfl]; rfl) with h | h
        · simpa using h
        · omega
      · rw [hb] at g1; cases g1
    | rw => exact ⟨_, _, _, rfl, fun h => by cases h⟩
  · cases h
def isNilC : Operand → Bool
  | .const (.slice none 0 0) => true
  | _ => false
theorem isNilC_e {z : Operand} (h : isNilC z = true) : z = .const (.slice none 0 0) := by
  unfold isNilC at h
  split at h
  · rfl
  · cases h
/-- Either: nil, or not. Where the slice may be nil, both ways must end alike. -/
noncomputable def Alike (c : Prop) (a b : Option ρ) : Option ρ := @Chk ρ (c → a = b) (Classical.propDecidable _) b
theorem Alike_e {c : Prop} {a b : Option ρ} {r} (h : Alike c a b = some r) : b = some r ∧ (c → a = some r) := by
  unfold Alike Chk at h
  split at h
  · rename_i hc; exact ⟨h, fun x => (hc x).trans h⟩
  · cases h
noncomputable def gNil (P : Program) (N : Nat) (L : SLS tb) (gs : List Nat) (o : Oper) (neg : Bool) (t : Nat) (x : SV tb) (k : SLS tb → List Nat → Option ρ) : Option ρ :=
  got o.dst fun d => got (P.underlying t) fun D => got (isSlD D) fun _ => got (nilC L x) fun p => tst (Nat.blt d N) <| tst (!memN d gs) <|
  Alike (p.2 = []) (k { L with e := (d, .con (.bool (true != neg))) :: L.e } gs) (k { L with e := (d, .con (.bool (false != neg))) :: L.e } gs)
theorem gNil_ok (cx : Ctx P tb) {N ops} {L : SLS tb} {gs o neg t y yt x} {k : SLS tb → List Nat → Option ρ} {r} (hi : RI gs L.e) (hg : o.guard = none) (ho : o.op = .binOp (if neg then .neq else .eql) t y (.const (.slice none 0 0)) yt) (hx : opd L [] y = some x)
    (h : gNil P N L gs o neg t x k = some r) : ∀ rest K, (∀ L' gs', k L' gs' = some r → RI gs' L'.e → Ext L L' → GoT P ops N rest K L'.av) → GoT P ops N (o :: rest) K L.av := by
  unfold gNil at h
  obtain ⟨d, hd, h⟩ := got_e h
  obtain ⟨D, hD, h⟩ := got_e h
  obtain ⟨E, hE, h⟩ := got_e h
  rw [isSlD_e hE] at hD
  obtain ⟨p, hp, h⟩ := got_e h
  obtain ⟨hN, h⟩ := tst_e h
  obtain ⟨hm, h⟩ := tst_e h
  have hN : d < N := Nat.le_of_ble_eq_true hN
  have hm : memN d gs = false := by simpa using hm
  obtain ⟨h1, h2⟩ := Alike_e h
  intro rest K kk
  refine GoT.act hg (fun d' h' => by rw [hd] at h'; cases h'; exact hN) (AEx.nilq neg ho hD (opd_ok (Gu.nil hi.inv) hx) (nilC_ok cx hp) hd) ?_
  rintro L1 ⟨b, hb, rfl⟩
  have hk : k { L with e := (d, .con (.bool (b != neg))) :: L.e } gs = some r := by
    cases b with
    | true => exact h2 (hb rfl)
    | false => exact h1
  exact kk _ _ hk (hi.put hm rfl) ⟨rfl, ⟨[_], rfl⟩, ⟨[], rfl⟩, Nat.le_refl _, ⟨[], rfl⟩⟩
/-! ranges over strings -/
def iterAt (L : SLS tb) (id : Nat) : Option (List UInt8 × Nat) := match keepQ L.gn id with
  | true => (match find id L.h with | some (.iter s p) => some (s, p) | _ => none)
  | false => none
theorem iterAt_e {L : SLS tb} {id p} (h : iterAt L id = some p) : find id (avH L.gn L.h) = some (.iter ⟨p.1.toArray⟩ p.2) := by
  unfold iterAt at h
  split at h
  · rename_i hk
    split at h
    · rename_i s p' hf; cases h
      rw [find_avH, if_pos hk, hf]; rfl
    · cases h
  · cases h
def gRange (P : Program) (N : Nat) (L : SLS tb) (gs : List Nat) (o : Oper) (t : Nat) (y : Operand) (k : SLS tb → List Nat → Option ρ) : Option ρ :=
  got o.dst fun d => got (P.underlying t) fun D => tst (isStrD D) <| got (opd L [] y) fun x => got (asS x) fun s => putN N gs L d (.ptr L.nx 0) (.iter s 0) fun L' => k L' gs
theorem gRange_ok {N ops} {L : SLS tb} {gs o t y} {k : SLS tb → List Nat → Option ρ} {r} (hi : RI gs L.e) (hg : o.guard = none) (ho : o.op = .range t y) (h : gRange P N L gs o t y k = some r) :
    ∀ rest K, (∀ L' gs', k L' gs' = some r → RI gs' L'.e → Ext L L' → GoT P ops N rest K L'.av) → GoT P ops N (o :: rest) K L.av := by
  unfold gRange at h
  obtain ⟨d, hd, h⟩ := got_e h
  obtain ⟨D, hD, h⟩ := got_e h
  obtain ⟨hs, h⟩ := tst_e h
  rw [isStrD_e hs] at hD
  obtain ⟨x, hx, h⟩ := got_e h
  obtain ⟨s, hs2, h⟩ := got_e h
  have hy := opd_ok (Gu.nil hi.inv) hx
  rw [asS_e hs2] at hy
  unfold putN at h
  obtain ⟨hno, h⟩ := tst_e h
  obtain ⟨hN, hm, hx2, h⟩ := put_e h
  obtain ⟨hh, h⟩ := putH_e h
  intro rest K kk
  refine GoT.act hg (fun d' h' => by rw [hd] at h'; cases h'; exact hN) (AEx.range (nm := L.nx) hd ho hD hy (Nat.le_refl _)) ?_
  rintro L1 rfl
  have := kk _ _ h (hi.put hm rfl) ⟨rfl, ⟨[_], rfl⟩, ⟨[_], rfl⟩, Nat.le_succ _, ⟨[], rfl⟩⟩
  refine GoT.tells (Tells.f (f' := fun y => L.nx + 1 ≤ y) ?_) ?_
  · intro d hd
    exact ⟨show L.nx ≤ d from Nat.le_trans (Nat.le_succ _) hd, fun e => by subst e; exact absurd hd (Nat.not_succ_le_self _)⟩
  · have e1 : ((⟨(d, .ptr L.nx 0) :: L.e, L.s, (L.nx, .iter s 0) :: L.h, L.nx + 1, L.gn⟩ : SLS tb)).av = ⟨(d, .ptr L.nx 0) :: L.av.e, L.av.s, (L.nx, .iter ⟨s.toArray⟩ 0) :: L.av.h, fun y => L.nx + 1 ≤ y⟩ := by
      show (⟨(d, ((SV.ptr L.nx 0).res L.gn).av) :: avE L.gn L.e, _, avH L.gn ((L.nx, .iter s 0) :: L.h), _⟩ : LS) = _
      rw [hx2, hh]; rfl
    rw [e1] at this
    exact this
def gNext (N : Nat) (L : SLS tb) (gs : List Nat) (o : Oper) (y : Operand) (k : SLS tb → List Nat → Option ρ) : Option ρ :=
  got o.dst fun d => got (opd L [] y) fun x => match x with
    | .ptr id off => tst (Nat.beq off 0) <| got (iterAt L id) fun p =>
        If (inStr p.1 p.2) (put N gs L d (.tup [.con (.bool true), .i .i64 (p.2 : Int), .i .i32 (runeAt p.1 p.2)]) fun L' => putH L' id (.iter p.1 (p.2 + runeW p.1 p.2)) fun L' => k L' gs)
          (put N gs L d (.tup [.con (.bool false)]) fun L' => k L' gs)
    | _ => none
theorem gNext_ok {N ops} {L : SLS tb} {gs o y} {k : SLS tb → List Nat → Option ρ} {r} (hi : RI gs L.e) (hg : o.guard = none) (ho : o.op = .next y true) (h : gNext N L gs o y k = some r) :
    ∀ rest K, (∀ L' gs', k L' gs' = some r → RI gs' L'.e → Ext L L' → GoT P ops N rest K L'.av) → GoT P ops N (o :: rest) K L.av := by
  unfold gNext at h
  obtain ⟨d, hd, h⟩ := got_e h
  obtain ⟨x, hx, h⟩ := got_e h
  have hy := opd_ok (Gu.nil hi.inv) hx
  split at h
  · rename_i _ id off
    obtain ⟨h0, h⟩ := tst_e h
    have h0 := Nat.eq_of_beq_eq_true h0
    subst h0
    obtain ⟨⟨s, p⟩, hp, h⟩ := got_e h
    have hp := iterAt_e hp
    have hsz : (ByteArray.mk s.toArray).size = s.length := by simp [ByteArray.size]
    intro rest K kk
    unfold If at h
    by_cases hin : p < s.length
    · rw [if_pos (by show inStr s p = true; unfold inStr; exact decide_eq_true hin)] at h
      obtain ⟨hN, hm, hx2, h⟩ := put_e h
      obtain ⟨hh, h⟩ := putH_e h
      refine GoT.act hg (fun d' h' => by rw [hd] at h'; cases h'; exact hN) (AEx.next hd ho hy hp rfl) ?_
      rintro L1 (⟨-, rfl⟩ | ⟨g, -⟩)
      · have := kk _ _ h (hi.put hm rfl) ⟨rfl, ⟨[_], rfl⟩, ⟨[_], rfl⟩, Nat.le_refl _, ⟨[], rfl⟩⟩
        have e1 : ((⟨(d, .tup [.con (.bool true), .i .i64 (p : Int), .i .i32 (runeAt s p)]) :: L.e, L.s, (id, .iter s (p + runeW s p)) :: L.h, L.nx, L.gn⟩ : SLS tb)).av = ⟨(d, .tup [.v (.bool true), .v (.int .i64 (p : Int)), .v (.int .i32 (runeAt s p))]) :: L.av.e, L.av.s, (id, .iter ⟨s.toArray⟩ (p + runeW s p)) :: L.av.h, L.av.f⟩ := by
          show (⟨(d, ((SV.tup _).res L.gn).av) :: avE L.gn L.e, _, avH L.gn ((id, .iter s (p + runeW s p)) :: L.h), _⟩ : LS) = _
          rw [hx2, hh]; rfl
        rw [e1] at this
        exact this
      · rw [hsz] at g; exact absurd hin g
    · rw [if_neg (by show ¬ inStr s p = true; unfold inStr; simpa using hin)] at h
      obtain ⟨hN, hm, hx2, h⟩ := put_e h
      refine GoT.act hg (fun d' h' => by rw [hd] at h'; cases h'; exact hN) (AEx.next hd ho hy hp rfl) ?_
      rintro L1 (⟨g, -⟩ | ⟨-, rfl⟩)
      · rw [hsz] at g; exact absurd g hin
      · have := kk _ _ h (hi.put hm rfl) ⟨rfl, ⟨[_], rfl⟩, ⟨[], rfl⟩, Nat.le_refl _, ⟨[], rfl⟩⟩
        have e1 : ((⟨(d, .tup [.con (.bool false)]) :: L.e, L.s, L.h, L.nx, L.gn⟩ : SLS tb)).av = ⟨(d, .tup [.v (.bool false)]) :: L.av.e, L.av.s, L.av.h, L.av.f⟩ := by
          show (⟨(d, ((SV.tup _).res L.gn).av) :: avE L.gn L.e, _, _, _⟩ : LS) = _
          rw [hx2]; rfl
        rw [e1] at this
        exact this
  · cases h
end
end Go.Rx
