/-
  More operations that only yield a value, run on symbolic values. No conditions.
-/
import Derived.Test.YtdknhngjfoaphaaGreatRxS
set_option linter.all false
namespace Go.Rx
open Go.RowKit

section
variable {P : Program} {tb : Tb} {ρ : Type} {cx : Ctx P tb}

/-- How many. -/
def lenS (l : List (SV tb)) : Nat := l.length
theorem mem1 {α : Type} {a : α} : a ∈ [a] := List.mem_singleton.2 rfl
/-- len of an own slice, of others. -/
def qLen2 (cx : Ctx P tb) (L : SLS tb) (G : Gd) (y : Operand) (t : Nat) (k : SV tb → List Nat → Option ρ) : Option ρ :=
  got (opd L G y) fun a => match a with
  | .rw id E => got (P.underlying t) fun D => got (isSlD D) fun _ => (match arrAt L id E with
    | some l => Let (l.length : Int) fun n => k (.i .i64 n) [id]
    | none => got (cellsAt L id) fun l => tst (Nat.beq (tb.sz E) 1) <| tst (allOne l) <| k (.con (.int .i64 (lenS l))) [id])
  | _ => qLen P L G y t k
theorem qLen2_ok {L : SLS tb} {G o y t} {k : SV tb → List Nat → Option ρ} {r} (ho : o.op = .call { callee := .builtin .len, args := #[y], argTypes := #[t] }) (h : qLen2 cx L G y t k = some r) : QOk P L G o k r := by
  unfold qLen2 at h
  obtain ⟨a, ha, h2⟩ := got_e h
  have hy := fun u => opd_ok (L := L) (G := G) u ha
  clear h
  cases a with
  | rw id E =>
    obtain ⟨D, hD, h⟩ := got_e h2; clear h2
    obtain ⟨E', hE, h⟩ := got_e h
    rw [isSlD_e hE] at hD
    split at h
    · rename_i l hl
      have hl := arrAt_e hl
      refine ⟨_, _, h, fun u => ?_⟩
      rw [needAV_one hl]
      have := QEx.lenR ho hD (ROk.rw (xs := l.map (tb.el E)) (hy u) (by simp [ho, Op.operands, Call.operands]) (show _ ∈ [(id, elC tb E l)] from mem1) (elC_len cx.ok) (cx.ok E).pos)
      rw [List.length_map] at this
      exact this
    · obtain ⟨l, hl, h⟩ := got_e h
      have hl := cellsAt_e hl
      obtain ⟨h1, h⟩ := tst_e h
      obtain ⟨h2, h⟩ := tst_e h
      obtain ⟨g1, g2⟩ := allOne_flat h2
      refine ⟨_, _, h, fun u => ?_⟩
      rw [needAV_one hl]
      have hyu := hy u
      simp only [SV.av] at hyu
      rw [Nat.eq_of_beq_eq_true h1] at hyu
      have := QEx.lenR ho hD (ROk.rw (xs := avL l) hyu (by simp [ho, Op.operands, Call.operands]) (show _ ∈ [(id, avL l)] from by rw [g1]; exact mem1) g2 (by decide))
      rw [avL_length] at this
      exact this
  | _ => exact qLen_ok ho h2

theorem qMM_ok {L : SLS tb} {G o b x y ts} {k : SV tb → List Nat → Option ρ} {r} (ho : (b = true ∧ o.op = .call { callee := .builtin .max, args := #[x, y], argTypes := ts }) ∨ (b = false ∧ o.op = .call { callee := .builtin .min, args := #[x, y], argTypes := ts }))
    (h : qMM L G b x y k = some r) : QOk P L G o k r := by
  unfold qMM at h
  obtain ⟨a, ha, h⟩ := got_e h
  obtain ⟨b, hb, h⟩ := got_e h
  obtain ⟨p, hp, h⟩ := got_e h
  obtain ⟨q, hq, h⟩ := got_e h
  obtain ⟨h1, h⟩ := tst_e h
  have hx := fun u => opd_ok (L := L) (G := G) u ha
  have hy := fun u => opd_ok (L := L) (G := G) u hb
  rw [asI_e hp] at hx
  rw [asI_e hq, ← of_decide_eq_true h1] at hy
  rcases ho with ⟨rfl, ho⟩ | ⟨rfl, ho⟩
  · exact ⟨_, [], h, fun u => QEx.max2 ho (hx u) (hy u)⟩
  · exact ⟨_, [], h, fun u => QEx.min2 ho (hx u) (hy u)⟩

/-! parts -/
def sub {α : Type} (l : List α) (a b : Int) : List α := (l.drop a.toNat).take (b.toNat - a.toNat)
def qIx (cx : Ctx P tb) (L : SLS tb) (G : Gd) (t : Nat) (y z : Operand) (k : SV tb → List Nat → Option ρ) : Option ρ :=
  got (opd L G y) fun a => got (opd L G z) fun b => got (asI b) fun q => got (P.underlying t) fun D => match isStrD D with
  | true => got (asS a) fun s => chk G (0 ≤ q.2 ∧ q.2 < s.length) (Let (ix s q.2) fun c => k (.b8 c) [])
  | false => got (isArD D) fun p => got (tSz P p.2) fun n => got (tAg P p.2) fun ag => tst (!ag) (match a, b with
    | .agg l, .con _ => tst (decide (0 ≤ q.2 ∧ q.2 < p.1)) (got (nth l (q.2.toNat * n)) fun x => k x [])
    | .agg l, _ => (match Nat.ble p.1 (strsS l).length with
      | true => tst (Nat.beq n 1) <| chk G (0 ≤ q.2 ∧ q.2 < p.1) (Let (ixd [] (strsS l) q.2) fun x => k (.st x) [])
      | false => got (kindAt l) fun K => tst (Nat.beq n 1) <| tst (Nat.ble p.1 (intsK K l).length) <| chk G (0 ≤ q.2 ∧ q.2 < p.1) (Let (ixd 0 (intsK K l) q.2) fun x => k (.i K x) []))
    | _, _ => none)
theorem qIx_ok {L : SLS tb} {G o t y z} {k : SV tb → List Nat → Option ρ} {r} (ho : o.op = .index t y z) (h : qIx cx L G t y z k = some r) : QOk P L G o k r := by
  unfold qIx at h
  obtain ⟨a, ha, h⟩ := got_e h
  obtain ⟨b, hb, h⟩ := got_e h
  obtain ⟨q, hq, h⟩ := got_e h
  obtain ⟨D, hD, h⟩ := got_e h
  have hy := fun u => opd_ok (L := L) (G := G) u ha
  have hz := fun u => opd_ok (L := L) (G := G) u hb
  rw [asI_e hq] at hz
  split at h
  · rename_i hs
    rw [isStrD_e hs] at hD
    obtain ⟨s, hs2, h⟩ := got_e h
    obtain ⟨hc, h⟩ := chk_e h
    rw [asS_e hs2] at hy
    exact ⟨_, [], h, fun u => QEx.idxS ho hD (hy u) (hz u) (hc u.on)⟩
  · obtain ⟨p, hp, h⟩ := got_e h
    obtain ⟨n, hn, h⟩ := got_e h
    obtain ⟨ag, hag, h⟩ := got_e h
    obtain ⟨h1, h5⟩ := tst_e h
    rw [isArD_e hp] at hD
    have : ag = false := by cases ag <;> simp_all
    rw [this] at hag
    clear h
    split at h5
    · obtain ⟨h2, h3⟩ := tst_e h5
      obtain ⟨x, hx, h4⟩ := got_e h3
      rw [nth_e] at hx
      exact ⟨_, [], h4, fun u => QEx.idxA ho hD hn hag (hy u) (hz u) (of_decide_eq_true h2) (avL_get hx)⟩
    · rename_i l _ _ _ _ _ _
      split at h5
      · rename_i hb
        obtain ⟨h1, h⟩ := tst_e h5
        obtain ⟨hc, h⟩ := chk_e h
        have h := (show k (.st (ixd [] (strsS l) q.2)) [] = some r from h)
        refine ⟨_, [], h, fun u => ?_⟩
        have hc := hc u.on
        have h2 := Nat.le_of_ble_eq_true hb
        obtain ⟨x, hx, hxa⟩ := strsS_get (l := l) (i := q.2.toNat) (by omega)
        have hx' : l[q.2.toNat * n]? = some x := by rw [Nat.eq_of_beq_eq_true h1, Nat.mul_one]; exact hx
        have := QEx.idxA ho hD hn hag (hy u) (hz u) hc (avL_get hx')
        rw [hxa] at this
        exact this
      obtain ⟨K, hK, h⟩ := got_e h5
      obtain ⟨h1, h⟩ := tst_e h
      obtain ⟨h2, h⟩ := tst_e h
      obtain ⟨hc, h⟩ := chk_e h
      have h := (show k (.i K (ixd 0 (intsK K l) q.2)) [] = some r from h)
      refine ⟨_, [], h, fun u => ?_⟩
      have hc := hc u.on
      have h2 := Nat.le_of_ble_eq_true h2
      obtain ⟨x, hx, hxa⟩ := intsK_get (K := K) (l := l) (i := q.2.toNat) (by omega)
      have hx' : l[q.2.toNat * n]? = some x := by rw [Nat.eq_of_beq_eq_true h1, Nat.mul_one]; exact hx
      have := QEx.idxA ho hD hn hag (hy u) (hz u) hc (avL_get hx')
      rw [hxa] at this
      exact this
    · cases h5
def qField (P : Program) (L : SLS tb) (G : Gd) (t : Nat) (y : Operand) (f : Nat) (k : SV tb → List Nat → Option ρ) : Option ρ :=
  got (opd L G y) fun a => got (fieldAt P t f) fun p => got (tAg P p.1.type) fun ag => match a with
  | .agg l => (match ag with
    | true => k (.agg ((l.drop p.1.offset).take p.2)) []
    | false => got (nth l p.1.offset) fun x => k x [])
  | _ => none
theorem qField_ok {L : SLS tb} {G o t y f} {k : SV tb → List Nat → Option ρ} {r} (ho : o.op = .field t y f) (h : qField P L G t y f k = some r) : QOk P L G o k r := by
  unfold qField at h
  obtain ⟨a, ha, h⟩ := got_e h
  obtain ⟨p, hp, h⟩ := got_e h
  obtain ⟨ag, hag, h⟩ := got_e h
  obtain ⟨fs, h1, h2, h3, h4⟩ := fieldAt_e hp
  have hy := fun u => opd_ok (L := L) (G := G) u ha
  split at h
  · split at h
    · refine ⟨_, [], h, fun u => QEx.field ho h1 h2 h3 hag (hy u) (.inl ⟨rfl, ?_⟩)⟩
      simp only [SV.av]; rw [avL_take, avL_drop]
    · obtain ⟨x, hx, h⟩ := got_e h
      rw [nth_e] at hx
      exact ⟨_, [], h, fun u => QEx.field ho h1 h2 h3 hag (hy u) (.inr ⟨rfl, avL_get hx⟩)⟩
  · cases h

/-! slices -/
def nOr (q : Option Int) (d : Nat) : Nat := match q with | none => d | some n => n.toNat
def optI (L : SLS tb) (G : Gd) : Option Operand → Option (Option Int)
  | none => some none
  | some y => got (opd L G y) fun a => match asI a with
    | some p => some (some p.2)
    | none => got (asC a) fun c => some (some (c.toNat : Int))
theorem optI_ok {L : SLS tb} {G y q d} (u : Gu L G) (h : optI L G y = some q) (h0 : 0 ≤ q.getD 0) : BoundOk L.E y d (nOr q d) := by
  cases y with
  | none => cases h; exact .none
  | some y =>
    obtain ⟨a, ha, h⟩ := got_e (h : got (opd L G y) _ = _)
    have hy := opd_ok u ha
    split at h
    · rename_i p hp
      cases h
      rw [asI_e hp] at hy
      exact .some hy h0
    · obtain ⟨c, hc, h⟩ := got_e h
      cases h
      rw [asC_e hc] at hy
      exact .some (k := .u8) hy h0
/-- The part from lo to hi, where n are known. -/
def cutB {α : Type} (G : Gd) (l : List α) (lo hi : Option Int) (k : List α → Option ρ) : Option ρ := match lo, hi with
  | none, none => k l
  | some a, none => chk G (0 ≤ a ∧ a ≤ l.length) (Let (l.drop a.toNat) k)
  | none, some b => chk G (0 ≤ b ∧ b ≤ l.length) (Let (l.take b.toNat) k)
  | some a, some b => chk G (0 ≤ a ∧ a ≤ b ∧ b ≤ l.length) (Let (sub l a b) k)
theorem cutB_e {α : Type} {G : Gd} {l : List α} {lo hi : Option Int} {k : List α → Option ρ} {r : ρ} (h : cutB G l lo hi k = some r) : ∃ x, k x = some r ∧ (gc G = true → 0 ≤ lo.getD 0 ∧ 0 ≤ hi.getD 0 ∧
    nOr lo 0 ≤ nOr hi l.length ∧ nOr hi l.length ≤ l.length ∧
    x = (l.drop (nOr lo 0)).take (nOr hi l.length - nOr lo 0)) := by
  unfold cutB at h
  split at h
  · exact ⟨_, h, fun _ => by simp [nOr]⟩
  · obtain ⟨hc, h⟩ := chk_e h
    refine ⟨_, h, fun u => ?_⟩
    obtain ⟨h1, h2⟩ := hc u
    refine ⟨h1, by simp, by simp only [nOr]; omega, Nat.le_refl _, ?_⟩
    simp only [nOr]; rw [List.take_of_length_le (by simp)]
  · obtain ⟨hc, h⟩ := chk_e h
    refine ⟨_, h, fun u => ?_⟩
    obtain ⟨h1, h2⟩ := hc u
    exact ⟨by simp, h1, by simp only [nOr]; omega, by simp only [nOr]; omega, by simp [nOr]⟩
  · obtain ⟨hc, h⟩ := chk_e h
    refine ⟨_, h, fun u => ?_⟩
    obtain ⟨h1, h2, h3⟩ := hc u
    exact ⟨h1, by simp only [Option.getD_some]; omega, by simp only [nOr]; omega, by simp only [nOr]; omega, rfl⟩
/-- The same of an own slice. -/
def qSlice (cx : Ctx P tb) (L : SLS tb) (G : Gd) (t : Nat) (y : Operand) (lo hi : Option Operand) (k : SV tb → List Nat → Option ρ) : Option ρ :=
  got (opd L G y) fun a => got (optI L G lo) fun p => got (optI L G hi) fun q => got (P.underlying t) fun D => match isStrD D with
  | true => got (asS a) fun s => cutB G s p q fun x => k (.st x) []
  | false => match a with
    | .sl _ E l => got (elemT P t (tb.sz E)) fun _ => cutB G l p q fun x => k (.sl false E x) []
    | .row id E off len mc => got (elemT P t (tb.sz E)) fun _ => chk G (0 ≤ p.getD 0 ∧ 0 ≤ q.getD 0 ∧ nOr p 0 ≤ nOr q len ∧ nOr q len ≤ mc ∧ len ≤ mc) (k (.row id E (off + nOr p 0) (nOr q len - nOr p 0) (mc - nOr p 0)) [])
    | .rw id E => got (elemT P t (tb.sz E)) fun _ => got (arrAt L id E) fun l => chk G (0 ≤ p.getD 0 ∧ 0 ≤ q.getD 0 ∧ nOr p 0 ≤ nOr q l.length ∧ nOr q l.length ≤ l.length) (k (.row id E (nOr p 0) (nOr q l.length - nOr p 0) (l.length - nOr p 0)) [id])
    | .ptr id off => got (isArD D) fun ar => got (tSz P ar.2) fun n => (match find id L.h with
      | some (.arr E _) => got (arrAt L id E) fun l => tst (Nat.beq off 0) <| tst (Nat.beq n (tb.sz E)) <| chk G (0 ≤ p.getD 0 ∧ 0 ≤ q.getD 0 ∧ nOr p 0 ≤ nOr q ar.1 ∧ nOr q ar.1 ≤ ar.1 ∧ ar.1 ≤ l.length) (k (.row id E (nOr p 0) (nOr q ar.1 - nOr p 0) (ar.1 - nOr p 0)) [id])
      | _ => none)
    | _ => none
theorem qSlice_ok {L : SLS tb} {G o t y lo hi} {k : SV tb → List Nat → Option ρ} {r} (ho : o.op = .slice t y lo hi none) (h : qSlice cx L G t y lo hi k = some r) : QOk P L G o k r := by
  unfold qSlice at h
  obtain ⟨a, ha, h2⟩ := got_e h
  clear h
  obtain ⟨p, hp, h⟩ := got_e h2; clear h2
  obtain ⟨q, hq, h2⟩ := got_e h; clear h
  obtain ⟨D, hD, h⟩ := got_e h2; clear h2
  have hy := fun u => opd_ok (L := L) (G := G) u ha
  split at h
  · rename_i hs
    rw [isStrD_e hs] at hD
    obtain ⟨s, hs2, h⟩ := got_e h
    rw [asS_e hs2] at hy
    obtain ⟨x, h, hc⟩ := cutB_e h
    refine ⟨_, [], h, fun u => ?_⟩
    obtain ⟨h1, h2, h3, h4, rfl⟩ := hc u.on
    exact QEx.slStr ho hD (hy u) (optI_ok u hp h1) (optI_ok u hq h2) ⟨h3, h4⟩
  · cases a with
    | sl c E l =>
      obtain ⟨ET, hE, h⟩ := got_e h
      obtain ⟨x, h, hc⟩ := cutB_e h
      refine ⟨_, [], h, fun u => ?_⟩
      obtain ⟨h1, h2, h3, h4, rfl⟩ := hc u.on
      have := QEx.slice ho (elemT_e hE) (hy u) (optI_ok u hp h1) (optI_ok (d := (l.map (tb.el E)).length) u hq h2) (by simpa using h3) (by simpa using h4)
      simp only [SV.av, List.map_take, List.map_drop]
      rw [List.length_map] at this; exact this
    | row id E off len mc =>
      obtain ⟨ET, hE, h⟩ := got_e h
      obtain ⟨hc, h⟩ := chk_e h
      refine ⟨_, [], h, fun u => ?_⟩
      obtain ⟨h1, h2, h3, h4, h5⟩ := hc u.on
      have := QEx.sliceR (need := []) ho (elemT_e hE) ((hy u).r (by simp [ho, Op.operands])) (optI_ok u hp h1) (optI_ok (d := len) u hq h2) h3 h4 (fun _ => h5)
      simp only [SV.av]
      rw [Nat.add_mul]; exact this
    | rw id E =>
      obtain ⟨ET, hE, h⟩ := got_e h
      obtain ⟨l, hl, h⟩ := got_e h
      have hl := arrAt_e hl
      obtain ⟨hc, h⟩ := chk_e h
      refine ⟨_, _, h, fun u => ?_⟩
      obtain ⟨h1, h2, h3, h4⟩ := hc u.on
      rw [needAV_one hl]
      have := QEx.sliceR ho (elemT_e hE) (ROk.rw (xs := l.map (tb.el E)) (hy u) (by simp [ho, Op.operands]) (show _ ∈ [(id, elC tb E l)] from mem1) (elC_len cx.ok) (cx.ok E).pos)
        (optI_ok u hp h1) (optI_ok (d := (l.map (tb.el E)).length) u hq h2) (by simpa using h3) (by simpa using h4) (fun _ => Nat.le_refl _)
      rw [List.length_map, Nat.zero_add] at this
      exact this
    | ptr id off =>
      obtain ⟨ar, har, h⟩ := got_e h
      rw [isArD_e har] at hD
      obtain ⟨n, hn, h⟩ := got_e h
      split at h
      · obtain ⟨l, hl, h⟩ := got_e h
        have hl := arrAt_e hl
        obtain ⟨h0, h⟩ := tst_e h
        obtain ⟨h1, h⟩ := tst_e h
        have h0 := Nat.eq_of_beq_eq_true h0
        rw [Nat.eq_of_beq_eq_true h1] at hn
        obtain ⟨hc, h⟩ := chk_e h
        refine ⟨_, _, h, fun u => ?_⟩
        obtain ⟨h1, h2, h3, h4, h5⟩ := hc u.on
        rw [needAV_one hl]
        have := QEx.sliceA (l := elC tb _ l) ho hD hn (hy u) (optI_ok u hp h1) (optI_ok (d := ar.1) u hq h2) h3 h4 (by rw [elC_length cx, h0, Nat.zero_add]; exact Nat.mul_le_mul_right _ h5)
        rw [h0, Nat.zero_add] at this
        exact this
      · cases h
    | _ => cases h
def qSlice3 (P : Program) (L : SLS tb) (G : Gd) (t : Nat) (y hi mx : Operand) (k : SV tb → List Nat → Option ρ) : Option ρ :=
  got (opd L G y) fun a => got (opd L G hi) fun b => got (asI b) fun p => got (opd L G mx) fun c => got (asI c) fun q => match a with
  | .sl _ E l => got (elemT P t (tb.sz E)) fun _ => chk G (0 ≤ p.2 ∧ p.2 ≤ l.length ∧ q.2 = p.2) (Let (l.take p.2.toNat) fun x => k (.sl true E x) [])
  | _ => none
theorem QEx.capT {o : Oper} {e : Env} {y t sz l} (ho : o.op = .call { callee := .builtin .cap, args := #[y], argTypes := #[t] }) (ht : ∃ E, P.underlying t = some (.slice E)) (hy : OpdOk e y (.sl true sz l)) :
    QEx P o e [] (.v (.int .i64 l.length)) :=
  .pure fun _ _ _ _ _ ac w _ _ hr => by
    have h1 := hy.rep hr (by simp [ho, Op.operands, Call.operands])
    obtain ⟨E, hE⟩ := ht
    refine ⟨_, ?_, .v⟩
    obtain ⟨ad, n, cap, cs, hv, h2, -, -, -, -, -, h3, -⟩ := sl_cells h1
    have h3 := h3 rfl
    subst h3
    rw [← h2]
    simp [execOp, ho, hv, resolve, invoke, builtin, Builtin.cap_, underlying, hE, goInt]
/-- The capacity, where it is known. -/
def qCap (P : Program) (L : SLS tb) (G : Gd) (y : Operand) (t : Nat) (k : SV tb → List Nat → Option ρ) : Option ρ :=
  got (opd L G y) fun a => got (P.underlying t) fun D => got (isSlD D) fun _ => match isNil a with
  | true => k (.i .i64 0) []
  | false => match a with
    | .em _ => k (.i .i64 0) []
    | .sl true _ l => Let (l.length : Int) fun n => k (.i .i64 n) []
    | _ => none
theorem qCap_ok {L : SLS tb} {G o y t} {k : SV tb → List Nat → Option ρ} {r} (ho : o.op = .call { callee := .builtin .cap, args := #[y], argTypes := #[t] }) (h : qCap P L G y t k = some r) : QOk P L G o k r := by
  unfold qCap at h
  obtain ⟨a, ha, h⟩ := got_e h
  obtain ⟨D, hD, h⟩ := got_e h
  obtain ⟨E, hE, h⟩ := got_e h
  rw [isSlD_e hE] at hD
  have hy := fun u => opd_ok (L := L) (G := G) u ha
  split at h
  · rename_i hn
    refine ⟨_, [], h, fun u => ?_⟩
    have h1 : OpdOk L.E y (.sl true 1 []) := (hy u).sub (by rw [isNil_e hn]; exact .nil)
    exact QEx.capT ho ⟨_, hD⟩ h1
  · split at h
    · exact ⟨_, [], h, fun u => QEx.capT ho ⟨_, hD⟩ (hy u)⟩
    · refine ⟨_, [], h, fun u => ?_⟩
      have := QEx.capT ho ⟨_, hD⟩ (hy u)
      rw [List.length_map] at this
      exact this
    · cases h
end
end Go.Rx
