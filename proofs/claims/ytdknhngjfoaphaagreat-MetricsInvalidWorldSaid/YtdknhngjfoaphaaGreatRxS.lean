/-
  Operations that read memory and make values, run on symbolic values. No conditions.
-/
import Derived.Test.YtdknhngjfoaphaaGreatRxR
set_option linter.all false
namespace Go.Rx
open Go.RowKit

section
variable {P : Program} {tb : Tb} {ρ : Type}

theorem avL_length : ∀ l : List (SV tb), (avL l).length = l.length
  | [] => rfl
  | x :: l => by simp only [avL, List.length_cons, avL_length l]
theorem avL_drop : ∀ (l : List (SV tb)) n, avL (l.drop n) = (avL l).drop n := fun l n => by rw [avL_map, avL_map, List.map_drop]
theorem avL_take : ∀ (l : List (SV tb)) n, avL (l.take n) = (avL l).take n := fun l n => by rw [avL_map, avL_map, List.map_take]

/-- An element of a plain slice. -/
def ixd {α : Type} (d : α) (l : List α) (i : Int) : α := @ix α ⟨d⟩ l i
theorem ixd_get {α : Type} {d : α} {l : List α} {i : Int} (h : 0 ≤ i ∧ i < l.length) : l[i.toNat]? = some (ixd d l i) := by
  have hlt : i.toNat < l.length := by omega
  simp [ixd, ix, List.getD, List.getElem?_eq_getElem hlt]
variable {cx : Ctx P tb}
theorem elC_len (ok : ∀ i, CdOk (cx.cd i)) {E : tb.Ix} {l : List (tb.T E)} : ∀ x ∈ l.map (tb.el E), x.cells.length = tb.sz E := by
  intro x hx
  obtain ⟨y, -, rfl⟩ := List.mem_map.1 hx
  exact (ok E).len y
theorem elC_length (cx : Ctx P tb) {E : tb.Ix} {l : List (tb.T E)} : (elC tb E l).length = l.length * tb.sz E := by
  unfold elC; rw [flat_len (elC_len cx.ok), List.length_map]
theorem elC_at (cx : Ctx P tb) {E : tb.Ix} {l : List (tb.T E)} {i : Int} (h : 0 ≤ i ∧ i < l.length) : ((elC tb E l).drop (i.toNat * tb.sz E)).take (tb.sz E) = avL ((cx.cd E).cs (ixd (cx.cd E).inh l i)) := by
  unfold elC
  rw [flat_at (elC_len cx.ok) (e := tb.el E (ixd (cx.cd E).inh l i)) (by rw [List.getElem?_map, ixd_get h]; rfl), (cx.ok E).cs]
theorem elC_sub (cx : Ctx P tb) {E : tb.Ix} {l : List (tb.T E)} {i : Int} {fo sz : Nat} (h : 0 ≤ i ∧ i < l.length) (hf : fo + sz ≤ tb.sz E) :
    ((elC tb E l).drop (i.toNat * tb.sz E + fo)).take sz = avL ((((cx.cd E).cs (ixd (cx.cd E).inh l i)).drop fo).take sz) := by
  rw [avL_take, avL_drop, ← elC_at cx h, List.drop_take, List.drop_drop, List.take_take, Nat.min_eq_left (by omega)]
theorem cs_length (cx : Ctx P tb) {E : tb.Ix} {x : tb.T E} : ((cx.cd E).cs x).length = tb.sz E := by
  rw [← avL_length, (cx.ok E).cs, (cx.ok E).len]

/-- Numbers of one kind, as many as come first. -/
def intsK (K : IntKind) : List (SV tb) → List Int
  | [] => []
  | x :: r => match x with
    | .i k n => (match decide (k = K) with | true => n :: intsK K r | false => [])
    | .con (.int k n) => (match decide (k = K) with | true => n :: intsK K r | false => [])
    | _ => []
def kindAt : List (SV tb) → Option IntKind
  | [] => none
  | x :: _ => match x with
    | .i k _ => some k
    | .con (.int k _) => some k
    | _ => none
theorem intsK_get {K : IntKind} : ∀ {l : List (SV tb)} {i : Nat}, i < (intsK K l).length → ∃ x, l[i]? = some x ∧ x.av = .v (.int K ((intsK K l).getD i 0))
  | [], i, h => by simp [intsK] at h
  | x :: r, i, h => by
    have step : ∀ n, intsK K (x :: r) = n :: intsK K r → x.av = .v (.int K n) → ∃ y, (x :: r)[i]? = some y ∧ y.av = .v (.int K ((intsK K (x :: r)).getD i 0)) := by
      intro n h1 h2
      cases i with
      | zero => exact ⟨x, rfl, by rw [h1, h2]; rfl⟩
      | succ i =>
        rw [h1, List.length_cons] at h
        obtain ⟨y, h3, h4⟩ := intsK_get (K := K) (l := r) (i := i) (by omega)
        exact ⟨y, by simpa using h3, by rw [h4, h1]; rfl⟩
    have none_ : intsK K (x :: r) = [] → ∃ y, (x :: r)[i]? = some y ∧ y.av = .v (.int K ((intsK K (x :: r)).getD i 0)) := by
      intro h1; rw [h1] at h; simp at h
    cases x with
    | i k n =>
      by_cases hk : k = K
      · subst hk; exact step n (by simp [intsK]) rfl
      · exact none_ (by simp [intsK, hk])
    | con v =>
      cases v with
      | int k n =>
        by_cases hk : k = K
        · subst hk; exact step n (by simp [intsK]) rfl
        · exact none_ (by simp [intsK, hk])
      | _ => exact none_ rfl
    | _ => exact none_ rfl
/-- The strings that cells hold. -/
def strsS : List (SV tb) → List (List UInt8)
  | [] => []
  | x :: r => match asS x with
    | some s => s :: strsS r
    | none => []
theorem strsS_get : ∀ {l : List (SV tb)} {i : Nat}, i < (strsS l).length → ∃ x, l[i]? = some x ∧ x.av = sAV ((strsS l).getD i [])
  | [], i, h => by simp [strsS] at h
  | x :: r, i, h => by
    unfold strsS at h ⊢
    split at h
    · rename_i s hs
      cases i with
      | zero => exact ⟨x, rfl, asS_e hs⟩
      | succ i =>
        obtain ⟨y, h3, h4⟩ := strsS_get (l := r) (i := i) (by simpa using h)
        exact ⟨y, by simpa using h3, by rw [h4]; rfl⟩
    · simp at h
/-- Cells that are no structs. -/
def allOne : List (SV tb) → Bool
  | [] => true
  | x :: l => match x with
    | .agg _ => false
    | .opt _ _ => false
    | .tup _ => false
    | .con v => (match oneCell v with | true => allOne l | false => false)
    | _ => allOne l
theorem allOne_flat : ∀ {l : List (SV tb)}, allOne l = true → (avL l).flatMap AV.cells = avL l ∧ ∀ x ∈ avL l, x.cells.length = 1
  | [], _ => ⟨rfl, by simp [avL]⟩
  | x :: l, h => by
    have key : allOne l = true → x.av.cells = [x.av] → (avL (x :: l)).flatMap AV.cells = avL (x :: l) ∧ ∀ y ∈ avL (x :: l), y.cells.length = 1 := by
      intro h1 h2
      obtain ⟨g1, g2⟩ := allOne_flat h1
      refine ⟨?_, ?_⟩
      · simp only [avL, List.flatMap_cons]
        rw [g1, h2]; rfl
      · intro y hy
        simp only [avL, List.mem_cons] at hy
        rcases hy with rfl | hy
        · rw [h2]; rfl
        · exact g2 y hy
    cases x with
    | agg _ => cases h
    | opt _ _ => cases h
    | tup _ => cases h
    | con v =>
      unfold allOne at h
      simp only at h
      split at h
      · rename_i hv; exact key h rfl
      · cases h
    | _ => exact key h rfl
def qLoad (cx : Ctx P tb) (L : SLS tb) (G : Gd) (t : Nat) (y : Operand) (k : SV tb → List Nat → Option ρ) : Option ρ :=
  got (opd L G y) fun a => got (tAg P t) fun ag => match a with
  | .cp l => (match ag with
    | true => got (tSz P t) fun n => tst (Nat.beq n l.length) (k (.agg l) [])
    | false => match l with | [x] => k x [] | _ => none)
  | .ptr id off => got (cellsAt L id) fun l => (match ag with
    | true => got (tSz P t) fun n => tst (Nat.ble (off + n) l.length) (k (.agg ((l.drop off).take n)) [id])
    | false => got (nth l off) fun x => k x [id])
  | .epr id E i fo => (match arrAt L id E with
    | some l => chk G (0 ≤ i ∧ i < l.length) (Let (ixd (cx.cd E).inh l i) fun x => match ag with
      | true => got (tSz P t) fun n => tst (Nat.ble (fo + n) (tb.sz E)) (k (.agg ((((cx.cd E).cs x).drop fo).take n)) [id])
      | false => got (nth ((cx.cd E).cs x) fo) fun y => k y [id])
    | none => tst (!ag) <| tst (Nat.beq (tb.sz E) 1) <| got (cellsAt L id) fun l => got (kindAt (l.drop fo)) fun K => chk G (0 ≤ i ∧ i < (intsK K (l.drop fo)).length) (Let (ixd 0 (intsK K (l.drop fo)) i) fun x => k (.i K x) [id]))
  | _ => none
theorem qLoad_ok {L : SLS tb} {G o t y} {k : SV tb → List Nat → Option ρ} {r} (ho : o.op = .load t y) (h : qLoad cx L G t y k = some r) : QOk P L G o k r := by
  unfold qLoad at h
  obtain ⟨a, ha, h⟩ := got_e h
  obtain ⟨ag, hag, h⟩ := got_e h
  have hy := fun u => opd_ok (L := L) (G := G) u ha
  split at h
  · split at h
    · obtain ⟨n, hn, h⟩ := got_e h
      obtain ⟨h1, h⟩ := tst_e h
      exact ⟨_, [], h, fun u => QEx.loadAgg ho hag (by rw [hn, Nat.eq_of_beq_eq_true h1, avL_length]) (hy u)⟩
    · split at h
      · exact ⟨_, [], h, fun u => QEx.load1 ho hag (hy u)⟩
      · cases h
  · obtain ⟨l, hl, h⟩ := got_e h
    have hl := cellsAt_e hl
    split at h
    · obtain ⟨n, hn, h⟩ := got_e h
      obtain ⟨h1, h⟩ := tst_e h
      refine ⟨_, _, h, fun u => ?_⟩
      rw [needAV_one hl]
      have := QEx.loadP (l := avL l) ho hag hn (hy u) (by rw [avL_length]; exact Nat.le_of_ble_eq_true h1)
      simp only [SV.av]
      rw [avL_take, avL_drop]; exact this
    · obtain ⟨x, hx, h⟩ := got_e h
      rw [nth_e] at hx
      refine ⟨_, _, h, fun u => ?_⟩
      rw [needAV_one hl]
      exact QEx.loadP1 ho hag (hy u) (avL_get hx)
  · rename_i id E i fo _
    split at h
    · rename_i l hl
      have hl := arrAt_e hl
      obtain ⟨hc, h⟩ := chk_e h
      change (match ag with | true => _ | false => _) = _ at h
      split at h
      · obtain ⟨n, hn, h⟩ := got_e h
        obtain ⟨h1, h⟩ := tst_e h
        have h1 := Nat.le_of_ble_eq_true h1
        refine ⟨_, _, h, fun u => ?_⟩
        rw [needAV_one hl]
        have hc := hc u.on
        have hlt : i.toNat + 1 ≤ l.length := by omega
        have := QEx.loadP (l := elC tb E l) ho hag hn (hy u) (by
          rw [elC_length cx]
          have := Nat.mul_le_mul_right (tb.sz E) hlt
          rw [Nat.add_mul] at this; omega)
        rw [elC_sub cx hc h1] at this
        exact this
      · obtain ⟨x, hx, h⟩ := got_e h
        rw [nth_e] at hx
        refine ⟨_, _, h, fun u => ?_⟩
        rw [needAV_one hl]
        have hc := hc u.on
        have hlt : fo < tb.sz E := by
          have : fo < ((cx.cd E).cs (ixd (cx.cd E).inh l i)).length := by
            rcases Nat.lt_or_ge fo ((cx.cd E).cs (ixd (cx.cd E).inh l i)).length with h | h
            · exact h
            · rw [List.getElem?_eq_none h] at hx; cases hx
          rwa [cs_length cx] at this
        refine QEx.loadP1 (l := elC tb E l) ho hag (hy u) ?_
        have h2 := congrArg (fun z : List AV => z[0]?) (elC_sub cx (l := l) (fo := fo) (sz := 1) hc hlt)
        have h3 : (avL ((((cx.cd E).cs (ixd (cx.cd E).inh l i)).drop fo).take 1))[0]? = some x.av := avL_get (by rw [List.getElem?_take_of_lt (by omega), List.getElem?_drop]; simpa using hx)
        rw [h3, List.getElem?_take_of_lt (by omega), List.getElem?_drop, Nat.add_zero] at h2
        exact h2
    · obtain ⟨h1, h⟩ := tst_e h
      obtain ⟨h2, h⟩ := tst_e h
      obtain ⟨l, hl, h⟩ := got_e h
      obtain ⟨K, hK, h⟩ := got_e h
      obtain ⟨hc, h⟩ := chk_e h
      have h := (show k (.i K (ixd 0 (intsK K (l.drop fo)) i)) [id] = some r from h)
      have hl := cellsAt_e hl
      refine ⟨_, _, h, fun u => ?_⟩
      rw [needAV_one hl]
      have hc := hc u.on
      have hag' : ag = false := by simpa using h1
      rw [hag'] at hag
      obtain ⟨x, hx, hxa⟩ := intsK_get (K := K) (l := l.drop fo) (i := i.toNat) (by omega)
      have hx' : l[i.toNat * tb.sz E + fo]? = some x := by
        rw [List.getElem?_drop] at hx
        rw [Nat.eq_of_beq_eq_true h2, Nat.mul_one, Nat.add_comm]; exact hx
      have := QEx.loadP1 ho hag (hy u) (avL_get hx')
      rw [hxa] at this
      exact this
  · cases h

def isStD : TypeDesc → Option (Array Field)
  | .struct fs => some fs
  | _ => none
theorem isStD_e {d E} (h : isStD d = some E) : d = .struct E := by unfold isStD at h; split at h; cases h; rfl; cases h
def isArD : TypeDesc → Option (Nat × Nat)
  | .array n E => some (n, E)
  | _ => none
theorem isArD_e {d p} (h : isArD d = some p) : d = .array p.1 p.2 := by unfold isArD at h; split at h; cases h; rfl; cases h
/-- A field's place: the field, its size. -/
def fieldAt (P : Program) (t f : Nat) : Option (Field × Nat) := got (P.underlying t) fun D => got (isStD D) fun fs => got (fs[f]?) fun fd => got (tSz P fd.type) fun n => tst (Nat.ble 1 n) (some (fd, n))
theorem fieldAt_e {t f p} (h : fieldAt P t f = some p) : ∃ fs, P.underlying t = some (.struct fs) ∧ fs[f]? = some p.1 ∧ tSz P p.1.type = some p.2 ∧ 0 < p.2 := by
  unfold fieldAt at h
  obtain ⟨D, hD, h⟩ := got_e h
  obtain ⟨fs, hfs, h⟩ := got_e h
  obtain ⟨fd, hfd, h⟩ := got_e h
  obtain ⟨n, hn, h⟩ := got_e h
  obtain ⟨h1, h⟩ := tst_e h
  cases h
  rw [isStD_e hfs] at hD
  exact ⟨fs, hD, hfd, hn, Nat.le_of_ble_eq_true h1⟩
def qFieldA (P : Program) (L : SLS tb) (G : Gd) (t : Nat) (y : Operand) (f : Nat) (k : SV tb → List Nat → Option ρ) : Option ρ :=
  got (opd L G y) fun a => got (fieldAt P t f) fun p => match a with
  | .cp l => k (.cp ((l.drop p.1.offset).take p.2)) []
  | .ptr id off => k (.ptr id (off + p.1.offset)) []
  | .epr id E i fo => k (.epr id E i (fo + p.1.offset)) []
  | _ => none
theorem qFieldA_ok {L : SLS tb} {G o t y f} {k : SV tb → List Nat → Option ρ} {r} (ho : o.op = .fieldAddr t y f) (h : qFieldA P L G t y f k = some r) : QOk P L G o k r := by
  unfold qFieldA at h
  obtain ⟨a, ha, h⟩ := got_e h
  obtain ⟨p, hp, h⟩ := got_e h
  obtain ⟨fs, h1, h2, h3, h4⟩ := fieldAt_e hp
  have hy := fun u => opd_ok (L := L) (G := G) u ha
  split at h
  · refine ⟨_, [], h, fun u => ?_⟩
    have := QEx.fieldC ho h1 h2 h3 h4 (hy u)
    simp only [SV.av]; rw [avL_take, avL_drop]; exact this
  · exact ⟨_, [], h, fun u => QEx.fieldP ho h1 h2 h3 h4 (hy u)⟩
  · refine ⟨_, [], h, fun u => ?_⟩
    have := QEx.fieldP ho h1 h2 h3 h4 (hy u)
    simp only [SV.av] at this ⊢
    rw [Nat.add_assoc] at this; exact this
  · cases h

/-- What slices of this type hold: the element's type, its bytes. -/
def elemT (P : Program) (t sz : Nat) : Option (Nat × Nat) := got (P.underlying t) fun D => got (isSlD D) fun E => got (P.info? E) fun i => got i.zero fun z =>
  tst (Nat.beq i.size sz) <| tst (Nat.beq z.cells.size sz) <| tst (z.cells.toList.all oneCell) <| tst (Nat.ble 1 sz) (some (E, i.bytes))
theorem elemT_e {t sz p} (h : elemT P t sz = some p) : ElemT P t p.1 sz p.2 := by
  unfold elemT at h
  obtain ⟨D, hD, h⟩ := got_e h
  obtain ⟨E, hE, h⟩ := got_e h
  obtain ⟨i, hi, h⟩ := got_e h
  obtain ⟨z, hz, h⟩ := got_e h
  obtain ⟨h1, h⟩ := tst_e h
  obtain ⟨h2, h⟩ := tst_e h
  obtain ⟨h3, h⟩ := tst_e h
  obtain ⟨h4, h⟩ := tst_e h
  cases h
  rw [isSlD_e hE] at hD
  exact ⟨hD, ⟨i, z, hi, hz, Nat.eq_of_beq_eq_true h1, rfl, Nat.eq_of_beq_eq_true h2, h3⟩, Nat.le_of_ble_eq_true h4⟩

def isArr : Option (SC tb) → Bool
  | some (.arr _ _) => true
  | _ => false
def qIxA (cx : Ctx P tb) (L : SLS tb) (G : Gd) (t : Nat) (y z : Operand) (k : SV tb → List Nat → Option ρ) : Option ρ :=
  got (opd L G y) fun a => got (opd L G z) fun b => got (asI b) fun q => got (P.underlying t) fun D => match isSlD D with
  | some E' => got (tSz P E') fun n => (match a with
    | .sl _ E l => tst (Nat.beq n (tb.sz E)) <| chk G (0 ≤ q.2 ∧ q.2 < l.length) (Let (ixd (cx.cd E).inh l q.2) fun x => k (.cp ((cx.cd E).cs x)) [])
    | .row id E off len _ => tst (Nat.beq n (tb.sz E)) <| chk G (0 ≤ q.2 ∧ q.2 < len) (k (.epr id E ((off : Int) + q.2) 0) [])
    | .rw id E => (match arrAt L id E with
      | some l => tst (Nat.beq n (tb.sz E)) <| chk G (0 ≤ q.2 ∧ q.2 < l.length) (k (.epr id E q.2 0) [id])
      | none => match b with
        | .con _ => got (cellsAt L id) fun l => tst (Nat.beq n (tb.sz E)) <| tst (Nat.beq n 1) <| tst (allOne l) <| tst (decide (0 ≤ q.2 ∧ q.2 < l.length)) (k (.ptr id q.2.toNat) [id])
        | _ => none)
    | _ => none)
  | none => got (isArD D) fun p => got (tSz P p.2) fun n => (match a with
    | .ptr id off => (match b, isArr (find id L.h) with
      | .con _, false => tst (decide (0 ≤ q.2 ∧ q.2 < p.1)) (k (.ptr id (off + q.2.toNat * n)) [])
      | _, _ => match find id L.h with
        | some (.arr E _) => tst (Nat.beq n (tb.sz E)) <| tst (Nat.beq off 0) <| chk G (0 ≤ q.2 ∧ q.2 < p.1) (k (.epr id E q.2 0) [])
        | some (.cells _) => got (tb.look p.2) fun E => tst (Nat.beq n (tb.sz E)) <| chk G (0 ≤ q.2 ∧ q.2 < p.1) (k (.epr id E q.2 off) [])
        | _ => none)
    | .cp l => (match b with
      | .con _ => tst (decide (0 ≤ q.2 ∧ q.2 < p.1)) (k (.cp ((l.drop (q.2.toNat * n)).take n)) [])
      | _ => got (kindAt l) fun K => tst (Nat.beq n 1) <| tst (Nat.ble p.1 (intsK K l).length) <| chk G (0 ≤ q.2 ∧ q.2 < p.1) (Let (ixd 0 (intsK K l) q.2) fun x => k (.cp [.i K x]) []))
    | _ => none)
theorem qIxA_ok {L : SLS tb} {G o t y z} {k : SV tb → List Nat → Option ρ} {r} (ho : o.op = .indexAddr t y z) (h : qIxA cx L G t y z k = some r) : QOk P L G o k r := by
  unfold qIxA at h
  obtain ⟨a, ha, h⟩ := got_e h
  obtain ⟨b, hb, h⟩ := got_e h
  obtain ⟨q, hq, h⟩ := got_e h
  obtain ⟨D, hD, h⟩ := got_e h
  have hy := fun u => opd_ok (L := L) (G := G) u ha
  have hz := fun u => opd_ok (L := L) (G := G) u hb
  rw [asI_e hq] at hz
  split at h
  · rename_i E' hE
    rw [isSlD_e hE] at hD
    obtain ⟨n, hn, h⟩ := got_e h
    split at h
    · rename_i c E l _ _ _ _
      obtain ⟨h1, h⟩ := tst_e h
      rw [Nat.eq_of_beq_eq_true h1] at hn
      obtain ⟨hc, h⟩ := chk_e h
      refine ⟨_, [], h, fun u => ?_⟩
      have hc := hc u.on
      have := QEx.indexAddr (x := tb.el E (ixd (cx.cd E).inh l q.2)) ho hD hn (cx.ok E).pos (hy u) (hz u) hc.1 (by rw [List.getElem?_map, ixd_get hc]; rfl)
      simp only [SV.av]; rw [(cx.ok E).cs]; exact this
    · rename_i id E off len mc _ _ _ _
      obtain ⟨h1, h⟩ := tst_e h
      rw [Nat.eq_of_beq_eq_true h1] at hn
      obtain ⟨hc, h⟩ := chk_e h
      refine ⟨_, [], h, fun u => ?_⟩
      have hc := hc u.on
      have := QEx.indexR (need := []) ho hD hn ((hy u).r (by simp [ho, Op.operands])) (hz u) hc.1 hc.2
      simp only [SV.av]
      rw [show ((off : Int) + q.2).toNat * tb.sz E + 0 = off * tb.sz E + q.2.toNat * tb.sz E by rw [← Nat.add_mul, Nat.add_zero]; congr 1; omega]
      exact this
    · rename_i id E _ _ _ _
      split at h
      · rename_i l hl
        have hl := arrAt_e hl
        obtain ⟨h1, h⟩ := tst_e h
        rw [Nat.eq_of_beq_eq_true h1] at hn
        obtain ⟨hc, h⟩ := chk_e h
        refine ⟨_, _, h, fun u => ?_⟩
        have hc := hc u.on
        rw [needAV_one hl]
        have := QEx.indexR ho hD hn (ROk.rw (xs := l.map (tb.el E)) (hy u) (by simp [ho, Op.operands]) (show _ ∈ [(id, elC tb E l)] from List.mem_singleton.2 rfl) (elC_len cx.ok) (cx.ok E).pos) (hz u) hc.1 (by rw [List.length_map]; exact hc.2)
        rw [Nat.zero_add] at this
        exact this
      · split at h
        · obtain ⟨l, hl, h⟩ := got_e h
          have hl := cellsAt_e hl
          obtain ⟨h1, h⟩ := tst_e h
          obtain ⟨h2, h⟩ := tst_e h
          obtain ⟨h3, h⟩ := tst_e h
          obtain ⟨h4, h⟩ := tst_e h
          have h1 := Nat.eq_of_beq_eq_true h1
          have h2 := Nat.eq_of_beq_eq_true h2
          have h4 := of_decide_eq_true h4
          obtain ⟨g1, g2⟩ := allOne_flat h3
          refine ⟨_, _, h, fun u => ?_⟩
          rw [needAV_one hl]
          have hyu := hy u
          simp only [SV.av] at hyu
          rw [← h1, h2] at hyu
          rw [h2] at hn
          have := QEx.indexR ho hD hn (ROk.rw (xs := avL l) hyu (by simp [ho, Op.operands]) (show _ ∈ [(id, avL l)] from by rw [g1]; exact List.mem_singleton.2 rfl) g2 (by decide)) (hz u) h4.1 (by rw [avL_length]; exact h4.2)
          rw [Nat.zero_add, Nat.mul_one] at this
          exact this
        · cases h
    · cases h
  · obtain ⟨p, hp, h⟩ := got_e h
    rw [isArD_e hp] at hD
    obtain ⟨n, hn, h⟩ := got_e h
    split at h
    · rename_i id off _ _ _ _
      split at h
      · obtain ⟨h1, h⟩ := tst_e h
        have h1 := of_decide_eq_true h1
        exact ⟨_, [], h, fun u => QEx.indexP ho hD hn (hy u) (hz u) h1.1 h1.2⟩
      · split at h
        · rename_i E l hf
          obtain ⟨h1, h⟩ := tst_e h
          obtain ⟨h2, h⟩ := tst_e h
          obtain ⟨hc, h⟩ := chk_e h
          refine ⟨_, [], h, fun u => ?_⟩
          have hc := hc u.on
          have := QEx.indexP ho hD hn (hy u) (hz u) hc.1 hc.2
          rw [Nat.eq_of_beq_eq_true h2, Nat.eq_of_beq_eq_true h1, Nat.zero_add] at this
          exact this
        · obtain ⟨E, hE, h⟩ := got_e h
          obtain ⟨h1, h⟩ := tst_e h
          obtain ⟨hc, h⟩ := chk_e h
          refine ⟨_, [], h, fun u => ?_⟩
          have hc := hc u.on
          have := QEx.indexP ho hD hn (hy u) (hz u) hc.1 hc.2
          rw [Nat.eq_of_beq_eq_true h1, Nat.add_comm] at this
          exact this
        · cases h
    · rename_i l _ _ _ _ _
      split at h
      · obtain ⟨h1, h⟩ := tst_e h
        have h1 := of_decide_eq_true h1
        refine ⟨_, [], h, fun u => ?_⟩
        have := QEx.indexC ho hD hn (hy u) (hz u) h1.1 h1.2
        simp only [SV.av]; rw [avL_take, avL_drop]; exact this
      · obtain ⟨K, hK, h⟩ := got_e h
        obtain ⟨h1, h⟩ := tst_e h
        obtain ⟨h2, h⟩ := tst_e h
        obtain ⟨hc, h⟩ := chk_e h
        have h := (show k (.cp [.i K (ixd 0 (intsK K l) q.2)]) [] = some r from h)
        refine ⟨_, [], h, fun u => ?_⟩
        have hc := hc u.on
        have h2 := Nat.le_of_ble_eq_true h2
        have := QEx.indexC ho hD hn (hy u) (hz u) hc.1 hc.2
        obtain ⟨x, hx, hxa⟩ := intsK_get (K := K) (l := l) (i := q.2.toNat) (by omega)
        rw [Nat.eq_of_beq_eq_true h1, Nat.mul_one] at this
        have e1 : ((avL l).drop q.2.toNat).take 1 = [x.av] := by
          have hlt : q.2.toNat < (avL l).length := by
            rw [avL_length]
            rcases Nat.lt_or_ge q.2.toNat l.length with h | h
            · exact h
            · rw [List.getElem?_eq_none h] at hx; cases hx
          have := avL_get hx
          rw [List.getElem?_eq_getElem hlt] at this
          rw [List.drop_eq_getElem_cons hlt]
          simp only [List.take_succ_cons, List.take_zero]
          rw [Option.some.inj this]
        rw [e1, hxa] at this
        exact this
    · cases h
end
end Go.Rx
