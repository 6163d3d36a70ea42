/-
  Values in interfaces; arrays out of slices; functions whose contracts were proved by hand. Conditions: those named in each rule.
-/
import Derived.Test.YtdknhngjfoaphaaGreatRxV
set_option linter.all false
namespace Go.Rx
open Go.RowKit
section
variable {P : Program} {o : Oper} {e : Env}
def isIfD : TypeDesc → Bool
  | .interface _ => true
  | _ => false
theorem isIfD_e {d} (h : isIfD d = true) : ∃ ms, d = .interface ms := by unfold isIfD at h; split at h; exact ⟨_, rfl⟩; cases h
theorem QEx.mkIfc {t y x d} (ho : o.op = .makeInterface t y) (ht : P.underlying t = some d) (hd : isIfD d = false) (hy : OpdOk e y x) : QEx P o e [] (.ifc t x) :=
  .pure fun _ _ _ m bl ac w _ _ hr => by
    have h1 := hy.rep hr (by simp [ho, Op.operands])
    refine ⟨.iface t (ac.eval y), ?_, .ifc h1⟩
    cases d <;> first | (cases hd; done) | simp [execOp, ho, Instr.makeInterface, run_underlying_of ht]
theorem run_equalIn_ifnil {t ms} (ht : P.underlying t = some (.interface ms)) (d t' : Nat) (v : Value) (w : World) : (Op.equalIn (d + 1) t (.iface t' v) .nilIface).run P w = .ok false w := by
  simp [Op.equalIn, run_underlying_of ht]
theorem run_equalIn_nilnil {t ms} (ht : P.underlying t = some (.interface ms)) (d : Nat) (w : World) : (Op.equalIn (d + 1) t .nilIface .nilIface).run P w = .ok true w := by
  simp [Op.equalIn, run_underlying_of ht]
theorem run_eql_if (t : TypeId) (x y : Value) (w : World) (hx : (∃ t' v, x = .iface t' v) ∨ x = .nilIface) (hy : y = .nilIface) : (binOp .eql t x y).run P w = ((Op.equalIn 10000 t x y).run P w).andThen fun b w' => .ok (.bool b) w' := by
  subst hy
  rcases hx with ⟨t', v, rfl⟩ | rfl <;> simp [binOp, Op.equal, Op.maxDepth]
theorem run_neq_if (t : TypeId) (x y : Value) (w : World) (hx : (∃ t' v, x = .iface t' v) ∨ x = .nilIface) (hy : y = .nilIface) : (binOp .neq t x y).run P w = ((Op.equalIn 10000 t x y).run P w).andThen fun b w' => .ok (.bool (!b)) w' := by
  subst hy
  rcases hx with ⟨t', v, rfl⟩ | rfl <;> simp [binOp, Op.equal, Op.maxDepth]
/-- Is an interface's value nil? -/
theorem QEx.ifNil {t y yt ms x b} (neg : Bool) (ho : o.op = .binOp (if neg then .neq else .eql) t y (.const .nilIface) yt) (ht : P.underlying t = some (.interface ms)) (hy : OpdOk e y x)
    (hx : (∃ t' x', x = .ifc t' x' ∧ b = false) ∨ (x = .v .nilIface ∧ b = true)) : QEx P o e [] (.v (.bool (b != neg))) :=
  .pure fun _ _ _ m bl ac w _ _ hr => by
    have h1 := hy.rep hr (by simp [ho, Op.operands])
    have hz : ac.eval (.const .nilIface) = .nilIface := rfl
    have key : ∀ v, ac.eval y = v → ((∃ t' v', v = .iface t' v' ∧ b = false) ∨ (v = .nilIface ∧ b = true)) → (execOp ac.eval o).run P w = .ok (.value (.bool (b != neg))) w := by
      intro v hv hc
      have hg : ∀ op, (eqGuard op t y (.const .nilIface) v .nilIface).run P w = .ok () w := by
        intro op
        rcases hc with ⟨t', v', rfl, -⟩ | ⟨rfl, -⟩ <;> cases op <;> simp [eqGuard]
      have heq : (Op.equalIn 10000 t v .nilIface).run P w = .ok b w := by
        rcases hc with ⟨t', v', rfl, rfl⟩ | ⟨rfl, rfl⟩
        · exact run_equalIn_ifnil ht 9999 t' v' w
        · exact run_equalIn_nilnil ht 9999 w
      have hs : (∃ t' v', v = .iface t' v') ∨ v = .nilIface := by
        rcases hc with ⟨t', v', rfl, -⟩ | ⟨rfl, -⟩
        · exact .inl ⟨_, _, rfl⟩
        · exact .inr rfl
      cases neg with
      | false =>
        have h4 := run_eql_if (P := P) t v .nilIface w hs rfl
        rw [heq] at h4
        simp only [Result.andThen_ok] at h4
        simp [execOp, ho, hv, hz, Sem.run_bind, hg, Result.andThen_ok, h4, Sem.run_pure]
      | true =>
        have h4 := run_neq_if (P := P) t v .nilIface w hs rfl
        rw [heq] at h4
        simp only [Result.andThen_ok] at h4
        simp [execOp, ho, hv, hz, Sem.run_bind, hg, Result.andThen_ok, h4, Sem.run_pure]
    rcases hx with ⟨t', x', rfl, hb⟩ | ⟨rfl, hb⟩
    · generalize hv : ac.eval y = v at h1
      cases h1 with
      | ifc h2 => exact ⟨_, key _ hv (.inl ⟨_, _, rfl, hb⟩), .v⟩
    · have := h1.eq_v
      exact ⟨_, key _ this (.inr ⟨rfl, hb⟩), .v⟩
/-- A value taken out of an interface. -/
theorem QEx.ifcOut {y xt t x d} (ho : o.op = .typeAssert y xt t true) (ht : P.underlying t = some d) (hd : isIfD d = false) (hy : OpdOk e y (.ifc t x)) : QEx P o e [] (.tup [x, .v (.bool true)]) :=
  .pure fun _ _ _ m bl ac w _ _ hr => by
    have h1 := hy.rep hr (by simp [ho, Op.operands])
    generalize hv : ac.eval y = v at h1
    cases h1 with
    | ifc h2 =>
      rename_i v'
      refine ⟨.tuple #[v', .bool true], ?_, .tup (.cons h2 (.cons .v .nil))⟩
      cases d <;> first | (cases hd; done) | simp [execOp, ho, hv, Instr.typeAssert, run_underlying_of ht]
/-- The array that a slice's first elements are. -/
theorem QEx.arrAt {t y n E sz c l} (ho : o.op = .sliceToArrayPointer t y) (ht : P.underlying t = some (.array n E)) (hy : OpdOk e y (.sl c sz l)) (hn : n ≤ l.length) (h0 : 0 < n) (hs : 0 < sz) : QEx P o e [] (.cptr ((l.take n).flatMap AV.cells)) :=
  .pure fun _ _ _ m bl ac w _ _ hr => by
    have h1 := hy.rep hr (by simp [ho, Op.operands])
    generalize hv : ac.eval y = v at h1
    cases h1 with
    | slnil => simp at hn; omega
    | sl g1 g2 g3 g4 g5 g6 g7 =>
      rename_i a cap cs
      have hcl : (l.flatMap AV.cells).length = l.length * sz := flat_len g1
      have hlen := g2.length
      have hpos : 0 < cs.length := by
        rw [← hlen, hcl]; exact Nat.mul_pos (by omega) hs
      have hsp := g4 hpos
      have hft : (l.take n).flatMap AV.cells = (l.flatMap AV.cells).take (n * sz) := (flat_take n g1).symm
      refine ⟨.pointer (some a), ?_, ?_⟩
      · simp [execOp, ho, hv, Instr.arrayAt, run_underlying_of ht, Nat.not_lt.2 hn]
      · obtain ⟨b, off, sp⟩ := a
        simp only at hsp; subst hsp
        rw [hft]
        refine .cptr (g2.take _) (fun c hc => g3 c (List.mem_of_mem_take hc)) (fun j v e => g5 j v (take_get e))
end

section
variable {P : Program} {tb : Tb} {ρ : Type} {cx : Ctx P tb}
def isIfT (P : Program) (t : Nat) : Bool := match P.underlying t with | some d => isIfD d | none => false
theorem isIfT_e {t} (h : isIfT P t = true) : ∃ ms, P.underlying t = some (.interface ms) := by
  unfold isIfT at h
  split at h
  · obtain ⟨ms, rfl⟩ := isIfD_e h; exact ⟨ms, ‹_›⟩
  · cases h
def noIfT (P : Program) (t : Nat) : Bool := match P.underlying t with | some d => !isIfD d | none => false
theorem noIfT_e {t} (h : noIfT P t = true) : ∃ d, P.underlying t = some d ∧ isIfD d = false := by
  unfold noIfT at h
  split at h
  · exact ⟨_, ‹_›, by simpa using h⟩
  · cases h
def qMkI (P : Program) (L : SLS tb) (G : Gd) (t : Nat) (y : Operand) (k : SV tb → List Nat → Option ρ) : Option ρ :=
  got (opd L G y) fun a => tst (noIfT P t) <| k (.ifc t a) []
theorem qMkI_ok {L : SLS tb} {G o t y} {k : SV tb → List Nat → Option ρ} {r} (ho : o.op = .makeInterface t y) (h : qMkI P L G t y k = some r) : QOk P L G o k r := by
  unfold qMkI at h
  obtain ⟨a, ha, h⟩ := got_e h
  obtain ⟨h1, h⟩ := tst_e h
  obtain ⟨d, hd, hi⟩ := noIfT_e h1
  exact ⟨_, [], h, fun u => QEx.mkIfc ho hd hi (opd_ok u ha)⟩
def qOut (P : Program) (L : SLS tb) (G : Gd) (y : Operand) (t : Nat) (k : SV tb → List Nat → Option ρ) : Option ρ :=
  got (opd L G y) fun a => match a with
  | .ifc t' x => tst (Nat.beq t' t) <| tst (noIfT P t) <| k (.tup [x, .con (.bool true)]) []
  | _ => none
theorem qOut_ok {L : SLS tb} {G o y xt t} {k : SV tb → List Nat → Option ρ} {r} (ho : o.op = .typeAssert y xt t true) (h : qOut P L G y t k = some r) : QOk P L G o k r := by
  unfold qOut at h
  obtain ⟨a, ha, h⟩ := got_e h
  have hy := fun u => opd_ok (L := L) (G := G) u ha
  cases a with
  | ifc t' x =>
    obtain ⟨h1, h⟩ := tst_e (show tst (Nat.beq t' t) _ = some r from h)
    obtain ⟨h2, h⟩ := tst_e h
    have := Nat.eq_of_beq_eq_true h1
    rw [← this] at ho h2
    obtain ⟨d, hd, hi⟩ := noIfT_e h2
    exact ⟨_, [], h, fun u => QEx.ifcOut ho hd hi (hy u)⟩
  | _ => cases h
def isNilI : Operand → Bool
  | .const .nilIface => true
  | _ => false
theorem isNilI_e {z : Operand} (h : isNilI z = true) : z = .const .nilIface := by
  unfold isNilI at h
  split at h
  · rfl
  · cases h
/-- Is it an interface's value: nil? -/
def ifNilS : SV tb → Option Bool
  | .ifc _ _ => some false
  | .con .nilIface => some true
  | _ => none
theorem ifNilS_e {x : SV tb} {b} (h : ifNilS x = some b) : (∃ t' x', x.av = .ifc t' x' ∧ b = false) ∨ (x.av = .v .nilIface ∧ b = true) := by
  unfold ifNilS at h
  split at h
  · cases h; exact .inl ⟨_, _, rfl, rfl⟩
  · cases h; exact .inr ⟨rfl, rfl⟩
  · cases h
def qNilI (P : Program) (L : SLS tb) (G : Gd) (neg : Bool) (t : Nat) (y : Operand) (k : SV tb → List Nat → Option ρ) : Option ρ :=
  got (opd L G y) fun a => got (ifNilS a) fun b => tst (isIfT P t) <| k (.con (.bool (b != neg))) []
theorem qNilI_ok {L : SLS tb} {G o neg t y yt} {k : SV tb → List Nat → Option ρ} {r} (ho : o.op = .binOp (if neg then .neq else .eql) t y (.const .nilIface) yt) (h : qNilI P L G neg t y k = some r) : QOk P L G o k r := by
  unfold qNilI at h
  obtain ⟨a, ha, h⟩ := got_e h
  obtain ⟨b, hb, h⟩ := got_e h
  obtain ⟨h1, h⟩ := tst_e h
  obtain ⟨ms, hms⟩ := isIfT_e h1
  exact ⟨_, [], h, fun u => QEx.ifNil neg ho hms (opd_ok u ha) (ifNilS_e hb)⟩
/-- The cells of the elements from i on, n of them. -/
def arrK (cx : Ctx P tb) (E : tb.Ix) (l : List (tb.T E)) : Nat → Nat → List (SV tb) → (List (SV tb) → Option ρ) → Option ρ
  | _, 0, a, k => k a
  | i, n + 1, a, k => Let (ixd (cx.cd E).inh l (i : Int)) fun x => arrK cx E l (i + 1) n (a ++ (cx.cd E).cs x) k
theorem arrK_e {E : tb.Ix} {l : List (tb.T E)} : ∀ {n i : Nat} {a : List (SV tb)} {k : List (SV tb) → Option ρ} {r}, arrK cx E l i n a k = some r → i + n ≤ l.length → avL a = ((l.take i).map (tb.el E)).flatMap AV.cells →
    ∃ b, k b = some r ∧ avL b = ((l.take (i + n)).map (tb.el E)).flatMap AV.cells
  | 0, i, a, k, r, h, _, ha => ⟨a, h, ha⟩
  | n + 1, i, a, k, r, h, hl, ha => by
    have h := (show arrK cx E l (i + 1) n (a ++ (cx.cd E).cs (ixd (cx.cd E).inh l (i : Int))) k = some r from h)
    have hlt : i < l.length := by omega
    have hg := ixd_get (d := (cx.cd E).inh) (l := l) (i := (i : Int)) ⟨by omega, by omega⟩
    rw [Int.toNat_natCast] at hg
    obtain ⟨b, h1, h2⟩ := arrK_e h (by omega) (by
      rw [avL_append, ha, (cx.ok E).cs, List.take_succ, hg]
      simp)
    exact ⟨b, h1, by rw [h2, show i + 1 + n = i + (n + 1) by omega]⟩
def qArr (cx : Ctx P tb) (L : SLS tb) (G : Gd) (t : Nat) (y : Operand) (k : SV tb → List Nat → Option ρ) : Option ρ :=
  got (opd L G y) fun a => got (P.underlying t) fun D => got (isArD D) fun p => match a with
  | .sl _ E l => tst (Nat.ble 1 p.1) <| chk G (p.1 ≤ l.length) <| arrK cx E l 0 p.1 [] fun b => k (.cp b) []
  | _ => none
theorem qArr_ok {L : SLS tb} {G o t y} {k : SV tb → List Nat → Option ρ} {r} (ho : o.op = .sliceToArrayPointer t y) (h : qArr cx L G t y k = some r) (hG : G = []) : QOk P L G o k r := by
  subst hG
  unfold qArr at h
  obtain ⟨a, ha, h⟩ := got_e h
  obtain ⟨D, hD, h⟩ := got_e h
  obtain ⟨p, hp, h⟩ := got_e h
  rw [isArD_e hp] at hD
  have hy := fun u => opd_ok (L := L) (G := []) u ha
  cases a with
  | sl c E l =>
    obtain ⟨h1, h⟩ := tst_e (show tst (Nat.ble 1 p.1) _ = some r from h)
    obtain ⟨hc, h⟩ := chk_e h
    have hc := hc rfl
    obtain ⟨b, h, hb⟩ := arrK_e h (by omega) (by simp [avL])
    refine ⟨_, [], h, fun u => ?_⟩
    have := QEx.arrAt ho hD (hy u) (by rw [List.length_map]; exact hc) (Nat.le_of_ble_eq_true h1) (cx.ok E).pos
    rw [← List.map_take] at this
    simp only [SV.av]
    rw [hb, Nat.zero_add]; exact this
  | _ => cases h
/-- The slice of a whole array. -/
theorem QEx.sliceC {o : Oper} {e : Env} {t y E n sz} {l : List AV} (ho : o.op = .slice t y none none none) (hT : P.underlying t = some (.array n E)) (hs : tSz P E = some sz) (hy : OpdOk e y (.cptr (l.flatMap AV.cells)))
    (hl : l.length = n) (hc : ∀ x ∈ l, x.cells.length = sz) (h0 : 0 < n) : QEx P o e [] (.sl false sz l) :=
  .pure fun _ _ _ m bl ac w _ _ hr => by
    have h1 := hy.rep hr (by simp [ho, Op.operands])
    generalize hv : ac.eval y = v at h1
    cases h1 with
    | cptr g1 g2 g3 =>
      rename_i b off cs
      have e1 : (Instr.sliceBounds false n n none none none).run P w = .ok (0, n, n) w := by simp [Instr.sliceBounds]
      refine ⟨.slice (some ⟨b, off, none⟩) n n, ?_, ?_⟩
      · simp only [execOp, ho, hv, Instr.sliceAt, Sem.run_bind, run_underlying_of hT, Result.andThen_ok, Instr.sureAddr, Option.map_none, e1, run_sizeOf_of hs, Sem.run_pure]
        simp [Nat.ne_of_gt h0, addr_add]
      · subst hl
        exact .sl hc g1 g2 (fun _ => rfl) g3 (Nat.le_refl _) (fun h => by cases h)
def chopC (cx : Ctx P tb) (E : tb.Ix) : Nat → List (SV tb) → Option (List (tb.T E))
  | 0, l => match l with | [] => some [] | _ :: _ => none
  | n + 1, l => got ((cx.cd E).ofC (l.take (tb.sz E))) fun z => got (chopC cx E n (l.drop (tb.sz E))) fun r => some (z :: r)
theorem chopC_ok {E : tb.Ix} : ∀ {n : Nat} {l : List (SV tb)} {r}, chopC cx E n l = some r → SubL (avL l) (elC tb E r) ∧ r.length = n
  | 0, l, r, h => by
    cases l with
    | nil => cases h; exact ⟨.refl _, rfl⟩
    | cons => cases h
  | n + 1, l, r, h => by
    obtain ⟨z, hz, h⟩ := got_e (show got ((cx.cd E).ofC (l.take (tb.sz E))) _ = some r from h)
    obtain ⟨r', hr, h⟩ := got_e h
    cases h
    have h1 := ((cx.ok E).ofC _ _ hz).1
    obtain ⟨g1, g2⟩ := chopC_ok hr
    have h2 := h1.append g1
    rw [← avL_append, List.take_append_drop] at h2
    exact ⟨h2, by rw [List.length_cons, g2]⟩
def qArrS (cx : Ctx P tb) (L : SLS tb) (G : Gd) (t : Nat) (y : Operand) (k : SV tb → List Nat → Option ρ) : Option ρ :=
  got (opd L G y) fun a => got (P.underlying t) fun D => got (isArD D) fun p => got (tSz P p.2) fun n => got (tb.look p.2) fun E => match a with
  | .cp l => tst (Nat.beq n (tb.sz E)) <| tst (Nat.ble 1 p.1) <| got (chopC cx E p.1 l) fun r => k (.sl false E r) []
  | _ => none
theorem qArrS_ok {L : SLS tb} {G o t y} {k : SV tb → List Nat → Option ρ} {r} (ho : o.op = .slice t y none none none) (h : qArrS cx L G t y k = some r) : QOk P L G o k r := by
  unfold qArrS at h
  obtain ⟨a, ha, h⟩ := got_e h
  obtain ⟨D, hD, h⟩ := got_e h
  obtain ⟨p, hp, h⟩ := got_e h
  rw [isArD_e hp] at hD
  obtain ⟨n, hn, h⟩ := got_e h
  obtain ⟨E, hE, h⟩ := got_e h
  have hy := fun u => opd_ok (L := L) (G := G) u ha
  cases a with
  | cp l =>
    have g1 := tst_e h
    have g2 := tst_e g1.2
    obtain ⟨q, hq, g3⟩ := got_e g2.2
    obtain ⟨c1, c2⟩ := chopC_ok hq
    refine ⟨_, [], g3, fun u => ?_⟩
    rw [Nat.eq_of_beq_eq_true g1.1] at hn
    have hy2 : OpdOk L.E y (.cptr ((q.map (tb.el E)).flatMap AV.cells)) := (hy u).sub (.cptr c1)
    exact QEx.sliceC ho hD hn hy2 (by rw [List.length_map]; exact c2) (elC_len cx.ok) (Nat.le_of_ble_eq_true g2.1)
  | _ => cases h
/-- Is it memory that is written no more? -/
def isCp : Option (SV tb) → Bool
  | some (.cp _) => true
  | _ => false
end
end Go.Rx
