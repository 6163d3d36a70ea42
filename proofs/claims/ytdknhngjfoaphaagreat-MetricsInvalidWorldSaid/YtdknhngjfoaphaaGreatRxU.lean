/-
  Values built, functions called, run on symbolic values. No conditions.
-/
import Derived.Test.YtdknhngjfoaphaaGreatRxT
set_option linter.all false
namespace Go.Rx
open Go.RowKit

section
variable {P : Program} {tb : Tb} {ρ : Type} {cx : Ctx P tb}

def cellsS : SV tb → List (SV tb)
  | .agg l => l
  | x => [x]
theorem cellsS_av (x : SV tb) (h : ∀ G y, x ≠ .opt G y) : avL (cellsS x) = x.av.cells := by cases x <;> first | rfl | exact absurd rfl (h _ _)
def solidS : SV tb → Bool
  | .agg _ => true
  | .i _ _ => true
  | .b8 _ => true
  | .bo _ => true
  | .st _ => true
  | .con v => oneCell v
  | .sl _ _ _ => true
  | .em _ => true
  | .cp _ => true
  | .fn _ _ => true
  | .cl _ _ _ _ _ _ => true
  | .ptr _ _ => true
  | .epr _ _ _ _ => true
  | .row _ _ _ _ _ => true
  | .rw _ _ => true
  | .ifc _ _ => true
  | _ => false
theorem solidS_e {x : SV tb} (h : solidS x = true) : x.av.solid = true ∧ avL (cellsS x) = x.av.cells := by
  refine ⟨?_, cellsS_av x ?_⟩
  · cases x <;> first | rfl | (simp [solidS] at h; done) | exact h
  · rintro G y rfl; simp [solidS] at h

/-! structs -/
def fillS (L : SLS tb) (G : Gd) (pl : Nat → Option (Nat × Nat)) : List (Nat × Operand) → List (SV tb) → Option (List (SV tb))
  | [], Z => some Z
  | (i, y) :: r, Z => got (pl i) fun p => got (opd L G y) fun x => tst (solidS x) <| tst (Nat.beq (cellsS x).length p.2) <| tst (Nat.ble (p.1 + p.2) Z.length) <| fillS L G pl r (Z.take p.1 ++ cellsS x ++ Z.drop (p.1 + p.2))
theorem fillS_ok {L : SLS tb} {G pl} (u : Gu L G) : ∀ {ps : List (Nat × Operand)} {Z Z'}, fillS L G pl ps Z = some Z' → FillOk L.E pl ps (avL Z) (avL Z')
  | [], _, _, h => by cases h; exact .nil
  | (i, y) :: r, Z, Z', h => by
    unfold fillS at h
    obtain ⟨p, hp, h⟩ := got_e h
    obtain ⟨x, hx, h⟩ := got_e h
    obtain ⟨h1, h⟩ := tst_e h
    obtain ⟨h2, h⟩ := tst_e h
    obtain ⟨h3, h⟩ := tst_e h
    obtain ⟨g1, g2⟩ := solidS_e h1
    refine .cons (off := p.1) (sz := p.2) hp (opd_ok u hx) g1 (by rw [← g2, avL_length]; exact Nat.eq_of_beq_eq_true h2) (by rw [avL_length]; exact Nat.le_of_ble_eq_true h3) ?_
    have := fillS_ok u h
    rwa [avL_append, avL_append, avL_take, avL_drop, g2] at this
theorem Zs.con : ∀ zs : List Value, Zs (avL (tb := tb) (zs.map SV.con)) zs
  | [] => .nil
  | z :: zs => .v (Zs.con zs)
def zeroS (P : Program) (t : Nat) : Option (List (SV tb)) := got (tZero P t) fun zs => tst (zs.all oneCell) (some (zs.map SV.con))
theorem zeroS_e {t Z} (h : zeroS (tb := tb) P t = some Z) : ZeroT P t (avL Z) := by
  obtain ⟨zs, hz, h⟩ := got_e h
  obtain ⟨h1, h⟩ := tst_e h
  cases h
  exact ⟨zs, hz, Zs.con zs, h1⟩
def qBuild (P : Program) (L : SLS tb) (G : Gd) (t : Nat) (ps : Array (Nat × Operand)) (k : SV tb → List Nat → Option ρ) : Option ρ :=
  got (P.underlying t) fun D => got (zeroS P t) fun Z => match isStD D with
  | some fs => tst (fs.toList.all fun f => (tSz P f.type).isSome) <| got (fillS L G (fieldPl P fs) ps.toList Z) fun Z' => k (.agg Z') []
  | none => got (isArD D) fun p => got (tSz P p.2) fun sz => got (fillS L G (fun i => some (i * sz, sz)) ps.toList Z) fun Z' => k (.agg Z') []
theorem qBuild_ok {L : SLS tb} {G o t ps} {k : SV tb → List Nat → Option ρ} {r} (ho : o.op = .build t ps) (h : qBuild P L G t ps k = some r) : QOk P L G o k r := by
  unfold qBuild at h
  obtain ⟨D, hD, h⟩ := got_e h
  obtain ⟨Z, hZ, h⟩ := got_e h
  have hZ := zeroS_e hZ
  split at h
  · rename_i fs hfs
    rw [isStD_e hfs] at hD
    obtain ⟨h1, h⟩ := tst_e h
    obtain ⟨Z', hZ', h⟩ := got_e h
    exact ⟨_, [], h, fun u => QEx.buildZ ho hD hZ h1 (fillS_ok u hZ')⟩
  · obtain ⟨p, hp, h⟩ := got_e h
    rw [isArD_e hp] at hD
    obtain ⟨sz, hsz, h⟩ := got_e h
    obtain ⟨Z', hZ', h⟩ := got_e h
    exact ⟨_, [], h, fun u => QEx.buildA ho hD hsz hZ (fillS_ok u hZ')⟩

def elemsS (cx : Ctx P tb) (L : SLS tb) (G : Gd) (E : tb.Ix) : Nat → List (Nat × Operand) → Option (List (tb.T E))
  | _, [] => some []
  | i, (j, y) :: r => tst (Nat.beq j i) <| got (opd L G y) fun x => got ((cx.cd E).of x) fun v => got (elemsS cx L G E (i + 1) r) fun l => some (v :: l)
theorem elemsS_ok {L : SLS tb} {G E} (u : Gu L G) : ∀ {ps : List (Nat × Operand)} {i l}, elemsS cx L G E i ps = some l → ElemsOk L.E (tb.sz E) i ps (l.map (tb.el E))
  | [], _, _, h => by cases h; exact .nil
  | (j, y) :: r, i, l, h => by
    unfold elemsS at h
    obtain ⟨h1, h⟩ := tst_e h
    obtain ⟨x, hx, h⟩ := got_e h
    obtain ⟨v, hv, h⟩ := got_e h
    obtain ⟨l', hl', h⟩ := got_e h
    cases h
    obtain rfl := Nat.eq_of_beq_eq_true h1
    exact .cons ((opd_ok u hx).sub ((cx.ok E).of _ _ hv)) ((cx.ok E).solid v) ((cx.ok E).len v) ((cx.ok E).bare v).1 (elemsS_ok u hl')
def qBuildS (cx : Ctx P tb) (L : SLS tb) (G : Gd) (t n : Nat) (ps : Array (Nat × Operand)) (k : SV tb → List Nat → Option ρ) : Option ρ :=
  got (P.underlying t) fun D => got (isSlD D) fun E' => got (tb.look E') fun E => got (elemT P t (tb.sz E)) fun _ => got (elemsS cx L G E 0 ps.toList) fun l => tst (Nat.beq l.length n) <| tst (Nat.ble (n * tb.sz E) (2 ^ 24)) <| match n with | 0 => k (.em E) [] | _ + 1 => k (.sl true E l) []
theorem qBuildS_ok {L : SLS tb} {G o t n ps} {k : SV tb → List Nat → Option ρ} {r} (ho : o.op = .buildSlice t n ps) (h : qBuildS cx L G t n ps k = some r) : QOk P L G o k r := by
  unfold qBuildS at h
  obtain ⟨D, hD, h⟩ := got_e h
  obtain ⟨E', hE', h⟩ := got_e h
  obtain ⟨E, hE, h⟩ := got_e h
  obtain ⟨p, hp, h⟩ := got_e h
  obtain ⟨l, hl, h⟩ := got_e h
  obtain ⟨h1, h⟩ := tst_e h
  obtain ⟨h2, h⟩ := tst_e h
  have key := fun u => QEx.buildSlice ho (elemT_e hp) (elemsS_ok u hl) (by rw [List.length_map]; exact Nat.eq_of_beq_eq_true h1) (Nat.le_of_ble_eq_true h2)
  have hl0 := Nat.eq_of_beq_eq_true h1
  cases n with
  | zero =>
    have : l = [] := List.eq_nil_of_length_eq_zero hl0
    subst this
    exact ⟨_, [], h, key⟩
  | succ n => exact ⟨_, [], h, key⟩

def opdsS (L : SLS tb) (G : Gd) : List Operand → Option (List (SV tb))
  | [] => some []
  | y :: r => got (opd L G y) fun x => got (opdsS L G r) fun l => some (x :: l)
theorem opdsS_ok {L : SLS tb} {G} (u : Gu L G) : ∀ {ys : List Operand} {l}, opdsS L G ys = some l → OpdsOk L.E ys (avL l)
  | [], _, h => by cases h; exact .nil
  | y :: r, l, h => by
    unfold opdsS at h
    obtain ⟨x, hx, h⟩ := got_e h
    obtain ⟨l', hl', h⟩ := got_e h
    cases h
    exact .cons (opd_ok u hx) (opdsS_ok u hl')
def qMkF (L : SLS tb) (G : Gd) (fn : Fn) (fi ca : Array Operand) (k : SV tb → List Nat → Option ρ) : Option ρ := match fn, fi.toList with
  | .func f, [] => got (opdsS L G ca.toList) fun l => k (.fn f l) []
  | _, _ => none
theorem qMkF_ok {L : SLS tb} {G o fn fi ca} {k : SV tb → List Nat → Option ρ} {r} (ho : o.op = .makeFunc fn fi ca) (h : qMkF L G fn fi ca k = some r) : QOk P L G o k r := by
  unfold qMkF at h
  split at h
  · rename_i f hfi
    obtain ⟨l, hl, h⟩ := got_e h
    exact ⟨_, [], h, fun u => QEx.mkF ho (by cases fi; simpa using hfi) (opdsS_ok u hl)⟩
  · cases h
def qNil (L : SLS tb) (G : Gd) (y : Operand) (k : SV tb → List Nat → Option ρ) : Option ρ := got (opd L G y) fun a => match a with
  | .cp _ => k .undef []
  | .ptr id off => k (.ptr id off) []
  | .epr id E i fo => k (.epr id E i fo) []
  | _ => none
theorem qNil_ok {L : SLS tb} {G o y} {k : SV tb → List Nat → Option ρ} {r} (ho : o.op = .nilCheck y) (h : qNil L G y k = some r) : QOk P L G o k r := by
  unfold qNil at h
  obtain ⟨a, ha, h⟩ := got_e h
  have hy := fun u => opd_ok (L := L) (G := G) u ha
  split at h
  · exact ⟨_, [], h, fun u => QEx.nilC ho (hy u)⟩
  · exact ⟨_, [], h, fun u => QEx.nilP ho (hy u)⟩
  · exact ⟨_, [], h, fun u => QEx.nilP ho (hy u)⟩
  · cases h
theorem qSlice3_ok {L : SLS tb} {G o t y hi mx} {k : SV tb → List Nat → Option ρ} {r} (ho : o.op = .slice t y none (some hi) (some mx)) (h : qSlice3 P L G t y hi mx k = some r) : QOk P L G o k r := by
  unfold qSlice3 at h
  obtain ⟨a, ha, h⟩ := got_e h
  obtain ⟨b, hb, h⟩ := got_e h
  obtain ⟨p, hp, h⟩ := got_e h
  obtain ⟨c, hc1, h⟩ := got_e h
  obtain ⟨q, hq, h⟩ := got_e h
  have hy := fun u => opd_ok (L := L) (G := G) u ha
  have hz := fun u => opd_ok (L := L) (G := G) u hb
  have hw := fun u => opd_ok (L := L) (G := G) u hc1
  rw [asI_e hp] at hz
  rw [asI_e hq] at hw
  split at h
  · obtain ⟨ET, hE, h⟩ := got_e h
    obtain ⟨hc, h⟩ := chk_e h
    refine ⟨_, [], h, fun u => ?_⟩
    obtain ⟨h1, h2, h3⟩ := hc u.on
    rw [h3] at hw
    have := QEx.slice3 ho (elemT_e hE) (hy u) (hz u) (hw u) h1 (by rw [List.length_map]; exact h2)
    simp only [SV.av, List.map_take]; exact this
  · cases h

/-- A string of the bytes of an own slice. -/
def qConv2 (cx : Ctx P tb) (L : SLS tb) (G : Gd) (s d : Nat) (y : Operand) (k : SV tb → List Nat → Option ρ) : Option ρ :=
  got (opd L G y) fun a => match a with
  | .rw id E => got (P.underlying d) fun D => got (P.underlying s) fun S => tst (isStrD D) <| got (isSlD S) fun E' => got (P.underlying E') fun ED => got (isIntD ED) fun ke => tst (isU8 ke) <| got (arrAt L id E) fun l => got (bytesOf tb E l) fun bs => k (.st bs) [id]
  | .row id E off len mc => got (P.underlying d) fun D => got (P.underlying s) fun S => tst (isStrD D) <| got (isSlD S) fun E' => got (P.underlying E') fun ED => got (isIntD ED) fun ke => tst (isU8 ke) <| got (arrAt L id E) fun l => chk G (off + len ≤ l.length) <| got (bytesOf tb E ((l.drop off).take len)) fun bs => k (.st bs) [id]
  | _ => qConv P L G s d y k
theorem elC_one {E : tb.Ix} {l : List (tb.T E)} {bs : List UInt8} (h : l.map (tb.el E) = bs.map byteAV) : elC tb E l = bs.map byteAV := by
  unfold elC; rw [h, flat_bytes]
theorem qConv2_ok {L : SLS tb} {G o s d y} {k : SV tb → List Nat → Option ρ} {r} (ho : o.op = .convert s d y) (h : qConv2 cx L G s d y k = some r) : QOk P L G o k r := by
  unfold qConv2 at h
  obtain ⟨a, ha, h2⟩ := got_e h
  have hy := fun u => opd_ok (L := L) (G := G) u ha
  clear h
  cases a with
  | rw id E =>
    obtain ⟨D, hD, h⟩ := got_e h2; clear h2
    obtain ⟨S, hS, h⟩ := got_e h
    obtain ⟨h1, h⟩ := tst_e h
    obtain ⟨E', hE, h⟩ := got_e h
    obtain ⟨ED, hED, h⟩ := got_e h
    obtain ⟨ke, hke, h⟩ := got_e h
    obtain ⟨h3, h⟩ := tst_e h
    obtain ⟨l, hl, h⟩ := got_e h
    obtain ⟨bs, hbs, h⟩ := got_e h
    have hl := arrAt_e hl
    rw [isStrD_e h1] at hD
    rw [isSlD_e hE] at hS
    rw [isIntD_e hke, isU8_e h3] at hED
    obtain ⟨g1, g2⟩ := bytesOf_e hbs
    have hlen : l.length = bs.length := by simpa using congrArg List.length g2
    refine ⟨_, _, h, fun u => ?_⟩
    rw [needAV_one hl]
    have hr := ROk.rw (o := o) (need := [(id, elC tb E l)]) (xs := l.map (tb.el E)) (hy u) (by simp [ho, Op.operands]) (show _ ∈ [(id, elC tb E l)] from mem1) (elC_len cx.ok) (cx.ok E).pos
    rw [g1] at hr
    refine QEx.rowStr ho hS hED hD hr mem1 ?_ (by rw [List.length_map, hlen])
    rw [elC_one g2, List.drop_zero, List.length_map, hlen, ← List.length_map (f := byteAV), List.take_length]
  | row id E off len mc =>
    obtain ⟨D, hD, h⟩ := got_e h2; clear h2
    obtain ⟨S, hS, h⟩ := got_e h
    obtain ⟨h1, h⟩ := tst_e h
    obtain ⟨E', hE, h⟩ := got_e h
    obtain ⟨ED, hED, h⟩ := got_e h
    obtain ⟨ke, hke, h⟩ := got_e h
    obtain ⟨h3, h⟩ := tst_e h
    obtain ⟨l, hl, h⟩ := got_e h
    obtain ⟨hc, h⟩ := chk_e h
    obtain ⟨bs, hbs, h⟩ := got_e h
    have hl := arrAt_e hl
    rw [isStrD_e h1] at hD
    rw [isSlD_e hE] at hS
    rw [isIntD_e hke, isU8_e h3] at hED
    obtain ⟨g1, g2⟩ := bytesOf_e hbs
    refine ⟨_, _, h, fun u => ?_⟩
    have hc := hc u.on
    rw [needAV_one hl]
    have hr := (hy u).r (o := o) (need := [(id, elC tb E l)]) (by simp [ho, Op.operands])
    simp only [SV.av] at hr
    rw [g1, Nat.mul_one] at hr
    have hlen : bs.length = len := by
      have := congrArg List.length g2
      rw [List.length_map, List.length_map, List.length_take, List.length_drop] at this
      omega
    refine QEx.rowStr ho hS hED hD hr mem1 ?_ hlen
    rw [← g2]
    unfold elC
    have h5 := flat_drop (sz := 1) (l := l.map (tb.el E)) off (by rw [← g1]; exact elC_len cx.ok)
    rw [Nat.mul_one] at h5
    rw [h5, ← List.map_drop]
    have h6 := flat_take (sz := 1) (l := (l.drop off).map (tb.el E)) len (by rw [← g1]; exact elC_len cx.ok)
    rw [Nat.mul_one] at h6
    rw [h6, ← List.map_take, g2, flat_bytes]
  | _ => exact qConv_ok ho h2
end
end Go.Rx
