/-
  Slices made and appended to, calls whose results are new slices, run on symbolic states. No conditions.
-/
import Derived.Test.YtdknhngjfoaphaaGreatRxX
set_option linter.all false
namespace Go.Rx
open Go.RowKit

section
variable {P : Program} {tb : Tb} {ρ : Type} {cx : Ctx P tb}

/-- The elements' type of slices of type t: its index, its size in bytes. -/
theorem elC_replicate {E : tb.Ix} {Z : List AV} {z : tb.T E} (h : SubL Z (tb.el E z).cells) : ∀ n, SubL (List.replicate n Z).flatten (elC tb E (List.replicate n z))
  | 0 => by simpa [elC] using SubL.refl []
  | n + 1 => by
    have := h.append (elC_replicate h n)
    simpa [elC, List.replicate_succ] using this
def lMake (cx : Ctx P tb) (N : Nat) (ops : Array Oper) (L : SLS tb) (gs : List Nat) (o : Oper) (t : Nat) (x y : Operand) (k : SLS tb → List Nat → KL → Option ρ) : Option ρ :=
  got o.dst fun d => got (elemOf P tb t) fun p => got (zeroS P p.2.1) fun Z => got ((cx.cd p.1).ofC Z) fun z => got (opd L [] x) fun a => got (opd L [] y) fun b => got (asI a) fun n => got (asI b) fun c =>
  Chk (0 ≤ n.2 ∧ n.2 ≤ c.2 ∧ (p.2.2 : Int) * c.2 ≤ 281474976710656 ∧ c.2 ≤ 9223372036854775807) <| Let (List.replicate n.2.toNat z) fun l => putN N gs L d (.rw L.nx p.1) (.arr p.1 l) fun L' => k L' gs ⟨o.looksAt ops, [], [d], [L.nx], [L.nx]⟩
theorem lMake_ok {N ops} {L : SLS tb} {gs o t x y} {k : SLS tb → List Nat → KL → Option ρ} {r} (hi : RI gs L.e) (hg : o.guard = none) (ho : o.op = .makeSlice t x y) (h : lMake cx N ops L gs o t x y k = some r) : LOk P N ops o L k r := by
  unfold lMake at h
  obtain ⟨d, hd, h⟩ := got_e h
  obtain ⟨p, hp, h⟩ := got_e h
  obtain ⟨Z, hZ, h⟩ := got_e h
  obtain ⟨z, hz, h⟩ := got_e h
  obtain ⟨a, ha, h⟩ := got_e h
  obtain ⟨b, hb, h⟩ := got_e h
  obtain ⟨n, hn, h⟩ := got_e h
  obtain ⟨c, hc, h⟩ := got_e h
  obtain ⟨⟨h1, h2, h3, h4⟩, h⟩ := Chk_e h
  have hx := opd_ok (Gu.nil hi.inv) ha
  have hy := opd_ok (Gu.nil hi.inv) hb
  rw [asI_e hn] at hx
  rw [asI_e hc] at hy
  exact putN_ok (rh := []) hi rfl (fun hN => (LEx.makeRow hg hd hN ho (elemOf_e hp) (zeroS_e hZ) hx hy h1 h2 h3 h4).wsub (elC_replicate ((cx.ok p.1).ofC _ _ hz).1 _)) (by simp) (by simp) rfl rfl rfl rfl (Let_e h)

/-- A slice made of what is no plain data. -/
def lBuildO (N : Nat) (ops : Array Oper) (L : SLS tb) (gs : List Nat) (o : Oper) (t n : Nat) (ps : Array (Nat × Operand)) (k : SLS tb → List Nat → KL → Option ρ) : Option ρ :=
  got o.dst fun d => got (elemT P t 1) fun _ => got tb.byte fun b => tst (Nat.beq (tb.sz b.1) 1) <| got (fillS L [] (fun i => some (i * 1, 1)) ps.toList (List.replicate (n * 1) .undef)) fun Z =>
  tst (Nat.beq Z.length (n * 1)) <| tst (Nat.blt 0 n) <| tst (Nat.ble (n * 1) (2 ^ 24)) <| putN N gs L d (.rw L.nx b.1) (.cells Z) fun L' => k L' gs ⟨o.looksAt ops, [], [d], [L.nx], [L.nx]⟩
theorem avL_rep : ∀ n : Nat, avL (List.replicate n (SV.undef : SV tb)) = List.replicate n AV.undef
  | 0 => rfl
  | n + 1 => by rw [List.replicate_succ, List.replicate_succ]; simp only [avL, avL_rep n]; rfl
theorem lBuildO_ok {N ops} {L : SLS tb} {gs o t n ps} {k : SLS tb → List Nat → KL → Option ρ} {r} (hi : RI gs L.e) (hg : o.guard = none) (ho : o.op = .buildSlice t n ps) (h : lBuildO (P := P) N ops L gs o t n ps k = some r) : LOk P N ops o L k r := by
  unfold lBuildO at h
  obtain ⟨d, hd, h⟩ := got_e h
  obtain ⟨p, hp, h⟩ := got_e h
  obtain ⟨b, hb, h⟩ := got_e h
  obtain ⟨h1, h⟩ := tst_e h
  obtain ⟨Z, hZ, h⟩ := got_e h
  obtain ⟨h2, h⟩ := tst_e h
  obtain ⟨h3, h⟩ := tst_e h
  obtain ⟨h4, h⟩ := tst_e h
  have hf := fillS_ok (Gu.nil hi.inv) hZ
  rw [avL_rep] at hf
  refine putN_ok (rh := []) hi rfl (fun hN => ?_) (by simp) (by simp) rfl rfl rfl rfl h
  have := LEx.buildOwn (ops := ops) (N := N) (nm := L.nx) hg hd hN ho (elemT_e hp) hf (by rw [avL_length]; exact Nat.eq_of_beq_eq_true h2) (Nat.le_of_ble_eq_true h3) (Nat.le_of_ble_eq_true h4)
  have e : (SV.rw L.nx b.1 : SV tb).av = .rw L.nx 1 := by show AV.rw _ _ = _; rw [Nat.eq_of_beq_eq_true h1]
  rw [e]; exact this

/-! appends -/
def byteIx (tb : Tb) (E : tb.Ix) (s : List UInt8) : Option (List (tb.T E)) := match tb.byte with
  | some b => (match tb.dec E b.1 with | isTrue he => some (cast (congrArg List ((congrArg tb.T he).trans (Classical.choose b.2))).symm s) | isFalse _ => none)
  | none => none
theorem byteIx_e {E s l} (h : byteIx tb E s = some l) : tb.sz E = 1 ∧ l.map (tb.el E) = s.map byteAV := by
  unfold byteIx at h
  split at h
  · rename_i b _
    split at h
    · rename_i he _
      cases h
      subst he
      obtain ⟨h1, h2⟩ := Classical.choose_spec b.2
      exact ⟨h1, bytes_map2 (Classical.choose b.2) h2 s⟩
    · cases h
  · cases h
/-- What is appended. -/
def srcK (P : Program) (L : SLS tb) (E : tb.Ix) (tz : Nat) (z : Operand) (k : List (tb.T E) → List Nat → Option ρ) : Option ρ :=
  got (opd L [] z) fun x => got (P.underlying tz) fun D => match isStrD D with
  | true => got (asS x) fun s => got (byteIx tb E s) fun l => k l []
  | false => got (isSlD D) fun _ => match isNil x with
    | true => k [] []
    | false => match x with
      | .sl _ E' l => (match tb.dec E' E with | isTrue h => k (h ▸ l) [] | isFalse _ => none)
      | .em _ => k [] []
      | .rw id E' => (match tb.dec E' E with | isTrue _ => got (arrAt L id E) fun l => k l [id] | isFalse _ => none)
      | .row id E' off len _ => (match tb.dec E' E with | isTrue _ => got (arrAt L id E) fun l => Chk (off + len ≤ l.length) (Let ((l.drop off).take len) fun l' => k l' [id]) | isFalse _ => none)
      | _ => none
theorem srcK_ok (cx : Ctx P tb) {L : SLS tb} {o E tz z} {k : List (tb.T E) → List Nat → Option ρ} {r} (hi : GInv L.e) (hm : z ∈ o.op.operands) (h : srcK P L E tz z k = some r) :
    ∃ l need, k l need = some r ∧ SrcOk P o L.E (needAV L need) (tb.sz E) tz z (l.map (tb.el E)) ∧ ∀ q ∈ needAV L need, find q.1 L.av.h = some (.cells q.2) := by
  unfold srcK at h
  obtain ⟨x, hx, h⟩ := got_e h
  obtain ⟨D, hD, h⟩ := got_e h
  have hz := opd_ok (Gu.nil hi) hx
  have aux : ∀ l need, k l need = some r → SrcOk P o L.E (needAV L need) (tb.sz E) tz z (l.map (tb.el E)) → ∃ l need, k l need = some r ∧ SrcOk P o L.E (needAV L need) (tb.sz E) tz z (l.map (tb.el E)) ∧ ∀ q ∈ needAV L need, find q.1 L.av.h = some (.cells q.2) :=
    fun l need h1 h2 => ⟨l, need, h1, h2, needAV_mem⟩
  split at h
  · rename_i hs
    rw [isStrD_e hs] at hD
    obtain ⟨s, hs2, h⟩ := got_e h
    obtain ⟨l, hl, h⟩ := got_e h
    obtain ⟨g1, g2⟩ := byteIx_e hl
    refine aux _ _ h ?_
    rw [g1, g2]
    rw [asS_e hs2] at hz
    exact SrcOk.str hm hD hz
  · obtain ⟨ET, hET, h⟩ := got_e h
    rw [isSlD_e hET] at hD
    split at h
    · rename_i hn
      exact aux _ _ h (SrcOk.sl (c := true) hm hD (hz.sub (by rw [isNil_e hn]; exact .nil)))
    · cases x with
      | sl c E' l =>
        simp only at h
        split at h
        · rename_i hE _
          subst hE
          exact aux _ _ h (SrcOk.sl hm hD hz)
        · cases h
      | em E' =>
        refine aux _ _ h (SrcOk.sl (c := false) hm hD (hz.sub ?_))
        intro m bl v rp
        cases rp with
        | slnil => exact .slnil
        | sl g1 g2 g3 g4 g5 g6 g7 =>
          simp only [List.flatMap_nil] at g2
          cases g2
          exact .sl (cs := []) (l := []) (by simp) (by simpa using Reps.nil) (by simp) (by simp) (by simp) (by simp) (by simp)
      | rw id E' =>
        simp only at h
        split at h
        · rename_i hE _
          subst hE
          obtain ⟨l, hl, h⟩ := got_e h
          have hl := arrAt_e hl
          refine aux _ _ h ?_
          rw [needAV_one hl]
          exact SrcOk.rw hm hD hz mem1 (cx.ok E').pos (elC_len cx.ok) (el_bare cx l)
        · cases h
      | row id E' off len mc =>
        simp only at h
        split at h
        · rename_i hE _
          subst hE
          obtain ⟨l, hl, h⟩ := got_e h
          have hl := arrAt_e hl
          obtain ⟨hc, h⟩ := Chk_e h
          have h := Let_e h
          refine aux _ _ h ?_
          rw [needAV_one hl]
          refine SrcOk.row (l := elC tb E' l) hm hD hz mem1 (by rw [List.length_map, List.length_take, List.length_drop]; omega) (elC_len cx.ok) ?_ (el_bare cx _) ?_
          · have h5 := flat_drop (l := l.map (tb.el E')) off (elC_len cx.ok)
            have h6 := flat_take (l := (l.drop off).map (tb.el E')) len (elC_len cx.ok)
            unfold elC
            rw [h5, ← List.map_drop, h6, ← List.map_take]
          · rw [elC_length cx, ← Nat.add_mul]; exact Nat.mul_le_mul_right _ hc
        · cases h
      | _ => cases h
def ifE (a b : tb.Ix) (k : a = b → Option ρ) : Option ρ := match tb.dec a b with | isTrue h => k h | isFalse _ => none
theorem ifE_e {a b : tb.Ix} {k : a = b → Option ρ} {r} (h : ifE a b k = some r) : ∃ e, k e = some r := by
  unfold ifE at h; split at h
  · exact ⟨_, h⟩
  · cases h
def isEm : SV tb → Bool
  | .em _ => true
  | .con (.slice none 0 0) => true
  | _ => false
theorem isEm_e {x : SV tb} {sz : Nat} (h : isEm x = true) (hs : ∀ E, x = .em E → tb.sz E = sz) : Sub x.av (.sl true sz []) := by
  unfold isEm at h
  split at h
  · rename_i E
    rw [← hs E rfl]; exact .refl _
  · exact .nil
  · cases h
def emOk (E : tb.Ix) : SV tb → Bool
  | .em E' => (match tb.dec E' E with | isTrue _ => true | isFalse _ => false)
  | _ => true
theorem emOk_e {E : tb.Ix} {x : SV tb} (h : emOk E x = true) : ∀ E', x = .em E' → tb.sz E' = tb.sz E := by
  rintro E' rfl
  unfold emOk at h
  simp only at h
  split at h
  · rename_i hE _; rw [hE]
  · cases h
def lApp (cx : Ctx P tb) (N : Nat) (ops : Array Oper) (L : SLS tb) (gs : List Nat) (o : Oper) (c : Call) (k : SLS tb → List Nat → KL → Option ρ) : Option ρ :=
  got o.dst fun d => got (args2 c) fun a => got (types2 c) fun t => got (elemOf P tb t.1) fun p => got (opd L [] a.1) fun x => tst (Nat.ble 1 p.2.2) <| srcK P L p.1 t.2 a.2 fun l2 need => match isEm x with
  | true => tst (emOk p.1 x) <| Chk (l2.length * p.2.2 ≤ 140737488355328) <| putN N gs L d (.rw L.nx p.1) (.arr p.1 l2) fun L' => k L' gs ⟨o.looksAt ops, need, [d], [L.nx], [L.nx]⟩
  | false => match x with
    | .sl true E' l => ifE E' p.1 fun h => Chk ((l.length + l2.length) * p.2.2 ≤ 140737488355328) <| Let ((h ▸ l) ++ l2) fun l' => put N gs L d (.sl false p.1 l') fun L' => k L' gs ⟨o.looksAt ops, need, [d], [], []⟩
    | .row id E' off len mc => ifE E' p.1 fun _ => got (arrAt L id p.1) fun l => Chk (off + (len + l2.length) ≤ l.length ∧ len + l2.length ≤ mc ∧ 0 < mc) <| Let (l.take (off + len) ++ l2 ++ l.drop (off + len + l2.length)) fun l' =>
        put N gs L d (.row id p.1 off (len + l2.length) mc) fun L' => putH L' id (.arr p.1 l') fun L' => k L' gs ⟨o.looksAt ops, id :: need, [d], [id], []⟩
    | _ => none
theorem len63 {n b : Nat} (h1 : 1 ≤ b) (h : n * b ≤ 140737488355328) : n ≤ 9223372036854775807 := by
  have : n * 1 ≤ n * b := Nat.mul_le_mul_left _ h1
  omega
theorem needAV_cons {L : SLS tb} {id need l} (h : find id (avH L.gn L.h) = some (.cells l)) : needAV L (id :: need) = (id, l) :: needAV L need := by
  simp [needAV, h]
theorem SrcOk.mono {o : Oper} {e need need' sz tz z l2} (h : SrcOk P o e need sz tz z l2) (hs : ∀ p ∈ need, p ∈ need') : SrcOk P o e need' sz tz z l2 :=
  fun B m0 hh m bl a w hws hn hr => h B m0 hh m bl a w hws (fun p hp => hn p (hs p hp)) hr
theorem lApp_ok {N ops} {L : SLS tb} {gs o c} {k : SLS tb → List Nat → KL → Option ρ} {r} (hi : RI gs L.e) (hg : o.guard = none) (ho : o.op = .call c) (hb : c.callee = .builtin .append) (h : lApp cx N ops L gs o c k = some r) : LOk P N ops o L k r := by
  unfold lApp at h
  obtain ⟨d, hd, h⟩ := got_e h
  obtain ⟨⟨y, z⟩, ha, h⟩ := got_e h
  obtain ⟨⟨t, tz⟩, ht, h⟩ := got_e h
  obtain ⟨⟨E, E0, by_⟩, hp, h⟩ := got_e h
  obtain ⟨x, hx, h⟩ := got_e h
  obtain ⟨hby, h⟩ := tst_e h
  have ho : o.op = .call { callee := .builtin .append, args := #[y, z], argTypes := #[t, tz] } := by
    rw [ho]
    obtain ⟨c1, c2, c3⟩ := c
    have h1 := args2_e ha
    have h2 := types2_e ht
    simp only at h1 h2 hb
    rw [h1, h2, hb]
  have hET := elemOf_e hp
  have hby2 : 1 ≤ by_ := Nat.le_of_ble_eq_true hby
  have hy := opd_ok (Gu.nil hi.inv) hx
  obtain ⟨l2, need, h, hsrc, hnd⟩ := srcK_ok (o := o) cx hi.inv (by rw [ho]; simp [Op.operands, Call.operands]) h
  simp only at h hET hsrc
  split at h
  · rename_i hem
    obtain ⟨he, h⟩ := tst_e h
    obtain ⟨hc, h⟩ := Chk_e h
    refine putN_ok (rh := needH (needAV L need)) hi rfl (fun hN => ?_) (needH_mem.2 needAV_mem) needH_keys rfl rfl rfl rfl h
    exact LEx.appN hg hd hN ho hET (hy.sub (isEm_e hem (emOk_e he))) hsrc (by rw [List.length_map]; exact hc) (by rw [List.length_map]; exact len63 hby2 hc)
  · split at h
    · rename_i E' l _ _ _
      · obtain ⟨hE, h⟩ := ifE_e h
        subst hE
        obtain ⟨hc, h⟩ := Chk_e h
        obtain ⟨hN, hm, hx2, h⟩ := put_e (Let_e h)
        have q := QEx.appI ho hET hy hsrc (by rw [List.length_map, List.length_map]; exact hc) (by rw [List.length_map, List.length_map]; exact len63 hby2 hc)
        refine ⟨_, _, _, _, h, ⟨reOf_keys, needH_keys, by simp, by simp, rfl⟩, LEx.q hg q hd hN, reOf_mem.1, needH_mem.2 needAV_mem, by simp, Nat.le_refl _, rfl, rfl, ?_, rfl, ⟨[_], rfl⟩, ⟨[], rfl⟩, hi.put hm rfl⟩
        show (d, AV.sl false (tb.sz E') ((l ++ l2).map (tb.el E'))) :: _ = _
        rw [List.map_append]; rfl
    · rename_i id E' off len mc _ _ _
      · obtain ⟨hE, h⟩ := ifE_e h
        subst hE
        obtain ⟨l, hl, h⟩ := got_e h
        obtain ⟨⟨h1, h2, h3⟩, h⟩ := Chk_e h
        obtain ⟨hN, hm, hx2, h⟩ := put_e (Let_e h)
        obtain ⟨hh, h⟩ := putH_e h
        have hl := arrAt_e hl
        have hsz : ((l2.map (tb.el E')).flatMap AV.cells).length = l2.length * tb.sz E' := by rw [flat_len (elC_len cx.ok), List.length_map]
        have key := LEx.appIn (ops := ops) (N := N) (l := elC tb E' l) (need := (id, elC tb E' l) :: needAV L need) (l2 := l2.map (tb.el E')) hg hd hN ho hET hy List.mem_cons_self
          (by rw [List.length_map, elC_length cx, ← Nat.add_mul]; exact Nat.mul_le_mul_right _ h1) (by rw [List.length_map]; exact h2) h3 (hsrc.mono fun p hp => List.mem_cons_of_mem _ hp)
        refine ⟨_, _, _, _, h, ⟨reOf_keys, ?_, by simp, by simp, rfl⟩, key, reOf_mem.1, ?_, by simp, Nat.le_refl _, rfl, rfl, ?_, ?_, ⟨[_], rfl⟩, ⟨[_], rfl⟩, hi.put hm rfl⟩
        · rw [← needAV_cons hl]; exact needH_keys
        · rw [← needAV_cons hl]; exact needH_mem.2 needAV_mem
        · show (d, ((SV.row id E' off (len + l2.length) mc).res L.gn).av) :: _ = _
          rw [hx2, List.length_map]; rfl
        · show avH L.gn _ = _
          rw [hh]
          show (id, ABlk.cells (elC tb E' (l.take (off + len) ++ l2 ++ l.drop (off + len + l2.length)))) :: _ = _
          have e1 : ∀ a b : List (tb.T E'), elC tb E' (a ++ b) = elC tb E' a ++ elC tb E' b := fun a b => by simp [elC]
          have e2 : ∀ n, elC tb E' (l.take n) = (elC tb E' l).take (n * tb.sz E') := fun n => by unfold elC; rw [flat_take n (elC_len cx.ok), List.map_take]
          have e3 : ∀ n, elC tb E' (l.drop n) = (elC tb E' l).drop (n * tb.sz E') := fun n => by unfold elC; rw [flat_drop n (elC_len cx.ok), List.map_drop]
          rw [e1, e1, e2, e3, hsz, Nat.add_mul, Nat.add_mul, Nat.add_mul]; rfl
    · cases h

/-! calls whose results own new blocks -/
theorem ownS_cons {own : List Nat} {j k : Nat} {x : SV tb} {l : List (SV tb)} : ownS own j k (x :: l) = match own.contains j, x with
    | true, .sl _ E xs => (.rw k E :: (ownS own (j + 1) (k + 1) l).1, (k, .arr E xs) :: (ownS own (j + 1) (k + 1) l).2)
    | _, x => (x :: (ownS own (j + 1) k l).1, (ownS own (j + 1) k l).2) := rfl
theorem ownS_av {own : List Nat} (b : Nat) : ∀ {l : List (SV tb)} {j k}, allBare (avL l) = true → avL (ownS own j (k + b) l).1 = reL (fun i => some (i + b)) (avL (ownS own j k l).1) ∧
    (ownS own j (k + b) l).2.map (fun p => (p.1, p.2.av)) = shH b ((ownS own j k l).2.map fun p => (p.1, p.2.av))
  | [], _, _, _ => ⟨rfl, rfl⟩
  | x :: l, j, k, h => by
    have hx : x.av.isBare = true ∧ allBare (avL l) = true := by
      have : (AV.clean _ x.av && cleanL _ (avL l)) = true := h
      simpa using this
    have gen : ∀ (c : Bool), (∀ c' E xs, c = true → x = .sl c' E xs → False) → ownS own j (k + b) (x :: l) = (x :: (ownS own (j + 1) (k + b) l).1, (ownS own (j + 1) (k + b) l).2) ∧ ownS own j k (x :: l) = (x :: (ownS own (j + 1) k l).1, (ownS own (j + 1) k l).2) → 
        avL (ownS own j (k + b) (x :: l)).1 = reL (fun i => some (i + b)) (avL (ownS own j k (x :: l)).1) ∧ (ownS own j (k + b) (x :: l)).2.map (fun p => (p.1, p.2.av)) = shH b ((ownS own j k (x :: l)).2.map fun p => (p.1, p.2.av)) := by
      intro c _ ⟨e1, e2⟩
      obtain ⟨i1, i2⟩ := ownS_av b (l := l) (j := j + 1) (k := k) hx.2
      rw [e1, e2]
      exact ⟨by simp only [avL, reL]; rw [bare_of hx.1, i1], i2⟩
    cases hc : own.contains j with
    | false =>
      refine gen false (by simp) ⟨?_, ?_⟩ <;> (rw [ownS_cons, hc])
    | true =>
      cases x with
      | sl c' E xs =>
        have e1 : ∀ k, ownS own j k (SV.sl c' E xs :: l) = (.rw k E :: (ownS own (j + 1) (k + 1) l).1, (k, .arr E xs) :: (ownS own (j + 1) (k + 1) l).2) := by
          intro k; rw [ownS]; rw [hc]
        obtain ⟨i1, i2⟩ := ownS_av b (l := l) (j := j + 1) (k := k + 1) hx.2
        rw [e1, e1]
        rw [show k + b + 1 = k + 1 + b by omega]
        exact ⟨by simp only [avL, reL]; rw [i1]; rfl, by simp only [List.map_cons]; rw [i2]; rfl⟩
      | _ => refine gen true (by rintro _ _ _ _ h; cases h) ⟨?_, ?_⟩ <;> (rw [ownS]; rw [hc]; intros; contradiction)
end
end Go.Rx
