/-
  Calls whose results are new slices; operations run on symbolic states. No conditions.
-/
import Derived.Test.YtdknhngjfoaphaaGreatRzH
set_option linter.all false
namespace Go.Rx
open Go.RowKit

section
variable {P : Program} {tb : Tb} {ρ : Type} {cx : Ctx P tb}

theorem ownS_names {own : List Nat} : ∀ {l : List (SV tb)} {j k}, (∀ p ∈ (ownS own j k l).2, k ≤ p.1 ∧ p.1 < k + (ownS own j k l).2.length ∧ ∃ E xs, p.2 = .arr E xs)
  | [], _, _, p, hp => by simp [ownS] at hp
  | x :: l, j, k, p, hp => by
    rw [ownS_cons] at hp ⊢
    split at hp
    · rename_i E xs _ _
      simp only [List.mem_cons] at hp
      rcases hp with rfl | hp
      · exact ⟨Nat.le_refl _, by simp, _, _, rfl⟩
      · obtain ⟨h1, h2, h3⟩ := ownS_names p hp
        refine ⟨by omega, ?_, h3⟩
        simp only [List.length_cons]; omega
    · exact ownS_names p hp
theorem ownS_len {own : List Nat} : ∀ {l : List (SV tb)} {j k}, (ownS own j k l).1.length = l.length
  | [], _, _ => rfl
  | x :: l, j, k => by
    rw [ownS_cons]
    split <;> simp [ownS_len]
theorem ansS_names {cd : (i : tb.Ix) → Cd tb i} {own rs r k} : ∀ p ∈ (ansS tb cd own rs r k).2, k ≤ p.1 ∧ p.1 < k + (ansS tb cd own rs r k).2.length ∧ ∃ E xs, p.2 = .arr E xs := by
  match rs with
  | [] => intro p hp; simp [ansS] at hp
  | [i] =>
    cases own with
    | nil => intro p hp; simp [ansS] at hp
    | cons a b => intro p hp; exact ownS_names p hp
  | i :: j :: l => intro p hp; simp [ansS] at hp
theorem re_const {q : Nat → Option Nat} {x : AV} (h : x.isBare = true) : x = x.re q := (bare_of h).symm
theorem ansS_shift (cx : Ctx P tb) (own rs) (r : Tup tb rs) (b : Nat) : (ansS tb cx.cd own rs r b).1.av = (ansS tb cx.cd own rs r 0).1.av.re (fun i => some (i + b)) ∧
    (ansS tb cx.cd own rs r b).2.map (fun p => (p.1, p.2.av)) = shH b ((ansS tb cx.cd own rs r 0).2.map fun p => (p.1, p.2.av)) := by
  match rs with
  | [] => exact ⟨rfl, rfl⟩
  | [i] =>
    cases own with
    | nil =>
      refine ⟨re_const ?_, rfl⟩
      show ((cx.cd i).sv r).av.isBare = true
      exact (congrArg AV.isBare ((cx.ok i).sv r)).trans ((cx.ok i).bare r).1
    | cons a t =>
      have hb : allBare (avL ((cx.cd i).cs r)) = true := (congrArg allBare ((cx.ok i).cs r)).trans ((cx.ok i).bare r).2
      obtain ⟨h1, h2⟩ := ownS_av (own := a :: t) b (l := (cx.cd i).cs r) (j := 0) (k := 0) hb
      rw [Nat.zero_add] at h1 h2
      refine ⟨?_, h2⟩
      show (wrapS (cx.cd i) (ownS (a :: t) 0 b ((cx.cd i).cs r)).1).av = (wrapS (cx.cd i) (ownS (a :: t) 0 0 ((cx.cd i).cs r)).1).av.re _
      unfold wrapS
      split
      · show AV.agg (avL _) = (AV.agg (avL _)).re _
        rw [h1]; rfl
      · generalize (ownS (a :: t) 0 b ((cx.cd i).cs r)).1 = u at h1
        generalize (ownS (a :: t) 0 0 ((cx.cd i).cs r)).1 = v at h1
        cases u with
        | nil => cases v with
          | nil => rfl
          | cons => simp [avL, reL] at h1
        | cons x u => cases v with
          | nil => simp [avL, reL] at h1
          | cons y v =>
            simp only [avL, reL, List.cons.injEq] at h1
            exact h1.1
  | i :: j :: l =>
    refine ⟨re_const ?_, rfl⟩
    have := (ansS_av cx.cd cx.ok (i :: j :: l) r 0).1
    show (ansS tb cx.cd [] (i :: j :: l) r 0).1.av.isBare = true
    rw [this]
    exact resAV_bare cx _ _
theorem avH_append {g : Gn tb} : ∀ {a : SHp tb} {b}, (∀ p ∈ a, keepQ g p.1 = true ∧ ∃ E xs, p.2 = .arr E xs) → avH g (a ++ b) = a.map (fun p => (p.1, p.2.av)) ++ avH g b
  | [], _, _ => rfl
  | (i, c) :: a, b, h => by
    obtain ⟨h1, E, xs, h2⟩ := h (i, c) (by simp)
    simp only at h1 h2
    subst h2
    have ih := avH_append (a := a) (b := b) fun p hp => h p (List.mem_cons_of_mem _ hp)
    unfold avH at ih ⊢
    rw [List.cons_append, List.filter_cons, if_pos h1, List.map_cons, ih]; rfl
def allKeep (g : Gn tb) : SHp tb → Bool
  | [] => true
  | (i, _) :: r => match keepQ g i with | true => allKeep g r | false => false
theorem allKeep_e {g : Gn tb} : ∀ {a : SHp tb}, allKeep g a = true → ∀ p ∈ a, keepQ g p.1 = true
  | [], _, p, hp => by cases hp
  | (i, c) :: a, h, p, hp => by
    unfold allKeep at h
    split at h
    · rename_i h1
      rcases List.mem_cons.1 hp with rfl | hp
      · exact h1
      · exact allKeep_e h p hp
    · cases h
def lOwn (cx : Ctx P tb) (N : Nat) (ops : Array Oper) (L : SLS tb) (gs : List Nat) (o : Oper) (f : Nat) (xs : List (SV tb)) (con : Con P tb cx.cd) (k : SLS tb → List Nat → KL → Option ρ) : Option ρ :=
  got o.dst fun d => got (argsD cx con.ps xs) fun a => Bind (con.cf a) fun r =>
  tst (notOpt (ansS tb cx.cd con.own con.rs r L.nx).1) <| put N gs L d (ansS tb cx.cd con.own con.rs r L.nx).1 fun L' => tst (allKeep L.gn (ansS tb cx.cd con.own con.rs r L.nx).2) <|
    k { L' with h := (ansS tb cx.cd con.own con.rs r L.nx).2 ++ L.h, nx := L.nx + (ansS tb cx.cd con.own con.rs r L.nx).2.length } gs
      ⟨o.looksAt ops, [], [d], (ansS tb cx.cd con.own con.rs r L.nx).2.map (·.1), (ansS tb cx.cd con.own con.rs r L.nx).2.map (·.1)⟩
theorem lOwn_ok {N ops} {L : SLS tb} {gs o y args tys f caps xs con} {k : SLS tb → List Nat → KL → Option ρ} {r} (hi : RI gs L.e) (hg : o.guard = none) (ho : o.op = .call { callee := .value y, args, argTypes := tys }) (hy : opd L [] y = some (.fn f caps)) (hxs : opdsS L [] args.toList = some xs) (hcon : findCon f cx.Γ = some con)
    (h : lOwn cx N ops L gs o f (xs ++ caps) con k = some r) : LOk P N ops o L k r := by
  unfold lOwn at h
  obtain ⟨d, hd, h⟩ := got_e h
  obtain ⟨a, ha, h⟩ := got_e h
  obtain ⟨x, hx, h⟩ := Option.bind_eq_some_iff.1 (show (con.cf a).bind _ = some r from h)
  rw [con.cf_eq] at hx
  obtain ⟨h1, h⟩ := tst_e h
  obtain ⟨hN, hm, hx2, h⟩ := put_e h
  obtain ⟨h3, h⟩ := tst_e h
  have h3 := allKeep_e h3
  obtain ⟨vs, g1, g2, g3⟩ := argsD_ok ha
  have hf := con.ok a vs x g1 hx
  have hn := ansS_names (cd := cx.cd) (own := con.own) (rs := con.rs) (r := x) (k := L.nx)
  obtain ⟨s1, s2⟩ := ansS_shift cx con.own con.rs x L.nx
  have key := LEx.enterO (ops := ops) (N := N) (o := o) (e := L.E) (fn := con.fid) (ys := vs) (b := L.nx) hg hd hN (fun m bl ac w hrd => by
    obtain ⟨ws, hrun, hreps⟩ := run_enter (caps := avL caps) ho (by have := con.call; rwa [findCon_f hcon] at this) (opd_ok (Gu.nil hi.inv) hy) (opdsS_ok (Gu.nil hi.inv) hxs) w hrd
    rw [findCon_f hcon]
    refine ⟨ws, hrun, ?_⟩
    rw [← avL_append] at hreps
    have := (g2 _ _ _ hreps).bare (bl' := noNames)
    rwa [bareL, bareL_of g3] at this) hf (by
    intro p hp
    obtain ⟨q, hq, rfl⟩ := List.mem_map.1 hp
    obtain ⟨-, -, E, xs, hE⟩ := ansS_names q hq
    refine ⟨elC tb E xs, by simp only [hE]; rfl, el_bare cx xs⟩)
  rw [← s1, ← s2] at key
  have e2 : ((ansS tb cx.cd con.own con.rs x L.nx).2.map fun p => (p.1, p.2.av)).map (·.1) = (ansS tb cx.cd con.own con.rs x L.nx).2.map (·.1) := by simp
  rw [e2] at key
  refine ⟨_, _, _, _, h, ⟨reOf_keys, by simp, by simp, ?_, rfl⟩, key, reOf_mem.1, by simp, ?_, Nat.le_add_right _ _, rfl, rfl, ?_, ?_, ⟨[_], rfl⟩, ⟨_, rfl⟩, hi.put hm h1⟩
  · intro p hp
    obtain ⟨q, hq, rfl⟩ := List.mem_map.1 hp
    exact List.mem_map.2 ⟨q, hq, rfl⟩
  · intro y hy
    obtain ⟨q, hq, rfl⟩ := List.mem_map.1 hy
    exact ⟨(hn q hq).1, (hn q hq).2.1⟩
  · show (d, ((ansS tb cx.cd con.own con.rs x L.nx).1.res L.gn).av) :: _ = _
    rw [hx2]; rfl
  · exact avH_append fun p hp => ⟨h3 p hp, (hn p hp).2.2⟩

/-- Zeros appended to nothing: their number. -/
def isZer (P : Program) (c : Call) : Bool := match types2 c with
  | some t => (match P.underlying t.2 with | some D => (match isIntD D with | some _ => true | none => false) | none => false)
  | none => false
def lZer (cx : Ctx P tb) (N : Nat) (ops : Array Oper) (L : SLS tb) (gs : List Nat) (o : Oper) (c : Call) (k : SLS tb → List Nat → KL → Option ρ) : Option ρ :=
  got o.dst fun d => got (args2 c) fun y => got (types2 c) fun t => got (elemOf P tb t.1) fun p => got (zeroS P p.2.1) fun Z => got ((cx.cd p.1).ofC Z) fun z => got (P.underlying t.2) fun D => got (isIntD D) fun kd => got (opd L [] y.1) fun x => tst (isEm x) <| tst (emOk p.1 x) <| got (opd L [] y.2) fun b => got (asI b) fun n => tst (decide (n.1 = kd)) <|
  Chk (0 < n.2 ∧ n.2.toNat * p.2.2 ≤ 140737488355328 ∧ n.2 ≤ 9223372036854775807) <| Let (List.replicate n.2.toNat z) fun l => putN N gs L d (.rw L.nx p.1) (.arr p.1 l) fun L' => k L' gs ⟨o.looksAt ops, [], [d], [L.nx], [L.nx]⟩
theorem lZer_ok {N ops} {L : SLS tb} {gs o c} {k : SLS tb → List Nat → KL → Option ρ} {r} (hi : RI gs L.e) (hg : o.guard = none) (ho : o.op = .call c) (hb : c.callee = .builtin .append) (h : lZer cx N ops L gs o c k = some r) : LOk P N ops o L k r := by
  unfold lZer at h
  obtain ⟨d, hd, h⟩ := got_e h
  obtain ⟨y, hy', h⟩ := got_e h
  obtain ⟨t, ht', h⟩ := got_e h
  obtain ⟨p, hp, h⟩ := got_e h
  obtain ⟨Z, hZ, h⟩ := got_e h
  obtain ⟨z, hz, h⟩ := got_e h
  obtain ⟨D, hD, h⟩ := got_e h
  obtain ⟨kd, hkd, h⟩ := got_e h
  obtain ⟨x, hx, h⟩ := got_e h
  obtain ⟨hem, h⟩ := tst_e h
  obtain ⟨heo, h⟩ := tst_e h
  obtain ⟨b, hb2, h⟩ := got_e h
  obtain ⟨n, hn, h⟩ := got_e h
  obtain ⟨hk, h⟩ := tst_e h
  obtain ⟨⟨h1, h2, h3⟩, h⟩ := Chk_e h
  have hk := of_decide_eq_true hk
  have ho : o.op = .call { callee := .builtin .append, args := #[y.1, y.2], argTypes := #[t.1, t.2] } := by
    rw [ho]
    obtain ⟨c1, c2, c3⟩ := c
    have h1 := args2_e hy'
    have h2 := types2_e ht'
    simp only at h1 h2 hb
    rw [h1, h2, hb]
  have hxx := (opd_ok (Gu.nil hi.inv) hx).sub (isEm_e hem (emOk_e heo))
  have hbb := opd_ok (Gu.nil hi.inv) hb2
  rw [asI_e hn, hk] at hbb
  rw [isIntD_e hkd] at hD
  exact putN_ok (rh := []) hi rfl (fun hN => (LEx.appZ hg hd hN ho (elemOf_e hp) (zeroS_e hZ) (cx.ok p.1).pos hD hxx hbb h1 h2 h3).wsub (elC_replicate ((cx.ok p.1).ofC _ _ hz).1 _)) (by simp) (by simp) rfl rfl rfl rfl (Let_e h)

/-- Zeros written over a part of an own block (clear). -/
def lClear (cx : Ctx P tb) (ops : Array Oper) (L : SLS tb) (gs : List Nat) (o : Oper) (c : Call) (k : SLS tb → List Nat → KL → Option ρ) : Option ρ := match o.dst with
  | some _ => none
  | none => got (args1 c) fun y => got (elemOf P tb y.2) fun p => got (zeroS P p.2.1) fun Z => got ((cx.cd p.1).ofC Z) fun z => got (opd L [] y.1) fun x => match x with
    | .row id E off len mc => ifE E p.1 fun _ => got (arrAt L id p.1) fun l => Chk (off + len ≤ l.length ∧ 0 < mc) <| Let (l.take off ++ List.replicate len z ++ l.drop (off + len)) fun l' =>
        putH L id (.arr p.1 l') fun L' => k L' gs ⟨o.looksAt ops, [id], [], [id], []⟩
    | _ => none
theorem lClear_ok {N ops} {L : SLS tb} {gs o c} {k : SLS tb → List Nat → KL → Option ρ} {r} (hi : RI gs L.e) (hg : o.guard = none) (ho : o.op = .call c) (hb : c.callee = .builtin .clear) (h : lClear cx ops L gs o c k = some r) : LOk P N ops o L k r := by
  unfold lClear at h
  split at h
  · cases h
  · rename_i hd
    obtain ⟨⟨y, t⟩, hy', h⟩ := got_e h
    obtain ⟨⟨E, E0, by_⟩, hp, h⟩ := got_e h
    obtain ⟨Z, hZ, h⟩ := got_e h
    obtain ⟨z, hz, h⟩ := got_e h
    obtain ⟨x, hx, h⟩ := got_e h
    have ho : o.op = .call { callee := .builtin .clear, args := #[y], argTypes := #[t] } := by
      rw [ho]
      obtain ⟨c1, c2, c3⟩ := c
      obtain ⟨h1, h2⟩ := args1_e hy'
      simp only at h1 h2 hb
      rw [h1, h2, hb]
    have hET := elemOf_e hp
    have hy := opd_ok (Gu.nil hi.inv) hx
    have hof := (cx.ok E).ofC _ _ hz
    split at h
    · rename_i _ id E' off len mc
      obtain ⟨hE, h⟩ := ifE_e h
      subst hE
      obtain ⟨l, hl, h⟩ := got_e h
      obtain ⟨⟨h1, h3⟩, h⟩ := Chk_e h
      obtain ⟨hh, h⟩ := putH_e (Let_e h)
      have hl := arrAt_e hl
      have hZl : (avL Z).length = tb.sz E' := by rw [avL_length, hof.2]
      have hfl : (List.replicate len (avL Z)).flatten.length = len * tb.sz E' := by simp [hZl]
      have e1 : ∀ a b : List (tb.T E'), elC tb E' (a ++ b) = elC tb E' a ++ elC tb E' b := fun a b => by simp [elC]
      have e2 : ∀ n, elC tb E' (l.take n) = (elC tb E' l).take (n * tb.sz E') := fun n => by unfold elC; rw [flat_take n (elC_len cx.ok), List.map_take]
      have e3 : ∀ n, elC tb E' (l.drop n) = (elC tb E' l).drop (n * tb.sz E') := fun n => by unfold elC; rw [flat_drop n (elC_len cx.ok), List.map_drop]
      have key := LEx.clearR (ops := ops) (N := N) (need := [(id, elC tb E' l)]) (l := elC tb E' l) hg hd ho hET (zeroS_e hZ) hy (by simp)
        (by rw [hfl, elC_length cx, ← Nat.add_mul]; exact Nat.mul_le_mul_right _ h1) h3
      have key := key.wsub (Z' := elC tb E' (l.take off ++ List.replicate len z ++ l.drop (off + len))) (by
        rw [e1, e1, e2, e3, hfl, ← Nat.add_mul]
        exact ((SubL.refl _).append (elC_replicate hof.1 len)).append (SubL.refl _))
      refine ⟨_, _, _, _, h, ⟨reOf_keys, by simp [needH], by simp, by simp, rfl⟩, key, reOf_mem.1, ?_, by simp, Nat.le_refl _, rfl, rfl, rfl, ?_, ⟨[], rfl⟩, ⟨[_], rfl⟩, hi⟩
      · intro q hq
        simp [needH] at hq
        subst hq; exact hl
      · show avH L.gn _ = _
        rw [hh]; rfl
    · cases h

/-- A slice of given elements, of the call's own. -/
def lBuildA (cx : Ctx P tb) (N : Nat) (ops : Array Oper) (L : SLS tb) (gs : List Nat) (o : Oper) (t n : Nat) (ps : Array (Nat × Operand)) (k : SLS tb → List Nat → KL → Option ρ) : Option ρ :=
  got o.dst fun d => got (elemOf P tb t) fun p => got (fillS L [] (fun i => some (i * tb.sz p.1, tb.sz p.1)) ps.toList (List.replicate (n * tb.sz p.1) .undef)) fun Z =>
  tst (Nat.beq Z.length (n * tb.sz p.1)) <| tst (Nat.blt 0 n) <| tst (Nat.ble (n * tb.sz p.1) (2 ^ 24)) <| got (chop cx p.1 n Z) fun l => putN N gs L d (.rw L.nx p.1) (.arr p.1 l) fun L' => k L' gs ⟨o.looksAt ops, [], [d], [L.nx], [L.nx]⟩
theorem lBuildA_ok {N ops} {L : SLS tb} {gs o t n ps} {k : SLS tb → List Nat → KL → Option ρ} {r} (hi : RI gs L.e) (hg : o.guard = none) (ho : o.op = .buildSlice t n ps) (h : lBuildA cx N ops L gs o t n ps k = some r) : LOk P N ops o L k r := by
  unfold lBuildA at h
  obtain ⟨d, hd, h⟩ := got_e h
  obtain ⟨p, hp, h⟩ := got_e h
  obtain ⟨Z, hZ, h⟩ := got_e h
  obtain ⟨h2, h⟩ := tst_e h
  obtain ⟨h3, h⟩ := tst_e h
  obtain ⟨h4, h⟩ := tst_e h
  obtain ⟨l, hl, h⟩ := got_e h
  have hf := fillS_ok (Gu.nil hi.inv) hZ
  rw [avL_rep] at hf
  refine putN_ok (rh := []) hi rfl (fun hN => ?_) (by simp) (by simp) rfl rfl rfl rfl h
  exact (LEx.buildOwn (ops := ops) (N := N) (nm := L.nx) hg hd hN ho (elemOf_e hp) hf (by rw [avL_length]; exact Nat.eq_of_beq_eq_true h2) (Nat.le_of_ble_eq_true h3) (Nat.le_of_ble_eq_true h4)).wsub (chop_ok hl)
/-- Are the elements plain data? -/
def plainEl (P : Program) (tb : Tb) (t : Nat) : Bool := match ((P.underlying t).bind isSlD).bind tb.look with | some _ => true | none => false
/-- An operation that changes the state here and there. im: is the variable in that slot captured and never written again? -/
def lop (cx : Ctx P tb) (im : Nat → Bool) (N : Nat) (ops : Array Oper) (L : SLS tb) (gs : List Nat) (o : Oper) (k : SLS tb → List Nat → KL → Option ρ) : Option ρ := match o.guard with
  | some (j, w) => lg cx N ops L gs o j w k
  | none => match o.op with
    | .alloc T => lAlloc cx N ops L gs o T (match o.dst with | some d => im d | none => false) k
    | .buildSlice t n ps => (match plainEl P tb t with
      | true => (match (match o.dst with | some d => im d | none => false) with | true => lBuildA cx N ops L gs o t n ps k | false => lq cx N ops L gs o k)
      | false => lBuildO (P := P) N ops L gs o t n ps k)
    | .box _ y => lBox N ops L gs o y (match o.dst with | some d => im d | none => false) k
    | .store t y z => lStore cx ops L gs o t y z k
    | .makeSlice t x y => lMake cx N ops L gs o t x y k
    | .call c => (match c.callee with
      | .builtin .append => (match isZer P c with | true => lZer cx N ops L gs o c k | false => (match (match o.dst with | some d => im d | none => false) with | true => lAppO cx N ops L gs o c k | false => lApp cx N ops L gs o c k))
      | .builtin .clear => lClear cx ops L gs o c k
      | .value y => (match opd L [] y with
        | some (.fn f caps) => (match findHnd f cx.hnd with
          | some _ => lq cx N ops L gs o k
          | none => got (findCon f cx.Γ) fun con => (match con.own with
          | [] => lq cx N ops L gs o k
          | _ :: _ => got (opdsS L [] c.args.toList) fun xs => lOwn cx N ops L gs o f (xs ++ caps) con k))
        | _ => lq cx N ops L gs o k)
      | _ => lq cx N ops L gs o k)
    | _ => lq cx N ops L gs o k
theorem lop_ok {im N ops} {L : SLS tb} {gs o} {k : SLS tb → List Nat → KL → Option ρ} {r} (hi : RI gs L.e) (h : lop cx im N ops L gs o k = some r) : LOk P N ops o L k r := by
  unfold lop at h
  split at h
  · exact lg_ok hi ‹_› h
  · rename_i hg
    split at h
    · exact lAlloc_ok hi hg ‹_› h
    · split at h
      · split at h
        · exact lBuildA_ok hi hg ‹_› h
        · exact lq_ok hi hg h
      · exact lBuildO_ok hi hg ‹_› h
    · exact lBox_ok hi hg ‹_› h
    · exact lStore_ok hi hg ‹_› h
    · exact lMake_ok hi hg ‹_› h
    · rename_i c ho
      obtain ⟨ce, ar, ty⟩ := c
      split at h
      · rename_i hce
        split at h
        · exact lZer_ok hi hg ho hce h
        · split at h
          · exact lAppO_ok hi hg ho hce h
          · exact lApp_ok hi hg ho hce h
      · rename_i hce
        exact lClear_ok hi hg ho hce h
      · rename_i y hce
        simp only at hce; subst hce
        split at h
        · rename_i f caps hy
          split at h
          · exact lq_ok hi hg h
          obtain ⟨con, hcon, h⟩ := got_e h
          split at h
          · exact lq_ok hi hg h
          · obtain ⟨xs, hxs, h⟩ := got_e h
            exact lOwn_ok hi hg ho hy hxs hcon h
        · exact lq_ok hi hg h
      · exact lq_ok hi hg h
    · exact lq_ok hi hg h
end
end Go.Rx
