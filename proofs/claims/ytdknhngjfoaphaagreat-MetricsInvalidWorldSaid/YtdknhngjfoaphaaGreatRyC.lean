/-
  Appends to own slices, run on symbolic states; regions. No conditions.
-/
import Derived.Test.YtdknhngjfoaphaaGreatRyB
set_option linter.all false
namespace Go.Rx
open Go.RowKit

mutual
theorem re_re {p q : Nat → Option Nat} : ∀ x : AV, (x.re p).re q = x.re (fun i => (p i).bind q)
  | .undef => rfl
  | .v _ => rfl
  | .agg l => by simp only [AV.re, reL_re l]
  | .tup l => by simp only [AV.re, reL_re l]
  | .sl _ _ _ => rfl
  | .cptr _ => rfl
  | .clo _ l => by simp only [AV.re, reL_re l]
  | .ptr id off => by
    simp only [AV.re]
    cases h : p id with
    | none => rfl
    | some i => simp only [AV.re, Option.bind_some]
  | .row id off len mc sz => by
    simp only [AV.re]
    cases h : p id with
    | none => rfl
    | some i => simp only [AV.re, Option.bind_some]
  | .rw id sz => by
    simp only [AV.re]
    cases h : p id with
    | none => rfl
    | some i => simp only [AV.re, Option.bind_some]
  | .opt _ x => by simp only [AV.re, re_re x]
  | .ifc _ x => by simp only [AV.re, re_re x]
theorem reL_re {p q : Nat → Option Nat} : ∀ l : List AV, reL q (reL p l) = reL (fun i => (p i).bind q) l
  | [] => rfl
  | x :: l => by simp only [reL, re_re x, reL_re l]
end

section
variable {P : Program} {tb : Tb} {ρ : Type} {cx : Ctx P tb}

/-- How names fare between two tellings. -/
def ResQ (g1 g' : Gn tb) (q : Nat → Option Nat) (nx0 : Nat) : Prop :=
  ∀ id, id < nx0 → find id g' = some .drop ∨ (find id g' = find id g1 ∧ (find id g1 = none → q id = some id))
def ltN (n : Nat) (i : Nat) : Bool := Nat.blt i n
theorem ltN_e {n i} (h : ltN n i = true) : i < n := Nat.le_of_ble_eq_true h
mutual
theorem res_sub {g1 g' : Gn tb} {q nx0} (H : ResQ g1 g' q nx0) : ∀ {x : SV tb}, x.has (ltN nx0) = true → Sub ((x.res g1).av.re q) (x.res g').av
  | .undef, _ => .refl _
  | .i _ _, _ => .refl _
  | .b8 _, _ => .refl _
  | .bo _, _ => .refl _
  | .st _, _ => .refl _
  | .con _, _ => .refl _
  | .agg l, h => .agg (resL_sub H (l := l) h)
  | .tup l, h => .tup (resL_sub H (l := l) h)
  | .sl _ _ _, _ => .refl _
  | .em _, _ => .refl _
  | .cp l, _ => .refl _
  | .fn f l, h => .clo (resL_sub H (l := l) h)
  | .ptr id off, h => by
    simp only [SV.res]
    rcases H id (ltN_e h) with h1 | ⟨h1, h2⟩
    · rw [h1]; exact .undef _
    · rw [h1]
      cases hf : find id g1 with
      | none => simp only [resP, SV.av, AV.re, h2 hf]; exact .refl _
      | some c =>
        cases c with
        | drop => exact .undef _
        | fz c => cases c <;> exact .refl _
  | .epr id E i fo, h => by
    simp only [SV.res]
    rcases H id (ltN_e h) with h1 | ⟨h1, h2⟩
    · rw [h1]; exact .undef _
    · rw [h1]
      cases hf : find id g1 with
      | none => simp only [resE, SV.av, AV.re, h2 hf]; exact .refl _
      | some c => exact .undef _
  | .row id E off len mc, h => by
    simp only [SV.res]
    rcases H id (ltN_e h) with h1 | ⟨h1, h2⟩
    · rw [h1]; exact .undef _
    · rw [h1]
      cases hf : find id g1 with
      | none => simp only [resR, SV.av, AV.re, h2 hf]; exact .refl _
      | some c => exact .undef _
  | .rw id E, h => by
    simp only [SV.res]
    rcases H id (ltN_e h) with h1 | ⟨h1, h2⟩
    · rw [h1]; exact .undef _
    · rw [h1]
      cases hf : find id g1 with
      | none => simp only [resW, SV.av, AV.re, h2 hf]; exact .refl _
      | some c =>
        cases c with
        | drop => exact .undef _
        | fz c =>
          cases c with
          | arr E' l => simp only [resW]; split <;> exact .refl _
          | _ => exact .undef _
  | .opt _ x, h => .opt (res_sub H (x := x) h)
  | .cl _ _ _ _ caps hc, _ => by
    simp only [SV.res, SV.av, AV.re]; rw [bareL_of hc.2.1]; exact .refl _
  | .ifc _ x, h => .ifc (res_sub H (x := x) h)
theorem resL_sub {g1 g' : Gn tb} {q nx0} (H : ResQ g1 g' q nx0) : ∀ {l : List (SV tb)}, hasL (ltN nx0) l = true → SubL (reL q (avL (resL g1 l))) (avL (resL g' l))
  | [], _ => .refl _
  | x :: l, h => by
    rw [hasL_cons, Bool.and_eq_true] at h
    exact .cons (res_sub H h.1) (resL_sub H h.2)
end

def wfE (n : Nat) : SEnv tb → Bool
  | [] => true
  | (_, x) :: e => match x.has (ltN n) with | true => wfE n e | false => false
theorem wfE_e {n : Nat} : ∀ {e : SEnv tb}, wfE n e = true → ∀ t x, find t e = some x → x.has (ltN n) = true
  | [], _, t, x, hf => by simp [find] at hf
  | (k, y) :: e, h, t, x, hf => by
    unfold wfE at h
    split at h
    · rename_i hy
      rw [find_cons] at hf
      split at hf
      · cases hf; exact hy
      · exact wfE_e h t x hf
    · cases h
def wfH (n : Nat) : SHp tb → Bool
  | [] => true
  | (i, x) :: e => match ltN n i with | true => (match x.has (ltN n) with | true => wfH n e | false => false) | false => false
theorem wfH_e {n : Nat} : ∀ {e : SHp tb}, wfH n e = true → ∀ t x, find t e = some x → t < n ∧ x.has (ltN n) = true
  | [], _, t, x, hf => by simp [find] at hf
  | (k, y) :: e, h, t, x, hf => by
    unfold wfH at h
    split at h
    · rename_i hk
      split at h
      · rename_i hy
        rw [find_cons] at hf
        split at hf
        · rename_i he; subst he; cases hf; exact ⟨ltN_e hk, hy⟩
        · exact wfH_e h t x hf
      · cases h
    · cases h
def wfS (n : Nat) : List (SEnv tb) → Bool
  | [] => true
  | e :: s => match wfE n e with | true => wfS n s | false => false
theorem wfS_e {n : Nat} : ∀ {s : List (SEnv tb)}, wfS n s = true → ∀ (i : Nat) e, s[i]? = some e → wfE n e = true
  | [], _, i, e, hf => by simp at hf
  | e0 :: s, h, i, e, hf => by
    unfold wfS at h
    split at h
    · rename_i he
      cases i with
      | zero => simp at hf; subst hf; exact he
      | succ i => exact wfS_e h i e (by simpa using hf)
    · cases h
/-- Names are from before the next. -/
def wf (L : SLS tb) : Bool := match wfE L.nx L.e with | true => (match wfS L.nx L.s with | true => wfH L.nx L.h | false => false) | false => false
structure Wf (L : SLS tb) : Prop where
  e : wfE L.nx L.e = true
  s : wfS L.nx L.s = true
  h : wfH L.nx L.h = true
theorem wf_e {L : SLS tb} (h : wf L = true) : Wf L := by
  unfold wf at h
  split at h
  · split at h
    · exact ⟨‹_›, ‹_›, h⟩
    · cases h
  · cases h

theorem SubS_of {q nils} : ∀ {s s' : List Env}, s'.length = s.length → (∀ (i : Nat) e e', s[i]? = some e → s'[i]? = some e' → SubE q nils e e') → SubS q nils s s'
  | [], [], _, _ => trivial
  | [], _ :: _, h, _ => by simp at h
  | _ :: _, [], h, _ => by simp at h
  | e :: s, e' :: s', h, k => ⟨k 0 e e' rfl rfl, SubS_of (by simpa using h) fun i e e' h1 h2 => k (i + 1) e e' (by simpa using h1) (by simpa using h2)⟩

/-! appends to own slices -/
def gApp (cx : Ctx P tb) (N : Nat) (L : SLS tb) (gs : List Nat) (o : Oper) (c : Call) (id : Nat) (E0 : tb.Ix) (k : SLS tb → List Nat → Option ρ) : Option ρ :=
  got o.dst fun d => got (args2 c) fun a => got (types2 c) fun t => got (elemOf P tb t.1) fun p => tst (Nat.ble 1 p.2.2) <| tst (wf L) <| ifE E0 p.1 fun _ => got (arrAt L id p.1) fun l => srcK P L p.1 t.2 a.2 fun l2 need =>
    Chk ((l.length + l2.length) * p.2.2 ≤ 140737488355328) <| Let (l ++ l2) fun l' => tst (Nat.blt d N) <| tst (!memN d gs) <| tst (Nat.blt id L.nx) <| tst (keepQ L.gn L.nx) <|
    k { L with e := (d, .rw L.nx p.1) :: L.e, h := (L.nx, .arr p.1 l') :: L.h, nx := L.nx + 1, gn := (id, .drop) :: L.gn } gs
theorem gApp_ok {N ops} {L : SLS tb} {gs o c y z id E0} {k : SLS tb → List Nat → Option ρ} {r} (hi : RI gs L.e) (hg : o.guard = none) (ho : o.op = .call c) (hb : c.callee = .builtin .append) (ha : args2 c = some (y, z)) (hx : opd L [] y = some (.rw id E0))
    (h : gApp cx N L gs o c id E0 k = some r) : ∀ rest K, (∀ L' gs', k L' gs' = some r → RI gs' L'.e → Ext L L' → GoT P ops N rest K L'.av) → GoT P ops N (o :: rest) K L.av := by
  unfold gApp at h
  obtain ⟨d, hd, h⟩ := got_e h
  obtain ⟨a', ha', h⟩ := got_e h
  rw [ha] at ha'; cases ha'
  obtain ⟨⟨t, tz⟩, ht, h⟩ := got_e h
  obtain ⟨⟨E, E1, by_⟩, hp, h⟩ := got_e h
  obtain ⟨hby, h⟩ := tst_e h
  have hby2 : 1 ≤ by_ := Nat.le_of_ble_eq_true hby
  obtain ⟨hwf, h⟩ := tst_e h
  have hwf := wf_e hwf
  obtain ⟨hE, h⟩ := ifE_e h
  simp only at hE
  subst hE
  obtain ⟨l, hl, h⟩ := got_e h
  have ho : o.op = .call { callee := .builtin .append, args := #[y, z], argTypes := #[t, tz] } := by
    rw [ho]
    obtain ⟨c1, c2, c3⟩ := c
    have h1 := args2_e ha
    have h2 := types2_e ht
    simp only at h1 h2 hb
    rw [h1, h2, hb]
  have hET := elemOf_e hp
  have hy := opd_ok (Gu.nil hi.inv) hx
  obtain ⟨l2, need, h, hsrc, hnd⟩ := srcK_ok (o := o) cx hi.inv (by rw [ho]; simp [Op.operands, Call.operands]) h
  obtain ⟨hc, h⟩ := Chk_e h
  have h := Let_e h
  obtain ⟨hN, h⟩ := tst_e h
  obtain ⟨hm, h⟩ := tst_e h
  obtain ⟨hlt, h⟩ := tst_e h
  obtain ⟨hkn, h⟩ := tst_e h
  have hN : d < N := Nat.le_of_ble_eq_true hN
  have hm : memN d gs = false := by simpa using hm
  have hlt : id < L.nx := Nat.le_of_ble_eq_true hlt
  have hkn := keepQ_e hkn
  have hkid : find id L.gn = none := by
    have := hl; unfold arrAt at this; split at this
    · exact keepQ_e ‹_›
    · cases this
  have hl := arrAt_e hl
  intro rest K kk
  have key := AEx.appRow (L := L.av) hd ho hET hy (xs := l.map (tb.el E0)) hl (elC_len cx.ok) (el_bare cx l) hsrc hnd (by rw [List.length_map, List.length_map]; exact hc) (by rw [List.length_map, List.length_map]; exact len63 hby2 hc)
  refine GoT.act hg (fun d' h' => by rw [hd] at h'; cases h'; exact hN) key ?_
  rintro L1 rfl
  have hext : Ext L { L with e := (d, .rw L.nx E0) :: L.e, h := (L.nx, .arr E0 (l ++ l2)) :: L.h, nx := L.nx + 1, gn := (id, .drop) :: L.gn } := ⟨rfl, ⟨[_], rfl⟩, ⟨[_], rfl⟩, Nat.le_succ _, ⟨[_], rfl⟩⟩
  refine GoT.tells ?_ (kk _ _ h (hi.put hm rfl) hext)
  -- the name is renamed
  let q : Nat → Option Nat := fun i => if i = id then some L.nx else if i = L.nx then none else some i
  let r0 : Nat → Option Nat := fun i => if i = L.nx then some id else if i = id then none else some i
  have hH : ResQ L.gn ((id, Gone.drop) :: L.gn) (fun i => (dropQ id i).bind q) L.nx := by
    intro i hi
    rw [find_cons]
    by_cases hid : id = i
    · rw [if_pos hid]; exact .inl rfl
    · rw [if_neg hid]
      refine .inr ⟨rfl, fun _ => ?_⟩
      show (dropQ id i).bind q = _
      unfold dropQ
      rw [if_neg (Ne.symm hid)]
      show (if i = id then _ else if i = L.nx then _ else _) = _
      rw [if_neg (Ne.symm hid), if_neg (by omega)]
  have hfe : ∀ (e : SEnv tb), wfE L.nx e = true → ∀ t x, find t (avE ((id, Gone.drop) :: L.gn) e) = some x → ∃ y, find t (reE (dropQ id) (avE L.gn e)) = some y ∧ SubN (fun _ => false) (y.re q) x := by
    intro e he t x hf
    rw [find_avE] at hf
    obtain ⟨x0, h1, rfl⟩ := Option.map_eq_some_iff.1 hf
    refine ⟨_, by rw [find_reE, find_avE, h1]; rfl, ?_⟩
    show SubN _ (((x0.res L.gn).av.re (dropQ id)).re q) _
    rw [re_re]
    exact (res_sub hH (wfE_e he t x0 h1)).n
  refine LS.ren.tells (q := q) (r := r0) (nils := fun _ => false) ⟨?_, ?_, ?_, ?_, ?_, by simp⟩
  · intro a b
    show (if a = id then _ else if a = L.nx then _ else _) = some b ↔ (if b = L.nx then _ else if b = id then _ else _) = some a
    constructor
    · intro h1
      split at h1
      · cases h1; rw [if_pos rfl]; simp_all
      · split at h1
        · cases h1
        · cases h1; rw [if_neg ‹_›, if_neg ‹_›]
    · intro h1
      split at h1
      · cases h1; rw [if_pos rfl]; simp_all
      · split at h1
        · cases h1
        · cases h1; rw [if_neg ‹_›, if_neg ‹_›]
  · intro t x hf
    have hf' : find t ((d, ((SV.rw L.nx E0).res ((id, Gone.drop) :: L.gn)).av) :: avE ((id, Gone.drop) :: L.gn) L.e) = some x := hf
    rw [find_cons] at hf'
    split at hf'
    · rename_i hdt
      subst hdt
      cases hf'
      refine .inr ⟨.rw id (tb.sz E0), by rw [find_cons, if_pos rfl], ?_⟩
      have e1 : ((SV.rw L.nx E0).res ((id, Gone.drop) :: L.gn)).av = AV.rw L.nx (tb.sz E0) := by
        simp only [SV.res]
        rw [find_cons, if_neg (by omega), hkn]; rfl
      rw [e1]
      have e2 : (AV.rw id (tb.sz E0)).re q = .rw L.nx (tb.sz E0) := by
        simp only [AV.re]
        have : q id = some L.nx := by show (if id = id then _ else _) = _; rw [if_pos rfl]
        rw [this]
      rw [e2]; exact (Sub.refl _).n
    · rename_i hdt
      obtain ⟨y, h1, h2⟩ := hfe L.e hwf.e t x hf'
      exact .inr ⟨y, by rw [find_cons, if_neg hdt]; exact h1, h2⟩
  · refine SubS_of ?_ ?_
    · show (L.s.map _).length = ((L.s.map _).map _).length; simp
    · intro i e e' h1 h2
      have h1 : ((L.s.map (avE L.gn)).map (reE (dropQ id)))[i]? = some e := h1
      have h2 : (L.s.map (avE ((id, Gone.drop) :: L.gn)))[i]? = some e' := h2
      rw [List.getElem?_map, List.getElem?_map] at h1
      rw [List.getElem?_map] at h2
      cases hs : L.s[i]? with
      | none => rw [hs] at h1; cases h1
      | some e0 =>
        rw [hs] at h1 h2
        cases h1; cases h2
        exact fun t x hf => .inr (hfe e0 (wfS_e hwf.s i e0 hs) t x hf)
  · intro i b hf
    have hf : find i (avH ((id, Gone.drop) :: L.gn) ((L.nx, SC.arr E0 (l ++ l2)) :: L.h)) = some b := hf
    rw [find_avH] at hf
    split at hf
    · rename_i hk
      have hk := keepQ_e hk
      rw [find_cons] at hk
      split at hk
      · cases hk
      rename_i hidi
      have hf2 : (find i ((L.nx, SC.arr E0 (l ++ l2)) :: L.h)).map (fun b => (b.res ((id, Gone.drop) :: L.gn)).av) = some b := hf
      rw [find_cons] at hf2
      refine .inr ?_
      split at hf2
      · rename_i hni
        subst hni
        cases hf2
        refine ⟨id, _, by show (if L.nx = L.nx then _ else _) = _; rw [if_pos rfl], by rw [find_cons, if_pos rfl], ?_⟩
        show SubLN _ (reL q _) (elC tb E0 (l ++ l2))
        have e3 : elC tb E0 (l ++ l2) = (l.map (tb.el E0)).flatMap AV.cells ++ (l2.map (tb.el E0)).flatMap AV.cells := by simp [elC]
        rw [e3]
        rw [bareL_of (by show cleanL _ _ = true; rw [cleanL_append, show cleanL _ _ = true from el_bare cx l, show cleanL _ _ = true from el_bare cx l2]; rfl)]
        exact (SubL.refl _).n
      · rename_i hni
        obtain ⟨c0, h1, rfl⟩ := Option.map_eq_some_iff.1 hf2
        obtain ⟨h3, h4⟩ := wfH_e hwf.h i c0 h1
        refine ⟨i, reB (dropQ id) (c0.res L.gn).av, by show (if i = L.nx then _ else if i = id then _ else _) = _; rw [if_neg (Ne.symm hni), if_neg (Ne.symm hidi)], ?_, ?_⟩
        · show find i ((id, _) :: dropH id (avH L.gn L.h)) = _
          rw [find_cons, if_neg hidi, find_dropH, if_neg (Ne.symm hidi), find_avH]
          have : keepQ L.gn i = true := by unfold keepQ; rw [hk]
          rw [if_pos this, h1]; rfl
        · cases c0 with
          | cells cl =>
            show SubLN _ (reL q (reL (dropQ id) (avL (resL L.gn cl)))) (avL (resL _ cl))
            rw [reL_re]
            exact (resL_sub hH h4).n
          | arr E1 l1 =>
            show SubLN _ (reL q (reL (dropQ id) (elC tb E1 l1))) (elC tb E1 l1)
            rw [bareL_of (show allBare (elC tb E1 l1) = true from el_bare cx l1), bareL_of (show allBare (elC tb E1 l1) = true from el_bare cx l1)]
            exact (SubL.refl _).n
          | iter s p => exact ⟨rfl, rfl⟩
    · cases hf
  · intro d' hd'
    have hd' : L.nx + 1 ≤ d' := hd'
    refine ⟨rfl, fun a ha => ?_⟩
    have ha : (if d' = L.nx then some id else if d' = id then none else some d') = some a := ha
    rw [if_neg (by omega), if_neg (by omega)] at ha
    cases ha
    exact ⟨show L.nx ≤ d' by omega, by omega⟩
end
end Go.Rx
