/-
  Own blocks are written no more; what is known of them is cut. No conditions.
-/
import Derived.Test.YtdknhngjfoaphaaGreatRyC
set_option linter.all false
namespace Go.Rx
open Go.RowKit
section
variable {P : Program} {tb : Tb} {ρ : Type} {cx : Ctx P tb}

def frz1 (L : SLS tb) (id : Nat) (c : SC tb) : SLS tb := { L with gn := (id, .fz c) :: L.gn }
theorem frz1_tells (cx : Ctx P tb) {L : SLS tb} {id c} (h : bareC L id = some c) : Tells L.av (frz1 L id c).av := by
  obtain ⟨l, h1, h2, h3, h4⟩ := bareC_e cx h
  have hE : ∀ (e : SEnv tb) t x, find t (avE ((id, Gone.fz c) :: L.gn) e) = some x → ∃ y, find t (avE L.gn e) = some y ∧ FzOk id l y x := by
    intro e t x hx
    rw [find_avE] at hx
    obtain ⟨x0, g1, rfl⟩ := Option.map_eq_some_iff.1 hx
    exact ⟨_, by rw [find_avE, g1]; rfl, res_fz cx h1 h4 x0⟩
  refine LS.frz.tells (id := id) (l := l) ⟨h2, h3, hE L.e, ⟨?_, ?_⟩, ?_, fun d hd => hd⟩
  · show (L.s.map _).length = (L.s.map _).length
    simp
  · intro i e' e he' he
    have he' : (L.s.map (avE ((id, Gone.fz c) :: L.gn)))[i]? = some e' := he'
    have he : (L.s.map (avE L.gn))[i]? = some e := he
    rw [List.getElem?_map] at he' he
    cases hs : L.s[i]? with
    | none => rw [hs] at he; cases he
    | some e0 =>
      rw [hs] at he he'
      cases he; cases he'
      exact hE e0
  · intro i b hb
    have hb : find i (avH ((id, Gone.fz c) :: L.gn) L.h) = some b := hb
    rw [find_avH] at hb
    split at hb
    · rename_i hk
      have hk := keepQ_e hk
      rw [find_cons] at hk
      split at hk
      · cases hk
      · rename_i hne
        refine ⟨Ne.symm hne, ?_⟩
        obtain ⟨c0, g1, rfl⟩ := Option.map_eq_some_iff.1 hb
        refine ⟨(c0.res L.gn).av, ?_, ?_⟩
        · show find i (avH L.gn L.h) = _
          have : keepQ L.gn i = true := by unfold keepQ; rw [hk]
          rw [find_avH, if_pos this, g1]; rfl
        · cases c0 with
          | cells cl => exact resL_fz cx h1 h4 cl
          | arr E l1 =>
            intro m bl m' bl' f vs hv
            have := resL_fz cx h1 h4 [] 
            show Reps m' bl' (elC tb E l1) vs
            have hb := el_bare cx (E := E) l1
            have h5 := (Reps.mono f.le hv).bare (bl' := bl')
            rwa [bareL, bareL_of (show allBare (elC tb E l1) = true from hb)] at h5
          | iter s p => exact ⟨rfl, rfl⟩
    · cases hb
/-- The blocks are written no more, and those that they name. -/
def frzs : Nat → List Nat → SLS tb → Option (SLS tb)
  | 0, _, _ => none
  | _ + 1, [], L => some L
  | n + 1, id :: r, L => match keepQ L.gn id with
    | false => frzs n r L
    | true => match find id L.h with
      | some (.cells cl) => got (frzs n (nmsL (resL L.gn cl) []) L) fun L1 => got (bareC L1 id) fun c => frzs n r (frz1 L1 id c)
      | _ => got (bareC L id) fun c => frzs n r (frz1 L id c)
structure Fzn (L L' : SLS tb) : Prop where
  t : Tells L.av L'.av
  x : Ext L L'
  e : L'.e = L.e
theorem Fzn.refl (L : SLS tb) : Fzn L L := ⟨.refl _, .refl _, rfl⟩
theorem Fzn.trans {a b c : SLS tb} (h : Fzn a b) (k : Fzn b c) : Fzn a c := ⟨h.t.trans k.t, h.x.trans k.x, k.e.trans h.e⟩
theorem frz1_fzn (cx : Ctx P tb) {L : SLS tb} {id c} (h : bareC L id = some c) : Fzn L (frz1 L id c) := ⟨frz1_tells cx h, ⟨rfl, ⟨[], rfl⟩, ⟨[], rfl⟩, Nat.le_refl _, ⟨[_], rfl⟩⟩, rfl⟩
theorem frzs_ok (cx : Ctx P tb) : ∀ {n ids} {L L' : SLS tb}, frzs n ids L = some L' → Fzn L L'
  | 0, _, _, _, h => by cases h
  | _ + 1, [], L, L', h => by cases h; exact .refl L
  | n + 1, id :: r, L, L', h => by
    unfold frzs at h
    split at h
    · exact frzs_ok cx h
    · split at h
      · obtain ⟨L1, h1, h⟩ := got_e h
        obtain ⟨c, hc, h⟩ := got_e h
        exact (frzs_ok cx h1).trans ((frz1_fzn cx hc).trans (frzs_ok cx h))
      · obtain ⟨c, hc, h⟩ := got_e h
        exact (frz1_fzn cx hc).trans (frzs_ok cx h)

/-! the slice of all that is known -/
def cutS (gs : List Nat) (t : Nat) (L : SLS tb) (k : SLS tb → Option ρ) : Option ρ := match find t L.e with
  | some (.row id E off len _) => (match Nat.beq off 0 with
    | true => got (arrAt L id E) fun l => Chk (len ≤ l.length) <| Let (l.take len) fun l' => tst (wf L) <| tst (keepQ L.gn L.nx) <| tst (!memN t gs) <| tst (Nat.blt id L.nx) <|
      k { L with e := (t, .rw L.nx E) :: L.e, h := (L.nx, .arr E l') :: L.h, nx := L.nx + 1, gn := (id, .drop) :: L.gn }
    | false => k L)
  | _ => k L
structure Gho (gs : List Nat) (L L' : SLS tb) : Prop where
  t : Tells L.av L'.av
  x : Ext L L'
  i : RI gs L.e → RI gs L'.e
theorem Gho.refl {gs} (L : SLS tb) : Gho gs L L := ⟨.refl _, .refl _, id⟩
theorem Gho.trans {gs} {a b c : SLS tb} (h : Gho gs a b) (k : Gho gs b c) : Gho gs a c := ⟨h.t.trans k.t, h.x.trans k.x, fun i => k.i (h.i i)⟩
theorem Fzn.g {gs} {L L' : SLS tb} (h : Fzn L L') : Gho gs L L' := ⟨h.t, h.x, fun i => by rw [h.e]; exact i⟩
theorem cutS_ok (cx : Ctx P tb) {gs t} {L : SLS tb} {k : SLS tb → Option ρ} {r} (h : cutS gs t L k = some r) : ∃ L', k L' = some r ∧ Gho gs L L' := by
  unfold cutS at h
  split at h
  · rename_i id E off len mc hf
    split at h
    · rename_i hoff
      have hoff := Nat.eq_of_beq_eq_true hoff
      subst hoff
      obtain ⟨l, hl, h⟩ := got_e h
      obtain ⟨hle, h⟩ := Chk_e h
      have h := Let_e h
      obtain ⟨hwf, h⟩ := tst_e h
      have hwf := wf_e hwf
      obtain ⟨hkn, h⟩ := tst_e h
      have hkn := keepQ_e hkn
      obtain ⟨hm, h⟩ := tst_e h
      obtain ⟨hlt, h⟩ := tst_e h
      have hlt : id < L.nx := Nat.le_of_ble_eq_true hlt
      have hm : memN t gs = false := by simpa using hm
      have hkid : find id L.gn = none := by
        have := hl; unfold arrAt at this; split at this
        · exact keepQ_e ‹_›
        · cases this
      have hl := arrAt_e hl
      refine ⟨_, h, ?_, ⟨rfl, ⟨[_], rfl⟩, ⟨[_], rfl⟩, Nat.le_succ _, ⟨[_], rfl⟩⟩, fun hi => hi.put hm rfl⟩
      have hres : ∀ i, i < L.nx → find i ((id, Gone.drop) :: L.gn) = some .drop ∨ (find i ((id, Gone.drop) :: L.gn) = find i L.gn ∧ (find i L.gn = none → dropQ id i = some i)) := by
        intro i hi
        rw [find_cons]
        by_cases hid : id = i
        · rw [if_pos hid]; exact .inl rfl
        · rw [if_neg hid]
          exact .inr ⟨rfl, fun _ => by unfold dropQ; rw [if_neg (Ne.symm hid)]⟩
      have hfe : ∀ (e : SEnv tb), wfE L.nx e = true → ∀ t x, find t (avE ((id, Gone.drop) :: L.gn) e) = some x → ∃ y, find t (avE L.gn e) = some y ∧ Sub (y.re (dropQ id)) x := by
        intro e he t x hf
        rw [find_avE] at hf
        obtain ⟨x0, h1, rfl⟩ := Option.map_eq_some_iff.1 hf
        exact ⟨_, by rw [find_avE, h1]; rfl, res_sub hres (wfE_e he t x0 h1)⟩
      have hav : ∀ (l : List (tb.T E)), (elC tb E l).length = l.length * tb.sz E := fun l => by
        unfold elC
        rw [flat_len (sz := tb.sz E) (by intro x hx; obtain ⟨y, -, rfl⟩ := List.mem_map.1 hx; exact (cx.ok E).len y), List.length_map]
      have htk : (elC tb E l).take (len * tb.sz E) = elC tb E (l.take len) := by
        unfold elC
        rw [flat_take len (by intro x hx; obtain ⟨y, -, rfl⟩ := List.mem_map.1 hx; exact (cx.ok E).len y), List.map_take]
      refine LS.cut.tells (id := id) (nid := L.nx) (k := len * tb.sz E) (sz := tb.sz E) (len := len) (mc := mc) (t := t) ⟨⟨elC tb E l, hl, ?_, ?_, ?_⟩, ?_, rfl, ?_, ⟨?_, ?_⟩, ?_, Nat.le_refl _, ?_⟩ (cx.ok E).pos
      · rw [hav]; exact Nat.mul_le_mul_right _ hle
      · show find L.nx (avH ((id, Gone.drop) :: L.gn) ((L.nx, SC.arr E (l.take len)) :: L.h)) = _
        have hk : keepQ ((id, Gone.drop) :: L.gn) L.nx = true := by unfold keepQ; rw [find_cons, if_neg (by omega), hkn]
        rw [find_avH, if_pos hk, find_cons, if_pos rfl, htk]; rfl
      · rw [htk]; exact el_bare cx _
      · show find t (avE L.gn L.e) = _
        rw [find_avE, hf]
        simp only [Option.map_some, SV.res]
        rw [hkid]
        simp [resR, SV.av]
      · intro t' x hx
        have hx : find t' (avE ((id, Gone.drop) :: L.gn) ((t, SV.rw L.nx E) :: L.e)) = some x := hx
        have hx2 : find t' ((t, ((SV.rw L.nx E).res ((id, Gone.drop) :: L.gn)).av) :: avE ((id, Gone.drop) :: L.gn) L.e) = some x := hx
        rw [find_cons] at hx2
        split at hx2
        · rename_i ht
          cases hx2
          refine .inl ⟨ht.symm, ?_⟩
          simp only [SV.res]
          rw [find_cons, if_neg (by omega), hkn]; rfl
        · exact .inr (hfe L.e hwf.e t' x hx2)
      · show (L.s.map _).length = (L.s.map _).length
        simp
      · intro i e' e he' he
        have he' : (L.s.map (avE ((id, Gone.drop) :: L.gn)))[i]? = some e' := he'
        have he : (L.s.map (avE L.gn))[i]? = some e := he
        rw [List.getElem?_map] at he' he
        cases hs : L.s[i]? with
        | none => rw [hs] at he; cases he
        | some e0 =>
          rw [hs] at he he'
          cases he; cases he'
          exact hfe e0 (wfS_e hwf.s i e0 hs)
      · intro i b hne hb
        have hb : find i (avH ((id, Gone.drop) :: L.gn) ((L.nx, SC.arr E (l.take len)) :: L.h)) = some b := hb
        rw [find_avH] at hb
        split at hb
        · rename_i hk
          have hk := keepQ_e hk
          rw [find_cons] at hk
          split at hk
          · cases hk
          · rename_i hni
            refine ⟨Ne.symm hni, ?_⟩
            rw [find_cons, if_neg (Ne.symm hne)] at hb
            obtain ⟨c0, h1, rfl⟩ := Option.map_eq_some_iff.1 hb
            obtain ⟨h3, h4⟩ := wfH_e hwf.h i c0 h1
            refine ⟨(c0.res L.gn).av, ?_, ?_⟩
            · show find i (avH L.gn L.h) = _
              have : keepQ L.gn i = true := by unfold keepQ; rw [hk]
              rw [find_avH, if_pos this, h1]; rfl
            · cases c0 with
              | cells cl => exact resL_sub hres h4
              | arr E1 l1 =>
                show SubL (reL _ (elC tb E1 l1)) (elC tb E1 l1)
                rw [bareL_of (show allBare (elC tb E1 l1) = true from el_bare cx l1)]
                exact SubL.refl _
              | iter s p => exact ⟨rfl, rfl⟩
        · cases hb
      · intro d hd
        have hd : L.nx + 1 ≤ d := hd
        exact ⟨show L.nx ≤ d by omega, by omega⟩
    · exact ⟨L, h, .refl L⟩
  · exact ⟨L, h, .refl L⟩

/-! before ways meet -/
def cutsJ (gs : List Nat) : List (JV tb) → SLS tb → (SLS tb → Option ρ) → Option ρ
  | [], L, k => k L
  | .val t _ (_ :: _) :: r, L, k => cutS gs t L fun L' => cutsJ gs r L' k
  | _ :: r, L, k => cutsJ gs r L k
theorem cutsJ_ok (cx : Ctx P tb) {gs} : ∀ {l : List (JV tb)} {L : SLS tb} {k : SLS tb → Option ρ} {r}, cutsJ gs l L k = some r → ∃ L', k L' = some r ∧ Gho gs L L'
  | [], L, k, r, h => ⟨L, h, .refl L⟩
  | .val t i (o :: ow) :: l, L, k, r, h => by
    obtain ⟨L1, h1, g1⟩ := cutS_ok cx (show cutS gs t L _ = some r from h)
    obtain ⟨L2, h2, g2⟩ := cutsJ_ok cx h1
    exact ⟨L2, h2, g1.trans g2⟩
  | .val t i [] :: l, L, k, r, h => cutsJ_ok cx (l := l) h
  | .blk t i ow :: l, L, k, r, h => cutsJ_ok cx (l := l) h
  | .arr t c i :: l, L, k, r, h => cutsJ_ok cx (l := l) h
  | .itr t :: l, L, k, r, h => cutsJ_ok cx (l := l) h
/-- Names in cells that are not own. -/
def nonOwn (own : List Nat) : Nat → List (SV tb) → List Nat → List Nat
  | _, [], a => a
  | j, x :: l, a => match own.contains j with
    | true => nonOwn own (j + 1) l a
    | false => x.nms (nonOwn own (j + 1) l a)
def frzN (L0 L : SLS tb) : List (JV tb) → List Nat
  | [] => []
  | .val t _ own :: r => match find t L.e with
    | some x => nonOwn own 0 (cellsS (x.res L.gn)) (frzN L0 L r)
    | none => frzN L0 L r
  | .blk t _ own :: r => match find t L0.e with
    | some (.ptr id _) => (match find id L.h with
      | some (.cells l) => nonOwn own 0 (resL L.gn l) (frzN L0 L r)
      | _ => frzN L0 L r)
    | _ => frzN L0 L r
  | .arr _ _ _ :: r => frzN L0 L r
  | .itr _ :: r => frzN L0 L r
def frzK (ids : List Nat) (L : SLS tb) (k : SLS tb → Option ρ) : Option ρ := match ids with
  | [] => k L
  | i :: r => got (frzs 1000 (i :: r) L) k
theorem frzK_ok (cx : Ctx P tb) {gs ids} {L : SLS tb} {k : SLS tb → Option ρ} {r} (h : frzK ids L k = some r) : ∃ L', k L' = some r ∧ Gho gs L L' := by
  unfold frzK at h
  split at h
  · exact ⟨L, h, .refl L⟩
  · obtain ⟨L1, h1, h⟩ := got_e h
    exact ⟨L1, h, (frzs_ok cx h1).g⟩
def preJ (L0 : SLS tb) (vs : List (JV tb)) (L : SLS tb) (k : SLS tb → Option ρ) : Option ρ :=
  cutsJ [] vs L fun L1 => frzK (frzN L0 L1 vs) L1 k
theorem preJ_ok (cx : Ctx P tb) {L0 : SLS tb} {vs : List (JV tb)} {L : SLS tb} {k : SLS tb → Option ρ} {r} (h : preJ L0 vs L k = some r) : ∃ L', k L' = some r ∧ Gho [] L L' := by
  obtain ⟨L1, h1, g1⟩ := cutsJ_ok cx (show cutsJ [] vs L _ = some r from h)
  obtain ⟨L2, h2, g2⟩ := frzK_ok cx h1
  exact ⟨L2, h2, g1.trans g2⟩
end
end Go.Rx
