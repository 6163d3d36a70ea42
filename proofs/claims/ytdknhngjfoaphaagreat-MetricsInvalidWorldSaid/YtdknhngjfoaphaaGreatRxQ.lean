/-
  Symbolic states; what operands are. No conditions.
-/
import Derived.Test.YtdknhngjfoaphaaGreatRzD
set_option linter.all false
namespace Go.Rx
open Go.RowKit

/-- What became of a name that is no more: nothing is known; its block is written no more. -/
inductive Gone (tb : Tb) : Type where
  | drop
  | fz (c : SC tb)
abbrev Gn (tb : Tb) := List (Nat × Gone tb)
abbrev SEnv (tb : Tb) := List (Nat × SV tb)
abbrev SHp (tb : Tb) := List (Nat × SC tb)

section
variable {tb : Tb}
def resP (g : Option (Gone tb)) (id off : Nat) : SV tb := match g with
  | none => .ptr id off
  | some (.fz (.cells l)) => .cp (l.drop off)
  | some _ => .undef
def resE (g : Option (Gone tb)) (id : Nat) (E : tb.Ix) (i : Int) (fo : Nat) : SV tb := match g with
  | none => .epr id E i fo
  | some _ => .undef
def resR (g : Option (Gone tb)) (id : Nat) (E : tb.Ix) (off len mc : Nat) : SV tb := match g with
  | none => .row id E off len mc
  | some _ => .undef
def resW (g : Option (Gone tb)) (id : Nat) (E : tb.Ix) : SV tb := match g with
  | none => .rw id E
  | some (.fz (.arr E' l)) => (match tb.dec E' E with | isTrue h => .sl false E (h ▸ l) | isFalse _ => .undef)
  | some _ => .undef
mutual
/-- The value as it stands. -/
def SV.res (g : Gn tb) : SV tb → SV tb
  | .undef => .undef
  | .i k n => .i k n
  | .b8 c => .b8 c
  | .bo b => .bo b
  | .st s => .st s
  | .con x => .con x
  | .agg l => .agg (resL g l)
  | .tup l => .tup (resL g l)
  | .sl c E l => .sl c E l
  | .em E => .em E
  | .cp l => .cp l
  | .fn f l => .fn f (resL g l)
  | .ptr id off => resP (find id g) id off
  | .epr id E i fo => resE (find id g) id E i fo
  | .row id E off len mc => resR (find id g) id E off len mc
  | .rw id E => resW (find id g) id E
  | .opt G x => .opt G (x.res g)
  | .cl ps rs f i caps h => .cl ps rs f i caps h
  | .ifc t x => .ifc t (x.res g)
def resL (g : Gn tb) : List (SV tb) → List (SV tb)
  | [] => []
  | x :: l => x.res g :: resL g l
end
def SC.res (g : Gn tb) : SC tb → SC tb
  | .cells l => .cells (resL g l)
  | .arr E l => .arr E l
  | .iter s p => .iter s p
mutual
/-- Bears only names that the test lets through. -/
def SV.has (q : Nat → Bool) : SV tb → Bool
  | .agg l => hasL q l
  | .tup l => hasL q l
  | .fn _ l => hasL q l
  | .ptr id _ => q id
  | .epr id _ _ _ => q id
  | .row id _ _ _ _ => q id
  | .rw id _ => q id
  | .opt _ x => x.has q
  | .ifc _ x => x.has q
  | .cl _ _ _ _ _ _ => true
  | .undef => true
  | .i _ _ => true
  | .b8 _ => true
  | .bo _ => true
  | .st _ => true
  | .con _ => true
  | .sl _ _ _ => true
  | .em _ => true
  | .cp _ => true
def hasL (q : Nat → Bool) : List (SV tb) → Bool
  | [] => true
  | x :: l => match x.has q with | true => hasL q l | false => false
end
def SC.has (q : Nat → Bool) : SC tb → Bool
  | .cells l => hasL q l
  | .arr _ _ => true
  | .iter _ _ => true
theorem hasL_cons {q : Nat → Bool} {x : SV tb} {l} : hasL q (x :: l) = (x.has q && hasL q l) := by simp only [hasL]; cases x.has q <;> rfl

def keepQ (g : Gn tb) (id : Nat) : Bool := match find id g with | none => true | some _ => false
theorem keepQ_e {g : Gn tb} {id} (h : keepQ g id = true) : find id g = none := by
  unfold keepQ at h; split at h
  · assumption
  · cases h
mutual
theorem res_keep {g : Gn tb} : ∀ {x : SV tb}, x.has (keepQ g) = true → x.res g = x
  | .undef, _ => rfl
  | .i _ _, _ => rfl
  | .b8 _, _ => rfl
  | .bo _, _ => rfl
  | .st _, _ => rfl
  | .con _, _ => rfl
  | .agg l, h => by simp only [SV.res]; rw [resL_keep (l := l) h]
  | .tup l, h => by simp only [SV.res]; rw [resL_keep (l := l) h]
  | .sl _ _ _, _ => rfl
  | .em _, _ => rfl
  | .cp _, _ => rfl
  | .fn _ l, h => by simp only [SV.res]; rw [resL_keep (l := l) h]
  | .ptr id off, h => by simp only [SV.res]; rw [keepQ_e (g := g) (id := id) h]; rfl
  | .epr id E i fo, h => by simp only [SV.res]; rw [keepQ_e (g := g) (id := id) h]; rfl
  | .row id E off len mc, h => by simp only [SV.res]; rw [keepQ_e (g := g) (id := id) h]; rfl
  | .rw id E, h => by simp only [SV.res]; rw [keepQ_e (g := g) (id := id) h]; rfl
  | .opt _ x, h => by simp only [SV.res]; rw [res_keep (x := x) h]
  | .cl _ _ _ _ _ _, _ => rfl
  | .ifc _ x, h => by simp only [SV.res]; rw [res_keep (x := x) h]
theorem resL_keep {g : Gn tb} : ∀ {l : List (SV tb)}, hasL (keepQ g) l = true → resL g l = l
  | [], _ => rfl
  | x :: l, h => by
    rw [hasL_cons, Bool.and_eq_true] at h
    simp only [resL]; rw [res_keep h.1, resL_keep h.2]
end

/-- The slots, the callers' slots, the own blocks, the next name, the names that are no more. -/
structure SLS (tb : Tb) where
  e : SEnv tb
  s : List (SEnv tb)
  h : SHp tb
  nx : Nat
  gn : Gn tb
def avE (g : Gn tb) (e : SEnv tb) : Env := e.map fun p => (p.1, (p.2.res g).av)
def avH (g : Gn tb) (h : SHp tb) : Hp := (h.filter fun p => keepQ g p.1).map fun p => (p.1, (p.2.res g).av)
def SLS.E (L : SLS tb) : Env := avE L.gn L.e
def SLS.av (L : SLS tb) : LS := ⟨avE L.gn L.e, L.s.map (avE L.gn), avH L.gn L.h, fun d => L.nx ≤ d⟩
theorem find_avE {g : Gn tb} {e : SEnv tb} {t} : find t (avE g e) = (find t e).map fun x => (x.res g).av := find_map (fun x : SV tb => (x.res g).av) t e
theorem find_avH {g : Gn tb} {h : SHp tb} {t} : find t (avH g h) = if keepQ g t then (find t h).map fun b => (b.res g).av else none := by
  unfold avH
  rw [find_map (fun b : SC tb => (b.res g).av), find_filter (keepQ g)]
  split <;> rfl

/-- Own blocks that an operation looks at. -/
def needAV (L : SLS tb) : List Nat → List (Nat × List AV)
  | [] => []
  | id :: r => match find id (avH L.gn L.h) with
    | some (.cells l) => (id, l) :: needAV L r
    | _ => needAV L r
theorem needAV_mem {L : SLS tb} : ∀ {ids}, ∀ p ∈ needAV L ids, find p.1 L.av.h = some (.cells p.2)
  | [], p, h => by simp [needAV] at h
  | id :: r, p, h => by
    simp only [needAV] at h
    split at h
    · rename_i l hl
      rcases List.mem_cons.1 h with rfl | h
      · exact hl
      · exact needAV_mem p h
    · exact needAV_mem p h

/-! the checks -/
def cellsAt (L : SLS tb) (id : Nat) : Option (List (SV tb)) := match keepQ L.gn id with
  | true => (match find id L.h with | some (.cells l) => some (resL L.gn l) | _ => none)
  | false => none
theorem cellsAt_e {L : SLS tb} {id l} (h : cellsAt L id = some l) : find id (avH L.gn L.h) = some (.cells (avL l)) := by
  unfold cellsAt at h
  split at h
  · rename_i hk
    split at h
    · rename_i l' hf; cases h
      rw [find_avH, if_pos hk, hf]; rfl
    · cases h
  · cases h
def arrAt (L : SLS tb) (id : Nat) (E : tb.Ix) : Option (List (tb.T E)) := match keepQ L.gn id with
  | true => (match find id L.h with | some (.arr E' l) => (match tb.dec E' E with | isTrue h => some (h ▸ l) | isFalse _ => none) | _ => none)
  | false => none
theorem arrAt_e {L : SLS tb} {id E l} (h : arrAt L id E = some l) : find id (avH L.gn L.h) = some (.cells (elC tb E l)) := by
  unfold arrAt at h
  split at h
  · rename_i hk
    split at h
    · rename_i E' l' hf
      split at h
      · rename_i hE _; subst hE; cases h
        rw [find_avH, if_pos hk, hf]; rfl
      · cases h
    · cases h
  · cases h
theorem needAV_one {L : SLS tb} {id l} (h : find id (avH L.gn L.h) = some (.cells l)) : needAV L [id] = [(id, l)] := by
  simp [needAV, h]

/-! operands under guards -/
def gEq : Gd → Gd → Bool
  | [], [] => true
  | (s, w, _) :: G, (s', w', _) :: G' => Nat.beq s s' && (w == w') && gEq G G'
  | _, _ => false
/-- Is the guard G' an outer part of G? -/
def gSuf (G' : Gd) : Gd → Bool
  | [] => gEq G' []
  | g :: G => gEq G' (g :: G) || gSuf G' G
def boolOf : SV tb → Option Bool
  | .bo t => some t
  | .con (.bool t) => some t
  | _ => none
/-- What the operand is under the guard G. -/
def opd (L : SLS tb) (G : Gd) : Operand → Option (SV tb)
  | .tmp t => match find t L.e with
    | some (.opt G' x) => (match gSuf G' G with | true => some (x.res L.gn) | false => none)
    | some x => some (x.res L.gn)
    | none => none
  | .const v => some (.con v)
  | .func f => some (.fn f [])
  | .global _ => none

/-- The guard G is what e's slots yield. -/
def GD (e : SEnv tb) : Gd → Prop
  | [] => True
  | (s, w, t) :: G => GD e G ∧ ∃ y, boolOf y = some t ∧ ((find s e = some y ∧ G = []) ∨ (find s e = some (.opt G y) ∧ G ≠ []))
def GInv (e : SEnv tb) : Prop := ∀ t G x, find t e = some (.opt G x) → GD e G ∧ G ≠ []

theorem gEq_of {e : SEnv tb} : ∀ {G G' : Gd}, GD e G → GD e G' → gEq G' G = true → G' = G
  | [], [], _, _, _ => rfl
  | [], _ :: _, _, _, h => by simp [gEq] at h
  | _ :: _, [], _, _, h => by simp [gEq] at h
  | (s, w, t) :: G, (s', w', t') :: G', h, h', hq => by
    simp only [gEq, Bool.and_eq_true, Nat.beq_eq, beq_iff_eq] at hq
    obtain ⟨⟨rfl, rfl⟩, hq⟩ := hq
    obtain ⟨h1, y, hy, h2⟩ := h
    obtain ⟨h1', y', hy', h2'⟩ := h'
    obtain rfl := gEq_of h1 h1' hq
    have : y = y' := by
      rcases h2 with ⟨h2, h3⟩ | ⟨h2, h3⟩ <;> rcases h2' with ⟨h2', h3'⟩ | ⟨h2', h3'⟩
      · rw [h2] at h2'; cases h2'; rfl
      · exact absurd h3 h3'
      · exact absurd h3' h3
      · rw [h2] at h2'; cases h2'; rfl
    subst this
    rw [hy] at hy'; cases hy'; rfl
theorem gSuf_of {e : SEnv tb} : ∀ {G G' : Gd}, GD e G → GD e G' → gSuf G' G = true → gc G = true → gc G' = true
  | [], G', h, h', hs, hg => by
    have : gEq G' [] = true := hs
    cases G' with
    | nil => rfl
    | cons => simp [gEq] at this
  | g :: G, G', h, h', hs, hg => by
    simp only [gSuf, Bool.or_eq_true] at hs
    rcases hs with hs | hs
    · rw [gEq_of h h' hs]; exact hg
    · obtain ⟨s, w, t⟩ := g
      refine gSuf_of h.1 h' hs ?_
      rw [gc_eq] at hg ⊢
      simp only [gc0, Bool.and_eq_true] at hg
      exact hg.1

/-- What operations are told of: the guard G, which is wanted. -/
structure Gu (L : SLS tb) (G : Gd) : Prop where
  inv : GInv L.e
  gd : GD L.e G
  on : gc G = true
theorem opd_ok {L : SLS tb} {G : Gd} {y x} (u : Gu L G) (h : opd L G y = some x) : OpdOk L.E y x.av := by
  intro m bl a hr
  cases y with
  | tmp t =>
    simp only [opd] at h
    have hf : ∀ z, find t L.e = some z → Rep m bl (z.res L.gn).av (a.tmps.getD t undef) := fun z hz => hr t rfl _ (by unfold SLS.E; rw [find_avE, hz]; rfl)
    split at h
    · rename_i G' x' hf'
      split at h
      · rename_i hs
        cases h
        exact (hf _ hf').eq_opt.1 (gSuf_of u.gd (u.inv t G' x' hf').1 hs u.on)
      · cases h
    · rename_i z hne hz
      cases h
      exact hf _ hz
    · cases h
  | const v => cases h; exact .v
  | func f => cases h; exact .clo .nil
  | global g => cases h

theorem boolOf_av {y : SV tb} {t} (h : boolOf y = some t) : y.av = .v (.bool t) := by
  unfold boolOf at h
  split at h
  · cases h; rfl
  · cases h; rfl
  · cases h
theorem boolOf_res {g : Gn tb} {y : SV tb} {t} (h : boolOf y = some t) : y.res g = y := by
  unfold boolOf at h
  split at h
  · rfl
  · rfl
  · cases h
/-- The guard's slot. -/
theorem GD.gv {L : SLS tb} {s w t G} (h : GD L.e ((s, w, t) :: G)) : GV L.E s (gc G) t := by
  obtain ⟨h1, y, hy, h2⟩ := h
  have hav := boolOf_av hy
  have hres := boolOf_res (g := L.gn) hy
  rcases h2 with ⟨h2, rfl⟩ | ⟨h2, h3⟩
  · exact .inl ⟨by unfold SLS.E; rw [find_avE, h2]; simp [hres, hav], rfl⟩
  · refine .inr ?_
    unfold SLS.E
    rw [find_avE, h2]
    simp [SV.res, SV.av, hres, hav]
end
end Go.Rx
