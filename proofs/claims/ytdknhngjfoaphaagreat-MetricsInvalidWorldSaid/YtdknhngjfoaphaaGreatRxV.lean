/-
  Calls of functions that have a contract, run on symbolic values. No conditions.
-/
import Derived.Test.YtdknhngjfoaphaaGreatRzA
set_option linter.all false
namespace Go.Rx
open Go.RowKit

theorem Sub.cptr {l l' : List AV} (h : SubL l l') : Sub (.cptr l) (.cptr l') := by
  intro m bl v r
  cases r with | cptr h1 h2 h3 => exact .cptr (h _ _ _ h1) h2 h3

section
variable {P : Program} {tb : Tb} {ρ : Type} {cx : Ctx P tb}

/-- Captured values as arguments. -/
def capsD (cx : Ctx P tb) : (l : List (PTy tb)) → List (SV tb) → Option (PArgs tb l)
  | [], [] => some ()
  | .d i :: l, x :: xs => got ((cx.cd i).of x) fun a => got (capsD cx l xs) fun b => some (a, b)
  | .cap i :: l, .cp c :: xs => got ((cx.cd i).ofC c) fun a => got (capsD cx l xs) fun b => some (a, b)
  | _, _ => none
theorem capsD_ok : ∀ {l : List (PTy tb)} {xs a}, capsD cx l xs = some a → ∃ vs, ArgsR P l a vs ∧ SubL (avL xs) vs ∧ allBare vs = true
  | [], [], _, h => ⟨[], trivial, .refl _, rfl⟩
  | [], _ :: _, _, h => by cases h
  | .d i :: l, [], _, h => by cases h
  | .cap i :: l, [], _, h => by cases h
  | .fn _ _ :: l, xs, _, h => by cases xs <;> cases h
  | .d i :: l, x :: xs, ab, h => by
    unfold capsD at h
    obtain ⟨a, ha, h⟩ := got_e h
    obtain ⟨b, hb, h⟩ := got_e h
    cases h
    obtain ⟨vs, h1, h2, h3⟩ := capsD_ok hb
    exact ⟨_ :: vs, ⟨rfl, h1⟩, .cons ((cx.ok i).of _ _ ha) h2, bare_cons ((cx.ok i).bare a).1 h3⟩
  | .cap i :: l, x :: xs, ab, h => by
    cases x with
    | cp c =>
      unfold capsD at h
      obtain ⟨a, ha, h⟩ := got_e h
      obtain ⟨b, hb, h⟩ := got_e h
      cases h
      obtain ⟨vs, h1, h2, h3⟩ := capsD_ok hb
      exact ⟨_ :: vs, ⟨rfl, h1⟩, .cons (.cptr ((cx.ok i).ofC _ _ ha).1) h2, h3⟩
    | _ => cases h

/-- The arguments of a function some of whose variables are captured. -/
def mkPA (cx : Ctx P tb) : (l : List (PTy tb)) → (ps : List tb.Ix) → List (SV tb) → Option (Tup tb ps → PArgs tb l)
  | l, [], caps => got (capsD cx l caps) fun a => some fun _ => a
  | .d i :: l, [j], caps => (match tb.dec j i with
    | isTrue h => got (capsD cx l caps) fun a => some fun x => (h ▸ x, a)
    | isFalse _ => none)
  | .d i :: l, j :: j' :: r, caps => (match tb.dec j i with
    | isTrue h => got (mkPA cx l (j' :: r) caps) fun f => some fun x => (h ▸ x.1, f x.2)
    | isFalse _ => none)
  | _, _, _ => none
theorem mkPA_ok : ∀ {l : List (PTy tb)} {ps caps f}, mkPA cx l ps caps = some f → ∃ vs, SubL (avL caps) vs ∧ allBare vs = true ∧ ∀ a, ArgsR P l (f a) (tupAV ps a ++ vs)
  | l, [], caps, f, h => by
    unfold mkPA at h
    obtain ⟨a, ha, h⟩ := got_e h
    cases h
    obtain ⟨vs, h1, h2, h3⟩ := capsD_ok ha
    exact ⟨vs, h2, h3, fun _ => h1⟩
  | .d i :: l, [j], caps, f, h => by
    unfold mkPA at h
    split at h
    · rename_i hj _
      subst hj
      obtain ⟨a, ha, h⟩ := got_e h
      cases h
      obtain ⟨vs, h1, h2, h3⟩ := capsD_ok ha
      exact ⟨vs, h2, h3, fun x => ⟨rfl, h1⟩⟩
    · cases h
  | .d i :: l, j :: j' :: r, caps, f, h => by
    unfold mkPA at h
    split at h
    · rename_i hj _
      subst hj
      obtain ⟨a, ha, h⟩ := got_e h
      cases h
      obtain ⟨vs, h1, h2, h3⟩ := mkPA_ok ha
      exact ⟨vs, h1, h2, fun x => ⟨rfl, h3 x.2⟩⟩
    · cases h
  | [], [j], _, _, h => by cases h
  | [], j :: j' :: r, _, _, h => by cases h
  | .cap _ :: _, [j], _, _, h => by cases h
  | .cap _ :: _, j :: j' :: r, _, _, h => by cases h
  | .fn _ _ :: _, [j], _, _, h => by cases h
  | .fn _ _ :: _, j :: j' :: r, _, _, h => by cases h

def findCon (f : Nat) : List (Con P tb cx.cd) → Option (Con P tb cx.cd)
  | [] => none
  | c :: r => match Nat.beq c.fid f with | true => some c | false => findCon f r
theorem findCon_f {f : Nat} : ∀ {l : List (Con P tb cx.cd)} {c}, findCon f l = some c → c.fid = f
  | [], _, h => by simp [findCon] at h
  | c :: r, c', h => by
    simp only [findCon] at h
    split at h
    · rename_i hb; cases h; exact Nat.eq_of_beq_eq_true hb
    · exact findCon_f h
def isE {α : Type} : List α → Bool
  | [] => true
  | _ => false
theorem isE_e {α : Type} {l : List α} (h : isE l = true) : l = [] := by cases l; rfl; cases h
theorem Con.ok0 (c : Con P tb cx.cd) (h : c.own = []) {a avs r} (hr : ArgsR P c.ps a avs) (hf : c.f a = some r) : FnR P c.fid avs (resAV c.rs r) [] := by
  have := c.ok a avs r hr hf
  rw [h] at this
  obtain ⟨h1, h2⟩ := ansS_av cx.cd cx.ok c.rs r 0
  rw [h1, h2] at this; exact this
def decL (tb : Tb) : DecidableEq (List tb.Ix) := @instDecidableEqList _ tb.dec
/-- A closure as a function. -/
def cloG (cx : Ctx P tb) (f : Nat) (caps : List (SV tb)) (ps rs : List tb.Ix) : Option (Tup tb ps → Option (Tup tb rs)) :=
  got (findCon f cx.Γ) fun c => tst (isE c.own) <| got (mkPA cx c.ps ps caps) fun m => match decL tb c.rs rs with
  | isTrue h => some fun a => h ▸ c.cf (m a)
  | isFalse _ => none
theorem cloG_ok {f caps ps rs g} (h : cloG cx f caps ps rs = some g) : ∃ vs, SubL (avL caps) vs ∧ CloR tb f vs ps rs g := by
  unfold cloG at h
  obtain ⟨c, hc, h⟩ := got_e h
  obtain ⟨h1, h⟩ := tst_e h
  obtain ⟨m, hm, h⟩ := got_e h
  obtain ⟨vs, g1, g2, g3⟩ := mkPA_ok hm
  split at h
  · rename_i hrs _
    cases h
    refine ⟨vs, g1, ?_⟩
    have hP := cx.hP
    refine ⟨?_, g2, ?_⟩
    · rw [hP]; rw [← findCon_f hc]; exact c.call
    · intro a r hr
      rw [hP, ← findCon_f hc]
      subst hrs
      exact c.ok0 (isE_e h1) (g3 a) ((c.cf_eq _).symm.trans hr)
  · cases h

/-- A value as an argument. -/
def argD (cx : Ctx P tb) (x : SV tb) : (p : PTy tb) → Option p.den
  | .d i => (cx.cd i).of x
  | .cap i => match x with | .cp l => (cx.cd i).ofC l | _ => none
  | .fn ps rs => match x with
    | .cl ps' rs' g _ _ _ => (match decL tb ps' ps, decL tb rs' rs with
      | isTrue h, isTrue h' => some (h ▸ h' ▸ g)
      | _, _ => none)
    | .fn f caps => cloG cx f caps ps rs
    | _ => none
theorem argD_ok {x : SV tb} {p a} (h : argD cx x p = some a) : ∃ v, ArgR P p a v ∧ Sub x.av v ∧ v.isBare = true := by
  cases p with
  | d i => exact ⟨_, rfl, (cx.ok i).of _ _ h, ((cx.ok i).bare a).1⟩
  | cap i =>
    cases x with
    | cp l => exact ⟨_, rfl, .cptr ((cx.ok i).ofC _ _ h).1, rfl⟩
    | _ => cases h
  | fn ps rs =>
    cases x with
    | cl ps' rs' g f caps hc =>
      unfold argD at h
      simp only at h
      split at h
      · rename_i h1 h2 _ _
        subst h1 h2
        cases h
        exact ⟨_, ⟨f, caps, rfl, hc⟩, .refl _, hc.2.1⟩
      · cases h
    | fn f caps =>
      obtain ⟨vs, h1, h2⟩ := cloG_ok (h : cloG cx f caps ps rs = some a)
      exact ⟨_, ⟨f, vs, rfl, h2⟩, .clo h1, h2.2.1⟩
    | _ => cases h
def argsD (cx : Ctx P tb) : (l : List (PTy tb)) → List (SV tb) → Option (PArgs tb l)
  | [], [] => some ()
  | p :: l, x :: xs => got (argD cx x p) fun a => got (argsD cx l xs) fun b => some (a, b)
  | _, _ => none
theorem argsD_ok : ∀ {l : List (PTy tb)} {xs a}, argsD cx l xs = some a → ∃ vs, ArgsR P l a vs ∧ SubL (avL xs) vs ∧ allBare vs = true
  | [], [], _, h => ⟨[], trivial, .refl _, rfl⟩
  | [], _ :: _, _, h => by cases h
  | p :: l, [], _, h => by cases h
  | p :: l, x :: xs, ab, h => by
    unfold argsD at h
    obtain ⟨a, ha, h⟩ := got_e h
    obtain ⟨b, hb, h⟩ := got_e h
    cases h
    obtain ⟨v, h0, h4, h5⟩ := argD_ok ha
    obtain ⟨vs, h1, h2, h3⟩ := argsD_ok hb
    exact ⟨v :: vs, ⟨h0, h1⟩, .cons h4 h2, bare_cons h5 h3⟩
def tupC : (i : tb.Ix) → (l : List tb.Ix) → tb.T i → Tup tb l → Tup tb (i :: l)
  | _, [], a, _ => a
  | _, _ :: _, a, b => (a, b)
theorem tupC_av {i : tb.Ix} {l : List tb.Ix} {a : tb.T i} {b : Tup tb l} : tupAV (i :: l) (tupC i l a b) = tb.el i a :: tupAV l b := by
  cases l <;> rfl
def tupD (cx : Ctx P tb) : (l : List tb.Ix) → List (SV tb) → Option (Tup tb l)
  | [], xs => tst (isE xs) (some ())
  | i :: l, xs => match xs with
    | [] => none
    | x :: xs => got ((cx.cd i).of x) fun a => got (tupD cx l xs) fun b => some (tupC i l a b)
theorem tupD_ok : ∀ {l : List tb.Ix} {xs a}, tupD cx l xs = some a → SubL (avL xs) (tupAV l a) ∧ allBare (tupAV l a) = true
  | [], xs, _, h => by
    obtain ⟨h1, h⟩ := tst_e h
    rw [isE_e h1]
    exact ⟨.refl _, rfl⟩
  | i :: l, [], _, h => by cases h
  | i :: l, x :: xs, ab, h => by
    obtain ⟨a, ha, h⟩ := got_e (show got ((cx.cd i).of x) _ = some ab from h)
    obtain ⟨b, hb, h⟩ := got_e h
    cases h
    obtain ⟨h1, h2⟩ := tupD_ok hb
    rw [tupC_av]
    exact ⟨.cons ((cx.ok i).of _ _ ha) h1, bare_cons ((cx.ok i).bare a).1 h2⟩
def tupInh (cx : Ctx P tb) : (l : List tb.Ix) → Tup tb l
  | [] => ()
  | [i] => (cx.cd i).inh
  | i :: j :: r => ((cx.cd i).inh, tupInh cx (j :: r))
theorem tupAV_bare (cx : Ctx P tb) : ∀ (l : List tb.Ix) (r : Tup tb l), allBare (tupAV l r) = true
  | [], _ => rfl
  | [i], x => bare_cons ((cx.ok i).bare x).1 rfl
  | i :: j :: l, x => bare_cons ((cx.ok i).bare x.1).1 (tupAV_bare cx (j :: l) x.2)
theorem resAV_bare (cx : Ctx P tb) (l : List tb.Ix) (r : Tup tb l) : (resAV l r).isBare = true := by
  have := tupAV_bare cx l r
  unfold resAV
  cases l with
  | nil => rfl
  | cons i l =>
    cases l with
    | nil => exact ((cx.ok i).bare r).1
    | cons j l => cases l <;> exact this

/-- What a call answers. -/
def ansV (cx : Ctx P tb) (rs : List tb.Ix) (r : Tup tb rs) : SV tb := (ansS tb cx.cd [] rs r 0).1
def allFlat (cx : Ctx P tb) : List tb.Ix → Bool
  | [] => true
  | i :: l => match (cx.cd i).flat with | true => allFlat cx l | false => false
theorem tupAV_flat {cx : Ctx P tb} : ∀ {l : List tb.Ix} (r : Tup tb l), allFlat cx l = true → flatL (tupAV l r) = true
  | [], _, _ => rfl
  | [i], x, h => by
    unfold allFlat at h
    split at h
    · simp [tupAV, flatL, (cx.ok i).flat ‹_› x]
    · cases h
  | i :: j :: l, x, h => by
    unfold allFlat at h
    split at h
    · have := tupAV_flat (l := j :: l) x.2 h
      simp [tupAV, flatL, (cx.ok i).flat ‹_› x.1] at this ⊢
      exact this
    · cases h
theorem resAV_flat {cx : Ctx P tb} {l : List tb.Ix} (r : Tup tb l) (h : allFlat cx l = true) : (resAV l r).flat = true := by
  have := tupAV_flat r h
  unfold resAV
  cases l with
  | nil => rfl
  | cons i l =>
    cases l with
    | nil => simpa [tupAV, flatL, tupleOf] using this
    | cons j l => cases l <;> exact this
/-- Arguments in own blocks are lent. -/
def lent (cx : Ctx P tb) (L : SLS tb) (rs : List tb.Ix) (xs : List (SV tb)) (k : List (SV tb) → List Nat → Option ρ) : Option ρ := match nmsL xs [] with
  | [] => k xs []
  | id :: r => got (lendG L (id :: r) []) fun p => tst (allFlat cx rs) <| k (resL p.1 xs) p.2
def findHnd (f : Nat) : List (Hnd P tb) → Option (Hnd P tb)
  | [] => none
  | c :: r => match Nat.beq c.fid f with | true => some c | false => findHnd f r
theorem findHnd_f {f : Nat} : ∀ {l : List (Hnd P tb)} {c}, findHnd f l = some c → c.fid = f
  | [], _, h => by simp [findHnd] at h
  | c :: r, c', h => by
    simp only [findHnd] at h
    split at h
    · rename_i hb; cases h; exact Nat.eq_of_beq_eq_true hb
    · exact findHnd_f h
def qHand (L : SLS tb) (h : Hnd P tb) (xs : List (SV tb)) (k : SV tb → List Nat → Option ρ) : Option ρ := got (h.f xs) fun y => k y []
def qCall (cx : Ctx P tb) (L : SLS tb) (G : Gd) (y : Operand) (args : Array Operand) (k : SV tb → List Nat → Option ρ) : Option ρ :=
  got (opd L G y) fun c => got (opdsS L G args.toList) fun xs => match c with
  | .fn f caps => (match findHnd f cx.hnd with
  | some h => qHand L h (xs ++ caps) k
  | none => got (findCon f cx.Γ) fun c => tst (isE c.own) <| lent cx L c.rs (xs ++ caps) fun ys need => got (argsD cx c.ps ys) fun a => bnd G (tupInh cx c.rs) (c.cf a) fun r => k (ansV cx c.rs r) need)
  | .cl ps rs g _ _ _ => lent cx L rs xs fun ys need => got (tupD cx ps ys) fun a => bnd G (tupInh cx rs) (g a) fun r => k (ansV cx rs r) need
  | _ => none
/-- What a lent argument is to the callee. -/
theorem lent_e {L : SLS tb} {rs xs} {k : List (SV tb) → List Nat → Option ρ} {r} (h : lent cx L rs xs k = some r) :
    ∃ ys need, k ys need = some r ∧ ((ys = xs ∧ need = []) ∨ (allFlat cx rs = true ∧ ∃ g, (∃ ids, lendG L ids [] = some (g, need)) ∧ ys = resL g xs)) := by
  unfold lent at h
  split at h
  · exact ⟨_, _, h, .inl ⟨rfl, rfl⟩⟩
  · obtain ⟨p, hp, h⟩ := got_e h
    obtain ⟨hf, h⟩ := tst_e h
    exact ⟨_, _, h, .inr ⟨hf, p.1, ⟨_, hp⟩, rfl⟩⟩
theorem call_ok {L : SLS tb} {o : Oper} {fn : Nat} {rs : List tb.Ix} {x : Tup tb rs} {xs ys : List (SV tb)} {need vs} (cx : Ctx P tb)
    (hk : (ys = xs ∧ need = []) ∨ (allFlat cx rs = true ∧ ∃ g, (∃ ids, lendG L ids [] = some (g, need)) ∧ ys = resL g xs))
    (hg : SubL (avL ys) vs) (hbare : allBare vs = true) (hf : FnR P fn vs (resAV rs x) [])
    (hrun : ∀ {m bl a} (w : World), Reads o L.E m bl a → ∃ ws : List Value, (execOp a.eval o).run P w = .ok (.enter fn ws.toArray) w ∧ Reps m bl (avL xs) ws)
    (hres : resL ([] : Gn tb) xs = xs) : QEx P o L.E (needAV L need) (resAV rs x) := by
  rcases hk with ⟨rfl, rfl⟩ | ⟨hfl, g, ⟨ids, hl⟩, rfl⟩
  · refine QEx.enter (fn := fn) (ys := vs) (fun m bl ac w hrd => ?_) hf (resAV_bare cx _ _)
    obtain ⟨ws, h1, h2⟩ := hrun w hrd
    refine ⟨ws, h1, ?_⟩
    have := (hg _ _ _ h2).bare (bl' := noNames)
    rwa [bareL, bareL_of hbare] at this
  · refine QEx.enterL (fn := fn) (ys := vs) (fun B m0 h m bl ac w hws hn hrd => ?_) hf (resAV_flat x hfl)
    obtain ⟨ws, h1, h2⟩ := hrun w hrd
    obtain ⟨r', bl2, e1, e2, e3⟩ := lendG_ok cx hws (ids := ids) (g := []) (r := []) (bl1 := bl) hl hn (by simp) (fun i _ => rfl) .nil (by intro p hp; cases hp)
    refine ⟨r', ws, e1, e2, h1, ?_⟩
    have h3 := e3 xs ws (by rw [hres]; exact h2)
    have := (hg _ _ _ h3).bare (bl' := noNames)
    rwa [bareL, bareL_of hbare] at this
theorem qCall_ok {L : SLS tb} {G o y args tys} {k : SV tb → List Nat → Option ρ} {r} (ho : o.op = .call { callee := .value y, args, argTypes := tys }) (h : qCall cx L G y args k = some r) : QOk P L G o k r := by
  unfold qCall at h
  obtain ⟨c, hc, h⟩ := got_e h
  obtain ⟨xs, hxs, h⟩ := got_e h
  have hy := fun u => opd_ok (L := L) (G := G) u hc
  split at h
  · rename_i f caps _
    split at h
    · rename_i hh hf
      obtain ⟨x, hx, h⟩ := got_e (show got (hh.f (xs ++ caps)) _ = some r from h)
      obtain ⟨g1, g2, g3⟩ := hh.ok _ _ hx
      refine ⟨_, [], h, fun u => ?_⟩
      refine QEx.enter (fn := hh.fid) (ys := avL (xs ++ caps)) (fun m bl ac w hrd => ?_) g1 g3
      obtain ⟨ws, hrun, hreps⟩ := run_enter (caps := avL caps) ho (by have := hh.call; rwa [findHnd_f hf] at this) (hy u) (opdsS_ok u hxs) w hrd
      rw [findHnd_f hf]
      refine ⟨ws, hrun, ?_⟩
      rw [← avL_append] at hreps
      have := hreps.bare (bl' := noNames)
      rwa [bareL, bareL_of g2] at this
    obtain ⟨c, hc, h⟩ := got_e h
    obtain ⟨h1, h⟩ := tst_e h
    obtain ⟨ys, need, h, hk⟩ := lent_e h
    obtain ⟨a, ha, h⟩ := got_e h
    obtain ⟨vs, g1, g2, g3⟩ := argsD_ok ha
    obtain ⟨x, hx, h⟩ := bnd_e h
    refine ⟨_, need, h, fun u => ?_⟩
    unfold ansV
    rw [(ansS_av cx.cd cx.ok c.rs x 0).1]
    have hf := c.ok0 (isE_e h1) g1 ((c.cf_eq a).symm.trans (hx u.on))
    refine call_ok (fn := c.fid) cx hk g2 g3 hf (fun {m bl ac} w hrd => ?_) (resL_keep (hasL_all (q := keepQ []) (fun _ => rfl) _))
    obtain ⟨ws, hrun, hreps⟩ := run_enter (caps := avL caps) ho (by have := c.call; rwa [findCon_f hc] at this) (hy u) (opdsS_ok u hxs) w hrd
    rw [findCon_f hc]
    exact ⟨ws, hrun, by rw [avL_append]; exact hreps⟩
  · rename_i ps rs g f caps hcl _
    obtain ⟨ys, need, h, hk⟩ := lent_e h
    obtain ⟨a, ha, h⟩ := got_e h
    obtain ⟨g2, g3⟩ := tupD_ok ha
    obtain ⟨x, hx, h⟩ := bnd_e h
    refine ⟨_, need, h, fun u => ?_⟩
    unfold ansV
    rw [(ansS_av cx.cd cx.ok rs x 0).1]
    obtain ⟨q1, q2, q3⟩ := hcl
    rw [cx.hP] at q1 q3
    have hf := q3 a x (hx u.on)
    have hbc : allBare (tupAV ps a ++ caps) = true := by show cleanL _ _ = true; rw [cleanL_append]; rw [show cleanL _ (tupAV ps a) = true from g3, show cleanL _ caps = true from q2]; rfl
    rcases hk with ⟨rfl, rfl⟩ | ⟨hfl, g', ⟨ids, hl⟩, rfl⟩
    · refine QEx.enter (fn := f) (ys := tupAV ps a ++ caps) (fun m bl ac w hrd => ?_) hf (resAV_bare cx _ _)
      obtain ⟨ws, hrun, hreps⟩ := run_enter (caps := caps) ho q1 (hy u) (opdsS_ok u hxs) w hrd
      refine ⟨ws, hrun, ?_⟩
      have h4 : SubL (avL ys ++ caps) (tupAV ps a ++ caps) := g2.append (.refl _)
      have := (h4 _ _ _ hreps).bare (bl' := noNames)
      rwa [bareL, bareL_of hbc] at this
    · refine QEx.enterL (fn := f) (ys := tupAV ps a ++ caps) (fun B m0 h m bl ac w hws hn hrd => ?_) hf (resAV_flat x hfl)
      obtain ⟨ws, hrun, hreps⟩ := run_enter (caps := caps) ho q1 (hy u) (opdsS_ok u hxs) w hrd
      obtain ⟨r', bl2, e1, e2, e3⟩ := lendG_ok cx hws (ids := ids) (g := []) (r := []) (bl1 := bl) hl hn (by simp) (fun i _ => rfl) .nil (by intro p hp; cases hp)
      refine ⟨r', ws, e1, e2, hrun, ?_⟩
      obtain ⟨w1, w2, rfl, k1, k2⟩ := Reps.split hreps
      have h3 := e3 xs w1 (by rw [resL_keep (hasL_all (q := keepQ []) (fun _ => rfl) _)]; exact k1)
      have h5 := (g2 _ _ _ h3).bare (bl' := noNames)
      rw [bareL, bareL_of g3] at h5
      have h6 := (k2.mono (lend_le hws r')).bare (bl' := noNames)
      rw [bareL, bareL_of q2] at h6
      exact h5.append h6
  · cases h
end
end Go.Rx
