/-
  Ways that meet: a state is told by plain values. No conditions.
-/
import Derived.Test.YtdknhngjfoaphaaGreatRyD
set_option linter.all false
namespace Go.Rx
open Go.RowKit

section
variable {P : Program} {tb : Tb} {ρ : Type} {cx : Ctx P tb}

def JV.T : JV tb → Type
  | .val _ i _ => tb.T i
  | .blk _ i _ => tb.T i
  | .arr _ _ i => List (tb.T i)
  | .itr _ => List UInt8 × Nat
def VT : List (JV tb) → Type
  | [] => Unit
  | [v] => v.T
  | v :: w :: r => v.T × VT (w :: r)
def vh : (v : JV tb) → (r : List (JV tb)) → VT (v :: r) → v.T
  | _, [], x => x
  | _, _ :: _, x => x.1
def vt : (v : JV tb) → (r : List (JV tb)) → VT (v :: r) → VT r
  | _, [], _ => ()
  | _, _ :: _, x => x.2
def vc : (v : JV tb) → (r : List (JV tb)) → v.T → VT r → VT (v :: r)
  | _, [], x, _ => x
  | _, _ :: _, x, y => (x, y)
theorem vh_vc {v : JV tb} {r x y} : vh v r (vc v r x y) = x := by cases r <;> rfl
theorem vt_vc {v : JV tb} {r x y} : vt v r (vc v r x y) = y := by cases r <;> rfl

/-- Own cells told by plain slices; their names. -/
def ownU (L : SLS tb) (own : List Nat) : Nat → List (SV tb) → Option (List (SV tb) × List (Option Nat))
  | _, [] => some ([], [])
  | j, x :: l => got (ownU L own (j + 1) l) fun p => match own.contains j with
    | true => (match x with
      | .rw id E => got (arrAt L id E) fun xs => some (.sl false E xs :: p.1, some id :: p.2)
      | x => tst x.em0 (some (x :: p.1, none :: p.2)))
    | false => tst (x.has fun _ => false) (some (x :: p.1, p.2))
/-- Which names stand for which. -/
def Seg (q r : Nat → Option Nat) (nils : Nat → Bool) (k : Nat) (ns : List (Option Nat)) : Prop :=
  ∀ j, (∀ id, ns[j]? = some (some id) → q id = some (k + j) ∧ r (k + j) = some id) ∧ (ns[j]? = some none → nils (k + j) = true ∧ r (k + j) = none)
theorem Seg.tail {q r nils k n ns} (h : Seg q r nils k (n :: ns)) : Seg q r nils (k + 1) ns := by
  intro j
  have := h (j + 1)
  rw [show k + 1 + j = k + (j + 1) by omega]
  simpa using this
theorem Seg.append {q r nils k} : ∀ {a b : List (Option Nat)}, Seg q r nils k (a ++ b) → Seg q r nils k a ∧ Seg q r nils (k + a.length) b := by
  intro a b h
  constructor
  · intro j
    have := h j
    rcases Nat.lt_or_ge j a.length with hlt | hge
    · rw [List.getElem?_append_left hlt] at this; exact this
    · rw [List.getElem?_eq_none hge]; exact ⟨by simp, by simp⟩
  · intro j
    have := h (a.length + j)
    rw [List.getElem?_append_right (by omega), Nat.add_sub_cancel_left] at this
    rw [Nat.add_assoc]; exact this
/-- The block as it stands. -/
def GoodH (L : SLS tb) (q r : Nat → Option Nat) (nils : Nat → Bool) (p : Nat × SC tb) : Prop :=
  (r p.1 = none ∧ nils p.1 = true ∧ p.2.av = .cells []) ∨ ∃ id0 b0, r p.1 = some id0 ∧ find id0 (avH L.gn L.h) = some b0 ∧ SubB q nils b0 p.2.av
theorem SubN.em {nils : Nat → Bool} {x : SV tb} {k sz} (h : x.em0 = true) (hn : nils k = true) : SubN nils x.av (.rw k sz) := by
  unfold SV.em0 at h
  split at h
  · intro m bl v hnn r
    cases r with
    | slnil => exact .rwnil (hnn k hn)
    | sl g1 g2 g3 g4 g5 g6 g7 =>
      have := g7 rfl
      subst this
      exact .rwnil (hnn k hn)
  · exact SubN.nilrw hn
  · cases h
theorem em0_bare {x : SV tb} (h : x.em0 = true) : x.av.isBare = true := by
  unfold SV.em0 at h
  split at h
  · rfl
  · rfl
  · cases h
theorem ownU_ok (cx : Ctx P tb) {L : SLS tb} {own q r nils} : ∀ {l : List (SV tb)} {j k p cs}, ownU L own j l = some p → (∀ (i : Nat) y, p.1[i]? = some y → ∃ z, cs[i]? = some z ∧ SlCell y z) → cs.length = p.1.length → Seg q r nils k p.2 →
    SubLN nils (reL q (avL l)) (avL (ownS own j k cs).1) ∧ (∀ b ∈ (ownS own j k cs).2, GoodH L q r nils b) ∧ (ownS own j k cs).2.length = p.2.length
  | [], j, k, p, cs, h, hs, hl, hseg => by
    cases h
    have : cs = [] := List.eq_nil_of_length_eq_zero (by simpa using hl)
    subst this
    exact ⟨(SubL.refl []).n, by simp [ownS], rfl⟩
  | x :: l, j, k, p, cs, h, hs, hl, hseg => by
    obtain ⟨p1, hp1, h⟩ := got_e (show got (ownU L own (j + 1) l) _ = some p from h)
    cases cs with
    | nil =>
      exfalso
      split at h
      · split at h
        · obtain ⟨xs, -, h⟩ := got_e h; cases h; simp at hl
        · obtain ⟨-, h⟩ := tst_e h; cases h; simp at hl
      · obtain ⟨-, h⟩ := tst_e h; cases h; simp at hl
    | cons z cs =>
      have step : ∀ y ns, p = (y :: p1.1, ns ++ p1.2) → (∀ k', Seg q r nils k (ns ++ p1.2) → k' = k + ns.length → Seg q r nils k' p1.2) → SlCell y z ∧ ∀ k', Seg q r nils k' p1.2 → SubLN nils (reL q (avL l)) (avL (ownS own (j + 1) k' cs).1) ∧ (∀ b ∈ (ownS own (j + 1) k' cs).2, GoodH L q r nils b) ∧ (ownS own (j + 1) k' cs).2.length = p1.2.length := by
        intro y ns hp _
        subst hp
        obtain ⟨z', hz1, hz2⟩ := hs 0 y rfl
        simp at hz1; subst hz1
        refine ⟨hz2, fun k' hk' => ?_⟩
        exact ownU_ok cx hp1 (fun i y' hy' => by simpa using hs (i + 1) y' (by simpa using hy')) (by simpa using hl) hk'
      rw [ownS_cons]
      split at h
      · rename_i hc
        rw [hc]
        split at h
        · rename_i id E hx0
          obtain ⟨xs, hxs, h⟩ := got_e h
          cases h
          obtain ⟨hz, hrest⟩ := step (.sl false E xs) [some id] rfl (fun k' hk hk' => by subst hk'; exact (Seg.append hk).2)
          have hz1 := hz.sl _ _ _ rfl
          subst hz1
          obtain ⟨h1, h2, h3⟩ := hrest (k + 1) hseg.tail
          obtain ⟨hq, hr⟩ := (hseg 0).1 id rfl
          rw [Nat.add_zero] at hq hr
          refine ⟨?_, ?_, by simp [h3]⟩
          · refine SubLN.cons ?_ h1
            show SubN nils ((AV.rw id (tb.sz E)).re q) (.rw k (tb.sz E))
            simp only [AV.re]; rw [hq]; exact (Sub.refl _).n
          · intro b hb
            rcases List.mem_cons.1 hb with rfl | hb
            · refine .inr ⟨id, _, hr, arrAt_e hxs, ?_⟩
              show SubLN nils (reL q (elC tb E xs)) (elC tb E xs)
              rw [bareL_of (show allBare (elC tb E xs) = true from el_bare cx xs)]
              exact (SubL.refl _).n
            · exact h2 b hb
        · rename_i hx0
          obtain ⟨hem, h⟩ := tst_e h
          cases h
          obtain ⟨hz, hrest⟩ := step x [none] rfl (fun k' hk hk' => by subst hk'; exact (Seg.append hk).2)
          obtain ⟨E, hz1⟩ := hz.em hem
          subst hz1
          obtain ⟨h1, h2, h3⟩ := hrest (k + 1) hseg.tail
          obtain ⟨hn, hr⟩ := (hseg 0).2 rfl
          rw [Nat.add_zero] at hn hr
          refine ⟨?_, ?_, by simp [h3]⟩
          · refine SubLN.cons ?_ h1
            show SubN nils (x.av.re q) (.rw k (tb.sz E))
            rw [bare_of (em0_bare hem)]
            exact SubN.em hem hn
          · intro b hb
            rcases List.mem_cons.1 hb with rfl | hb
            · exact .inl ⟨hr, hn, rfl⟩
            · exact h2 b hb
      · rename_i hc
        obtain ⟨hbx, h⟩ := tst_e h
        cases h
        have hc' : own.contains j = false := by simpa using hc
        obtain ⟨hz, hrest⟩ := step x [] rfl (fun k' hk hk' => by subst hk'; exact (Seg.append hk).2)
        obtain ⟨h1, h2, h3⟩ := hrest k hseg
        rw [hc']
        refine ⟨SubLN.cons ?_ h1, h2, h3⟩
        rw [bare_of (has_bare hbx)]
        exact hz.sub.n

def blkId (L : SLS tb) (t : Nat) : Option Nat := match find t L.e with
  | some (.ptr id off) => tst (Nat.beq off 0) (some id)
  | _ => none
def arrId (L : SLS tb) (t : Nat) (c : Option Nat) : Option Nat := match find t L.e with
  | some (.ptr id _) => (match c with
    | none => some id
    | some off => match find id L.h with
      | some (.cells l) => (match l[off]? with | some (.rw id2 _) => some id2 | _ => none)
      | _ => none)
  | some (.rw id _) => some id
  | _ => none
def unV (cx : Ctx P tb) (L0 L1 : SLS tb) : (v : JV tb) → Option (v.T × List (Option Nat))
  | .val t i own => got (find t L1.e) fun x => (match own with
    | [] => got ((cx.cd i).of (x.res L1.gn)) fun a => tst ((x.res L1.gn).has fun _ => false) (some (a, []))
    | _ :: _ => got (ownU L1 own 0 (cellsS (x.res L1.gn))) fun p => got ((cx.cd i).ofC p.1) fun a => tst (solidS (x.res L1.gn)) <| tst (agOk (cx.cd i) (x.res L1.gn)) <| some (a, p.2))
  | .blk t i own => got (blkId L0 t) fun id => got (cellsAt L1 id) fun l => got (ownU L1 own 0 l) fun p => got ((cx.cd i).ofC p.1) fun a => some (a, p.2)
  | .arr t c i => got (arrId L0 t c) fun id => got (arrAt L1 id i) fun l => some (l, [])
  | .itr t => got (blkId L0 t) fun id => got (iterAt L1 id) fun p => some (p, [])
where agOk {i : tb.Ix} (c : Cd tb i) (x : SV tb) : Bool := match c.ag, x with
  | true, .agg _ => true
  | false, .agg _ => false
  | false, _ => true
  | true, _ => false
/-- The slots, the blocks that tell it. -/
def mkV (cx : Ctx P tb) (L0 : SLS tb) : (v : JV tb) → v.T → Nat → SEnv tb × SHp tb
  | .val t i own, a, k => (match own with
    | [] => ([(t, (cx.cd i).sv a)], [])
    | _ :: _ => ([(t, wrapS (cx.cd i) (ownS own 0 k ((cx.cd i).cs a)).1)], (ownS own 0 k ((cx.cd i).cs a)).2))
  | .blk t i own, a, k => (match blkId L0 t with
    | some id => ([], (id, .cells (ownS own 0 k ((cx.cd i).cs a)).1) :: (ownS own 0 k ((cx.cd i).cs a)).2)
    | none => ([], []))
  | .arr t c i, a, _ => (match arrId L0 t c with
    | some id => ([], [(id, .arr i a)])
    | none => ([], []))
  | .itr t, a, _ => (match blkId L0 t with
    | some id => ([], [(id, .iter a.1 a.2)])
    | none => ([], []))
def GoodE (L : SLS tb) (q : Nat → Option Nat) (nils : Nat → Bool) (p : Nat × SV tb) : Prop := ∃ y, find p.1 (avE L.gn L.e) = some y ∧ SubN nils (y.re q) p.2.av
def nOwn : JV tb → Nat
  | .val _ _ own => own.length
  | .blk _ _ own => own.length
  | .arr _ _ _ => 0
  | .itr _ => 0
theorem ofC_cs {i : tb.Ix} {l : List (SV tb)} {a} (h : (cx.cd i).ofC l = some a) : (∀ (j : Nat) y, l[j]? = some y → ∃ z, ((cx.cd i).cs a)[j]? = some z ∧ SlCell y z) ∧ ((cx.cd i).cs a).length = l.length :=
  ⟨(cx.ok i).slC _ _ h, by rw [cs_length cx, ((cx.ok i).ofC _ _ h).2]⟩
def JV.bid (L0 : SLS tb) : JV tb → Option Nat
  | .val _ _ _ => none
  | .blk t _ _ => blkId L0 t
  | .arr t c _ => arrId L0 t c
  | .itr t => blkId L0 t
theorem SubLN.one {nils x y} (h : SubLN nils [x] [y]) : SubN nils x y := by
  intro m bl v hn r
  have := h m bl [v] hn (.cons r .nil)
  cases this with | cons a b => exact a
theorem unV_ok {L0 L1 : SLS tb} {q r nils k} : ∀ {v : JV tb} {a ns}, unV cx L0 L1 v = some (a, ns) → Seg q r nils k ns → (∀ id, v.bid L0 = some id → r id = some id) →
    (∀ p ∈ (mkV cx L0 v a k).1, GoodE L1 q nils p) ∧ (∀ p ∈ (mkV cx L0 v a k).2, GoodH L1 q r nils p)
  | .val t i [], a, ns, h, hseg, _ => by
    obtain ⟨x, hx, h⟩ := got_e (show got (find t L1.e) _ = some (a, ns) from h)
    obtain ⟨a', ha, h⟩ := got_e h
    obtain ⟨hb, h⟩ := tst_e h
    cases h
    refine ⟨?_, by simp [mkV]⟩
    intro p hp
    simp only [mkV, List.mem_singleton] at hp
    subst hp
    refine ⟨_, by show find t (avE L1.gn L1.e) = _; rw [find_avE, hx]; rfl, ?_⟩
    show SubN nils ((x.res L1.gn).av.re q) ((cx.cd i).sv a).av
    rw [bare_of (has_bare hb)]
    have hs := (cx.ok i).of _ _ ha
    have e1 : ((cx.cd i).sv a).av = tb.el i a := (cx.ok i).sv a
    rw [e1]; exact hs.n
  | .val t i (o :: own), a, ns, h, hseg, _ => by
    obtain ⟨x, hx, h⟩ := got_e (show got (find t L1.e) _ = some (a, ns) from h)
    obtain ⟨p, hp, h⟩ := got_e h
    obtain ⟨a', ha, h⟩ := got_e h
    obtain ⟨hs, h⟩ := tst_e h
    obtain ⟨hag, h⟩ := tst_e h
    cases h
    obtain ⟨c1, c2⟩ := ofC_cs ha
    obtain ⟨h1, h2, h3⟩ := ownU_ok cx (q := q) (r := r) (nils := nils) (k := k) hp c1 c2 hseg
    refine ⟨?_, h2⟩
    intro b hb
    simp only [mkV, List.mem_singleton] at hb
    subst hb
    refine ⟨_, by show find t (avE L1.gn L1.e) = _; rw [find_avE, hx]; rfl, ?_⟩
    show SubN nils ((x.res L1.gn).av.re q) (wrapS (cx.cd i) (ownS (o :: own) 0 k ((cx.cd i).cs a)).1).av
    generalize x.res L1.gn = x' at hp hs hag h1
    have key : ∀ (u : List (SV tb)), SubLN nils (reL q (avL (cellsS x'))) (avL u) → u.length = ((cx.cd i).cs a).length → SubN nils (x'.av.re q) (wrapS (cx.cd i) u).av := by
      intro u hu hlen
      unfold wrapS
      cases hca : (cx.cd i).ag with
      | true =>
        rw [if_pos rfl]
        unfold unV.agOk at hag
        rw [hca] at hag
        cases x' with
        | agg l => exact SubN.agg hu
        | _ => cases hag
      | false =>
        rw [if_neg (by simp)]
        unfold unV.agOk at hag
        rw [hca] at hag
        have hlen1 : u.length = 1 := by
          rw [hlen]
          rcases (cx.ok i).ag a with ⟨h, -, -⟩ | ⟨-, -, h⟩
          · rw [hca] at h; cases h
          · rw [h]; rfl
        cases u with
        | nil => simp at hlen1
        | cons z u =>
          cases u with
          | cons => simp at hlen1
          | nil =>
            have e1 : cellsS x' = [x'] := by cases x' <;> first | rfl | cases hag
            rw [e1] at hu
            exact hu.one
    exact key _ h1 ownS_len
  | .blk t i own, a, ns, h, hseg, hb => by
    obtain ⟨id, hid, h⟩ := got_e (show got (blkId L0 t) _ = some (a, ns) from h)
    obtain ⟨l, hl, h⟩ := got_e h
    obtain ⟨p, hp, h⟩ := got_e h
    obtain ⟨a', ha, h⟩ := got_e h
    cases h
    obtain ⟨c1, c2⟩ := ofC_cs ha
    obtain ⟨h1, h2, h3⟩ := ownU_ok cx (q := q) (r := r) (nils := nils) (k := k) hp c1 c2 hseg
    have hl := cellsAt_e hl
    have hr := hb id hid
    simp only [mkV]
    rw [hid]
    refine ⟨by simp, ?_⟩
    intro b hbm
    rcases List.mem_cons.1 hbm with rfl | hbm
    · exact .inr ⟨id, _, hr, hl, h1⟩
    · exact h2 b hbm
  | .arr t c i, a, ns, h, hseg, hb => by
    obtain ⟨id, hid, h⟩ := got_e (show got (arrId L0 t c) _ = some (a, ns) from h)
    obtain ⟨l, hl, h⟩ := got_e h
    cases h
    have hl := arrAt_e hl
    have hr := hb id hid
    simp only [mkV]
    rw [hid]
    refine ⟨by simp, ?_⟩
    intro b hbm
    rw [List.mem_singleton] at hbm
    subst hbm
    refine .inr ⟨id, _, hr, hl, ?_⟩
    show SubLN nils (reL q (elC tb i a)) (elC tb i a)
    rw [bareL_of (show allBare (elC tb i a) = true from el_bare cx a)]
    exact (SubL.refl _).n
  | .itr t, a, ns, h, hseg, hb => by
    obtain ⟨id, hid, h⟩ := got_e (show got (blkId L0 t) _ = some (a, ns) from h)
    obtain ⟨p, hl, h⟩ := got_e h
    cases h
    have hl := iterAt_e hl
    have hr := hb id hid
    simp only [mkV]
    rw [hid]
    refine ⟨by simp, ?_⟩
    intro b hbm
    rw [List.mem_singleton] at hbm
    subst hbm
    exact .inr ⟨id, _, hr, hl, ⟨rfl, rfl⟩⟩
end
end Go.Rx
