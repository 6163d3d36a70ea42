/-
  Regions run on symbolic states. No conditions.
-/
import Derived.Test.YtdknhngjfoaphaaGreatRyA
set_option linter.all false
namespace Go.Rx
open Go.RowKit

section
variable {P : Program} {tb : Tb} {ρ : Type} {cx : Ctx P tb}

/-- The one state goes on from the other. -/
structure Ext (L L' : SLS tb) : Prop where
  s : L'.s = L.s
  e : ∃ p, L'.e = p ++ L.e
  h : ∃ p, L'.h = p ++ L.h
  nx : L.nx ≤ L'.nx
  gn : ∃ p, L'.gn = p ++ L.gn
theorem Ext.refl (L : SLS tb) : Ext L L := ⟨rfl, ⟨[], rfl⟩, ⟨[], rfl⟩, Nat.le_refl _, ⟨[], rfl⟩⟩
theorem Ext.trans {a b c : SLS tb} (h : Ext a b) (k : Ext b c) : Ext a c := by
  obtain ⟨h1, ⟨p1, h2⟩, ⟨p2, h3⟩, h4, ⟨p3, h5⟩⟩ := h
  obtain ⟨k1, ⟨q1, k2⟩, ⟨q2, k3⟩, k4, ⟨q3, k5⟩⟩ := k
  exact ⟨k1.trans h1, ⟨q1 ++ p1, by rw [k2, h2, List.append_assoc]⟩, ⟨q2 ++ p2, by rw [k3, h3, List.append_assoc]⟩, Nat.le_trans h4 k4, ⟨q3 ++ p3, by rw [k5, h5, List.append_assoc]⟩⟩

def runL (cx : Ctx P tb) (im : Nat → Bool) (N : Nat) (ops : Array Oper) : List Oper → SLS tb → List Nat → List KL → (SLS tb → List Nat → List KL → Option ρ) → Option ρ
  | [], L, gs, ks, k => k L gs ks
  | o :: os, L, gs, ks, k => lop cx im N ops L gs o fun L' gs' κ => runL cx im N ops os L' gs' (κ :: ks) k
inductive KsOf : List Loc → List KL → Prop
  | nil : KsOf [] []
  | cons {c κ cs ks} : KOf c κ → KsOf cs ks → KsOf (c :: cs) (κ :: ks)
theorem runL_ok {im N ops} : ∀ {os : List Oper} {L : SLS tb} {gs ks} {k : SLS tb → List Nat → List KL → Option ρ} {r}, RI gs L.e → runL cx im N ops os L gs ks k = some r →
    ∃ L' gs' ks2 cs, k L' gs' (ks2.reverse ++ ks) = some r ∧ RI gs' L'.e ∧ KsOf cs ks2 ∧ TrL P ops N os L.av.e L.av.h cs L'.av.e L'.av.h ∧ (∀ d ∈ namesOf cs, L.nx ≤ d ∧ d < L'.nx) ∧ Ext L L' ∧ L'.gn = L.gn
  | [], L, gs, ks, k, r, hi, h => ⟨L, gs, [], [], h, hi, .nil, .nil, by simp [namesOf], .refl L, rfl⟩
  | o :: os, L, gs, ks, k, r, hi, h => by
    obtain ⟨L1, gs1, κ, c, h1, h2, h3, h4, h5, h6, h7, h8, h9, h10, h11, h12, h13, h14⟩ := lop_ok hi (show lop cx im N ops L gs o _ = some r from h)
    obtain ⟨L2, gs2, ks2, cs, g1, g2, g3, g4, g5, g6, g7⟩ := runL_ok h14 h1
    refine ⟨L2, gs2, κ :: ks2, c :: cs, by simpa using g1, g2, .cons h2 g3, .cons h3 h4 h5 (by rw [← h10, ← h11]; exact g4), ?_, ?_, by rw [g7, h9]⟩
    · intro d hd
      simp only [namesOf, List.flatMap_cons, List.mem_append] at hd
      rcases hd with hd | hd
      · have := h6 d hd; have := g6.nx; omega
      · have := g5 d hd; omega
    · exact Ext.trans ⟨h8, h12, h13, h7, ⟨[], h9⟩⟩ g6

/-! orders -/
def kmeets : List Nat → List Nat → Bool
  | [], _ => false
  | t :: a, b => match memN t b with | true => true | false => kmeets a b
theorem kmeets_of {t : Nat} : ∀ {a b : List Nat}, t ∈ a → t ∈ b → kmeets a b = true
  | x :: a, b, h, h' => by
    unfold kmeets
    split
    · rfl
    · rename_i hm
      rcases List.mem_cons.1 h with rfl | h
      · rw [memN_e.2 h'] at hm; cases hm
      · exact kmeets_of h h'
theorem meets_k {α β : Type} {a : List (Nat × α)} {b : List (Nat × β)} {a' b' : List Nat} (h : meets a b = true) (ha : ∀ p ∈ a, p.1 ∈ a') (hb : ∀ p ∈ b, p.1 ∈ b') : kmeets a' b' = true := by
  unfold meets at h
  obtain ⟨p, hp, h⟩ := List.any_eq_true.1 h
  unfold hasKey at h
  obtain ⟨q, hq, h⟩ := List.any_eq_true.1 h
  have h : q.1 = p.1 := by simpa using h
  exact kmeets_of (ha p hp) (h ▸ hb q hq)
def kconf (a b : KL) : Bool := kmeets a.we b.we || kmeets a.we b.re || kmeets b.we a.re || kmeets a.wh b.wh || kmeets a.wh b.rh || kmeets b.wh a.rh
theorem conf_k {a b : Loc} {a' b' : KL} (h : a.conf b = true) (ha : KOf a a') (hb : KOf b b') : kconf a' b' = true := by
  unfold Loc.conf at h
  unfold kconf
  simp only [Bool.or_eq_true] at h ⊢
  rcases h with ((((h | h) | h) | h) | h) | h
  · exact .inl (.inl (.inl (.inl (.inl (meets_k h ha.we hb.we)))))
  · exact .inl (.inl (.inl (.inl (.inr (meets_k h ha.we hb.re)))))
  · exact .inl (.inl (.inl (.inr (meets_k h hb.we ha.re))))
  · exact .inl (.inl (.inr (meets_k h ha.wh hb.wh)))
  · exact .inl (.inr (meets_k h ha.wh hb.rh))
  · exact .inr (meets_k h hb.wh ha.rh)
def allLt (j : Nat) : List Nat → Bool
  | [] => true
  | x :: l => match Nat.blt x j with | true => allLt j l | false => false
theorem allLt_e {j : Nat} : ∀ {l : List Nat}, allLt j l = true → l.all (· < j) = true
  | [], _ => rfl
  | x :: l, h => by
    unfold allLt at h
    split at h
    · rename_i hb
      simp only [List.all_cons, Bool.and_eq_true, decide_eq_true_eq]
      exact ⟨Nat.le_of_ble_eq_true hb, allLt_e h⟩
    · cases h
def okE (m : Nat) (κ : KL) : Nat → List KL → Bool
  | _, [] => true
  | i, e :: es => match kconf e κ with
    | true => (match bitB m (i - 1) with | true => okE m κ (i - 1) es | false => false)
    | false => okE m κ (i - 1) es
theorem okE_e {m : Nat} {κ : KL} : ∀ {er : List KL}, okE m κ er.length er = true → ∀ (i : Nat) e, er.reverse[i]? = some e → kconf e κ = true → bitB m i = true
  | [], _, i, e, h, _ => by simp at h
  | e0 :: es, h, i, e, he, hc => by
    have hl : (e0 :: es).length - 1 = es.length := by simp
    unfold okE at h
    rw [hl] at h
    rw [List.reverse_cons] at he
    rcases Nat.lt_or_ge i es.length with hlt | hge
    · rw [List.getElem?_append_left (by simpa using hlt)] at he
      refine okE_e (er := es) ?_ i e he hc
      split at h
      · split at h
        · exact h
        · cases h
      · exact h
    · rw [List.getElem?_append_right (by simpa using hge), List.length_reverse] at he
      have hi : i = es.length := by
        rcases Nat.lt_or_ge (i - es.length) 1 with h1 | h1
        · omega
        · rw [List.getElem?_eq_none (by simpa using h1)] at he; cases he
      subst hi
      simp at he
      subst he
      rw [hc] at h
      simp only at h
      split at h
      · rename_i hm; exact hm
      · cases h
def locOkK : List KL → List (Nat × Nat) → Nat → List Oper → List KL → Bool
  | er, an, j, o :: os, κ :: ks => (match allLt j (depsOf o) with | true => (match okE (ancM an (depsOf o)) κ j er with | true => locOkK (κ :: er) ((j, ancM an (depsOf o)) :: an) (j + 1) os ks | false => false) | false => false)
  | _, _, _, _, _ => true
theorem KsOf.get {cs : List Loc} {ks : List KL} (h : KsOf cs ks) : ∀ (i : Nat) c, cs[i]? = some c → ∃ κ, ks[i]? = some κ ∧ KOf c κ := by
  induction h with
  | nil => intro i c h; simp at h
  | cons h t ih =>
    intro i c hc
    cases i with
    | zero => simp at hc; subst hc; exact ⟨_, rfl, h⟩
    | succ i => simpa using ih i c (by simpa using hc)
theorem KsOf.length {cs : List Loc} {ks : List KL} (h : KsOf cs ks) : cs.length = ks.length := by
  induction h with
  | nil => rfl
  | cons _ _ ih => simp [ih]
theorem KsOf.snoc {cs : List Loc} {ks : List KL} {c κ} (h : KsOf cs ks) (k : KOf c κ) : KsOf (cs ++ [c]) (ks ++ [κ]) := by
  induction h with
  | nil => exact .cons k .nil
  | cons h t ih => exact .cons h ih
theorem locOkK_e : ∀ {os : List Oper} {ec : List Loc} {er : List KL} {an cs ks}, KsOf ec er.reverse → KsOf cs ks → locOkK er an er.length os ks = true → locOkFrom ec an ec.length os cs = true
  | [], _, _, _, _, _, _, _, _ => by simp [locOkFrom]
  | o :: os, ec, er, an, _, _, he, .nil, _ => by simp [locOkFrom]
  | o :: os, ec, er, an, c :: cs, κ :: ks, he, .cons h t, hk => by
    have hlen : ec.length = er.length := by rw [he.length, List.length_reverse]
    unfold locOkK at hk
    split at hk
    · rename_i h1
      split at hk
      · rename_i h2
        unfold locOkFrom
        simp only [Bool.and_eq_true]
        refine ⟨⟨by rw [hlen]; exact allLt_e h1, ?_⟩, ?_⟩
        · rw [List.all_eq_true]
          rintro ⟨c', i⟩ hm
          have hm := List.mem_zipIdx_iff_getElem?.1 hm
          simp only at hm
          simp only [Bool.or_eq_true, Bool.not_eq_true']
          rcases Bool.eq_false_or_eq_true (c'.conf c) with hc | hc
          · refine .inr ?_
            obtain ⟨κ', hκ, hko⟩ := he.get i c' hm
            exact okE_e h2 i κ' hκ (conf_k hc hko h)
          · exact .inl hc
        · have := locOkK_e (os := os) (ec := ec ++ [c]) (er := κ :: er) (an := (er.length, ancM an (depsOf o)) :: an) (cs := cs) (ks := ks) (by rw [List.reverse_cons]; exact he.snoc h) t hk
          rw [hlen]
          simpa [hlen] using this
      · cases hk
    · cases hk
def kNames (ks : List KL) : List Nat := ks.flatMap (·.nm)
theorem KsOf.names {cs : List Loc} {ks : List KL} (h : KsOf cs ks) : namesOf cs = kNames ks := by
  induction h with
  | nil => rfl
  | cons h t ih =>
    simp only [namesOf, kNames, List.flatMap_cons] at ih ⊢
    rw [ih, h.nm]

/-! in text order -/
theorem Tells.f {e s h} {f f' : Nat → Prop} (hf : ∀ d, f' d → f d) : Tells ⟨e, s, h, f⟩ ⟨e, s, h, f'⟩ :=
  fun _ _ _ _ _ _ m bl S => ⟨m, bl, S.weaken (fun _ _ h => h) (fun _ _ h => h) hf rfl⟩
theorem TrL.go {N ops} {os : List Oper} {e h cs e' h'} (t : TrL P ops N os e h cs e' h') : ∀ (st : List Env) (f : Nat → Prop) (rest : List Oper) (K : LS → Prop), nodupB (namesOf cs) = true → (∀ d ∈ namesOf cs, f d) →
    GoT P ops N rest K ⟨e', st, h', fun y => f y ∧ y ∉ namesOf cs⟩ → GoT P ops N (os ++ rest) K ⟨e, st, h, f⟩ := by
  induction t with
  | nil =>
    intro st f rest K _ _ k
    exact GoT.tells (Tells.f fun d hd => hd.1) k
  | cons h1 h2 h3 t ih =>
    intro st f rest K hn hin k
    have hn2 := nodupB_spec hn
    simp only [namesOf, List.flatMap_cons] at hn2 hin
    rw [List.nodup_append] at hn2
    refine h1.text h2 h3 (fun d hd => hin d (List.mem_append_left _ hd)) (f' := fun y => f y ∧ y ∉ Loc.nm _) (fun y hy => hy) ?_
    refine ih st _ rest K (of_nodup hn2.2.1) ?_ ?_
    · intro d hd
      exact ⟨hin d (List.mem_append_right _ hd), fun hc => hn2.2.2 d hc d hd rfl⟩
    · refine GoT.tells (Tells.f ?_) k
      rintro d ⟨g1, g2⟩
      simp only [namesOf, List.flatMap_cons, List.mem_append, not_or] at g2
      exact ⟨⟨g1, g2.1⟩, g2.2⟩
where
  of_nodup : ∀ {l : List Nat}, l.Nodup → nodupB l = true
    | [], _ => rfl
    | x :: l, h => by
      rw [List.nodup_cons] at h
      unfold nodupB
      simp [h.1, of_nodup h.2]
end
end Go.Rx
