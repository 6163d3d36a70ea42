/-
  Regions that draw their order: whatever order is drawn, the outcome is the text's. No conditions.
-/
import Derived.Test.YtblkmlpjhpgkjaaCxJ
import Derived.Orders
set_option linter.all false
namespace Go.Cx
open Go.RowKit

/-- What an operation reads and writes: slots, own blocks, a name used up. -/
structure Loc where
  re : Env
  rh : Hp
  we : Env
  wh : Hp
  nm : List Nat

def LEx (P : Program) (ops : Array Oper) (N : Nat) (o : Oper) (c : Loc) : Prop :=
  ∀ (e : Env) (h : Hp) (f f' : List Nat), (∀ p ∈ c.re, find p.1 e = some p.2) → (∀ p ∈ c.rh, find p.1 h = some p.2) → (∀ d ∈ c.nm, d ∈ f) → (∀ y ∈ f', y ∈ f ∧ y ∉ c.nm) →
    ∀ W0 m0 m bl hh a w, Sim N W0 m0 ⟨e, h, f⟩ a w m bl hh → ∀ (next : Act → World → Prop) (Q : Exit → Act → World → Prop),
      (∀ a' w' m' bl' hh', Sim N W0 m0 ⟨c.we ++ e, c.wh ++ h, f'⟩ a' w' m' bl' hh' → next a' w') →
      if Region.wanted o (yielded ops a.tmps) then o.wp P a w next Q else next (a.put o.dst undef) w

/-- The trace of a region in the text's order. -/
inductive TrL (P : Program) (ops : Array Oper) (N : Nat) : List Oper → Env → Hp → List Loc → Env → Hp → Prop
  | nil {e h} : TrL P ops N [] e h [] e h
  | cons {o rest e h c cs e' h'} : LEx P ops N o c → (∀ p ∈ c.re, find p.1 e = some p.2) → (∀ p ∈ c.rh, find p.1 h = some p.2) →
      TrL P ops N rest (c.we ++ e) (c.wh ++ h) cs e' h' → TrL P ops N (o :: rest) e h (c :: cs) e' h'

def depsOf (o : Oper) : List Nat := (o.after.toList.filter (Region.binds .any)).map (·.on)

def hasKey {α : Type} (t : Nat) (l : List (Nat × α)) : Bool := l.any fun p => p.1 == t
def meets {α β : Type} (a : List (Nat × α)) (b : List (Nat × β)) : Bool := a.any fun p => hasKey p.1 b
def Loc.conf (a b : Loc) : Bool :=
  meets a.we b.we || meets a.we b.re || meets b.we a.re || meets a.wh b.wh || meets a.wh b.rh || meets b.wh a.rh

def namesOf (cs : List Loc) : List Nat := cs.flatMap (·.nm)

/-- Each operation waits for all before it that it must not be exchanged with. -/
def locOkFrom (earlier : List Loc) : Nat → List Oper → List Loc → Bool
  | j, o :: os, c :: cs => (depsOf o).all (· < j) && (earlier.zipIdx.all fun p => !(p.1.conf c) || (depsOf o).contains p.2) && locOkFrom (earlier ++ [c]) (j + 1) os cs
  | _, _, _ => true

def nodupB : List Nat → Bool
  | [] => true
  | x :: l => !l.contains x && nodupB l

/-- find over stacked writes. -/
theorem find_append_t {α : Type} {t : Nat} : ∀ {a b : List (Nat × α)}, hasKey t a = true → find t (a ++ b) = find t a
  | [], b, h => by simp [hasKey] at h
  | (k, x) :: a, b, h => by
    simp only [List.cons_append, find]
    by_cases hk : k = t
    · simp [hk]
    · rw [if_neg hk, if_neg hk]
      refine find_append_t ?_
      have hkb : (k == t) = false := by simpa using hk
      simp only [hasKey, List.any_cons, hkb, Bool.false_or] at h ⊢
      exact h
theorem find_append_f {α : Type} {t : Nat} : ∀ {a b : List (Nat × α)}, hasKey t a = false → find t (a ++ b) = find t b
  | [], b, h => rfl
  | (k, x) :: a, b, h => by
    simp only [hasKey, List.any_cons, Bool.or_eq_false_iff] at h
    simp only [List.cons_append, find]
    rw [if_neg (by simpa using h.1)]
    exact find_append_f h.2

theorem find_none {α : Type} {t : Nat} {l : List (Nat × α)} (h : hasKey t l = false) : find t l = none := by
  induction l with
  | nil => rfl
  | cons p l ih =>
    obtain ⟨k, x⟩ := p
    simp only [hasKey, List.any_cons, Bool.or_eq_false_iff] at h
    simp only [find]
    rw [if_neg (by simpa using h.1)]
    exact ih h.2

/-- Writers of t decide what is found. -/
theorem find_stack {α : Type} (W : Nat → List (Nat × α)) (base : List (Nat × α)) (t : Nat) : ∀ (l : List Nat), find t (l.flatMap W ++ base) = find t ((l.filter fun i => hasKey t (W i)).flatMap W ++ base)
  | [] => rfl
  | i :: l => by
    rw [List.flatMap_cons, List.append_assoc, List.filter_cons]
    by_cases h : hasKey t (W i) = true
    · rw [if_pos h, find_append_t h, List.flatMap_cons, List.append_assoc, find_append_t h]
    · rw [if_neg h, find_append_f (by simpa using h)]
      exact find_stack W base t l

theorem sorted_eq {l l' : List Nat} (h1 : l.Pairwise (· > ·)) (h2 : l'.Pairwise (· > ·)) (hm : ∀ x, x ∈ l ↔ x ∈ l') : l = l' := by
  induction l generalizing l' with
  | nil =>
    cases l' with
    | nil => rfl
    | cons y l' => have := (hm y).2 (by simp); simp at this
  | cons x l ih =>
    cases l' with
    | nil => have := (hm x).1 (by simp); simp at this
    | cons y l' =>
      obtain ⟨a1, a2⟩ := List.pairwise_cons.1 h1
      obtain ⟨b1, b2⟩ := List.pairwise_cons.1 h2
      have hxy : x = y := by
        rcases List.mem_cons.1 ((hm x).1 (by simp)) with h | h
        · exact h
        · rcases List.mem_cons.1 ((hm y).2 (by simp)) with h' | h'
          · exact h'.symm
          · have := a1 y h'; have := b1 x h; omega
      subst hxy
      congr 1
      refine ih a2 b2 fun z => ⟨fun hz => ?_, fun hz => ?_⟩
      · rcases List.mem_cons.1 ((hm z).1 (by simp [hz])) with h | h
        · subst h; have := a1 _ hz; omega
        · exact h
      · rcases List.mem_cons.1 ((hm z).2 (by simp [hz])) with h | h
        · subst h; have := b1 _ hz; omega
        · exact h

/-- the indices below n, the greatest first. -/
def downFrom : Nat → List Nat
  | 0 => []
  | n + 1 => n :: downFrom n
theorem mem_downFrom {n x : Nat} : x ∈ downFrom n ↔ x < n := by
  induction n with
  | zero => simp [downFrom]
  | succ n ih => simp only [downFrom, List.mem_cons, ih]; omega
theorem sorted_downFrom (n : Nat) : (downFrom n).Pairwise (· > ·) := by
  induction n with
  | zero => simp [downFrom]
  | succ n ih => exact List.pairwise_cons.2 ⟨fun x hx => by have := mem_downFrom.1 hx; omega, ih⟩


def noLoc : Loc := ⟨[], [], [], [], []⟩
def WE (cs : List Loc) (i : Nat) : Env := (cs.getD i noLoc).we
def WH (cs : List Loc) (i : Nat) : Hp := (cs.getD i noLoc).wh

theorem downFrom_succ (n : Nat) : downFrom (n + 1) = (downFrom n).map (· + 1) ++ [0] := by
  induction n with
  | zero => rfl
  | succ n ih =>
    show (n + 1) :: downFrom (n + 1) = (n + 1) :: ((downFrom n).map (· + 1)) ++ [0]
    rw [ih]; rfl

theorem stack_cons {α : Type} (W : Nat → List (Nat × α)) (n : Nat) (base : List (Nat × α)) : (downFrom (n + 1)).flatMap W ++ base = (downFrom n).flatMap (fun i => W (i + 1)) ++ (W 0 ++ base) := by
  rw [downFrom_succ]
  simp [List.flatMap_append, List.flatMap_map]

theorem TrL.at {P ops N os e h cs e' h'} (t : TrL P ops N os e h cs e' h') : cs.length = os.length ∧
    (∀ j o, os[j]? = some o → ∃ c, cs[j]? = some c ∧ LEx P ops N o c ∧ (∀ p ∈ c.re, find p.1 ((downFrom j).flatMap (WE cs) ++ e) = some p.2) ∧ (∀ p ∈ c.rh, find p.1 ((downFrom j).flatMap (WH cs) ++ h) = some p.2)) ∧
    e' = (downFrom os.length).flatMap (WE cs) ++ e ∧ h' = (downFrom os.length).flatMap (WH cs) ++ h := by
  induction t with
  | nil => simp [downFrom]
  | @cons o rest e h c cs e' h' hl hre hrh _ ih =>
    obtain ⟨i1, i2, i3, i4⟩ := ih
    refine ⟨by simp [i1], ?_, ?_, ?_⟩
    · intro j o' hj
      cases j with
      | zero =>
        simp at hj; subst hj
        exact ⟨c, rfl, hl, by simpa [downFrom] using hre, by simpa [downFrom] using hrh⟩
      | succ j =>
        obtain ⟨c', k1, k2, k3, k4⟩ := i2 j o' (by simpa using hj)
        refine ⟨c', by simpa using k1, k2, fun p hp => ?_, fun p hp => ?_⟩
        · rw [stack_cons]; exact k3 p hp
        · rw [stack_cons]; exact k4 p hp
    · rw [i3, List.length_cons, stack_cons]; rfl
    · rw [i4, List.length_cons, stack_cons]; rfl

theorem locOk_spec : ∀ (earlier : List Loc) (os : List Oper) (cs : List Loc), locOkFrom earlier earlier.length os cs = true → ∀ j o c, os[j]? = some o → cs[j]? = some c →
    (∀ d ∈ depsOf o, d < earlier.length + j) ∧ (∀ i c', (earlier ++ cs)[i]? = some c' → i < earlier.length + j → c'.conf c = true → i ∈ depsOf o)
  | earlier, [], cs, _, j, o, c, ho, _ => by simp at ho
  | earlier, o' :: os, [], _, j, o, c, _, hc => by simp at hc
  | earlier, o' :: os, c' :: cs, h, j, o, c, ho, hc => by
    simp only [locOkFrom, Bool.and_eq_true] at h
    obtain ⟨⟨h1, h2⟩, h3⟩ := h
    cases j with
    | zero =>
      simp at ho hc; subst ho hc
      refine ⟨fun d hd => by have := List.all_eq_true.1 h1 d hd; simpa using this, fun i c2 hi hlt hconf => ?_⟩
      rw [List.getElem?_append_left (by omega)] at hi
      have := List.all_eq_true.1 h2 (c2, i) (by rw [List.mem_iff_getElem?]; exact ⟨i, by simp [hi]⟩)
      simp only [hconf, Bool.not_true, Bool.false_or] at this
      simpa using this
    | succ j =>
      have hlen : (earlier ++ [c']).length = earlier.length + 1 := by simp
      have := locOk_spec (earlier ++ [c']) os cs (by rw [hlen]; exact h3) j o c (by simpa using ho) (by simpa using hc)
      rw [hlen, List.append_assoc] at this
      refine ⟨fun d hd => by have := this.1 d hd; omega, fun i c2 hi hlt hconf => this.2 i c2 hi (by omega) hconf⟩

theorem nodupB_spec : ∀ {l : List Nat}, nodupB l = true → l.Nodup
  | [], _ => List.nodup_nil
  | x :: l, h => by
    simp only [nodupB, Bool.and_eq_true] at h
    exact List.nodup_cons.2 ⟨by simpa using h.1, nodupB_spec h.2⟩

theorem meets_of {α β : Type} {a : List (Nat × α)} {b : List (Nat × β)} {t : Nat} (ha : hasKey t a = true) (hb : hasKey t b = true) : meets a b = true := by
  obtain ⟨p, hp, hpt⟩ := List.any_eq_true.1 ha
  refine List.any_eq_true.2 ⟨p, hp, ?_⟩
  have : p.1 = t := by simpa using hpt
  rw [this]; exact hb

theorem hasKey_of_mem {α : Type} {l : List (Nat × α)} {p : Nat × α} (h : p ∈ l) : hasKey p.1 l = true := List.any_eq_true.2 ⟨p, h, by simp⟩


theorem agree_find {α : Type} (W : Nat → List (Nat × α)) (base : List (Nat × α)) (t : Nat) (σ : List Nat) (n : Nat) (hs : σ.Pairwise fun i j => hasKey t (W i) = true → hasKey t (W j) = true → i > j)
    (hm : ∀ i, hasKey t (W i) = true → (i ∈ σ ↔ i < n)) : find t (σ.flatMap W ++ base) = find t ((downFrom n).flatMap W ++ base) := by
  rw [find_stack W base t σ, find_stack W base t (downFrom n)]
  congr 3
  refine sorted_eq ?_ ((sorted_downFrom n).filter _) ?_
  · refine (hs.filter _).imp_of_mem ?_
    intro a b ha hb h
    exact h (List.mem_filter.1 ha).2 (List.mem_filter.1 hb).2
  · intro x
    rw [List.mem_filter, List.mem_filter, mem_downFrom]
    constructor
    · rintro ⟨h1, h2⟩; exact ⟨(hm x h2).1 h1, h2⟩
    · rintro ⟨h1, h2⟩; exact ⟨(hm x h2).2 h1, h2⟩

theorem names_apart : ∀ {cs : List Loc}, (namesOf cs).Nodup → ∀ {i j d}, d ∈ (cs.getD i noLoc).nm → d ∈ (cs.getD j noLoc).nm → i = j
  | [], _, i, j, d, hi, _ => by simp [noLoc] at hi
  | c :: cs, h, i, j, d, hi, hj => by
    have h' : (c.nm ++ namesOf cs).Nodup := h
    obtain ⟨h1, h2, h3⟩ := List.nodup_append.1 h'
    have mem : ∀ k, d ∈ (cs.getD k noLoc).nm → d ∈ namesOf cs := by
      intro k hk
      rcases Nat.lt_or_ge k cs.length with hlt | hge
      · refine List.mem_flatMap.2 ⟨cs[k], List.getElem_mem hlt, ?_⟩
        simpa [List.getD, List.getElem?_eq_getElem hlt] using hk
      · simp [List.getD, List.getElem?_eq_none hge, noLoc] at hk
    cases i with
    | zero =>
      cases j with
      | zero => rfl
      | succ j => exact absurd rfl (h3 d (by simpa using hi) d (mem j (by simpa using hj)))
    | succ i =>
      cases j with
      | zero => exact absurd rfl (h3 d (by simpa using hj) d (mem i (by simpa using hi)))
      | succ j => exact congrArg (· + 1) (names_apart h2 (i := i) (j := j) (d := d) (by simpa using hi) (by simpa using hj))

theorem len_le : ∀ {n : Nat} {l : List Nat}, l.Nodup → (∀ x ∈ l, x < n) → l.length ≤ n
  | 0, l, _, h => by
    cases l with
    | nil => simp
    | cons x l => have := h x (by simp); omega
  | n + 1, l, nd, h => by
    by_cases hn : n ∈ l
    · have h1 := len_le (n := n) (nd.erase n) (fun x hx => by
        have := (List.Nodup.mem_erase_iff nd).1 hx
        have := h x this.2
        omega)
      have := List.length_erase_of_mem hn
      omega
    · have := len_le (n := n) nd (fun x hx => by
        have := h x hx
        have : x ≠ n := by rintro rfl; exact hn hx
        omega)
      omega

theorem key_lt {α : Type} {cs : List Loc} {t i : Nat} {g : Loc → List (Nat × α)} (hg : g noLoc = []) (h : hasKey t (g (cs.getD i noLoc)) = true) : i < cs.length := by
  rcases Nat.lt_or_ge i cs.length with hlt | hge
  · exact hlt
  · simp only [List.getD, List.getElem?_eq_none hge, Option.getD_none, hg] at h
    simp [hasKey] at h

theorem Wp.draw {P : Program} {N id : Nat} {ops : Array Oper} {Q : AExit → LS → Prop} {e e' : Env} {h h' : Hp} {f f' : List Nat} {cs : List Loc} (hm : P.follows .mixedOrders = true)
    (tr : TrL P ops N ops.toList e h cs e' h') (ok : locOkFrom [] 0 ops.toList cs = true) (hn : nodupB (namesOf cs) = true) (hin : (namesOf cs).all (fun d => f.contains d) = true)
    (hf : f'.all (fun y => f.contains y && !(namesOf cs).contains y) = true) (hq : Q .normal ⟨e', h', f'⟩) : Wp P N (.region id ops true) Q ⟨e, h, f⟩ := by
  intro W0 m0 m bl hh ac w s Qc hc
  obtain ⟨t1, t2, t3, t4⟩ := tr.at
  have hlen : ops.toList.length = ops.size := by simp
  rw [hlen] at t1 t3 t4
  -- what is known of each operation
  have fact : ∀ j o, ops[j]? = some o → ∃ c, cs[j]? = some c ∧ LEx P ops N o c ∧ (∀ p ∈ c.re, find p.1 ((downFrom j).flatMap (WE cs) ++ e) = some p.2) ∧ (∀ p ∈ c.rh, find p.1 ((downFrom j).flatMap (WH cs) ++ h) = some p.2) ∧
      (∀ d ∈ depsOf o, d < j) ∧ (∀ i c', cs[i]? = some c' → i < j → c'.conf c = true → i ∈ depsOf o) := by
    intro j o ho
    obtain ⟨c, k1, k2, k3, k4⟩ := t2 j o (by simpa using ho)
    have := locOk_spec [] ops.toList cs (by simpa using ok) j o c (by simpa using ho) k1
    simp only [List.length_nil, Nat.zero_add, List.nil_append] at this
    exact ⟨c, k1, k2, k3, k4, this.1, this.2⟩
  have ndup := nodupB_spec hn
  -- the invariant
  let nmOf : Nat → List Nat := fun i => (cs.getD i noLoc).nm
  let fOf : List Nat → List Nat := fun σ => f.filter fun y => !(σ.flatMap nmOf).contains y
  let conf : Nat → Nat → Bool := fun i j => (cs.getD i noLoc).conf (cs.getD j noLoc)
  have conf_symm : ∀ i j, conf i j = conf j i := by
    intro i j
    have m2 : ∀ {α : Type} (a b : List (Nat × α)), meets a b = meets b a := by
      intro α a b
      rw [Bool.eq_iff_iff]
      constructor <;> intro hh <;>
      · obtain ⟨p, hp, hq⟩ := List.any_eq_true.1 hh
        obtain ⟨q, hq1, hq2⟩ := List.any_eq_true.1 hq
        exact List.any_eq_true.2 ⟨q, hq1, by have : q.1 = p.1 := by simpa using hq2
                                             rw [this]; exact hasKey_of_mem hp⟩
    simp only [conf, Loc.conf]
    rw [m2 (cs.getD i noLoc).we (cs.getD j noLoc).we, m2 (cs.getD i noLoc).wh (cs.getD j noLoc).wh]
    cases meets (cs.getD j noLoc).we (cs.getD i noLoc).we <;> cases meets (cs.getD i noLoc).we (cs.getD j noLoc).re <;> cases meets (cs.getD j noLoc).we (cs.getD i noLoc).re <;>
      cases meets (cs.getD j noLoc).wh (cs.getD i noLoc).wh <;> cases meets (cs.getD i noLoc).wh (cs.getD j noLoc).rh <;> cases meets (cs.getD j noLoc).wh (cs.getD i noLoc).rh <;> rfl
  have atCs : ∀ i c, cs[i]? = some c → cs.getD i noLoc = c := by intro i c hi; simp [List.getD, hi]
  have cslt : ∀ i, i < cs.length → ∃ o, ops[i]? = some o := by
    intro i hi; rw [t1] at hi; exact ⟨ops[i], by simp [hi]⟩
  have later : ∀ i j, i < j → j < cs.length → conf i j = true → ∀ o, ops[j]? = some o → i ∈ depsOf o := by
    intro i j hij hj hcf o ho
    obtain ⟨c, k1, -, -, -, -, k6⟩ := fact j o ho
    have hi : i < cs.length := by omega
    refine k6 i cs[i] (List.getElem?_eq_getElem hi) hij ?_
    have e1 := atCs i cs[i] (List.getElem?_eq_getElem hi)
    have e2 := atCs j c k1
    simp only [conf, e1, e2] at hcf
    exact hcf
  have readyAll : ∀ listed : Array Bool, listed.size = ops.size → (∀ i, i ∉ Region.ready .any ops listed) → ∀ j, j < ops.size → listed.getD j false = true := by
    intro listed hsz hr j
    induction j using Nat.strongRecOn with
    | _ j ih =>
      intro hj
      rcases Bool.eq_false_or_eq_true (listed.getD j false) with h1 | h1
      · exact h1
      · exfalso
        obtain ⟨o, ho⟩ : ∃ o, ops[j]? = some o := ⟨ops[j], by simp [hj]⟩
        obtain ⟨c, k1, k2, k3, k4, k5, k6⟩ := fact j o ho
        have hs : j < listed.size := by omega
        refine hr j (mem_ready.2 ⟨?_, o, ho, ?_⟩)
        · rw [Array.getD_eq_getD_getElem?] at h1 ⊢; simpa [hs] using h1
        · intro ed hed hb
          have hd : ed.on ∈ depsOf o := List.mem_map.2 ⟨ed, List.mem_filter.2 ⟨by simpa using hed, hb⟩, rfl⟩
          exact ih ed.on (k5 _ hd) (by have := k5 _ hd; omega)
  have main : ∀ (fuel : Nat) (listed : Array Bool) (σ : List Nat) (a : Act) (w : World) (m : Mem) (bl : Names) (hh : Spare), listed.size = ops.size → σ.Nodup → (∀ i, i ∈ σ ↔ listed.getD i false = true) → σ.length + fuel = ops.size →
      (∀ k ∈ σ, ∀ o, ops[k]? = some o → ∀ d ∈ depsOf o, d ∈ σ) → σ.Pairwise (fun i j => conf i j = true → i > j) →
      Sim N W0 m0 ⟨σ.flatMap (WE cs) ++ e, σ.flatMap (WH cs) ++ h, fOf σ⟩ a w m bl hh → wpAny P .any ops Qc fuel listed a w := by
    -- where all have been carried out
    have fin : ∀ (listed : Array Bool) (σ : List Nat) (a : Act) (w : World) (m : Mem) (bl : Names) (hh : Spare), listed.size = ops.size → (∀ i, i ∈ σ ↔ listed.getD i false = true) →
        σ.Pairwise (fun i j => conf i j = true → i > j) → Sim N W0 m0 ⟨σ.flatMap (WE cs) ++ e, σ.flatMap (WH cs) ++ h, fOf σ⟩ a w m bl hh → Region.ready .any ops listed = [] → Qc .normal a w := by
      intro listed σ a w m bl hh hsz hli hpw S hr
      have all := readyAll listed hsz (by simp [hr])
      refine hc .normal _ _ _ _ _ _ hq (S.weaken ⟨fun t x hx => ?_, fun t x hx => ?_, fun d hd => ?_⟩)
      · simp only at hx ⊢
        rw [t3] at hx
        rw [← hx]
        refine agree_find (WE cs) e t σ ops.size ?_ ?_
        · exact hpw.imp fun hij h1 h2 => hij (by simp only [conf, Loc.conf]; rw [meets_of (a := (cs.getD _ noLoc).we) (b := (cs.getD _ noLoc).we) h1 h2]; simp)
        · intro i hi
          have := key_lt (g := Loc.we) rfl hi
          exact ⟨fun _ => by omega, fun hlt => (hli i).2 (all i hlt)⟩
      · simp only at hx ⊢
        rw [t4] at hx
        rw [← hx]
        refine agree_find (WH cs) h t σ ops.size ?_ ?_
        · exact hpw.imp fun hij h1 h2 => hij (by simp only [conf, Loc.conf]; rw [meets_of (a := (cs.getD _ noLoc).wh) (b := (cs.getD _ noLoc).wh) h1 h2]; simp)
        · intro i hi
          have := key_lt (g := Loc.wh) rfl hi
          exact ⟨fun _ => by omega, fun hlt => (hli i).2 (all i hlt)⟩
      · have := List.all_eq_true.1 hf d hd
        simp only [Bool.and_eq_true] at this
        refine List.mem_filter.2 ⟨by simpa using this.1, ?_⟩
        rw [Bool.not_eq_true', ← Bool.not_eq_true]
        intro hcon
        obtain ⟨i, hi, hdi⟩ := List.mem_flatMap.1 (by simpa using hcon : d ∈ σ.flatMap nmOf)
        have : d ∈ namesOf cs := by
          rcases Nat.lt_or_ge i cs.length with hlt | hge
          · refine List.mem_flatMap.2 ⟨cs[i], List.getElem_mem hlt, ?_⟩
            simpa [nmOf, List.getD, List.getElem?_eq_getElem hlt] using hdi
          · simp [nmOf, List.getD, List.getElem?_eq_none hge, noLoc] at hdi
        simp_all
    intro fuel
    induction fuel with
    | zero =>
      intro listed σ a w m bl hh hsz hnd hli hlen hcl hpw S
      have hr : Region.ready .any ops listed = [] := by
        refine List.eq_nil_iff_forall_not_mem.2 fun j hj => ?_
        obtain ⟨g1, o, g2, g3⟩ := mem_ready.1 hj
        have hjl : j < ops.size := by
          rcases Nat.lt_or_ge j ops.size with h | h
          · exact h
          · simp [Array.getElem?_eq_none h] at g2
        have hjs : j ∉ σ := by
          intro hjs
          have := (hli j).1 hjs
          rw [Array.getD_eq_getD_getElem?] at g1 this
          simp [hsz, hjl] at g1 this
          rw [g1] at this; cases this
        have hl1 := len_le (n := ops.size) (l := j :: σ) (List.nodup_cons.2 ⟨hjs, hnd⟩) (by
          intro x hx
          rcases List.mem_cons.1 hx with rfl | hx
          · exact hjl
          · have := (hli x).1 hx
            rcases Nat.lt_or_ge x ops.size with h | h
            · exact h
            · rw [Array.getD_eq_getD_getElem?] at this; simp [hsz, Nat.not_lt.2 h] at this)
        simp at hl1; omega
      exact ⟨hr, fin listed σ a w m bl hh hsz hli hpw S hr⟩
    | succ fuel ih =>
      intro listed σ a w m bl hh hsz hnd hli hlen hcl hpw S
      refine ⟨fun hr => fin listed σ a w m bl hh hsz hli hpw S hr, fun j hj => ?_⟩
      obtain ⟨g1, o, g2, g3⟩ := mem_ready.1 hj
      have hjl : j < ops.size := by
        rcases Nat.lt_or_ge j ops.size with h | h
        · exact h
        · simp [Array.getElem?_eq_none h] at g2
      have hjs : j ∉ σ := by
        intro hjs
        have := (hli j).1 hjs
        rw [Array.getD_eq_getD_getElem?] at g1 this
        simp [hsz, hjl] at g1 this
        rw [g1] at this; cases this
      have hdeps : ∀ d ∈ depsOf o, d ∈ σ := by
        intro d hd
        obtain ⟨ed, hed, rfl⟩ := List.mem_map.1 hd
        obtain ⟨h1, h2⟩ := List.mem_filter.1 hed
        exact (hli _).2 (g3 ed (by simpa using h1) h2)
      obtain ⟨c, k1, k2, k3, k4, k5, k6⟩ := fact j o g2
      have ec := atCs j c k1
      have jcs : j < cs.length := by omega
      -- who writes what j reads
      have reads : ∀ i, (i ∈ σ ↔ i < j) ∨ conf i j = false := by
        intro i
        rcases Bool.eq_false_or_eq_true (conf i j) with hcf | hcf
        · refine .inl ⟨fun hi => ?_, fun hi => hdeps i (later i j hi jcs hcf o g2)⟩
          rcases Nat.lt_trichotomy i j with h | h | h
          · exact h
          · subst h; exact absurd hi hjs
          · have hil : i < cs.length := by
              rcases Nat.lt_or_ge i cs.length with h | h'
              · exact h
              · simp only [conf, List.getD, List.getElem?_eq_none h', Option.getD_none] at hcf
                simp [noLoc, Loc.conf, meets, hasKey] at hcf
            obtain ⟨o', ho'⟩ := cslt i hil
            have := later j i h hil (by rw [conf_symm]; exact hcf) o' ho'
            exact absurd (hcl i hi o' ho' j this) hjs
        · exact .inr hcf
      have rdE : ∀ p ∈ c.re, find p.1 (σ.flatMap (WE cs) ++ e) = some p.2 := by
        intro p hp
        rw [← k3 p hp]
        refine agree_find (WE cs) e p.1 σ j ?_ ?_
        · exact hpw.imp fun hij h1 h2 => hij (by simp only [conf, Loc.conf]; rw [meets_of (a := (cs.getD _ noLoc).we) (b := (cs.getD _ noLoc).we) h1 h2]; simp)
        · intro i hi
          refine (reads i).resolve_right ?_
          simp only [conf, Loc.conf, ec]
          have : meets (cs.getD i noLoc).we c.re = true := meets_of (t := p.1) hi (hasKey_of_mem hp)
          rw [this]; simp
      have rdH : ∀ p ∈ c.rh, find p.1 (σ.flatMap (WH cs) ++ h) = some p.2 := by
        intro p hp
        rw [← k4 p hp]
        refine agree_find (WH cs) h p.1 σ j ?_ ?_
        · exact hpw.imp fun hij h1 h2 => hij (by simp only [conf, Loc.conf]; rw [meets_of (a := (cs.getD _ noLoc).wh) (b := (cs.getD _ noLoc).wh) h1 h2]; simp)
        · intro i hi
          refine (reads i).resolve_right ?_
          simp only [conf, Loc.conf, ec]
          have : meets (cs.getD i noLoc).wh c.rh = true := meets_of (t := p.1) hi (hasKey_of_mem hp)
          rw [this]; simp
      have nmIn : ∀ d ∈ c.nm, d ∈ fOf σ := by
        intro d hd
        have hdj : d ∈ (cs.getD j noLoc).nm := by rw [ec]; exact hd
        refine List.mem_filter.2 ⟨?_, ?_⟩
        · have := List.all_eq_true.1 hin d (List.mem_flatMap.2 ⟨c, List.mem_of_getElem? k1, hd⟩)
          simpa using this
        · rw [Bool.not_eq_true', ← Bool.not_eq_true]
          intro hcon
          obtain ⟨i, hi, hdi⟩ := List.mem_flatMap.1 (by simpa using hcon : d ∈ σ.flatMap nmOf)
          have := names_apart ndup (i := i) (j := j) hdi hdj
          subst this; exact hjs hi
      have nmOut : ∀ y ∈ fOf (j :: σ), y ∈ fOf σ ∧ y ∉ c.nm := by
        intro y hy
        obtain ⟨h1, h2⟩ := List.mem_filter.1 hy
        simp only [List.flatMap_cons, Bool.not_eq_true', List.contains_eq_mem, List.mem_append, decide_eq_false_iff_not, not_or] at h2
        refine ⟨List.mem_filter.2 ⟨h1, by simpa using h2.2⟩, ?_⟩
        have := h2.1
        simp only [nmOf, ec] at this
        exact this
      have step := k2 _ _ _ (fOf (j :: σ)) rdE rdH nmIn nmOut W0 m0 m bl hh a w S (wpAny P .any ops Qc fuel (listed.setIfInBounds j true)) Qc (by
        intro a' w' m' bl' hh' S'
        refine ih _ (j :: σ) a' w' m' bl' hh' (by simp [hsz]) (List.nodup_cons.2 ⟨hjs, hnd⟩) ?_ (by simp; omega) ?_ ?_ ?_
        · intro i
          rw [List.mem_cons, hli i, Array.getD_eq_getD_getElem?, Array.getD_eq_getD_getElem?, Array.getElem?_setIfInBounds]
          by_cases hij : j = i
          · subst hij; simp [hsz, hjl]
          · simp [hij, Ne.symm hij]
        · intro k' hk' o' ho' d hd
          rcases List.mem_cons.1 hk' with rfl | hk'
          · rw [g2] at ho'; cases ho'; exact List.mem_cons_of_mem _ (hdeps d hd)
          · exact List.mem_cons_of_mem _ (hcl k' hk' o' ho' d hd)
        · refine List.pairwise_cons.2 ⟨fun k' hk' hcf => ?_, hpw⟩
          rcases (reads k') with h1 | h1
          · exact h1.1 hk'
          · rw [conf_symm, h1] at hcf; cases hcf
        · simp only [List.flatMap_cons, List.append_assoc]
          have e1 : WE cs j = c.we := by simp only [WE, ec]
          have e2 : WH cs j = c.wh := by simp only [WH, ec]
          rw [e1, e2]; exact S')
      unfold wpOp
      rw [g2]
      simp only
      by_cases hw : Region.wanted o (yielded ops a.tmps) = true
      · rw [if_pos hw] at step ⊢; exact .inl step
      · rw [if_neg hw] at step ⊢; exact step
  refine wp_region_any hm (main ops.size _ [] ac _ m bl hh (by simp) List.nodup_nil ?_ (by simp) (by simp) .nil ?_)
  · intro i
    rw [Array.getD_eq_getD_getElem?, Array.getElem?_replicate]
    split <;> simp
  · have : fOf [] = f := by simp [fOf]
    rw [this]
    exact ⟨s.defers, s.size, s.below.drew, ⟨s.ws.imm, s.ws.le, s.ws.grow, s.ws.blk, s.ws.it, s.ws.own, s.ws.inj, s.ws.spare⟩, s.env, s.free⟩

end Go.Cx
