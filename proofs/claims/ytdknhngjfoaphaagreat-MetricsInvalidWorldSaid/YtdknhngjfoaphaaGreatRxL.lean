/-
  A region that draws its order: its operations may come in any order that their edges leave. No conditions.
-/
import Derived.Test.YtdknhngjfoaphaaGreatRxK
import Derived.Orders
set_option linter.all false
namespace Go.Rx
open Go.RowKit

theorem Sim.weaken {N W0 m0 L L' sa a w m bl} (s : Sim N W0 m0 L sa a w m bl) (he : ∀ t x, find t L'.e = some x → find t L.e = some x) (hh : ∀ t x, find t L'.h = some x → find t L.h = some x) (hf : ∀ d, L'.f d → L.f d) (hs : L'.s = L.s := by rfl) : Sim N W0 m0 L' sa a w m bl :=
  ⟨s.defers, s.size, s.below, ⟨s.ws.imm, s.ws.le, s.ws.grow, fun id l e => s.ws.blk id l (hh _ _ e), fun id x p e => s.ws.it id x p (hh _ _ e), s.ws.own, s.ws.inj⟩, fun t x e => s.env t x (he _ _ e), hs ▸ s.stk, fun d hd => s.free d (hf d hd)⟩

/-- The trace of a region in the text's order. -/
inductive TrL (P : Program) (ops : Array Oper) (N : Nat) : List Oper → Env → Hp → List Loc → Env → Hp → Prop
  | nil {e h} : TrL P ops N [] e h [] e h
  | cons {o rest e h c cs e' h'} : LEx P ops N o c → (∀ p ∈ c.re, find p.1 e = some p.2) → (∀ p ∈ c.rh, find p.1 h = some p.2) →
      TrL P ops N rest (c.we ++ e) (c.wh ++ h) cs e' h' → TrL P ops N (o :: rest) e h (c :: cs) e' h'

def depsOf (o : Oper) : List Nat := (o.after.toList.filter (Region.binds .any)).map (·.on)

def hasKey {α : Type} (t : Nat) (l : List (Nat × α)) : Bool := l.any fun p => p.1 == t
def meets {α β : Type} (a : List (Nat × α)) (b : List (Nat × β)) : Bool := a.any fun p => hasKey p.1 b
def Loc.conf (a b : Loc) : Bool :=
  meets a.we b.we || meets a.we b.re || meets b.we a.re || meets a.wh b.wh || meets a.wh b.rh || meets b.wh a.rh

def namesOf (cs : List Loc) : List Nat := cs.flatMap (·.nm)

/-- j waits for i, directly or through others. -/
inductive Anc (os : List Oper) : Nat → Nat → Prop
  | dep {j i o} : os[j]? = some o → i ∈ depsOf o → Anc os j i
  | step {j i d o} : os[j]? = some o → d ∈ depsOf o → Anc os d i → Anc os j i
theorem Anc.mem {os : List Oper} {σ : List Nat} (hcl : ∀ k ∈ σ, ∀ o, os[k]? = some o → ∀ d ∈ depsOf o, d ∈ σ) {j i} (h : Anc os j i) : (∀ o, os[j]? = some o → ∀ d ∈ depsOf o, d ∈ σ) → i ∈ σ := by
  induction h with
  | dep h1 h2 => intro k; exact k _ h1 _ h2
  | step h1 h2 _ ih => intro k; exact ih fun o ho d hd => hcl _ (k _ h1 _ h2) o ho d hd
/-- Those that it waits for, as bits. -/
def ancM (an : List (Nat × Nat)) : List Nat → Nat
  | [] => 0
  | d :: r => Nat.lor (Nat.lor (2 ^ d) (match find d an with | some m => m | none => 0)) (ancM an r)
def bitB (m i : Nat) : Bool := match Nat.land 1 (Nat.shiftRight m i) with | 0 => false | _ + 1 => true
theorem bitB_e {m i : Nat} (h : bitB m i = true) : m.testBit i = true := by
  unfold bitB at h
  rw [Nat.testBit]
  have : (1 &&& m >>> i) = Nat.land 1 (Nat.shiftRight m i) := rfl
  rw [this]
  cases hq : Nat.land 1 (Nat.shiftRight m i) with
  | zero => rw [hq] at h; cases h
  | succ n => rfl
theorem ancM_spec {os : List Oper} {an : List (Nat × Nat)} (han : ∀ j m, find j an = some m → ∀ i, m.testBit i = true → Anc os j i) {j o} (ho : os[j]? = some o) : ∀ {ds : List Nat}, (∀ d ∈ ds, d ∈ depsOf o) → ∀ {i}, (ancM an ds).testBit i = true → Anc os j i
  | [], _, i, h => by simp [ancM] at h
  | d :: r, hd, i, h => by
    have e1 : ancM an (d :: r) = (2 ^ d ||| (match find d an with | some m => m | none => 0)) ||| ancM an r := rfl
    rw [e1, Nat.testBit_or, Nat.testBit_or, Bool.or_eq_true, Bool.or_eq_true] at h
    rcases h with (h | h) | h
    · rw [Nat.testBit_two_pow] at h
      have : d = i := by simpa using h
      subst this
      exact .dep ho (hd d (by simp))
    · split at h
      · rename_i m hm
        exact .step ho (hd d (by simp)) (han d m hm i h)
      · simp at h
    · exact ancM_spec han ho (fun x hx => hd x (List.mem_cons_of_mem _ hx)) h
/-- Each operation waits for all before it that it must not be exchanged with. -/
def locOkFrom (earlier : List Loc) (an : List (Nat × Nat)) : Nat → List Oper → List Loc → Bool
  | j, o :: os, c :: cs => (depsOf o).all (· < j) && (earlier.zipIdx.all fun p => !(p.1.conf c) || bitB (ancM an (depsOf o)) p.2) && locOkFrom (earlier ++ [c]) ((j, ancM an (depsOf o)) :: an) (j + 1) os cs
  | _, _, _ => true

def nodupB : List Nat → Bool
  | [] => true
  | x :: l => !l.contains x && nodupB l

/-- find over stacked writes. -/
theorem find_append_t {α : Type} {t : Nat} : ∀ {a b : List (Nat × α)}, hasKey t a = true → find t (a ++ b) = find t a
  | [], b, h => by simp [hasKey] at h
  | (k, x) :: a, b, h => by
    rw [List.cons_append, find_cons, find_cons]
    by_cases hk : k = t
    · simp [hk]
    · rw [if_neg hk, if_neg hk]
      refine find_append_t ?_
      have hkb : (k == t) = false := by simpa using hk
      simp only [hasKey, List.any_cons, hkb, Bool.false_or] at h ⊢
      exact h
theorem find_append_f {α : Type} {t : Nat} : ∀ {a b : List (Nat × α)}, hasKey t a = false → find t (a ++ b) = find t b
  | [], b, h => rfl
  | (k, x) :: a, b, h => by
    simp only [hasKey, List.any_cons, Bool.or_eq_false_iff] at h
    rw [List.cons_append, find_cons, if_neg (by simpa using h.1)]
    exact find_append_f h.2

/-- Writers of t decide what is found. -/
theorem find_stack {α : Type} (W : Nat → List (Nat × α)) (base : List (Nat × α)) (t : Nat) : ∀ (l : List Nat), find t (l.flatMap W ++ base) = find t ((l.filter fun i => hasKey t (W i)).flatMap W ++ base)
  | [] => rfl
  | i :: l => by
    rw [List.flatMap_cons, List.append_assoc, List.filter_cons]
    by_cases h : hasKey t (W i) = true
    · rw [if_pos h, find_append_t h, List.flatMap_cons, List.append_assoc, find_append_t h]
    · rw [if_neg h, find_append_f (by simpa using h)]
      exact find_stack W base t l

theorem sorted_eq {l l' : List Nat} (h1 : l.Pairwise (· > ·)) (h2 : l'.Pairwise (· > ·)) (hm : ∀ x, x ∈ l ↔ x ∈ l') : l = l' := by
  induction l generalizing l' with
  | nil =>
    cases l' with
    | nil => rfl
    | cons y l' => have := (hm y).2 (by simp); simp at this
  | cons x l ih =>
    cases l' with
    | nil => have := (hm x).1 (by simp); simp at this
    | cons y l' =>
      obtain ⟨a1, a2⟩ := List.pairwise_cons.1 h1
      obtain ⟨b1, b2⟩ := List.pairwise_cons.1 h2
      have hxy : x = y := by
        rcases List.mem_cons.1 ((hm x).1 (by simp)) with h | h
        · exact h
        · rcases List.mem_cons.1 ((hm y).2 (by simp)) with h' | h'
          · exact h'.symm
          · have := a1 y h'; have := b1 x h; omega
      subst hxy
      congr 1
      refine ih a2 b2 fun z => ⟨fun hz => ?_, fun hz => ?_⟩
      · rcases List.mem_cons.1 ((hm z).1 (by simp [hz])) with h | h
        · subst h; have := a1 _ hz; omega
        · exact h
      · rcases List.mem_cons.1 ((hm z).2 (by simp [hz])) with h | h
        · subst h; have := b1 _ hz; omega
        · exact h

/-- the indices below n, the greatest first. -/
def downFrom : Nat → List Nat
  | 0 => []
  | n + 1 => n :: downFrom n
theorem mem_downFrom {n x : Nat} : x ∈ downFrom n ↔ x < n := by
  induction n with
  | zero => simp [downFrom]
  | succ n ih => simp only [downFrom, List.mem_cons, ih]; omega
theorem sorted_downFrom (n : Nat) : (downFrom n).Pairwise (· > ·) := by
  induction n with
  | zero => simp [downFrom]
  | succ n ih => exact List.pairwise_cons.2 ⟨fun x hx => by have := mem_downFrom.1 hx; omega, ih⟩


def noLoc : Loc := ⟨[], [], [], [], []⟩
def WE (cs : List Loc) (i : Nat) : Env := (cs.getD i noLoc).we
def WH (cs : List Loc) (i : Nat) : Hp := (cs.getD i noLoc).wh

theorem downFrom_succ (n : Nat) : downFrom (n + 1) = (downFrom n).map (· + 1) ++ [0] := by
  induction n with
  | zero => rfl
  | succ n ih =>
    show (n + 1) :: downFrom (n + 1) = (n + 1) :: ((downFrom n).map (· + 1)) ++ [0]
    rw [ih]; rfl

theorem stack_cons {α : Type} (W : Nat → List (Nat × α)) (n : Nat) (base : List (Nat × α)) : (downFrom (n + 1)).flatMap W ++ base = (downFrom n).flatMap (fun i => W (i + 1)) ++ (W 0 ++ base) := by
  rw [downFrom_succ]
  simp [List.flatMap_append, List.flatMap_map]

theorem TrL.at {P ops N os e h cs e' h'} (t : TrL P ops N os e h cs e' h') : cs.length = os.length ∧
    (∀ j o, os[j]? = some o → ∃ c, cs[j]? = some c ∧ LEx P ops N o c ∧ (∀ p ∈ c.re, find p.1 ((downFrom j).flatMap (WE cs) ++ e) = some p.2) ∧ (∀ p ∈ c.rh, find p.1 ((downFrom j).flatMap (WH cs) ++ h) = some p.2)) ∧
    e' = (downFrom os.length).flatMap (WE cs) ++ e ∧ h' = (downFrom os.length).flatMap (WH cs) ++ h := by
  induction t with
  | nil => simp [downFrom]
  | @cons o rest e h c cs e' h' hl hre hrh _ ih =>
    obtain ⟨i1, i2, i3, i4⟩ := ih
    refine ⟨by simp [i1], ?_, ?_, ?_⟩
    · intro j o' hj
      cases j with
      | zero =>
        simp at hj; subst hj
        exact ⟨c, rfl, hl, by simpa [downFrom] using hre, by simpa [downFrom] using hrh⟩
      | succ j =>
        obtain ⟨c', k1, k2, k3, k4⟩ := i2 j o' (by simpa using hj)
        refine ⟨c', by simpa using k1, k2, fun p hp => ?_, fun p hp => ?_⟩
        · rw [stack_cons]; exact k3 p hp
        · rw [stack_cons]; exact k4 p hp
    · rw [i3, List.length_cons, stack_cons]; rfl
    · rw [i4, List.length_cons, stack_cons]; rfl

theorem locOk_spec (all : List Oper) : ∀ (earlier : List Loc) (an : List (Nat × Nat)) (os : List Oper) (cs : List Loc), (∀ k, os[k]? = all[earlier.length + k]?) → (∀ j m, find j an = some m → ∀ i, m.testBit i = true → Anc all j i) →
    locOkFrom earlier an earlier.length os cs = true → ∀ j o c, os[j]? = some o → cs[j]? = some c →
    (∀ d ∈ depsOf o, d < earlier.length + j) ∧ (∀ i c', (earlier ++ cs)[i]? = some c' → i < earlier.length + j → c'.conf c = true → Anc all (earlier.length + j) i)
  | earlier, an, [], cs, _, _, _, j, o, c, ho, _ => by simp at ho
  | earlier, an, o' :: os, [], _, _, _, j, o, c, _, hc => by simp at hc
  | earlier, an, o' :: os, c' :: cs, hall, han, h, j, o, c, ho, hc => by
    simp only [locOkFrom, Bool.and_eq_true] at h
    obtain ⟨⟨h1, h2⟩, h3⟩ := h
    have ho' : all[earlier.length]? = some o' := by have := hall 0; simpa using this.symm
    cases j with
    | zero =>
      simp at ho hc; subst ho hc
      refine ⟨fun d hd => by have := List.all_eq_true.1 h1 d hd; simpa using this, fun i c2 hi hlt hconf => ?_⟩
      rw [List.getElem?_append_left (by omega)] at hi
      have := List.all_eq_true.1 h2 (c2, i) (by rw [List.mem_iff_getElem?]; exact ⟨i, by simp [hi]⟩)
      simp only [hconf, Bool.not_true, Bool.false_or] at this
      exact ancM_spec han ho' (fun d hd => hd) (bitB_e this)
    | succ j =>
      have hlen : (earlier ++ [c']).length = earlier.length + 1 := by simp
      have := locOk_spec all (earlier ++ [c']) ((earlier.length, ancM an (depsOf o')) :: an) os cs (by
          intro k
          have := hall (k + 1)
          rw [hlen, show earlier.length + 1 + k = earlier.length + (k + 1) by omega, ← this]; rfl)
        (by
          intro j m hm i hi
          rw [find_cons] at hm
          split at hm
          · rename_i he; cases hm; subst he
            exact ancM_spec han ho' (fun d hd => hd) hi
          · exact han j m hm i hi) (by rw [hlen]; exact h3) j o c (by simpa using ho) (by simpa using hc)
      rw [hlen, List.append_assoc] at this
      refine ⟨fun d hd => by have := this.1 d hd; omega, fun i c2 hi hlt hconf => ?_⟩
      have := this.2 i c2 hi (by omega) hconf
      rwa [show earlier.length + 1 + j = earlier.length + (j + 1) by omega] at this

theorem nodupB_spec : ∀ {l : List Nat}, nodupB l = true → l.Nodup
  | [], _ => List.nodup_nil
  | x :: l, h => by
    simp only [nodupB, Bool.and_eq_true] at h
    exact List.nodup_cons.2 ⟨by simpa using h.1, nodupB_spec h.2⟩

theorem meets_of {α β : Type} {a : List (Nat × α)} {b : List (Nat × β)} {t : Nat} (ha : hasKey t a = true) (hb : hasKey t b = true) : meets a b = true := by
  obtain ⟨p, hp, hpt⟩ := List.any_eq_true.1 ha
  refine List.any_eq_true.2 ⟨p, hp, ?_⟩
  have : p.1 = t := by simpa using hpt
  rw [this]; exact hb

theorem hasKey_of_mem {α : Type} {l : List (Nat × α)} {p : Nat × α} (h : p ∈ l) : hasKey p.1 l = true := List.any_eq_true.2 ⟨p, h, by simp⟩


theorem agree_find {α : Type} (W : Nat → List (Nat × α)) (base : List (Nat × α)) (t : Nat) (σ : List Nat) (n : Nat) (hs : σ.Pairwise fun i j => hasKey t (W i) = true → hasKey t (W j) = true → i > j)
    (hm : ∀ i, hasKey t (W i) = true → (i ∈ σ ↔ i < n)) : find t (σ.flatMap W ++ base) = find t ((downFrom n).flatMap W ++ base) := by
  rw [find_stack W base t σ, find_stack W base t (downFrom n)]
  congr 3
  refine sorted_eq ?_ ((sorted_downFrom n).filter _) ?_
  · refine (hs.filter _).imp_of_mem ?_
    intro a b ha hb h
    exact h (List.mem_filter.1 ha).2 (List.mem_filter.1 hb).2
  · intro x
    rw [List.mem_filter, List.mem_filter, mem_downFrom]
    constructor
    · rintro ⟨h1, h2⟩; exact ⟨(hm x h2).1 h1, h2⟩
    · rintro ⟨h1, h2⟩; exact ⟨(hm x h2).2 h1, h2⟩

theorem names_apart : ∀ {cs : List Loc}, (namesOf cs).Nodup → ∀ {i j d}, d ∈ (cs.getD i noLoc).nm → d ∈ (cs.getD j noLoc).nm → i = j
  | [], _, i, j, d, hi, _ => by simp [noLoc] at hi
  | c :: cs, h, i, j, d, hi, hj => by
    have h' : (c.nm ++ namesOf cs).Nodup := h
    obtain ⟨h1, h2, h3⟩ := List.nodup_append.1 h'
    have mem : ∀ k, d ∈ (cs.getD k noLoc).nm → d ∈ namesOf cs := by
      intro k hk
      rcases Nat.lt_or_ge k cs.length with hlt | hge
      · refine List.mem_flatMap.2 ⟨cs[k], List.getElem_mem hlt, ?_⟩
        simpa [List.getD, List.getElem?_eq_getElem hlt] using hk
      · simp [List.getD, List.getElem?_eq_none hge, noLoc] at hk
    cases i with
    | zero =>
      cases j with
      | zero => rfl
      | succ j => exact absurd rfl (h3 d (by simpa using hi) d (mem j (by simpa using hj)))
    | succ i =>
      cases j with
      | zero => exact absurd rfl (h3 d (by simpa using hj) d (mem i (by simpa using hi)))
      | succ j => exact congrArg (· + 1) (names_apart h2 (i := i) (j := j) (d := d) (by simpa using hi) (by simpa using hj))

theorem len_le : ∀ {n : Nat} {l : List Nat}, l.Nodup → (∀ x ∈ l, x < n) → l.length ≤ n
  | 0, l, _, h => by
    cases l with
    | nil => simp
    | cons x l => have := h x (by simp); omega
  | n + 1, l, nd, h => by
    by_cases hn : n ∈ l
    · have h1 := len_le (n := n) (nd.erase n) (fun x hx => by
        have := (List.Nodup.mem_erase_iff nd).1 hx
        have := h x this.2
        omega)
      have := List.length_erase_of_mem hn
      omega
    · have := len_le (n := n) nd (fun x hx => by
        have := h x hx
        have : x ≠ n := by rintro rfl; exact hn hx
        omega)
      omega

theorem key_lt {α : Type} {cs : List Loc} {t i : Nat} {g : Loc → List (Nat × α)} (hg : g noLoc = []) (h : hasKey t (g (cs.getD i noLoc)) = true) : i < cs.length := by
  rcases Nat.lt_or_ge i cs.length with hlt | hge
  · exact hlt
  · simp only [List.getD, List.getElem?_eq_none hge, Option.getD_none, hg] at h
    simp [hasKey] at h

/-- From place n0 on each operation waits for all before it. -/
def barGo (n0 : Nat) : Nat → List (Nat × Nat) → List Oper → Bool
  | _, _, [] => true
  | j, an, o :: os => (depsOf o).all (fun d => Nat.blt d j) && ((Nat.blt j n0 || Nat.beq (Nat.land (ancM an (depsOf o)) (2 ^ j - 1)) (2 ^ j - 1)) && barGo n0 (j + 1) ((j, ancM an (depsOf o)) :: an) os)
def barOk (ops : Array Oper) (n0 : Nat) : Bool := barGo n0 0 [] ops.toList
theorem barGo_spec {n0 : Nat} (all : List Oper) : ∀ {os : List Oper} {j0 an}, (∀ k, os[k]? = all[j0 + k]?) → (∀ j m, find j an = some m → ∀ i, m.testBit i = true → Anc all j i) → barGo n0 j0 an os = true →
    ∀ j o, os[j]? = some o → (∀ d ∈ depsOf o, d < j0 + j) ∧ (n0 ≤ j0 + j → ∀ i, i < j0 + j → Anc all (j0 + j) i)
  | [], j0, an, _, _, _, j, o, ho => by simp at ho
  | o' :: os, j0, an, hall, han, h, j, o, ho => by
    simp only [barGo, Bool.and_eq_true] at h
    obtain ⟨h1, h2, h3⟩ := h
    have ho' : all[j0]? = some o' := by have := hall 0; simpa using this.symm
    cases j with
    | zero =>
      simp at ho; subst ho
      refine ⟨fun d hd => by have := List.all_eq_true.1 h1 d hd; exact Nat.le_of_ble_eq_true this, fun hn i hi => ?_⟩
      have hi : i < j0 := hi
      simp only [Bool.or_eq_true] at h2
      rcases h2 with h2 | h2
      · have : j0 < n0 := Nat.le_of_ble_eq_true h2
        have hn : n0 ≤ j0 := hn
        omega
      · have h2 := Nat.eq_of_beq_eq_true h2
        have e1 : (ancM an (depsOf o') &&& (2 ^ j0 - 1)).testBit i = (2 ^ j0 - 1).testBit i := congrArg (fun m => m.testBit i) h2
        rw [Nat.testBit_and, Nat.testBit_two_pow_sub_one] at e1
        simp only [hi, decide_true, Bool.and_true] at e1
        exact ancM_spec han ho' (fun d hd => hd) e1
    | succ j =>
      have := barGo_spec all (os := os) (j0 := j0 + 1) (an := (j0, ancM an (depsOf o')) :: an) (by
          intro k
          have := hall (k + 1)
          rw [show j0 + 1 + k = j0 + (k + 1) by omega, ← this]; rfl)
        (by
          intro j m hm i hi
          rw [find_cons] at hm
          split at hm
          · rename_i he; cases hm; subst he
            exact ancM_spec han ho' (fun d hd => hd) hi
          · exact han j m hm i hi) h3 j o (by simpa using ho)
      rwa [show j0 + 1 + j = j0 + (j + 1) by omega] at this

theorem len_ge : ∀ {n : Nat} {l : List Nat}, (∀ i, i < n → i ∈ l) → n ≤ l.length
  | 0, _, _ => Nat.zero_le _
  | n + 1, l, h => by
    have h1 := len_ge (n := n) (l := l.erase n) (fun i hi => (List.mem_erase_of_ne (by omega)).2 (h i (by omega)))
    have h2 := List.length_erase_of_mem (h n (by omega))
    have h3 : 0 < l.length := List.length_pos_of_mem (h n (by omega))
    omega

theorem Anc.memP {os : List Oper} {S : Nat → Prop} (hcl : ∀ k, S k → ∀ o, os[k]? = some o → ∀ d ∈ depsOf o, S d) {j i} (h : Anc os j i) : (∀ o, os[j]? = some o → ∀ d ∈ depsOf o, S d) → S i := by
  induction h with
  | dep h1 h2 => intro k; exact k _ h1 _ h2
  | step h1 h2 _ ih => intro k; exact ih fun o ho d hd => hcl _ (k _ h1 _ h2) o ho d hd
theorem Wp.draw2 {P : Program} {N id : Nat} {ops : Array Oper} {Q : AExit → LS → Prop} {e e' : Env} {h h' : Hp} {f f' : Nat → Prop} {st : List Env} {cs : List Loc} {A B : List Oper} (hm : P.follows .mixedOrders = true) (hAB : ops.toList = A ++ B)
    (bar : barOk ops A.length = true) (tr : TrL P ops N A e h cs e' h') (ok : locOkFrom [] [] 0 A cs = true) (hn : nodupB (namesOf cs) = true) (hin : ∀ d ∈ namesOf cs, f d)
    (hf : ∀ y, f' y → f y ∧ y ∉ namesOf cs) (hq : GoT P ops N B (Q .normal) ⟨e', st, h', f'⟩) : Wp P N (.region id ops true) Q ⟨e, st, h, f⟩ := by
  intro W0 m0 sa m bl ac w s Qc hc
  obtain ⟨t1, t2, t3, t4⟩ := tr.at
  have hsz0 : ops.size = A.length + B.length := by rw [← Array.length_toList, hAB, List.length_append]
  have opA : ∀ j, j < A.length → ops[j]? = A[j]? := by
    intro j hj
    rw [← Array.getElem?_toList, hAB, List.getElem?_append_left hj]
  generalize hn0 : A.length = n0 at t1 t3 t4 bar hsz0 opA
  -- what is known of each operation
  have fact : ∀ j o, j < n0 → ops[j]? = some o → ∃ c, cs[j]? = some c ∧ LEx P ops N o c ∧ (∀ p ∈ c.re, find p.1 ((downFrom j).flatMap (WE cs) ++ e) = some p.2) ∧ (∀ p ∈ c.rh, find p.1 ((downFrom j).flatMap (WH cs) ++ h) = some p.2) ∧
      (∀ d ∈ depsOf o, d < j) ∧ (∀ i c', cs[i]? = some c' → i < j → c'.conf c = true → Anc A j i) := by
    intro j o hj ho
    rw [opA j hj] at ho
    obtain ⟨c, k1, k2, k3, k4⟩ := t2 j o ho
    have := locOk_spec A [] [] A cs (by intro k; simp) (by intro j m hm; simp [find] at hm) (by simpa using ok) j o c ho k1
    simp only [List.length_nil, Nat.zero_add, List.nil_append] at this
    exact ⟨c, k1, k2, k3, k4, this.1, this.2⟩
  have ndup := nodupB_spec hn
  -- the invariant
  let nmOf : Nat → List Nat := fun i => (cs.getD i noLoc).nm
  let fOf : List Nat → Nat → Prop := fun σ y => f y ∧ y ∉ σ.flatMap nmOf
  let conf : Nat → Nat → Bool := fun i j => (cs.getD i noLoc).conf (cs.getD j noLoc)
  have conf_symm : ∀ i j, conf i j = conf j i := by
    intro i j
    have m2 : ∀ {α : Type} (a b : List (Nat × α)), meets a b = meets b a := by
      intro α a b
      rw [Bool.eq_iff_iff]
      constructor <;> intro hh <;>
      · obtain ⟨p, hp, hq⟩ := List.any_eq_true.1 hh
        obtain ⟨q, hq1, hq2⟩ := List.any_eq_true.1 hq
        exact List.any_eq_true.2 ⟨q, hq1, by have : q.1 = p.1 := by simpa using hq2
                                             rw [this]; exact hasKey_of_mem hp⟩
    simp only [conf, Loc.conf]
    rw [m2 (cs.getD i noLoc).we (cs.getD j noLoc).we, m2 (cs.getD i noLoc).wh (cs.getD j noLoc).wh]
    cases meets (cs.getD j noLoc).we (cs.getD i noLoc).we <;> cases meets (cs.getD i noLoc).we (cs.getD j noLoc).re <;> cases meets (cs.getD j noLoc).we (cs.getD i noLoc).re <;>
      cases meets (cs.getD j noLoc).wh (cs.getD i noLoc).wh <;> cases meets (cs.getD i noLoc).wh (cs.getD j noLoc).rh <;> cases meets (cs.getD j noLoc).wh (cs.getD i noLoc).rh <;> rfl
  have atCs : ∀ i c, cs[i]? = some c → cs.getD i noLoc = c := by intro i c hi; simp [List.getD, hi]
  have cslt : ∀ i, i < cs.length → ∃ o, ops[i]? = some o := by
    intro i hi; rw [t1] at hi; exact ⟨ops[i]'(by omega), by simp [show i < ops.size by omega]⟩
  have later : ∀ i j, i < j → j < cs.length → conf i j = true → ∀ o, ops[j]? = some o → Anc A j i := by
    intro i j hij hj hcf o ho
    obtain ⟨c, k1, -, -, -, -, k6⟩ := fact j o (by omega) ho
    have hi : i < cs.length := by omega
    refine k6 i cs[i] (List.getElem?_eq_getElem hi) hij ?_
    have e1 := atCs i cs[i] (List.getElem?_eq_getElem hi)
    have e2 := atCs j c k1
    simp only [conf, e1, e2] at hcf
    exact hcf
  have ancAll : ∀ listed : Array Bool, (∀ k, listed.getD k false = true → ∀ o, ops[k]? = some o → ∀ d ∈ depsOf o, listed.getD d false = true) → ∀ j o, n0 ≤ j → ops[j]? = some o →
      (∀ d ∈ depsOf o, listed.getD d false = true) → ∀ i, i < j → listed.getD i false = true := by
    intro listed hcl j o hj ho hd i hi
    have hjl : j < ops.size := by
      rcases Nat.lt_or_ge j ops.size with h | h
      · exact h
      · simp [Array.getElem?_eq_none h] at ho
    have h1 := (barGo_spec (n0 := n0) ops.toList (os := ops.toList) (j0 := 0) (an := []) (by intro k; simp) (by intro j m hm; simp [find] at hm) bar j o (by simpa using ho)).2
    rw [Nat.zero_add] at h1
    exact Anc.memP (S := fun k => listed.getD k false = true) (fun k hk o ho d hd => hcl k hk o (by simpa using ho) d hd) (h1 hj i hi) (fun o' ho' d' hd' => by rw [show ops.toList[j]? = ops[j]? by simp, ho] at ho'; cases ho'; exact hd d' hd')
  have dltAll : ∀ j o, ops[j]? = some o → ∀ d ∈ depsOf o, d < j := by
    intro j o ho d hd
    have hjl : j < ops.size := by
      rcases Nat.lt_or_ge j ops.size with h | h
      · exact h
      · simp [Array.getElem?_eq_none h] at ho
    have h1 := (barGo_spec (n0 := n0) ops.toList (os := ops.toList) (j0 := 0) (an := []) (by intro k; simp) (by intro j m hm; simp [find] at hm) bar j o (by simpa using ho)).1 d hd
    simpa using h1
  -- from n0 on in the text's order
  have seq : ∀ (fuel k : Nat) (listed : Array Bool) (a : Act) (w : World), listed.size = ops.size → (∀ i, listed.getD i false = true ↔ i < k) → n0 ≤ k → k + fuel = ops.size →
      (∀ j o, ops[j]? = some o → ∀ d ∈ depsOf o, d < j) → wpList P ops Qc (ops.toList.drop k) a w → wpAny P .any ops Qc fuel listed a w := by
    intro fuel
    induction fuel with
    | zero =>
      intro k listed a w hsz hl hk hkf dlt hw
      have hr : Region.ready .any ops listed = [] := by
        refine List.eq_nil_iff_forall_not_mem.2 fun j hj => ?_
        obtain ⟨g1, o, g2, g3⟩ := mem_ready.1 hj
        have hjl : j < ops.size := by
          rcases Nat.lt_or_ge j ops.size with h | h
          · exact h
          · simp [Array.getElem?_eq_none h] at g2
        have := (hl j).2 (by omega)
        rw [Array.getD_eq_getD_getElem?] at g1 this
        simp [hsz, hjl] at g1 this
        rw [g1] at this; cases this
      refine ⟨hr, ?_⟩
      rw [List.drop_of_length_le (by simp; omega)] at hw
      exact hw
    | succ fuel ih =>
      intro k listed a w hsz hl hk hkf dlt hw
      have hks : k < ops.size := by omega
      have hok : ops[k]? = some (ops[k]'hks) := by simp [hks]
      refine ⟨fun hr => ?_, fun j hj => ?_⟩
      · exfalso
        have : k ∈ Region.ready .any ops listed := by
          refine mem_ready.2 ⟨?_, _, hok, fun ed hed hb => ?_⟩
          · rw [Array.getD_eq_getD_getElem?]
            have h1 : ¬ listed.getD k false = true := by rw [hl]; omega
            rw [Array.getD_eq_getD_getElem?] at h1
            simp [hsz, hks] at h1 ⊢
            exact h1
          · exact (hl _).2 (dlt k _ hok _ (List.mem_map.2 ⟨ed, List.mem_filter.2 ⟨by simpa using hed, hb⟩, rfl⟩))
        rw [hr] at this; simp at this
      · obtain ⟨g1, o, g2, g3⟩ := mem_ready.1 hj
        have hjl : j < ops.size := by
          rcases Nat.lt_or_ge j ops.size with h | h
          · exact h
          · simp [Array.getElem?_eq_none h] at g2
        have hjn : ¬ j < k := by
          intro hjk
          have := (hl j).2 hjk
          rw [Array.getD_eq_getD_getElem?] at g1 this
          simp [hsz, hjl] at g1 this
          rw [g1] at this; cases this
        have hdl : ∀ d ∈ depsOf o, listed.getD d false = true := by
          intro d hd
          obtain ⟨ed, hed, rfl⟩ := List.mem_map.1 hd
          obtain ⟨h1, h2⟩ := List.mem_filter.1 hed
          exact g3 ed (by simpa using h1) h2
        have hjk : j = k := by
          rcases Nat.lt_or_ge k j with h | h
          · have := ancAll listed (fun k' hk' o' ho' d hd => (hl d).2 (by have := (hl k').1 hk'; have := dlt k' o' ho' d hd; omega)) j o (by omega) g2 hdl k h
            have := (hl k).1 this; omega
          · omega
        subst hjk
        have hcons : ops.toList.drop j = o :: ops.toList.drop (j + 1) := by
          rw [List.drop_eq_getElem_cons (by simpa using hks)]
          congr 1
          rw [hok] at g2; simpa using g2
        rw [hcons] at hw
        unfold wpOp
        rw [g2]
        simp only [wpList] at hw ⊢
        have nxt : ∀ a w, wpList P ops Qc (ops.toList.drop (j + 1)) a w → wpAny P .any ops Qc fuel (listed.setIfInBounds j true) a w := by
          intro a w hw'
          refine ih (j + 1) _ a w (by simp [hsz]) ?_ (by omega) (by omega) dlt hw'
          intro i
          rw [Array.getD_eq_getD_getElem?, Array.getElem?_setIfInBounds]
          by_cases hij : j = i
          · subst hij; simp [hsz, hjl]
          · have := hl i
            rw [Array.getD_eq_getD_getElem?] at this
            simp only [hij, if_false, this]; omega
        split
        · rename_i hw1
          rw [if_pos hw1] at hw
          rcases hw with hw | hw
          · exact .inl (Oper.wp_mono nxt hw)
          · exact .inr hw
        · rename_i hw1
          rw [if_neg hw1] at hw
          exact nxt _ _ hw
  have readyAll : ∀ listed : Array Bool, listed.size = ops.size → (∀ i, i ∉ Region.ready .any ops listed) → ∀ j, j < n0 → listed.getD j false = true := by
    intro listed hsz hr j
    induction j using Nat.strongRecOn with
    | _ j ih =>
      intro hj
      rcases Bool.eq_false_or_eq_true (listed.getD j false) with h1 | h1
      · exact h1
      · exfalso
        obtain ⟨o, ho⟩ : ∃ o, ops[j]? = some o := ⟨ops[j]'(by omega), by simp [show j < ops.size by omega]⟩
        obtain ⟨c, k1, k2, k3, k4, k5, k6⟩ := fact j o hj ho
        have hs : j < listed.size := by omega
        refine hr j (mem_ready.2 ⟨?_, o, ho, ?_⟩)
        · rw [Array.getD_eq_getD_getElem?] at h1 ⊢; simpa [hs] using h1
        · intro ed hed hb
          have hd : ed.on ∈ depsOf o := List.mem_map.2 ⟨ed, List.mem_filter.2 ⟨by simpa using hed, hb⟩, rfl⟩
          exact ih ed.on (k5 _ hd) (by have := k5 _ hd; omega)
  have main : ∀ (fuel : Nat) (listed : Array Bool) (σ : List Nat) (a : Act) (w : World) (m : Mem) (bl : Names), listed.size = ops.size → σ.Nodup → (∀ i, i ∈ σ ↔ listed.getD i false = true) → (∀ i ∈ σ, i < n0) → σ.length + fuel = ops.size →
      (∀ k ∈ σ, ∀ o, ops[k]? = some o → ∀ d ∈ depsOf o, d ∈ σ) → σ.Pairwise (fun i j => conf i j = true → i > j) →
      Sim N W0 m0 ⟨σ.flatMap (WE cs) ++ e, st, σ.flatMap (WH cs) ++ h, fOf σ⟩ sa a w m bl → wpAny P .any ops Qc fuel listed a w := by
    -- where the first part has been carried out
    have fin : ∀ (fuel : Nat) (listed : Array Bool) (σ : List Nat) (a : Act) (w : World) (m : Mem) (bl : Names), listed.size = ops.size → (∀ i, i ∈ σ ↔ listed.getD i false = true) → (∀ i ∈ σ, i < n0) → σ.Nodup → σ.length + fuel = ops.size →
        σ.Pairwise (fun i j => conf i j = true → i > j) → Sim N W0 m0 ⟨σ.flatMap (WE cs) ++ e, st, σ.flatMap (WH cs) ++ h, fOf σ⟩ sa a w m bl → (∀ i, i < n0 → i ∈ σ) → wpAny P .any ops Qc fuel listed a w := by
      intro fuel listed σ a w m bl hsz hli hlt hnd hlen hpw S hall
      have hσ : σ.length = n0 := by
        have h1 := len_le hnd hlt
        have h2 := len_ge hall
        omega
      refine seq fuel n0 listed a w hsz (fun i => ?_) (Nat.le_refl _) (by omega) dltAll ?_
      · rw [← hli]; exact ⟨fun h => hlt i h, fun h => hall i h⟩
      rw [hAB, List.drop_left' hn0]
      refine hq _ _ _ _ _ _ _ (S.weaken ?_ ?_ ?_) _ fun L' a' w' m' bl' q s' => hc .normal _ _ _ _ _ q s'
      · intro t x hx
        rw [t3] at hx
        rw [← hx]
        refine agree_find (WE cs) e t σ n0 ?_ ?_
        · exact hpw.imp fun hij h1 h2 => hij (by simp only [conf, Loc.conf]; rw [meets_of (a := (cs.getD _ noLoc).we) (b := (cs.getD _ noLoc).we) h1 h2]; simp)
        · intro i hi
          have := key_lt (g := Loc.we) rfl hi
          exact ⟨fun _ => by omega, fun hlt => hall i hlt⟩
      · intro t x hx
        rw [t4] at hx
        rw [← hx]
        refine agree_find (WH cs) h t σ n0 ?_ ?_
        · exact hpw.imp fun hij h1 h2 => hij (by simp only [conf, Loc.conf]; rw [meets_of (a := (cs.getD _ noLoc).wh) (b := (cs.getD _ noLoc).wh) h1 h2]; simp)
        · intro i hi
          have := key_lt (g := Loc.wh) rfl hi
          exact ⟨fun _ => by omega, fun hlt => hall i hlt⟩
      · intro d hd
        obtain ⟨hf1, hf2⟩ := hf d hd
        refine ⟨hf1, fun hcon => hf2 ?_⟩
        obtain ⟨i, hi, hdi⟩ := List.mem_flatMap.1 hcon
        rcases Nat.lt_or_ge i cs.length with hlt | hge
        · refine List.mem_flatMap.2 ⟨cs[i], List.getElem_mem hlt, ?_⟩
          simpa [nmOf, List.getD, List.getElem?_eq_getElem hlt] using hdi
        · simp [nmOf, List.getD, List.getElem?_eq_none hge, noLoc] at hdi
    intro fuel
    induction fuel with
    | zero =>
      intro listed σ a w m bl hsz hnd hli hlt hlen hcl hpw S
      refine fin 0 listed σ a w m bl hsz hli hlt hnd hlen hpw S ?_
      intro i hi
      refine Decidable.byContradiction fun hn' => ?_
      have hl1 := len_le (n := n0) (l := i :: σ) (List.nodup_cons.2 ⟨hn', hnd⟩) (by
        intro x hx
        rcases List.mem_cons.1 hx with rfl | hx
        · exact hi
        · exact hlt x hx)
      simp at hl1; omega
    | succ fuel ih =>
      intro listed σ a w m bl hsz hnd hli hlt hlen hcl hpw S
      by_cases hall : ∀ i, i < n0 → i ∈ σ
      · exact fin (fuel + 1) listed σ a w m bl hsz hli hlt hnd hlen hpw S hall
      refine ⟨fun hr => absurd (fun i hi => (hli i).2 (readyAll listed hsz (by simp [hr]) i hi)) hall, fun j hj => ?_⟩
      obtain ⟨g1, o, g2, g3⟩ := mem_ready.1 hj
      have hjl : j < ops.size := by
        rcases Nat.lt_or_ge j ops.size with h | h
        · exact h
        · simp [Array.getElem?_eq_none h] at g2
      have hjs : j ∉ σ := by
        intro hjs
        have := (hli j).1 hjs
        rw [Array.getD_eq_getD_getElem?] at g1 this
        simp [hsz, hjl] at g1 this
        rw [g1] at this; cases this
      have hdeps : ∀ d ∈ depsOf o, d ∈ σ := by
        intro d hd
        obtain ⟨ed, hed, rfl⟩ := List.mem_map.1 hd
        obtain ⟨h1, h2⟩ := List.mem_filter.1 hed
        exact (hli _).2 (g3 ed (by simpa using h1) h2)
      have hjn : j < n0 := by
        rcases Nat.lt_or_ge j n0 with h | h
        · exact h
        · exact absurd (fun i hi => (hli i).2 (ancAll listed (fun k hk o ho d hd => (hli d).1 (hcl k ((hli k).2 hk) o ho d hd)) j o h g2 (fun d hd => (hli d).1 (hdeps d hd)) i (by omega))) hall
      obtain ⟨c, k1, k2, k3, k4, k5, k6⟩ := fact j o hjn g2
      have ec := atCs j c k1
      have jcs : j < cs.length := by omega
      -- who writes what j reads
      have reads : ∀ i, (i ∈ σ ↔ i < j) ∨ conf i j = false := by
        intro i
        rcases Bool.eq_false_or_eq_true (conf i j) with hcf | hcf
        · have hclA : ∀ k ∈ σ, ∀ o, A[k]? = some o → ∀ d ∈ depsOf o, d ∈ σ := fun k hk o ho d hd => hcl k hk o (by rw [opA k (hlt k hk)]; exact ho) d hd
          refine .inl ⟨fun hi => ?_, fun hi => (later i j hi jcs hcf o g2).mem hclA (fun o' ho' d hd => by rw [← opA j hjn] at ho'; rw [g2] at ho'; cases ho'; exact hdeps d hd)⟩
          rcases Nat.lt_trichotomy i j with h | h | h
          · exact h
          · subst h; exact absurd hi hjs
          · have hil : i < cs.length := by
              rcases Nat.lt_or_ge i cs.length with h | h'
              · exact h
              · simp only [conf, List.getD, List.getElem?_eq_none h', Option.getD_none] at hcf
                simp [noLoc, Loc.conf, meets, hasKey] at hcf
            obtain ⟨o', ho'⟩ := cslt i hil
            have := later j i h hil (by rw [conf_symm]; exact hcf) o' ho'
            exact absurd (this.mem hclA (fun o2 ho2 d hd => hcl i hi o2 (by rw [opA i (hlt i hi)]; exact ho2) d hd)) hjs
        · exact .inr hcf
      have rdE : ∀ p ∈ c.re, find p.1 (σ.flatMap (WE cs) ++ e) = some p.2 := by
        intro p hp
        rw [← k3 p hp]
        refine agree_find (WE cs) e p.1 σ j ?_ ?_
        · exact hpw.imp fun hij h1 h2 => hij (by simp only [conf, Loc.conf]; rw [meets_of (a := (cs.getD _ noLoc).we) (b := (cs.getD _ noLoc).we) h1 h2]; simp)
        · intro i hi
          refine (reads i).resolve_right ?_
          simp only [conf, Loc.conf, ec]
          have : meets (cs.getD i noLoc).we c.re = true := meets_of (t := p.1) hi (hasKey_of_mem hp)
          rw [this]; simp
      have rdH : ∀ p ∈ c.rh, find p.1 (σ.flatMap (WH cs) ++ h) = some p.2 := by
        intro p hp
        rw [← k4 p hp]
        refine agree_find (WH cs) h p.1 σ j ?_ ?_
        · exact hpw.imp fun hij h1 h2 => hij (by simp only [conf, Loc.conf]; rw [meets_of (a := (cs.getD _ noLoc).wh) (b := (cs.getD _ noLoc).wh) h1 h2]; simp)
        · intro i hi
          refine (reads i).resolve_right ?_
          simp only [conf, Loc.conf, ec]
          have : meets (cs.getD i noLoc).wh c.rh = true := meets_of (t := p.1) hi (hasKey_of_mem hp)
          rw [this]; simp
      have nmIn : ∀ d ∈ c.nm, fOf σ d := by
        intro d hd
        have hdj : d ∈ (cs.getD j noLoc).nm := by rw [ec]; exact hd
        refine ⟨hin d (List.mem_flatMap.2 ⟨c, List.mem_of_getElem? k1, hd⟩), fun hcon => ?_⟩
        obtain ⟨i, hi, hdi⟩ := List.mem_flatMap.1 hcon
        have := names_apart ndup (i := i) (j := j) hdi hdj
        subst this; exact hjs hi
      have nmOut : ∀ y, fOf (j :: σ) y → fOf σ y ∧ y ∉ c.nm := by
        rintro y ⟨h1, h2⟩
        rw [List.flatMap_cons, List.mem_append, not_or] at h2
        refine ⟨⟨h1, h2.2⟩, ?_⟩
        have := h2.1
        simp only [nmOf, ec] at this
        exact this
      have step := k2 _ _ _ _ (fOf (j :: σ)) rdE rdH nmIn nmOut W0 m0 sa m bl a w S (wpAny P .any ops Qc fuel (listed.setIfInBounds j true)) Qc (by
        intro a' w' m' bl' S'
        refine ih _ (j :: σ) a' w' m' bl' (by simp [hsz]) (List.nodup_cons.2 ⟨hjs, hnd⟩) ?_ (by intro x hx; rcases List.mem_cons.1 hx with rfl | hx; exact hjn; exact hlt x hx) (by simp; omega) ?_ ?_ ?_
        · intro i
          rw [List.mem_cons, hli i, Array.getD_eq_getD_getElem?, Array.getD_eq_getD_getElem?, Array.getElem?_setIfInBounds]
          by_cases hij : j = i
          · subst hij; simp [hsz, hjl]
          · simp [hij, Ne.symm hij]
        · intro k' hk' o' ho' d hd
          rcases List.mem_cons.1 hk' with rfl | hk'
          · rw [g2] at ho'; cases ho'; exact List.mem_cons_of_mem _ (hdeps d hd)
          · exact List.mem_cons_of_mem _ (hcl k' hk' o' ho' d hd)
        · refine List.pairwise_cons.2 ⟨fun k' hk' hcf => ?_, hpw⟩
          rcases (reads k') with h1 | h1
          · exact h1.1 hk'
          · rw [conf_symm, h1] at hcf; cases hcf
        · simp only [List.flatMap_cons, List.append_assoc]
          have e1 : WE cs j = c.we := by simp only [WE, ec]
          have e2 : WH cs j = c.wh := by simp only [WH, ec]
          rw [e1, e2]; exact S')
      unfold wpOp
      rw [g2]
      simp only
      by_cases hw : Region.wanted o (yielded ops a.tmps) = true
      · rw [if_pos hw] at step ⊢; exact .inl step
      · rw [if_neg hw] at step ⊢; exact step
  refine wp_region_any hm (main ops.size _ [] ac _ m bl (by simp) List.nodup_nil ?_ (by simp) (by simp) (by simp) .nil ?_)
  · intro i
    rw [Array.getD_eq_getD_getElem?, Array.getElem?_replicate]
    split <;> simp
  · refine ⟨s.defers, s.size, s.below.drew, ⟨s.ws.imm, s.ws.le, s.ws.grow, s.ws.blk, s.ws.it, s.ws.own, s.ws.inj⟩, s.env, s.stk, fun d hd => s.free d hd.1⟩

end Go.Rx
