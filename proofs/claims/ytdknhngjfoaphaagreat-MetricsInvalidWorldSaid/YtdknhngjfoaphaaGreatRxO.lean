/-
  Contracts; what operands are. No conditions.
-/
import Derived.Test.YtdknhngjfoaphaaGreatRxN
set_option linter.all false
namespace Go.Rx
open Go.RowKit

section
variable (tb : Tb)
/-- A parameter: plain data; a captured variable, never written again; a function. -/
inductive PTy where
  | d (i : tb.Ix)
  | cap (i : tb.Ix)
  | fn (ps rs : List tb.Ix)
variable {tb}
def PTy.den : PTy tb → Type
  | .d i => tb.T i
  | .cap i => tb.T i
  | .fn ps rs => Tup tb ps → Option (Tup tb rs)
variable (tb)
def PArgs : List (PTy tb) → Type
  | [] => Unit
  | p :: r => p.den × PArgs r
variable {tb}
def ArgR (P : Program) : (p : PTy tb) → p.den → AV → Prop
  | .d i, x, v => v = tb.el i x
  | .cap i, x, v => v = .cptr (tb.el i x).cells
  | .fn ps rs, g, v => ∃ f caps, v = .clo f caps ∧ CloR tb f caps ps rs g
def ArgsR (P : Program) : (l : List (PTy tb)) → PArgs tb l → List AV → Prop
  | [], _, [] => True
  | p :: r, a, v :: vs => ArgR P p a.1 v ∧ ArgsR P r a.2 vs
  | _, _, _ => False

/-- The cells 'own' of a result are slices of new blocks, named from k on. -/
def ownS (own : List Nat) : Nat → Nat → List (SV tb) → List (SV tb) × List (Nat × SC tb)
  | _, _, [] => ([], [])
  | j, k, x :: l => match own.contains j, x with
    | true, .sl _ E xs => (.rw k E :: (ownS own (j + 1) (k + 1) l).1, (k, .arr E xs) :: (ownS own (j + 1) (k + 1) l).2)
    | _, x => (x :: (ownS own (j + 1) k l).1, (ownS own (j + 1) k l).2)
/-- The value of type i with these cells. -/
def wrapS {i : tb.Ix} (c : Cd tb i) (l : List (SV tb)) : SV tb := if c.ag then .agg l else l.headD .undef
variable (tb) in
/-- What a call answers: the value, the blocks that it owns. -/
def ansS (cd : (i : tb.Ix) → Cd tb i) (own : List Nat) : (rs : List tb.Ix) → Tup tb rs → Nat → SV tb × List (Nat × SC tb)
  | [], _, _ => (.tup [], [])
  | [i], x, k => match own with
    | [] => ((cd i).sv x, [])
    | _ :: _ => (wrapS (cd i) (ownS own 0 k ((cd i).cs x)).1, (ownS own 0 k ((cd i).cs x)).2)
  | i :: j :: r, x, _ => (.tup (tupS (i :: j :: r) x), [])
where tupS : (rs : List tb.Ix) → Tup tb rs → List (SV tb)
  | [], _ => []
  | [i], x => [(cd i).sv x]
  | i :: j :: r, x => (cd i).sv x.1 :: tupS (j :: r) x.2

/-- A function's contract. -/
structure Con (P : Program) (tb : Tb) (cd : (i : tb.Ix) → Cd tb i) where
  fid : Nat
  ps : List (PTy tb)
  rs : List tb.Ix
  own : List Nat
  f : PArgs tb ps → Option (Tup tb rs)
  call : ∀ (vs : Array Value) (w : World), (callFunc fid vs).run P w = .ok (.enter fid vs) w
  ok : ∀ a avs r, ArgsR P ps a avs → f a = some r → FnR P fid avs (ansS tb cd own rs r 0).1.av ((ansS tb cd own rs r 0).2.map fun p => (p.1, p.2.av))
/-- What is carried: a slot's value; what the slot's variable holds; an array: of the slot's variable, of the slot's slice, of the slice in cell c of the slot's variable. The cells 'own' are slices of own blocks. -/
inductive JV (tb : Tb) : Type where
  | val (t : Nat) (i : tb.Ix) (own : List Nat)
  | blk (t : Nat) (i : tb.Ix) (own : List Nat)
  | arr (t : Nat) (c : Option Nat) (i : tb.Ix)
  | itr (t : Nat)
/-- What is carried; slots whose blocks are known no more. -/
structure JA (tb : Tb) where
  vars : List (JV tb)
  xdr : List Nat
/-- Where ways meet, and what is carried. -/
inductive An (tb : Tb) : Type where
  | n
  | t (j : Option (JA tb)) (a b : An tb)
/-- What the contract's function computes. -/
def Con.cf {P : Program} {tb : Tb} {cd : (i : tb.Ix) → Cd tb i} (c : Con P tb cd) (a : PArgs tb c.ps) : Option (Tup tb c.rs) := (fun (_ : Unit) => match c, a with | ⟨_, _, _, _, f, _, _⟩, a => f a) hh120
theorem Con.cf_eq {P : Program} {tb : Tb} {cd : (i : tb.Ix) → Cd tb i} (c : Con P tb cd) (a : PArgs tb c.ps) : c.cf a = c.f a := by cases c; rfl
/-- A function that is walked in its caller's state. -/
structure Inl (P : Program) (tb : Tb) where
  fid : Nat
  fn : Func
  code : Code
  im : Nat → Bool
  bar : Nat → Nat
  an : An tb
  hf : P.funcs[fid]? = some fn
  hb : fn.body = some code
  call : ∀ (vs : Array Value) (w : World), (callFunc fid vs).run P w = .ok (.enter fid vs) w
structure EqE (P : Program) (tb : Tb) where
  t : Nat
  i : tb.Ix
  beq : tb.T i → tb.T i → Bool
  ok : EqT P t (tb.el i) beq
/-- A function whose contract was proved by hand. -/
structure Hnd (P : Program) (tb : Tb) where
  fid : Nat
  f : List (SV tb) → Option (SV tb)
  call : ∀ (vs : Array Value) (w : World), (callFunc fid vs).run P w = .ok (.enter fid vs) w
  ok : ∀ xs y, f xs = some y → FnR P fid (avL xs) y.av [] ∧ allBare (avL xs) = true ∧ y.av.isBare = true
structure Ctx (P : Program) (tb : Tb) where
  cd : (i : tb.Ix) → Cd tb i
  ok : ∀ i, CdOk (cd i)
  Γ : List (Con P tb cd)
  inl : List (Inl P tb)
  eqs : List (EqE P tb)
  mixed : P.follows .mixedOrders = true
  hP : tb.P = P
  hnd : List (Hnd P tb)
end

section
variable {P : Program} {tb : Tb}

theorem tupS_av (cd : (i : tb.Ix) → Cd tb i) (ok : ∀ i, CdOk (cd i)) : ∀ (rs : List tb.Ix) (r : Tup tb rs), avL (ansS.tupS tb cd rs r) = tupAV rs r
  | [], _ => rfl
  | [i], x => congrArg (fun a => [a]) ((ok i).sv x)
  | i :: j :: l, x => congr (congrArg List.cons ((ok i).sv x.1)) (tupS_av cd ok (j :: l) x.2)
theorem ansS_av (cd : (i : tb.Ix) → Cd tb i) (ok : ∀ i, CdOk (cd i)) : ∀ (rs : List tb.Ix) (r : Tup tb rs) k, (ansS tb cd [] rs r k).1.av = resAV rs r ∧ (ansS tb cd [] rs r k).2 = []
  | [], _, _ => ⟨rfl, rfl⟩
  | [i], x, _ => ⟨(ok i).sv x, rfl⟩
  | i :: j :: l, x, _ => by
    refine ⟨?_, rfl⟩
    show AV.tup (avL (ansS.tupS tb cd (i :: j :: l) x)) = _
    rw [tupS_av cd ok]
    cases l <;> rfl

/-! the checks that the plain form bears -/
def chk {ρ : Type} (G : Gd) (c : Prop) [Decidable c] (k : Option ρ) : Option ρ := (fun (_ : Unit) => match G with
  | [] => Chk c k
  | _ :: _ => Chk (gc G = true → c) k) hh120
theorem chk_e {ρ : Type} {G : Gd} {c : Prop} [Decidable c] {k : Option ρ} {r : ρ} (h : chk G c k = some r) : (gc G = true → c) ∧ k = some r := by
  cases G with
  | nil =>
    simp only [chk, Chk] at h
    split at h
    · exact ⟨fun _ => ‹_›, h⟩
    · cases h
  | cons g G =>
    simp only [chk, Chk] at h
    split at h
    · exact ⟨‹_›, h⟩
    · cases h
def bnd {α ρ : Type} (G : Gd) (d : α) (m : Option α) (k : α → Option ρ) : Option ρ := (fun (_ : Unit) => match G with
  | [] => Bind m k
  | _ :: _ => Bind (if gc G = true then m else some d) k) hh120
theorem bnd_e {α ρ : Type} {G : Gd} {d : α} {m : Option α} {k : α → Option ρ} {r : ρ} (h : bnd G d m k = some r) : ∃ x, (gc G = true → m = some x) ∧ k x = some r := by
  cases G with
  | nil =>
    simp only [bnd, Bind] at h
    obtain ⟨x, h1, h2⟩ := Option.bind_eq_some_iff.1 h
    exact ⟨x, fun _ => h1, h2⟩
  | cons g G =>
    simp only [bnd, Bind] at h
    obtain ⟨x, h1, h2⟩ := Option.bind_eq_some_iff.1 h
    exact ⟨x, fun hg => by rw [if_pos hg] at h1; exact h1, h2⟩
end
end Go.Rx
