/-
  Operations run on symbolic states: those that change them here and there. No conditions.
-/
import Derived.Test.YtdknhngjfoaphaaGreatRzI
set_option linter.all false
namespace Go.Rx
open Go.RowKit

section
variable {P : Program} {tb : Tb} {ρ : Type} {cx : Ctx P tb}

def args1 (c : Call) : Option (Operand × Nat) := match c.args.toList, c.argTypes.toList with
  | [y], [t] => some (y, t)
  | _, _ => none
theorem args1_e {c : Call} {p} (h : args1 c = some p) : c.args = #[p.1] ∧ c.argTypes = #[p.2] := by
  unfold args1 at h
  split at h
  · rename_i y t h1 h2
    cases h
    exact ⟨Array.toArray_toList.symm.trans (by rw [h1]), Array.toArray_toList.symm.trans (by rw [h2])⟩
  · cases h
def args2 (c : Call) : Option (Operand × Operand) := match c.args.toList with
  | [y, z] => some (y, z)
  | _ => none
theorem args2_e {c : Call} {p} (h : args2 c = some p) : c.args = #[p.1, p.2] := by
  unfold args2 at h
  split at h
  · rename_i y z h1
    cases h
    exact Array.toArray_toList.symm.trans (by rw [h1])
  · cases h
def types2 (c : Call) : Option (Nat × Nat) := match c.argTypes.toList with
  | [y, z] => some (y, z)
  | _ => none
theorem types2_e {c : Call} {p} (h : types2 c = some p) : c.argTypes = #[p.1, p.2] := by
  unfold types2 at h
  split at h
  · rename_i y z h1
    cases h
    exact Array.toArray_toList.symm.trans (by rw [h1])
  · cases h

def qCallD (cx : Ctx P tb) (L : SLS tb) (G : Gd) (c : Call) (k : SV tb → List Nat → Option ρ) : Option ρ := match c.callee with
  | .value y => qCall cx L G y c.args k
  | .builtin b => (match b with
    | .len => got (args1 c) fun p => qLen2 cx L G p.1 p.2 k
    | .cap => got (args1 c) fun p => qCap P L G p.1 p.2 k
    | .max => got (args2 c) fun p => qMM L G true p.1 p.2 k
    | .min => got (args2 c) fun p => qMM L G false p.1 p.2 k
    | _ => none)
  | _ => none
theorem qCallD_ok {L : SLS tb} {G o c} {k : SV tb → List Nat → Option ρ} {r} (ho : o.op = .call c) (h : qCallD cx L G c k = some r) : QOk P L G o k r := by
  obtain ⟨ce, ar, ty⟩ := c
  unfold qCallD at h
  split at h
  · rename_i y hy
    simp only at hy; subst hy
    exact qCall_ok (cx := cx) ho h
  · rename_i b hb
    simp only at hb; subst hb
    split at h
    · obtain ⟨p, hp, h⟩ := got_e h
      obtain ⟨h1, h2⟩ := args1_e hp
      simp only at h1 h2; subst h1 h2
      exact qLen2_ok (cx := cx) ho h
    · obtain ⟨p, hp, h⟩ := got_e h
      obtain ⟨h1, h2⟩ := args1_e hp
      simp only at h1 h2; subst h1 h2
      exact qCap_ok ho h
    · obtain ⟨p, hp, h⟩ := got_e h
      have h1 := args2_e hp
      simp only at h1; subst h1
      exact qMM_ok (.inl ⟨rfl, ho⟩) h
    · obtain ⟨p, hp, h⟩ := got_e h
      have h1 := args2_e hp
      simp only at h1; subst h1
      exact qMM_ok (.inr ⟨rfl, ho⟩) h
    · cases h
  · cases h
def qop (cx : Ctx P tb) (L : SLS tb) (G : Gd) (op : Op) (k : SV tb → List Nat → Option ρ) : Option ρ := match op with
  | .move y => qMove L G y k
  | .assign y => qMove L G y k
  | .pick c y z => qPick L G c y z k
  | .load t y => qLoad cx L G t y k
  | .nilCheck y => qNil L G y k
  | .binOp op t y z yt => (match isNilI z with
    | true => (match op with
      | .eql => qNilI P L G false t y k
      | .neq => qNilI P L G true t y k
      | _ => none)
    | false => qBin cx L G op t y z yt k)
  | .unOp op _ y => qUn L G op y k
  | .convert s d y => qConv2 cx L G s d y k
  | .slice t y lo hi mx => (match mx with
    | none => (match lo, hi, isCp (opd L G y) with
      | none, none, true => qArrS cx L G t y k
      | _, _, _ => qSliceN cx L G t y lo hi k)
    | some m => match lo, hi with
      | none, some h => qSlice3W cx L G t y h m k
      | some l, some h => qSlice3U cx L G t y l h m k
      | _, _ => none)
  | .fieldAddr t y f => qFieldA P L G t y f k
  | .field t y f => qField P L G t y f k
  | .indexAddr t y z => qIxA cx L G t y z k
  | .index t y z => qIx cx L G t y z k
  | .extract y i => qExt L G y i k
  | .build t ps => qBuild P L G t ps k
  | .buildSlice t n ps => qBuildS cx L G t n ps k
  | .makeFunc fn fi ca => qMkF L G fn fi ca k
  | .call c => qCallD cx L G c k
  | .makeInterface t y => qMkI P L G t y k
  | .typeAssert y _ t true => qOut P L G y t k
  | .sliceToArrayPointer t y => (match G with
    | [] => qArr cx L [] t y k
    | _ :: _ => none)
  | _ => none
theorem qop_ok {L : SLS tb} {G o} {k : SV tb → List Nat → Option ρ} {r} (h : qop cx L G o.op k = some r) : QOk P L G o k r := by
  unfold qop at h
  split at h
  · exact qMove_ok (.inl ‹_›) h
  · exact qMove_ok (.inr ‹_›) h
  · exact qPick_ok ‹_› h
  · exact qLoad_ok (cx := cx) ‹_› h
  · exact qNil_ok ‹_› h
  · rename_i ho
    split at h
    · rename_i hz
      rw [isNilI_e hz] at ho
      split at h
      · exact qNilI_ok (neg := false) ho h
      · exact qNilI_ok (neg := true) ho h
      · cases h
    · exact qBin_ok (cx := cx) ho h
  · exact qUn_ok ‹_› h
  · exact qConv2_ok (cx := cx) ‹_› h
  · split at h
    · split at h
      · exact qArrS_ok (cx := cx) ‹_› h
      · exact qSliceN_ok (cx := cx) ‹_› h
    · split at h
      · exact qSlice3W_ok (cx := cx) ‹_› h
      · exact qSlice3U_ok (cx := cx) ‹_› h
      · cases h
  · exact qFieldA_ok ‹_› h
  · exact qField_ok ‹_› h
  · exact qIxA_ok (cx := cx) ‹_› h
  · exact qIx_ok (cx := cx) ‹_› h
  · exact qExt_ok ‹_› h
  · exact qBuild_ok ‹_› h
  · exact qBuildS_ok (cx := cx) ‹_› h
  · exact qMkF_ok ‹_› h
  · exact qCallD_ok (cx := cx) ‹_› h
  · exact qMkI_ok ‹_› h
  · exact qOut_ok ‹_› h
  · split at h
    · exact qArr_ok (cx := cx) ‹_› h rfl
    · cases h
  · cases h

/-- The keys of what an operation looks at and writes. -/
structure KL where
  re : List Nat
  rh : List Nat
  we : List Nat
  wh : List Nat
  nm : List Nat
structure KOf (c : Loc) (κ : KL) : Prop where
  re : ∀ p ∈ c.re, p.1 ∈ κ.re
  rh : ∀ p ∈ c.rh, p.1 ∈ κ.rh
  we : ∀ p ∈ c.we, p.1 ∈ κ.we
  wh : ∀ p ∈ c.wh, p.1 ∈ κ.wh
  nm : c.nm = κ.nm
theorem reOf_keys {e : Env} : ∀ {ts : List Nat}, ∀ p ∈ reOf e ts, p.1 ∈ ts
  | [], p, h => by simp [reOf] at h
  | t :: ts, p, h => by
    simp only [reOf] at h
    split at h
    · rcases List.mem_cons.1 h with rfl | h
      · exact List.mem_cons_self
      · exact List.mem_cons_of_mem _ (reOf_keys p h)
    · exact List.mem_cons_of_mem _ (reOf_keys p h)
theorem needAV_keys {L : SLS tb} : ∀ {ids}, ∀ p ∈ needAV L ids, p.1 ∈ ids
  | [], p, h => by simp [needAV] at h
  | id :: r, p, h => by
    simp only [needAV] at h
    split at h
    · rcases List.mem_cons.1 h with rfl | h
      · exact List.mem_cons_self
      · exact List.mem_cons_of_mem _ (needAV_keys p h)
    · exact List.mem_cons_of_mem _ (needAV_keys p h)

/-- What the slots in gs guard. -/
def RI (gs : List Nat) (e : SEnv tb) : Prop := ∀ t G x, find t e = some (.opt G x) → GD e G ∧ G ≠ [] ∧ ∀ g ∈ G, g.1 ∈ gs
theorem RI.inv {gs} {e : SEnv tb} (h : RI gs e) : GInv e := fun t G x hf => ⟨(h t G x hf).1, (h t G x hf).2.1⟩
def notOpt : SV tb → Bool
  | .opt _ _ => false
  | _ => true
def memN (d : Nat) : List Nat → Bool
  | [] => false
  | x :: l => match Nat.beq d x with | true => true | false => memN d l
theorem memN_e {d : Nat} : ∀ {l : List Nat}, memN d l = true ↔ d ∈ l
  | [] => by simp [memN]
  | x :: l => by
    simp only [memN, List.mem_cons]
    split
    · rename_i h; simp [Nat.eq_of_beq_eq_true h]
    · rename_i h
      have : d ≠ x := fun e => by subst e; rw [Nat.beq_refl] at h; cases h
      rw [memN_e]; simp [this]
theorem GD.put {e : SEnv tb} {d x} : ∀ {G : Gd}, GD e G → (∀ g ∈ G, g.1 ≠ d) → GD ((d, x) :: e) G
  | [], _, _ => trivial
  | (s, w, t) :: G, h, hn => by
    obtain ⟨h1, y, hy, h2⟩ := h
    have hs : d ≠ s := Ne.symm (hn (s, w, t) (by simp))
    refine ⟨GD.put h1 fun g hg => hn g (List.mem_cons_of_mem _ hg), y, hy, ?_⟩
    rw [find_cons, if_neg hs]
    exact h2
theorem RI.put {gs} {e : SEnv tb} {d x} (h : RI gs e) (hd : memN d gs = false) (hx : notOpt x = true) : RI gs ((d, x) :: e) := by
  have hd' : ∀ g ∈ gs, g ≠ d := by rintro g hg rfl; rw [memN_e.2 hg] at hd; cases hd
  intro t G y hf
  rw [find_cons] at hf
  split at hf
  · cases hf; cases hx
  · obtain ⟨h1, h2, h3⟩ := h t G y hf
    exact ⟨h1.put fun g hg => hd' _ (h3 g hg), h2, h3⟩
theorem RI.putG {gs} {e : SEnv tb} {d x s G} (h : RI gs e) (hd : memN d (s :: gs) = false) (hG : GD e G) (h0 : G ≠ []) (hs : ∀ g ∈ G, g.1 ∈ s :: gs) : RI (s :: gs) ((d, .opt G x) :: e) := by
  have hd' : ∀ g ∈ s :: gs, g ≠ d := by rintro g hg rfl; rw [memN_e.2 hg] at hd; cases hd
  intro t G' y hf
  rw [find_cons] at hf
  split at hf
  · cases hf
    exact ⟨hG.put fun g hg => hd' _ (hs g hg), h0, hs⟩
  · obtain ⟨h1, h2, h3⟩ := h t G' y hf
    have h4 : ∀ g ∈ G', g.1 ∈ s :: gs := fun g hg => List.mem_cons_of_mem _ (h3 g hg)
    exact ⟨h1.put fun g hg => hd' _ (h4 g hg), h2, h4⟩

/-- What an operation does to the state here and there: it goes on with L'. -/
def LOk (P : Program) (N : Nat) (ops : Array Oper) (o : Oper) (L : SLS tb) (k : SLS tb → List Nat → KL → Option ρ) (r : ρ) : Prop :=
  ∃ (L' : SLS tb) (gs : List Nat) (κ : KL) (c : Loc), k L' gs κ = some r ∧ KOf c κ ∧ LEx P ops N o c ∧ (∀ p ∈ c.re, find p.1 L.av.e = some p.2) ∧ (∀ p ∈ c.rh, find p.1 L.av.h = some p.2) ∧
    (∀ d ∈ c.nm, L.nx ≤ d ∧ d < L'.nx) ∧ L.nx ≤ L'.nx ∧ L'.s = L.s ∧ L'.gn = L.gn ∧ L'.av.e = c.we ++ L.av.e ∧ L'.av.h = c.wh ++ L.av.h ∧
    (∃ p, L'.e = p ++ L.e) ∧ (∃ p, L'.h = p ++ L.h) ∧ RI gs L'.e

/-- The slot d holds x. -/
def put (N : Nat) (gs : List Nat) (L : SLS tb) (d : Nat) (x : SV tb) (k : SLS tb → Option ρ) : Option ρ :=
  tst (Nat.blt d N) <| tst (!memN d gs) <| tst (x.has (keepQ L.gn)) <| k { L with e := (d, x) :: L.e }
theorem put_e {N gs} {L : SLS tb} {d x} {k : SLS tb → Option ρ} {r} (h : put N gs L d x k = some r) : d < N ∧ memN d gs = false ∧ x.res L.gn = x ∧ k { L with e := (d, x) :: L.e } = some r := by
  obtain ⟨h1, h⟩ := tst_e h
  obtain ⟨h2, h⟩ := tst_e h
  obtain ⟨h3, h⟩ := tst_e h
  exact ⟨Nat.le_of_ble_eq_true h1, by simpa using h2, res_keep h3, h⟩

/-- An operation that only yields a value. -/
def lq (cx : Ctx P tb) (N : Nat) (ops : Array Oper) (L : SLS tb) (gs : List Nat) (o : Oper) (k : SLS tb → List Nat → KL → Option ρ) : Option ρ :=
  qop cx L [] o.op fun x need => match o.dst with
  | some d => tst (notOpt x) <| put N gs L d x fun L' => k L' gs ⟨o.looksAt ops, need, [d], [], []⟩
  | none => k L gs ⟨o.looksAt ops, need, [], [], []⟩
theorem Gu.nil {L : SLS tb} (h : GInv L.e) : Gu L [] := ⟨h, trivial, rfl⟩
theorem needH_keys {L : SLS tb} {need} : ∀ p ∈ needH (needAV L need), p.1 ∈ need := by
  intro p hp
  obtain ⟨p', hp', rfl⟩ := List.mem_map.1 hp
  exact needAV_keys p' hp'
theorem lq_ok {N ops} {L : SLS tb} {gs o} {k : SLS tb → List Nat → KL → Option ρ} {r} (hi : RI gs L.e) (hg : o.guard = none) (h : lq cx N ops L gs o k = some r) : LOk P N ops o L k r := by
  unfold lq at h
  obtain ⟨x, need, h, q⟩ := qop_ok (cx := cx) h
  have q := q (Gu.nil hi.inv)
  split at h
  · rename_i d hd
    obtain ⟨ho, h⟩ := tst_e h
    obtain ⟨hN, hm, hx, h⟩ := put_e h
    refine ⟨_, _, _, _, h, ⟨reOf_keys, needH_keys, by simp, by simp, rfl⟩, LEx.q hg q hd hN, reOf_mem.1, needH_mem.2 needAV_mem, by simp, Nat.le_refl _, rfl, rfl, ?_, rfl, ⟨[_], rfl⟩, ⟨[], rfl⟩, hi.put hm ho⟩
    show (d, (x.res L.gn).av) :: _ = _
    rw [hx]; rfl
  · rename_i hd
    exact ⟨_, _, _, _, h, ⟨reOf_keys, needH_keys, by simp, by simp, rfl⟩, LEx.qn hg q hd, reOf_mem.1, needH_mem.2 needAV_mem, by simp, Nat.le_refl _, rfl, rfl, rfl, rfl, ⟨[], rfl⟩, ⟨[], rfl⟩, hi⟩
/-- The same under a guard. -/
def lg (cx : Ctx P tb) (N : Nat) (ops : Array Oper) (L : SLS tb) (gs : List Nat) (o : Oper) (j : Nat) (w : Bool) (k : SLS tb → List Nat → KL → Option ρ) : Option ρ :=
  got o.dst fun d => got ((ops[j]?).bind (·.dst)) fun s => got (gdAt L.e s w) fun G =>
  qop cx L G o.op fun x need => put N (s :: gs) L d (.opt G x) fun L' => k L' (s :: gs) ⟨o.looksAt ops, need, [d], [], []⟩
theorem gdAt_gs {gs} {e : SEnv tb} {s w G} (hi : RI gs e) (h : gdAt e s w = some G) : ∃ b G', G = (s, w, b) :: G' ∧ GD e G ∧ ∀ g ∈ G, g.1 ∈ s :: gs := by
  unfold gdAt at h
  split at h
  · rename_i G' y hf
    split at h
    · cases h
    · rename_i g G'
      split at h
      · rename_i b hb
        cases h
        obtain ⟨h1, h2, h3⟩ := hi _ _ _ hf
        refine ⟨b, g :: G', rfl, ⟨h1, y, hb, .inr ⟨hf, by simp⟩⟩, ?_⟩
        intro p hp
        rcases List.mem_cons.1 hp with rfl | hp
        · simp
        · exact List.mem_cons_of_mem _ (h3 p hp)
      · cases h
  · rename_i y hne hf
    split at h
    · rename_i b hb
      cases h
      exact ⟨b, [], rfl, ⟨trivial, y, hb, .inl ⟨hf, rfl⟩⟩, by simp⟩
    · cases h
  · cases h
theorem lg_ok {N ops} {L : SLS tb} {gs o j w} {k : SLS tb → List Nat → KL → Option ρ} {r} (hi : RI gs L.e) (hg : o.guard = some (j, w)) (h : lg cx N ops L gs o j w k = some r) : LOk P N ops o L k r := by
  unfold lg at h
  obtain ⟨d, hd, h⟩ := got_e h
  obtain ⟨s, hs, h⟩ := got_e h
  obtain ⟨G, hG, h⟩ := got_e h
  obtain ⟨x, need, h, q⟩ := qop_ok (cx := cx) h
  obtain ⟨hN, hm, hx, h⟩ := put_e h
  obtain ⟨b, G', rfl, hGD, hgs⟩ := gdAt_gs hi hG
  have hc : gc ((s, w, b) :: G') = (gc G' && (b == w)) := by rw [gc_eq, gc_eq]; rfl
  refine ⟨_, _, _, _, h, ⟨reOf_keys, needH_keys, by simp, by simp, rfl⟩, LEx.g (x := x.av) (c := gc G') (t := b) hg hs hGD.gv (fun hc2 => q ⟨hi.inv, hGD, by rw [hc]; exact hc2⟩) hd hN, reOf_mem.1, needH_mem.2 needAV_mem, by simp, Nat.le_refl _, rfl, rfl, ?_, rfl, ⟨[_], rfl⟩, ⟨[], rfl⟩, hi.putG hm hGD (by simp) hgs⟩
  show (d, ((SV.opt _ x).res L.gn).av) :: _ = _
  rw [hx]
  show (d, AV.opt (gc ((s, w, b) :: G')) x.av) :: _ = _
  rw [hc]; rfl
end
end Go.Rx
