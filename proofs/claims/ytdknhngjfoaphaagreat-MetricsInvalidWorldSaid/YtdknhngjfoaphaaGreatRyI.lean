/-
  A function's contract from a run on symbolic values. No conditions.
-/
import Derived.Test.YtdknhngjfoaphaaGreatRyH
set_option linter.all false
namespace Go.Rx
open Go.RowKit

/-- Where the regions' text order begins. -/
def barF : List (Nat × Nat) → Nat → Nat
  | [], _ => 100000
  | (a, b) :: l, r => match Nat.beq a r with | true => b | false => barF l r

section
variable {P : Program} {tb : Tb} {cx : Ctx P tb}

/-- A function that is given: what it computes, where its code lies. -/
structure CloD (tb : Tb) (ps rs : List tb.Ix) where
  g : Tup tb ps → Option (Tup tb rs)
  f : Nat
  caps : List AV
  h : CloR tb f caps ps rs g
def PTy.D : PTy tb → Type
  | .d i => tb.T i
  | .cap i => tb.T i
  | .fn ps rs => CloD tb ps rs
def DArgs (tb : Tb) : List (PTy tb) → Type
  | [] => Unit
  | p :: r => p.D × DArgs tb r
def fgt : (p : PTy tb) → p.D → p.den
  | .d _, x => x
  | .cap _, x => x
  | .fn _ _, c => c.g
def fgts : (l : List (PTy tb)) → DArgs tb l → PArgs tb l
  | [], _ => ()
  | p :: r, a => (fgt p a.1, fgts r a.2)
def argSV (cx : Ctx P tb) : (p : PTy tb) → p.D → SV tb
  | .d i, x => (cx.cd i).sv x
  | .cap i, x => .cp ((cx.cd i).cs x)
  | .fn ps rs, c => .cl ps rs c.g c.f c.caps c.h
def argSVs (cx : Ctx P tb) : (l : List (PTy tb)) → DArgs tb l → Nat → SEnv tb
  | [], _, _ => []
  | p :: r, a, k => (k, argSV cx p a.1) :: argSVs cx r a.2 (k + 1)
theorem args_D (cx : Ctx P tb) : ∀ {l : List (PTy tb)} {a avs}, ArgsR P l a avs → ∃ d : DArgs tb l, fgts l d = a ∧ ∀ k, avE [] (argSVs cx l d k) = envFrom k avs
  | [], a, [], _ => ⟨(), rfl, fun _ => rfl⟩
  | [], a, _ :: _, h => by cases h
  | p :: l, a, [], h => by cases p <;> cases h
  | p :: l, (a, b), v :: vs, h => by
    obtain ⟨h1, h2⟩ := h
    obtain ⟨d, hd1, hd2⟩ := args_D cx h2
    have rsv : ∀ x : SV tb, x.res [] = x := fun x => res_keep (has_all (fun _ => rfl) x)
    cases p with
    | d i =>
      refine ⟨(a, d), Prod.ext rfl hd1, fun k => ?_⟩
      show (k, ((argSV cx (.d i) a).res []).av) :: avE [] (argSVs cx l d (k + 1)) = (k, v) :: envFrom (k + 1) vs
      rw [hd2, rsv]
      have e1 : (argSV cx (.d i) a).av = tb.el i a := (cx.ok i).sv a
      rw [e1]
      have : v = tb.el i a := h1
      rw [this]
    | cap i =>
      refine ⟨(a, d), Prod.ext rfl hd1, fun k => ?_⟩
      show (k, ((argSV cx (.cap i) a).res []).av) :: avE [] (argSVs cx l d (k + 1)) = (k, v) :: envFrom (k + 1) vs
      rw [hd2, rsv]
      have e1 : (argSV cx (.cap i) a).av = .cptr (tb.el i a).cells := congrArg AV.cptr ((cx.ok i).cs a)
      rw [e1]
      have : v = .cptr (tb.el i a).cells := h1
      rw [this]
    | fn ps rs =>
      obtain ⟨f, caps, rfl, hc⟩ := h1
      exact ⟨((⟨a, f, caps, hc⟩ : CloD tb ps rs), d), Prod.ext rfl hd1, fun k => by
        show (k, _) :: avE [] (argSVs cx l d (k + 1)) = (k, _) :: envFrom (k + 1) vs
        rw [hd2]; rfl⟩

def L00 : SLS tb := ⟨[], [], [], 0, []⟩
/-- What is answered. -/
def kfin (cx : Ctx P tb) (own : List Nat) (rs : List tb.Ix) (vs : List ResultVar) (e : AExit) (L : SLS tb) : Option (Tup tb rs) := match e with
  | .exit _ => none
  | _ => match own with
    | [] => cutR [] vs L fun L => got (resSs P L vs) fun xs => frzK (nmsL xs []) L fun L => got (resSs P L vs) fun xs => tst (hasL (fun _ => false) xs) (tupD cx rs xs)
    | _ :: _ => cutR [] vs L fun L => got (resSs P L vs) fun xs => frzK (nonOwn own 0 (match xs with | [x] => cellsS x | _ => []) []) L fun L => got (resSs P L vs) fun xs => match rs, xs with
      | [i], [x] => tst (x.has (keepQ L.gn)) <| unJ cx L00 [0] ⟨[.val 0 i own], []⟩ { e := [(0, x)], s := [], h := L.h, nx := L.nx, gn := L.gn } fun v => tst (Nat.beq (ownS own 0 0 ((cx.cd i).cs v)).2.length own.length) (some v)
      | _, _ => none
theorem ownS_has {own : List Nat} : ∀ {l : List (SV tb)} {j k d}, k ≤ d → d < k + (ownS own j k l).2.length → find d (ownS own j k l).2 ≠ none
  | [], j, k, d, h1, h2 => by simp [ownS] at h2; omega
  | x :: l, j, k, d, h1, h2 => by
    rw [ownS_cons] at h2 ⊢
    split at h2
    · rename_i E xs _ _
      simp only [List.length_cons] at h2
      simp only
      rw [find_cons]
      split
      · simp
      · exact ownS_has (by omega) (by omega)
    · exact ownS_has h1 h2
theorem tupleOf_sub {l l' : List AV} (h : SubL l l') (hl : l.length = l'.length) : Sub (tupleOf l) (tupleOf l') := by
  cases l with
  | nil => cases l' with
    | nil => exact .refl _
    | cons => simp at hl
  | cons x l =>
    cases l with
    | nil =>
      cases l' with
      | nil => simp at hl
      | cons y l' =>
        cases l' with
        | cons => simp at hl
        | nil =>
          intro m bl v r
          have := h m bl [v] (.cons r .nil)
          cases this with | cons a b => exact a
    | cons x2 l =>
      cases l' with
      | nil => simp at hl
      | cons y l' =>
        cases l' with
        | nil => simp at hl
        | cons y2 l' => exact .tup h
theorem tupD_len : ∀ {l : List tb.Ix} {xs a}, tupD cx l xs = some a → xs.length = (tupAV l a).length
  | [], xs, _, h => by
    obtain ⟨h1, h⟩ := tst_e (show tst (isE xs) _ = some _ from h)
    rw [isE_e h1]; rfl
  | i :: l, [], _, h => by cases h
  | i :: l, x :: xs, ab, h => by
    obtain ⟨a, ha, h⟩ := got_e (show got ((cx.cd i).of x) _ = some ab from h)
    obtain ⟨b, hb, h⟩ := got_e h
    cases h
    rw [tupC_av, List.length_cons, List.length_cons, tupD_len hb]
/-- A function's contract. -/
theorem con_ok {fid : Nat} {fn : Func} {code : Code} {ps : List (PTy tb)} {rs : List tb.Ix} {own : List Nat} {F : PArgs tb ps → Option (Tup tb rs)} {im bar N an}
    (hf : P.funcs[fid]? = some fn) (hb : fn.body = some code) (hN : fn.ntmps = N) (hn : Nat.ble ps.length N = true) (hr : ∀ d : DArgs tb ps, keepE (tb := tb) [] (argSVs cx ps d 0) = true)
    (H : ∀ d : DArgs tb ps, exec cx (lvl cx 6) im bar N code an ⟨argSVs cx ps d 0, [], [], 0, []⟩ (kfin cx own rs fn.results.toList) = F (fgts ps d)) :
    ∀ a avs r, ArgsR P ps a avs → F a = some r → FnR P fid avs (ansS tb cx.cd own rs r 0).1.av ((ansS tb cx.cd own rs r 0).2.map fun p => (p.1, p.2.av)) := by
  intro a avs r hr0 hF
  obtain ⟨d, rfl, hd⟩ := args_D cx hr0
  have hav := hd 0
  have hlen : avs.length = ps.length := by
    have : ∀ {l : List (PTy tb)} {a avs}, ArgsR P l a avs → avs.length = l.length := by
      intro l
      induction l with
      | nil => intro a avs h; cases avs with | nil => rfl | cons => cases h
      | cons p l ih => intro a avs h; cases avs with | nil => cases p <;> cases h | cons v vs => exact congrArg (· + 1) (ih h.2)
    exact this hr0
  rw [← H d] at hF
  have hi : RI [] (argSVs cx ps d 0) := by
    intro t G x hx
    have := (keepE_e (hr d) _ (find_mem hx)).2
    cases this
  have key := exec_ok (lvl_ok 6) (L := ⟨argSVs cx ps d 0, [], [], 0, []⟩) hi hF
  refine FnR.intro hf hb hN (by rw [hlen]; exact Nat.le_of_ble_eq_true hn) ?_
  have e0 : (⟨argSVs cx ps d 0, [], [], 0, []⟩ : SLS tb).av = ⟨envFrom 0 avs, [], [], fun d => 0 ≤ d⟩ := by
    show (⟨avE [] (argSVs cx ps d 0), [], [], _⟩ : LS) = _
    rw [hav]
  rw [e0] at key
  refine Wp.tells (Tells.f (f' := fun d => 0 ≤ d) fun _ _ => trivial) (key.post ?_)
  rintro e Lf ⟨L', h', hi', x', ht⟩
  unfold kfin at h'
  cases e with
  | exit j => cases h'
  | _ =>
    cases own with
    | nil =>
      obtain ⟨L7, h', g7⟩ := cutR_ok cx h'
      obtain ⟨xs0, hxs0, h'⟩ := got_e h'
      obtain ⟨L9, h', g9⟩ := frzK_ok cx (gs := []) h'
      obtain ⟨xs, hxs, h'⟩ := got_e h'
      refine ⟨L9.av, (ht.trans g7.t).trans g9.t, by simp, avL xs, ?_⟩
      obtain ⟨hbare, h'⟩ := tst_e h'
      obtain ⟨s1, s2⟩ := tupD_ok h'
      have hl := tupD_len h'
      obtain ⟨a1, a2⟩ := ansS_av cx.cd cx.ok rs r 0
      refine ⟨⟨[(0, resAV rs r)], [], [], fun _ => True⟩, resSs_ok hxs, ?_, by rw [find_cons, if_pos rfl, a1], by rw [a2]; rfl, fun _ _ => trivial⟩
      refine LS.ren.tells (q := fun _ => none) (r := fun _ => none) (nils := fun _ => false) ⟨by simp, ?_, trivial, ?_, by simp, by simp⟩
      · intro t y hf
        have hf : find t [(0, resAV rs r)] = some y := hf
        rw [find_cons] at hf
        split at hf
        · rename_i h0
          subst h0
          cases hf
          refine .inr ⟨_, by show find 0 [(0, tupleOf (avL xs))] = _; rw [find_cons, if_pos rfl], ?_⟩
          have hb2 : (tupleOf (avL xs)).isBare = true := by
            have h1 := hasL_bare hbare
            cases xs with
            | nil => rfl
            | cons x xs =>
              cases xs with
              | nil => 
                have : (AV.clean (fun _ => false) x.av && true) = true := h1
                rw [Bool.and_true] at this
                exact this
              | cons x2 xs => exact h1
          show SubN _ ((tupleOf (avL xs)).re _) _
          rw [bare_of hb2]
          exact (tupleOf_sub s1 (by rw [avL_length]; exact hl)).n
        · simp [find] at hf
      · intro id b hf; simp [find] at hf
    | cons o ow =>
      obtain ⟨L7, h', g7⟩ := cutR_ok cx h'
      obtain ⟨xs0, hxs0, h'⟩ := got_e h'
      obtain ⟨L8, h', g8⟩ := frzK_ok cx (gs := []) h'
      obtain ⟨xs, hxs, h'⟩ := got_e h'
      refine ⟨L8.av, (ht.trans g7.t).trans g8.t, by simp, avL xs, ?_⟩
      match rs, xs, r, hxs, h' with
      | [i], [x], r, hxs, h' =>
        obtain ⟨hkx, h'⟩ := tst_e h'
        have hkx := res_keep hkx
        have hw : Wf (L00 (tb := tb)) := ⟨rfl, rfl, rfl⟩
        obtain ⟨v, h2, hi2, x2, ht2⟩ := unJ_ok (L1 := { e := [(0, x)], s := [], h := L8.h, nx := L8.nx, gn := L8.gn }) hw (by intro t G x hx; simp [L00, find] at hx) ⟨rfl, ⟨_, (List.append_nil _).symm⟩, ⟨_, (List.append_nil _).symm⟩, Nat.zero_le _, ⟨_, (List.append_nil _).symm⟩⟩ h'
        obtain ⟨hl, h2⟩ := tst_e h2
        cases h2
        have hl := Nat.eq_of_beq_eq_true hl
        have hdr : drN (L00 (tb := tb)) ⟨[.val 0 i (o :: ow)], []⟩ = [] := rfl
        have hmk : (mkVs cx L00 [JV.val 0 i (o :: ow)] (r : tb.T i) 0) = ([(0, wrapS (cx.cd i) (ownS (o :: ow) 0 0 ((cx.cd i).cs r)).1)], (ownS (o :: ow) 0 0 ((cx.cd i).cs r)).2) := by
          simp [mkVs, mkV, vh]
        have e9 : (⟨[(0, x)], [], L8.h, L8.nx, L8.gn⟩ : SLS tb).av = { L8.av with e := [(0, tupleOf (avL [x]))], s := [] } := by
          show (⟨[(0, (x.res L8.gn).av)], [], _, _⟩ : LS) = _
          rw [hkx]; rfl
        rw [e9] at ht2
        refine ⟨_, resSs_ok hxs, ht2, ?_, ?_, ?_⟩
        · show find 0 (avE (drops (drN L00 _) ++ []) ((mkVs cx L00 [JV.val 0 i (o :: ow)] (r : tb.T i) 0).1 ++ _)) = _
          rw [hdr, hmk]
          show find 0 ((0, ((wrapS (cx.cd i) (ownS (o :: ow) 0 0 ((cx.cd i).cs r)).1).res []).av) :: _) = _
          rw [find_cons, if_pos rfl, res_keep (has_all (q := keepQ []) (fun _ => rfl) _)]; rfl
        · show avH (drops (drN L00 _) ++ []) ((mkVs cx L00 [JV.val 0 i (o :: ow)] (r : tb.T i) 0).2 ++ []) = _
          rw [hdr, hmk]
          have := avH_append (g := ([] : Gn tb)) (a := (ownS (o :: ow) 0 0 ((cx.cd i).cs r)).2) (b := []) (fun p hp => ⟨rfl, (ownS_names p hp).2.2⟩)
          refine this.trans ?_
          show _ ++ [] = _
          rw [List.append_nil]; rfl
        · intro d hd
          show 0 + nOwns [JV.val 0 i (o :: ow)] ≤ d
          have e1 : nOwns [JV.val 0 i (o :: ow)] = (o :: ow).length := by simp [nOwns, nOwn]
          rw [e1, Nat.zero_add, ← hl]
          rcases Nat.lt_or_ge d (ownS (o :: ow) 0 0 ((cx.cd i).cs r)).2.length with hlt | hge
          · exfalso
            have h3 := ownS_has (own := o :: ow) (l := (cx.cd i).cs r) (j := 0) (k := 0) (d := d) (Nat.zero_le _) (by omega)
            have hd : find d ((ownS (o :: ow) 0 0 ((cx.cd i).cs r)).2.map fun p => (p.1, p.2.av)) = none := hd
            rw [find_map (fun b : SC tb => b.av)] at hd
            cases hq : find d (ownS (o :: ow) 0 0 ((cx.cd i).cs r)).2 with
            | none => exact h3 hq
            | some z => rw [hq] at hd; cases hd
          · exact hge
      | [], xs, r, hxs, h' => cases h'
      | _ :: _ :: _, xs, r, hxs, h' => cases h'
      | [_], [], r, hxs, h' => cases h'
      | [_], _ :: _ :: _, r, hxs, h' => cases h'
end
end Go.Rx
