/-
  Regions run on symbolic states. No conditions.
-/
import Derived.Test.YtdknhngjfoaphaaGreatRzE
set_option linter.all false
namespace Go.Rx
open Go.RowKit

theorem Tells.env {e e' : Env} {s h} {f : Nat → Prop} (he : ∀ t x, find t e' = some x → x = .undef ∨ find t e = some x) : Tells ⟨e, s, h, f⟩ ⟨e', s, h, f⟩ :=
  fun _ _ _ _ _ _ m bl S => ⟨m, bl, S.defers, S.size, S.below, S.ws, fun t x hx => by
    rcases he t x hx with rfl | h
    · exact .undef
    · exact S.env t x h, S.stk, S.free⟩

section
variable {P : Program} {tb : Tb} {ρ : Type} {cx : Ctx P tb}

theorem SLS.av_eq {L L1 : SLS tb} (hs : L1.s = L.s) (hg : L1.gn = L.gn) : L1.av = ⟨L1.av.e, L.av.s, L1.av.h, fun y => L1.nx ≤ y⟩ := by
  cases L1; cases L; simp only at hs hg; subst hs hg; rfl
/-- How a function is walked in its caller's state. -/
abbrev Iln (P : Program) (tb : Tb) (ρ : Type) := Inl P tb → List (SV tb) → Nat → SLS tb → List Nat → (SLS tb → List Nat → Option ρ) → Option ρ
def InlOk (I : Iln P tb ρ) : Prop := ∀ {i : Inl P tb} {xs d} {L : SLS tb} {gs k r}, RI gs L.e → memN d gs = false → I i xs d L gs k = some r →
  ∀ {N : Nat} {ops : Array Oper} {rest K o y args tys as caps}, o.guard = none → o.op = .call { callee := .value y, args, argTypes := tys } → o.dst = some d → d < N → OpdOk L.av.e y (.clo i.fid (avL caps)) → OpdsOk L.av.e args.toList (avL as) → xs = as ++ caps →
  (∀ L' gs', k L' gs' = some r → RI gs' L'.e → Ext L L' → GoT P ops N rest K L'.av) → GoT P ops N (o :: rest) K L.av
def noIln : Iln P tb ρ := fun _ _ _ _ _ _ => none
theorem noIln_ok : InlOk (noIln : Iln P tb ρ) := fun _ _ h => by cases h
def findInl (f : Nat) : List (Inl P tb) → Option (Inl P tb)
  | [] => none
  | c :: r => match Nat.beq c.fid f with | true => some c | false => findInl f r
theorem findInl_f {f : Nat} : ∀ {l : List (Inl P tb)} {c}, findInl f l = some c → c.fid = f
  | [], _, h => by simp [findInl] at h
  | c :: r, c', h => by
    simp only [findInl] at h
    split at h
    · rename_i hb; cases h; exact Nat.eq_of_beq_eq_true hb
    · exact findInl_f h
/-- May the call's arguments be lent? -/
def lendable (cx : Ctx P tb) (f : Nat) : Bool := match findCon f cx.Γ with
  | some con => (match con.own with | [] => allFlat cx con.rs | _ :: _ => false)
  | none => true
def gLop (cx : Ctx P tb) (im : Nat → Bool) (N : Nat) (ops : Array Oper) (L : SLS tb) (gs : List Nat) (o : Oper) (k : SLS tb → List Nat → Option ρ) : Option ρ :=
  lop cx im N ops L gs o fun L' gs' _ => k L' gs'
/-- A call. -/
def gVal (cx : Ctx P tb) (I : Iln P tb ρ) (im : Nat → Bool) (N : Nat) (ops : Array Oper) (L : SLS tb) (gs : List Nat) (o : Oper) (y : Operand) (args : Array Operand) (k : SLS tb → List Nat → Option ρ) : Option ρ := match opd L [] y with
  | some (.fn f caps) => (match findInl f cx.inl with
    | some i => got o.dst fun d => tst (Nat.blt d N) <| tst (!memN d gs) <| got (opdsS L [] args.toList) fun xs => I i (xs ++ caps) d L gs k
    | none => (match lendable cx f with
      | true => gLop cx im N ops L gs o k
      | false => got (opdsS L [] args.toList) fun xs => frzK (nmsL (xs ++ caps) []) L fun L1 => gLop cx im N ops L1 gs o k))
  | some (.cl _ rs _ _ _ _) => (match allFlat cx rs with
    | true => gLop cx im N ops L gs o k
    | false => got (opdsS L [] args.toList) fun xs => frzK (nmsL xs []) L fun L1 => gLop cx im N ops L1 gs o k)
  | _ => none
def isEpr : Option (SV tb) → Bool
  | some (.epr _ _ _ _) => true
  | _ => false
/-- A store: what is stored of an own slice is cut first; what goes into a slice is written no more. -/
def gSto (cx : Ctx P tb) (im : Nat → Bool) (N : Nat) (ops : Array Oper) (L : SLS tb) (gs : List Nat) (o : Oper) (y z : Operand) (k : SLS tb → List Nat → Option ρ) : Option ρ := match isEpr (opd L [] y) with
  | true => got (opd L [] z) fun x => frzK (x.nms []) L fun L1 => gLop cx im N ops L1 gs o k
  | false => match z with
    | .tmp t => cutS gs t L fun L1 => gLop cx im N ops L1 gs o k
    | _ => gLop cx im N ops L gs o k
/-- Names among operands. -/
def nmsO (L : SLS tb) : List Operand → List Nat
  | [] => []
  | y :: r => match opd L [] y with
    | some x => x.nms (nmsO L r)
    | none => nmsO L r
/-- An operation that is wanted, in text order. -/
noncomputable def gopU (cx : Ctx P tb) (I : Iln P tb ρ) (im : Nat → Bool) (N : Nat) (ops : Array Oper) (L : SLS tb) (gs : List Nat) (o : Oper) (k : SLS tb → List Nat → Option ρ) : Option ρ := match o.op with
    | .call c => (match c.callee with
      | .builtin .append => (match args2 c with
        | some a => (match opd L [] a.1 with
          | some (.rw id E) => gApp cx N L gs o c id E k
          | _ => gLop cx im N ops L gs o k)
        | none => none)
      | .value y => gVal cx I im N ops L gs o y c.args k
      | _ => gLop cx im N ops L gs o k)
    | .store _ y z => gSto cx im N ops L gs o y z k
    | .buildSlice t _ _ => (match plainEl P tb t with
      | true => frzK (nmsO L o.op.operands.toList) L fun L1 => gLop cx im N ops L1 gs o k
      | false => gLop cx im N ops L gs o k)
    | .range t y => gRange P N L gs o t y k
    | .next y true => gNext N L gs o y k
    | .binOp op t y z _ => (match isNilC z with
      | true => (match op, opd L [] y with
        | .eql, some x => (match isNil x with | true => gLop cx im N ops L gs o k | false => gNil P N L gs o false t x k)
        | .neq, some x => (match isNil x with | true => gLop cx im N ops L gs o k | false => gNil P N L gs o true t x k)
        | _, _ => none)
      | false => gLop cx im N ops L gs o k)
    | _ => gLop cx im N ops L gs o k
/-- Is a function walked in place called under a guard? -/
def isInlC (cx : Ctx P tb) (o : Oper) : Bool := match o.guard, o.op with
  | some _, .call c => (match c.callee with
    | .value (.func f) => (match findInl f cx.inl with | some _ => true | none => false)
    | _ => false)
  | _, _ => false
def anyInl (cx : Ctx P tb) : List Oper → Bool
  | [] => false
  | o :: r => match isInlC cx o with | true => true | false => anyInl cx r
def _root_.Go.Oper.free (o : Oper) : Oper := { o with guard := none }
def eqB : Bool → Bool → Bool
  | true, true => true
  | false, false => true
  | _, _ => false
theorem eqB_e {a b : Bool} : eqB a b = (a == b) := by cases a <;> cases b <;> rfl
/-- An operation whose guard is known. -/
noncomputable def gKn (cx : Ctx P tb) (I : Iln P tb ρ) (im : Nat → Bool) (N : Nat) (ops : Array Oper) (L : SLS tb) (gs : List Nat) (o : Oper) (w b : Bool) (k : SLS tb → List Nat → Option ρ) : Option ρ := match eqB b w with
  | true => gopU cx I im N ops L gs o.free k
  | false => match o.dst with
    | some d => tst (Nat.blt d N) <| tst (!memN d gs) <| k { L with e := (d, .undef) :: L.e } gs
    | none => k L gs
def setB (L : SLS tb) (s : Nat) (b : Bool) : SLS tb := { L with e := (s, .con (.bool b)) :: L.e }
/-- An operation, in text order. Where a function walked in place is called under a guard, both ways are walked. -/
noncomputable def gop (cx : Ctx P tb) (I : Iln P tb ρ) (im : Nat → Bool) (N : Nat) (ops : Array Oper) (L : SLS tb) (gs : List Nat) (o : Oper) (k : SLS tb → List Nat → Option ρ) : Option ρ := match o.guard with
  | some (j, w) => (match anyInl cx ops.toList with
    | false => gLop cx im N ops L gs o k
    | true => got ((ops[j]?).bind (·.dst)) fun s => got (find s L.e) fun y => match y with
      | .con (.bool b) => gKn cx I im N ops L gs o w b k
      | .bo t => tst (!memN s gs) <| If t (gKn cx I im N ops (setB L s true) gs o w true k) (gKn cx I im N ops (setB L s false) gs o w false k)
      | _ => none)
  | none => gopU cx I im N ops L gs o k
theorem GoT.want {N : Nat} {ops : Array Oper} {rest : List Oper} {K : LS → Prop} {L : LS} {o : Oper} {j w s} (hg : o.guard = some (j, w)) (hj : (ops[j]?).bind (·.dst) = some s) (hs : find s L.e = some (.v (.bool w))) (k : GoT P ops N (o.free :: rest) K L) : GoT P ops N (o :: rest) K L := by
  intro W0 m0 sa m bl a w' s' Q hq
  have := k W0 m0 sa m bl a w' s' Q hq
  simp only [wpList] at this ⊢
  have hw : Region.wanted o (yielded ops a.tmps) = true := by
    have := GV.wanted (c := true) (t := w) (.inl ⟨hs, rfl⟩) hg hj s'.env
    simpa using this
  rw [if_pos hw]
  rw [if_pos (by simp [Region.wanted, Oper.free])] at this
  exact this
theorem GoT.skip {N : Nat} {ops : Array Oper} {rest : List Oper} {K : LS → Prop} {L : LS} {o : Oper} {j w b s} (hg : o.guard = some (j, w)) (hj : (ops[j]?).bind (·.dst) = some s) (hs : find s L.e = some (.v (.bool b))) (hb : (b == w) = false) (hd : ∀ d, o.dst = some d → d < N)
    (k : GoT P ops N rest K (L.put o.dst .undef)) : GoT P ops N (o :: rest) K L := by
  intro W0 m0 sa m bl a w' s' Q hq
  simp only [wpList]
  have hw : Region.wanted o (yielded ops a.tmps) = false := by
    have := GV.wanted (c := true) (t := b) (.inl ⟨hs, rfl⟩) hg hj s'.env
    rw [hb] at this
    simpa using this
  rw [if_neg (by rw [hw]; simp)]
  refine k W0 m0 sa m bl _ w' ⟨?_, ?_, ?_, ?_, ?_, ?_, ?_⟩ Q hq
  · cases hd' : o.dst <;> simp [Act.put, s'.defers]
  · cases hd' : o.dst <;> simp [Act.put, s'.size]
  · exact s'.below
  · cases hd' : o.dst <;> exact s'.ws
  · cases hd' : o.dst with
    | none => exact s'.env
    | some d => exact EnvRep.put s'.env .undef (by rw [s'.size]; exact hd d hd')
  · cases hd' : o.dst <;> exact s'.stk
  · cases hd' : o.dst <;> exact s'.free
theorem lop_go {im N ops} {L : SLS tb} {gs o} {k : SLS tb → List Nat → Option ρ} {r} (hi : RI gs L.e) (h : lop cx im N ops L gs o (fun L' gs' _ => k L' gs') = some r) :
    ∀ rest K, (∀ L' gs', k L' gs' = some r → RI gs' L'.e → Ext L L' → GoT P ops N rest K L'.av) → GoT P ops N (o :: rest) K L.av := by
  intro rest K kk
  obtain ⟨L1, gs1, κ, c, h1, h2, h3, h4, h5, h6, h7, h8, h9, h10, h11, h12, h13, h14⟩ := lop_ok hi h
  have := kk L1 gs1 h1 h14 ⟨h8, h12, h13, h7, ⟨[], h9⟩⟩
  refine h3.text (f' := fun y => L1.nx ≤ y) h4 h5 (fun d hd => (h6 d hd).1) (fun y hy => ⟨Nat.le_trans h7 hy, fun hc => ?_⟩) ?_
  · have := (h6 y hc).2
    have : L1.nx ≤ y := hy
    omega
  · have e1 := SLS.av_eq h8 h9
    rw [h10, h11] at e1
    show GoT P ops N rest K ⟨c.we ++ L.av.e, L.av.s, c.wh ++ L.av.h, fun y => L1.nx ≤ y⟩
    rw [← e1]; exact this
theorem gopU_ok {I : Iln P tb ρ} (hI : InlOk I) {im N ops} {L : SLS tb} {gs o} {k : SLS tb → List Nat → Option ρ} {r} (hi : RI gs L.e) (hg : o.guard = none) (h : gopU cx I im N ops L gs o k = some r) :
    ∀ rest K, (∀ L' gs', k L' gs' = some r → RI gs' L'.e → Ext L L' → GoT P ops N rest K L'.av) → GoT P ops N (o :: rest) K L.av := by
  unfold gopU at h
  · split at h
    · rename_i c ho
      split at h
      · rename_i hb
        split at h
        · rename_i a ha
          split at h
          · rename_i id E hx
            exact gApp_ok hi hg ho hb ha hx h
          · exact lop_go hi h
        · cases h
      · rename_i y hb
        obtain ⟨ce, ar, ty⟩ := c
        simp only at hb; subst hb
        unfold gVal at h
        have pre : ∀ {ids}, frzK ids L (fun L1 => gLop cx im N ops L1 gs o k) = some r → ∀ rest K, (∀ L' gs', k L' gs' = some r → RI gs' L'.e → Ext L L' → GoT P ops N rest K L'.av) → GoT P ops N (o :: rest) K L.av := by
          intro ids h rest K kk
          obtain ⟨L1, h1, g1⟩ := frzK_ok cx (gs := gs) h
          exact GoT.tells g1.t (lop_go (g1.i hi) h1 rest K fun L' gs' a b c => kk L' gs' a b (g1.x.trans c))
        split at h
        · rename_i f caps hy
          split at h
          · rename_i i hfi
            obtain ⟨d, hd, h⟩ := got_e h
            obtain ⟨hN, h⟩ := tst_e h
            obtain ⟨hm, h⟩ := tst_e h
            obtain ⟨xs, hxs, h⟩ := got_e h
            intro rest K kk
            exact hI hi (by simpa using hm) h hg ho hd (Nat.le_of_ble_eq_true hN) (by have := opd_ok (Gu.nil hi.inv) hy; rwa [← findInl_f hfi] at this) (opdsS_ok (Gu.nil hi.inv) hxs) rfl kk
          · split at h
            · exact lop_go hi h
            · obtain ⟨xs, hxs, h⟩ := got_e h
              exact pre h
        · split at h
          · exact lop_go hi h
          · obtain ⟨xs, hxs, h⟩ := got_e h
            exact pre h
        · cases h
      · exact lop_go hi h
    · rename_i t y z ho
      unfold gSto at h
      split at h
      · obtain ⟨x, hx, h⟩ := got_e h
        intro rest K kk
        obtain ⟨L1, h1, g1⟩ := frzK_ok cx (gs := gs) h
        exact GoT.tells g1.t (lop_go (g1.i hi) h1 rest K fun L' gs' a b c => kk L' gs' a b (g1.x.trans c))
      split at h
      · rename_i t'
        intro rest K kk
        obtain ⟨L1, h1, g1⟩ := cutS_ok cx h
        exact GoT.tells g1.t (lop_go (g1.i hi) h1 rest K fun L' gs' a b c => kk L' gs' a b (g1.x.trans c))
      · exact lop_go hi h
    · split at h
      · intro rest K kk
        obtain ⟨L1, h1, g1⟩ := frzK_ok cx (gs := gs) h
        exact GoT.tells g1.t (lop_go (g1.i hi) h1 rest K fun L' gs' a b c => kk L' gs' a b (g1.x.trans c))
      · exact lop_go hi h
    · rename_i t y ho
      exact gRange_ok hi hg ho h
    · rename_i y ho
      exact gNext_ok hi hg ho h
    · rename_i op t y z yt ho
      split at h
      · rename_i hz
        rw [isNilC_e hz] at ho
        split at h
        · rename_i x hx
          split at h
          · exact lop_go hi h
          · exact gNil_ok (neg := false) cx hi hg ho hx h
        · rename_i x hx
          split at h
          · exact lop_go hi h
          · exact gNil_ok (neg := true) cx hi hg ho hx h
        · cases h
      · exact lop_go hi h
    · exact lop_go hi h
theorem gKn_ok {I : Iln P tb ρ} (hI : InlOk I) {im N ops} {L : SLS tb} {gs o j w b s} {k : SLS tb → List Nat → Option ρ} {r} (hi : RI gs L.e) (hg : o.guard = some (j, w)) (hj : (ops[j]?).bind (·.dst) = some s) (hs : find s L.av.e = some (.v (.bool b))) (h : gKn cx I im N ops L gs o w b k = some r) :
    ∀ rest K, (∀ L' gs', k L' gs' = some r → RI gs' L'.e → Ext L L' → GoT P ops N rest K L'.av) → GoT P ops N (o :: rest) K L.av := by
  intro rest K kk
  unfold gKn at h
  rw [eqB_e] at h
  split at h
  · rename_i hb
    have : b = w := by simpa using hb
    subst this
    exact GoT.want hg hj hs (gopU_ok hI hi rfl h rest K kk)
  · rename_i hb
    split at h
    · rename_i d hd
      obtain ⟨hN, h⟩ := tst_e h
      obtain ⟨hm, h⟩ := tst_e h
      have hm : memN d gs = false := by simpa using hm
      refine GoT.skip hg hj hs hb (fun d' h' => by rw [hd] at h'; cases h'; exact Nat.le_of_ble_eq_true hN) ?_
      rw [hd]
      exact kk _ _ h (hi.put hm rfl) ⟨rfl, ⟨[_], rfl⟩, ⟨[], rfl⟩, Nat.le_refl _, ⟨[], rfl⟩⟩
    · rename_i hd
      refine GoT.skip hg hj hs hb (fun d' h' => by rw [hd] at h'; cases h') ?_
      rw [hd]
      exact kk _ _ h hi (.refl L)
theorem gop_ok {I : Iln P tb ρ} (hI : InlOk I) {im N ops} {L : SLS tb} {gs o} {k : SLS tb → List Nat → Option ρ} {r} (hi : RI gs L.e) (h : gop cx I im N ops L gs o k = some r) :
    ∀ rest K, (∀ L' gs', k L' gs' = some r → RI gs' L'.e → Ext L L' → GoT P ops N rest K L'.av) → GoT P ops N (o :: rest) K L.av := by
  unfold gop at h
  split at h
  · rename_i j w hg
    split at h
    · exact lop_go hi h
    · obtain ⟨s, hj, h⟩ := got_e h
      obtain ⟨y, hy, h⟩ := got_e h
      split at h
      · rename_i b
        exact gKn_ok hI hi hg hj (by show find s (avE L.gn L.e) = _; rw [find_avE, hy]; rfl) h
      · rename_i t
        obtain ⟨hm, h⟩ := tst_e h
        have hm : memN s gs = false := by simpa using hm
        intro rest K kk
        have go : ∀ b, t = b → gKn cx I im N ops (setB L s b) gs o w b k = some r → GoT P ops N (o :: rest) K L.av := by
          intro b hb h
          subst hb
          have tl : Tells L.av (setB L s t).av := by
            refine Tells.env ?_
            intro t' x hx
            have hx2 : find t' ((s, AV.v (.bool t)) :: avE L.gn L.e) = some x := hx
            clear hx
            rw [find_cons] at hx2
            refine .inr ?_
            show find t' (avE L.gn L.e) = some x
            split at hx2
            · rename_i hst
              subst hst
              rw [find_avE, hy]; cases hx2; rfl
            · exact hx2
          refine GoT.tells tl (gKn_ok (L := setB L s t) hI (hi.put hm rfl) hg hj (by show find s ((s, AV.v (.bool t)) :: avE L.gn L.e) = _; rw [find_cons, if_pos rfl]) h rest K ?_)
          intro L' gs' h1 h2 h3
          have x1 : Ext L (setB L s t) := ⟨rfl, ⟨[_], rfl⟩, ⟨[], rfl⟩, Nat.le_refl _, ⟨[], rfl⟩⟩
          exact kk L' gs' h1 h2 (x1.trans h3)
        unfold If at h
        split at h
        · rename_i ht; exact go true ht h
        · rename_i ht; exact go false (by simpa using ht) h
      · cases h
  · rename_i hg
    exact gopU_ok hI hi hg h
noncomputable def runG (cx : Ctx P tb) (I : Iln P tb ρ) (im : Nat → Bool) (N : Nat) (ops : Array Oper) : List Oper → SLS tb → List Nat → (SLS tb → List Nat → Option ρ) → Option ρ
  | [], L, gs, k => k L gs
  | o :: os, L, gs, k => gop cx I im N ops L gs o fun L' gs' => runG cx I im N ops os L' gs' k
theorem runG_ok {I : Iln P tb ρ} (hI : InlOk I) {im N ops} : ∀ {os : List Oper} {L : SLS tb} {gs} {k : SLS tb → List Nat → Option ρ} {r}, RI gs L.e → runG cx I im N ops os L gs k = some r →
    ∀ K, (∀ L' gs', k L' gs' = some r → RI gs' L'.e → Ext L L' → K L'.av) → GoT P ops N os K L.av
  | [], L, gs, k, r, hi, h, K, kk => GoT.nil (kk L gs h hi (.refl L))
  | o :: os, L, gs, k, r, hi, h, K, kk => by
    refine gop_ok hI hi (show gop cx I im N ops L gs o _ = some r from h) os K ?_
    intro L1 gs1 h1 hi1 x1
    exact runG_ok hI hi1 h1 K fun L2 gs2 h2 hi2 x2 => kk L2 gs2 h2 hi2 (x1.trans x2)

/-- Values under guards go. -/
def cleanP : SEnv tb → SEnv tb
  | [] => []
  | (t, .opt _ _) :: e => (t, .undef) :: cleanP e
  | _ :: e => cleanP e
theorem cleanP_find : ∀ {p : SEnv tb} {t x}, find t (cleanP p) = some x → x = .undef
  | [], t, x, h => by simp [cleanP, find] at h
  | (t', y) :: p, t, x, h => by
    cases y with
    | opt G y =>
      simp only [cleanP] at h
      rw [find_cons] at h
      split at h
      · cases h; rfl
      · exact cleanP_find h
    | _ => exact cleanP_find (p := p) h
theorem cleanP_opt : ∀ {p : SEnv tb} {t G x}, find t p = some (.opt G x) → find t (cleanP p) = some .undef
  | [], t, _, _, h => by simp [find] at h
  | (t', y) :: p, t, G, x, h => by
    rw [find_cons] at h
    split at h
    · rename_i ht
      cases h
      simp only [cleanP]
      rw [find_cons, if_pos ht]
    · rename_i ht
      have ih := cleanP_opt h
      cases y with
      | opt G y => simp only [cleanP]; rw [find_cons, if_neg ht]; exact ih
      | _ => exact ih
def fin (L : SLS tb) (k : SLS tb → Option ρ) (L' : SLS tb) (gs : List Nat) : Option ρ := match gs with
  | [] => k L'
  | _ :: _ => k { L' with e := cleanP (L'.e.take (L'.e.length - L.e.length)) ++ L'.e }
theorem fin_ok {L L' : SLS tb} {gs} {k : SLS tb → Option ρ} {r} (h0 : RI [] L.e) (hi : RI gs L'.e) (x : Ext L L') (h : fin L k L' gs = some r) : ∃ L2, k L2 = some r ∧ RI [] L2.e ∧ Ext L L2 ∧ Tells L'.av L2.av := by
  unfold fin at h
  split at h
  · exact ⟨L', h, hi, x, .refl _⟩
  · obtain ⟨p, hp⟩ := x.e
    have htk : L'.e.take (L'.e.length - L.e.length) = p := by
      rw [hp, List.length_append, Nat.add_sub_cancel, List.take_left]
    rw [htk] at h
    refine ⟨_, h, ?_, x.trans ⟨rfl, ⟨_, rfl⟩, ⟨[], rfl⟩, Nat.le_refl _, ⟨[], rfl⟩⟩, ?_⟩
    · intro t G y hf
      exfalso
      cases hc : find t (cleanP p) with
      | some z =>
        rw [find_append_some hc] at hf
        have := cleanP_find hc
        subst this; cases hf
      | none =>
        rw [find_append_none hc, hp] at hf
        cases hq : find t p with
        | some z =>
          rw [find_append_some hq] at hf
          cases hf
          rw [cleanP_opt hq] at hc; cases hc
        | none =>
          rw [find_append_none hq] at hf
          obtain ⟨-, h2, h3⟩ := h0 t G y hf
          cases G with
          | nil => exact h2 rfl
          | cons g G => have := h3 g (by simp); simp at this
    · refine Tells.env ?_
      intro t y hf
      show y = .undef ∨ find t (avE L'.gn L'.e) = some y
      have hf : find t (avE L'.gn (cleanP p ++ L'.e)) = some y := hf
      rw [find_avE] at hf ⊢
      cases hc : find t (cleanP p) with
      | some z =>
        rw [find_append_some hc] at hf
        have := cleanP_find hc
        subst this
        cases hf; exact .inl rfl
      | none =>
        rw [find_append_none hc] at hf
        exact .inr hf

/-- The operands of operations. -/
def opsO : List Oper → List Operand
  | [] => []
  | o :: r => o.op.operands.toList ++ opsO r
/-- Own slices that operands name: themselves, or in what they point to. -/
def nmsR (L : SLS tb) : List Operand → List Nat
  | [] => []
  | y :: r => match opd L [] y with
    | some (.ptr id _) => (match find id L.h with | some (.cells cl) => nmsL (resL L.gn cl) (nmsR L r) | _ => nmsR L r)
    | some x => x.nms (nmsR L r)
    | none => nmsR L r
noncomputable def runD (cx : Ctx P tb) (I : Iln P tb ρ) (im : Nat → Bool) (N : Nat) (n0 : Nat) (ops : Array Oper) (L : SLS tb) (k : SLS tb → Option ρ) : Option ρ :=
  runL cx im N ops (ops.toList.take n0) L [] [] fun L1 gs ks => tst (locOkK [] [] 0 (ops.toList.take n0) ks.reverse) <| tst (nodupB (kNames ks.reverse)) <| tst (barOk ops (ops.toList.take n0).length) <| runG cx I im N ops (ops.toList.drop n0) L1 gs (fin L k)
theorem runD_ok {I : Iln P tb ρ} (hI : InlOk I) {im N n0 ops id} {L : SLS tb} {k : SLS tb → Option ρ} {r} {Q : AExit → LS → Prop} (hi : RI [] L.e) (h : runD cx I im N n0 ops L k = some r) (kk : ∀ L', k L' = some r → RI [] L'.e → Ext L L' → ∀ L0, Tells L0 L'.av → Q .normal L0) :
    Wp P N (.region id ops true) Q L.av := by
  unfold runD at h
  obtain ⟨L1, gs1, ks, cs, h1, hi1, hks, htr, hnm, x1, hgn⟩ := runL_ok hi h
  rw [List.append_nil, List.reverse_reverse] at h1
  obtain ⟨c1, h1⟩ := tst_e h1
  obtain ⟨c2, h1⟩ := tst_e h1
  obtain ⟨c3, h1⟩ := tst_e h1
  have hav := SLS.av_eq x1.s hgn
  refine Wp.draw2 (A := ops.toList.take n0) (B := ops.toList.drop n0) (cs := cs) (f := fun y => L.nx ≤ y) (f' := fun y => L1.nx ≤ y) (st := L.av.s) cx.mixed (List.take_append_drop _ _).symm c3 htr ?_ ?_ (fun d hd => (hnm d hd).1) ?_ ?_
  · exact locOkK_e (ec := []) (er := []) .nil hks c1
  · rw [hks.names]; exact c2
  · intro y hy
    refine ⟨Nat.le_trans x1.nx hy, fun hc => ?_⟩
    have := (hnm y hc).2
    have : L1.nx ≤ y := hy
    omega
  · rw [← hav]
    refine runG_ok hI hi1 h1 _ ?_
    intro L2 gs2 h2 hi2 x2
    obtain ⟨L3, h3, hi3, x3, ht⟩ := fin_ok hi hi2 (x1.trans x2) h2
    exact kk L3 h3 hi3 x3 _ ht
noncomputable def runR (cx : Ctx P tb) (I : Iln P tb ρ) (im : Nat → Bool) (N : Nat) (draw : Bool) (n0 : Nat) (ops : Array Oper) (L : SLS tb) (k : SLS tb → Option ρ) : Option ρ := match draw with
  | false => (match Nat.ble 1000000 n0 with
    | true => frzK (nmsR L (opsO ops.toList)) L fun L1 => runG cx I im N ops ops.toList L1 [] (fin L1 k)
    | false => runG cx I im N ops ops.toList L [] (fin L k))
  | true => (match Nat.ble 1000000 n0 with
    | true => frzK (nmsR L (opsO ops.toList)) L fun L1 => runD cx I im N (n0 - 1000000) ops L1 k
    | false => runD cx I im N n0 ops L k)
theorem runR_ok {I : Iln P tb ρ} (hI : InlOk I) {im N draw n0 ops id} {L : SLS tb} {k : SLS tb → Option ρ} {r} {Q : AExit → LS → Prop} (hi : RI [] L.e) (h : runR cx I im N draw n0 ops L k = some r) (kk : ∀ L', k L' = some r → RI [] L'.e → Ext L L' → ∀ L0, Tells L0 L'.av → Q .normal L0) :
    Wp P N (.region id ops draw) Q L.av := by
  unfold runR at h
  split at h
  · split at h
    · obtain ⟨L9, h, g9⟩ := frzK_ok cx (gs := []) h
      refine Wp.tells g9.t ?_
      refine Wp.region (runG_ok hI (g9.i hi) h _ ?_)
      intro L1 gs1 h1 hi1 x1
      obtain ⟨L2, h2, hi2, x2, ht⟩ := fin_ok (g9.i hi) hi1 x1 h1
      exact kk L2 h2 hi2 (g9.x.trans x2) _ ht
    refine Wp.region (runG_ok hI hi h _ ?_)
    intro L1 gs1 h1 hi1 x1
    obtain ⟨L2, h2, hi2, x2, ht⟩ := fin_ok hi hi1 x1 h1
    exact kk L2 h2 hi2 x2 _ ht
  · split at h
    · obtain ⟨L1, h1, g1⟩ := frzK_ok cx (gs := []) h
      exact Wp.tells g1.t (runD_ok hI (g1.i hi) h1 fun L' h2 i2 x2 L0 ht => kk L' h2 i2 (g1.x.trans x2) L0 ht)
    · exact runD_ok hI hi h kk
end
end Go.Rx
