/-
  Code run on symbolic states. No conditions.
-/
import Derived.Test.YtdknhngjfoaphaaGreatRzC
set_option linter.all false
namespace Go.Rx
open Go.RowKit

def Join {V ρ : Type} (K : V → Option ρ) (b : (V → Option ρ) → Option ρ) : Option ρ := b K
def asgO : List Oper → List Nat
  | [] => []
  | o :: os => match o.dst with | some d => d :: asgO os | none => asgO os
/-- The slots that the code writes. -/
def asgC : Code → List Nat
  | .region _ ops _ => asgO ops.toList
  | .seq a b => asgC a ++ asgC b
  | .cond _ a b => asgC a ++ asgC b
  | .block _ a => asgC a
  | .loop a => asgC a
  | _ => []
section
variable {tb : Tb}
def An.j : An tb → Option (JA tb)
  | .n => none
  | .t j _ _ => j
def An.l : An tb → An tb
  | .n => .n
  | .t _ a _ => a
def An.r : An tb → An tb
  | .n => .n
  | .t _ _ b => b
end

section
variable {P : Program} {tb : Tb} {ρ : Type} {cx : Ctx P tb}
/-- A loop whose rounds are walked one by one. -/
def loopU (body : SLS tb → (AExit → SLS tb → Option ρ) → Option ρ) : Nat → SLS tb → (AExit → SLS tb → Option ρ) → Option ρ
  | 0, _, _ => none
  | n + 1, L, k => body L fun e L' => match e with
    | .normal => loopU body n L' k
    | e => k e L'
noncomputable def exec (cx : Ctx P tb) (I : Iln P tb ρ) (im : Nat → Bool) (bar : Nat → Nat) (N : Nat) : Code → An tb → SLS tb → (AExit → SLS tb → Option ρ) → Option ρ
  | .skip, _, L, k => k .normal L
  | .region id ops draw, _, L, k => runR cx I im N draw (bar id) ops L (k .normal)
  | .seq a b, n, L, k => (match n.j with
    | none => exec cx I im bar N a n.l L fun e L' => match e with
      | .normal => exec cx I im bar N b n.r L' k
      | e => k e L'
    | some A => preJ L A.vars L fun L => tst (wf L) <| Join (fun v => exec cx I im bar N b n.r (stJ cx L (asgC a) A v) k) fun J => exec cx I im bar N a n.l L fun e L' => match e with
      | .normal => preJ L A.vars L' fun L2 => unJ cx L (asgC a) A L2 J
      | e => k e L')
  | .cond c a b, n, L, k => got (opd L [] c) fun x => (match x with
    | .con (.bool t) => (match t with | true => exec cx I im bar N a n.l L k | false => exec cx I im bar N b n.r L k)
    | .bo t => If t (exec cx I im bar N a n.l L k) (exec cx I im bar N b n.r L k)
    | _ => none)
  | .block id a, n, L, k => exec cx I im bar N a n.l L fun e L' => match e with
    | .exit j => (match Nat.beq j id with | true => k .normal L' | false => k (.exit j) L')
    | e => k e L'
  | .loop a, n, L, k => (match n.j with
    | none => loopU (fun L k => exec cx I im bar N a n.l L k) 8 L k
    | some A => preJ L A.vars L fun L => tst (wf L) <| unJ cx L (asgC a) A L fun v0 => LOOP (fun rec v => exec cx I im bar N a n.l (stJ cx L (asgC a) A v) fun e L' => match e with
      | .normal => preJ L A.vars L' fun L2 => unJ cx L (asgC a) A L2 rec
      | e => k e L') fuel v0)
  | .exit id, _, L, k => k (.exit id) L
  | .ret, _, L, k => k .ret L
  | _, _, _, _ => none

/-- Where the code may end. -/
def EndOk (L : SLS tb) (k : AExit → SLS tb → Option ρ) (r : ρ) (e : AExit) (Lf : LS) : Prop := ∃ L', k e L' = some r ∧ RI [] L'.e ∧ Ext L L' ∧ Tells Lf L'.av
theorem Wp.post {P N c Q Q' L} (h : Wp P N c Q L) (hq : ∀ e Lf, Q e Lf → ∃ L2, Tells Lf L2 ∧ Q' e L2) : Wp P N c Q' L :=
  fun _ _ _ _ _ _ _ s Qc hc => h _ _ _ _ _ _ _ s Qc fun e L' a' w' m' bl' q s' =>
    let ⟨L2, t, q2⟩ := hq e L' q
    let ⟨_, _, s2⟩ := t _ _ _ _ _ _ _ _ s'
    hc e L2 a' w' _ _ q2 s2
theorem exec_ok {I : Iln P tb ρ} (hI : InlOk I) {im bar N} : ∀ {c : Code} {n : An tb} {L : SLS tb} {k : AExit → SLS tb → Option ρ} {r}, RI [] L.e → exec cx I im bar N c n L k = some r → Wp P N c (EndOk L k r) L.av
  | .skip, n, L, k, r, hi, h => Wp.skip ⟨L, h, hi, .refl L, .refl _⟩
  | .region id ops draw, n, L, k, r, hi, h => runR_ok hI hi (show runR cx I im N draw (bar id) ops L (k .normal) = some r from h) fun L' h' hi' x' L0 ht => ⟨L', h', hi', x', ht⟩
  | .exit id, n, L, k, r, hi, h => Wp.exit ⟨L, h, hi, .refl L, .refl _⟩
  | .ret, n, L, k, r, hi, h => Wp.ret ⟨L, h, hi, .refl L, .refl _⟩
  | .block id a, n, L, k, r, hi, h => by
    refine Wp.block ((exec_ok hI (c := a) hi (show exec cx I im bar N a n.l L _ = some r from h)).mono ?_)
    rintro e Lf ⟨L', h', hi', x', ht⟩
    cases e with
    | normal => exact ⟨L', h', hi', x', ht⟩
    | ret => exact ⟨L', h', hi', x', ht⟩
    | exit j =>
      simp only [AExit.inBlock]
      have h' : (match Nat.beq j id with | true => k .normal L' | false => k (.exit j) L') = some r := h'
      split at h'
      · rename_i hb
        rw [if_pos (Nat.eq_of_beq_eq_true hb)]
        exact ⟨L', h', hi', x', ht⟩
      · rename_i hb
        rw [if_neg (fun he => by subst he; rw [Nat.beq_refl] at hb; cases hb)]
        exact ⟨L', h', hi', x', ht⟩
  | .cond c a b, n, L, k, r, hi, h => by
    obtain ⟨x, hx, h2⟩ := got_e (show got (opd L [] c) _ = some r from h)
    clear h
    have hy := opd_ok (Gu.nil hi.inv) hx
    cases x with
    | con v =>
      cases v with
      | bool t =>
        cases t with
        | true => exact Wp.cond (t := true) hy (fun _ => exec_ok hI hi h2) (fun h => by cases h)
        | false => exact Wp.cond (t := false) hy (fun h => by cases h) (fun _ => exec_ok hI hi h2)
      | _ => cases h2
    | bo t =>
      have h3 : (if t = true then exec cx I im bar N a n.l L k else exec cx I im bar N b n.r L k) = some r := h2
      refine Wp.cond (t := t) hy (fun ht => ?_) (fun ht => ?_)
      · rw [if_pos ht] at h3; exact exec_ok hI hi h3
      · rw [if_neg (by rw [ht]; simp)] at h3; exact exec_ok hI hi h3
    | _ => cases h2
  | .seq a b, n, L, k, r, hi, h => by
    have h : (match n.j with
      | none => exec cx I im bar N a n.l L fun e L' => match e with
        | .normal => exec cx I im bar N b n.r L' k
        | e => k e L'
      | some A => preJ L A.vars L fun L => tst (wf L) <| Join (fun v => exec cx I im bar N b n.r (stJ cx L (asgC a) A v) k) fun J => exec cx I im bar N a n.l L fun e L' => match e with
        | .normal => preJ L A.vars L' fun L2 => unJ cx L (asgC a) A L2 J
        | e => k e L') = some r := h
    split at h
    · refine Wp.seq ((exec_ok hI (c := a) hi h).mono ?_)
      rintro e Lf ⟨L', h', hi', x', ht⟩
      cases e with
      | normal =>
        refine Wp.tells ht ((exec_ok hI (c := b) hi' h').mono ?_)
        rintro e Lf ⟨L2, h2, hi2, x2, ht2⟩
        exact ⟨L2, h2, hi2, x'.trans x2, ht2⟩
      | exit j => exact ⟨L', h', hi', x', ht⟩
      | ret => exact ⟨L', h', hi', x', ht⟩
    · rename_i A _
      obtain ⟨L9, h, g9⟩ := preJ_ok cx h
      have hi := g9.i hi
      obtain ⟨hw, h⟩ := tst_e h
      have h := (show exec cx I im bar N a n.l L9 _ = some r from h)
      refine Wp.tells g9.t (Wp.seq ((exec_ok hI (c := a) hi h).mono ?_))
      rintro e Lf ⟨L', h', hi', x', ht⟩
      cases e with
      | normal =>
        obtain ⟨L8, h', g8⟩ := preJ_ok cx h'
        obtain ⟨v, h2, hi2, x2, ht2⟩ := unJ_ok (wf_e hw) hi (x'.trans g8.x) h'
        refine Wp.tells ((ht.trans g8.t).trans ht2) ((exec_ok hI (c := b) hi2 h2).mono ?_)
        rintro e Lf ⟨L3, h3, hi3, x3, ht3⟩
        exact ⟨L3, h3, hi3, g9.x.trans (x2.trans x3), ht3⟩
      | exit j => exact ⟨L', h', hi', g9.x.trans x', ht⟩
      | ret => exact ⟨L', h', hi', g9.x.trans x', ht⟩
  | .loop a, n, L, k, r, hi, h => by
    have h : (match n.j with
      | none => loopU (fun L k => exec cx I im bar N a n.l L k) 8 L k
      | some A => preJ L A.vars L fun L => tst (wf L) <| unJ cx L (asgC a) A L fun v0 => LOOP (fun rec v => exec cx I im bar N a n.l (stJ cx L (asgC a) A v) fun e L' => match e with
        | .normal => preJ L A.vars L' fun L2 => unJ cx L (asgC a) A L2 rec
        | e => k e L') fuel v0) = some r := h
    split at h
    · refine Wp.loopS (fun L' : SLS tb => L'.av) (fun m L' => loopU (fun L k => exec cx I im bar N a n.l L k) m L' k = some r ∧ RI [] L'.e ∧ Ext L L') 8 L ⟨h, hi, .refl L⟩ (.refl _) ?_
      rintro m L1 ⟨hm, hi1, x1⟩
      cases m with
      | zero => cases hm
      | succ m =>
        have hm : exec cx I im bar N a n.l L1 (fun e L' => match e with
          | .normal => loopU (fun L k => exec cx I im bar N a n.l L k) m L' k
          | e => k e L') = some r := hm
        refine (exec_ok hI (c := a) hi1 hm).mono ?_
        rintro e Lf ⟨L', h', hi', x', ht⟩
        cases e with
        | normal => exact ⟨m, L', Nat.lt_succ_self m, ⟨h', hi', x1.trans x'⟩, ht⟩
        | exit j => exact ⟨L', h', hi', x1.trans x', ht⟩
        | ret => exact ⟨L', h', hi', x1.trans x', ht⟩
    · rename_i A _
      obtain ⟨L9, h, g9⟩ := preJ_ok cx h
      have hi := g9.i hi
      obtain ⟨hw, h⟩ := tst_e h
      have hw := wf_e hw
      obtain ⟨v0, h, hi0, x0, ht0⟩ := unJ_ok hw hi (.refl L9) h
      generalize hstep : (fun (rec : VT A.vars → Option ρ) v => exec cx I im bar N a n.l (stJ cx L9 (asgC a) A v) fun e L' => match e with
        | .normal => preJ L9 A.vars L' fun L2 => unJ cx L9 (asgC a) A L2 rec
        | e => k e L') = step at h
      refine Wp.tells g9.t (Wp.loopS (fun v => (stJ cx L9 (asgC a) A v).av) (fun m v => LOOP step m v = some r ∧ RI [] (stJ cx L9 (asgC a) A v).e ∧ Ext L9 (stJ cx L9 (asgC a) A v)) fuel v0 ⟨h, hi0, x0⟩ ht0 ?_)
      rintro m v ⟨hm, hiv, xv⟩
      cases m with
      | zero => cases hm
      | succ m =>
        have hm : step (LOOP step m) v = some r := hm
        rw [← hstep] at hm
        refine (exec_ok hI (c := a) hiv hm).mono ?_
        rintro e Lf ⟨L', h', hi', x', ht⟩
        cases e with
        | normal =>
          obtain ⟨L8, h', g8⟩ := preJ_ok cx h'
          obtain ⟨v', h2, hi2, x2, ht2⟩ := unJ_ok hw hi ((xv.trans x').trans g8.x) h'
          rw [hstep] at h2
          exact ⟨m, v', Nat.lt_succ_self m, ⟨h2, hi2, x2⟩, (ht.trans g8.t).trans ht2⟩
        | exit j => exact ⟨L', h', hi', g9.x.trans (xv.trans x'), ht⟩
        | ret => exact ⟨L', h', hi', g9.x.trans (xv.trans x'), ht⟩
  | .rangeFunc _ _ _ _, n, L, k, r, hi, h => by cases h
  | .scope _, n, L, k, r, hi, h => by cases h
  | .label _, n, L, k, r, hi, h => by cases h
  | .goto _, n, L, k, r, hi, h => by cases h
  | .refuse _, n, L, k, r, hi, h => by cases h

/-- A function walked in its caller's state. -/
noncomputable def inlBy (cx : Ctx P tb) (I : Iln P tb ρ) : Iln P tb ρ := fun i xs d L gs k =>
  tst (Nat.ble xs.length i.fn.ntmps) <| tst (hasL (keepQ L.gn) xs) <| tst (noOpts xs) <|
  exec cx I i.im i.bar i.fn.ntmps i.code i.an { L with e := envS 0 xs, s := L.e :: L.s } fun e L' => match e with
  | .exit _ => none
  | _ => cutR [] i.fn.results.toList L' fun L' => got (resSs P L' i.fn.results.toList) fun ys => tst (hasL (keepQ L'.gn) ys) <| tst (noOpts ys) <| k { L' with e := (d, tupSV ys) :: L.e, s := L.s } gs
theorem inlBy_ok {I : Iln P tb ρ} (hI : InlOk I) : InlOk (inlBy cx I) := by
  intro i xs d L gs k r hi hm h N ops rest K o y args tys as caps hg ho hd hN hy has hxs kk
  subst hxs
  unfold inlBy at h
  obtain ⟨hle, h⟩ := tst_e h
  obtain ⟨hkx, h⟩ := tst_e h
  obtain ⟨hox, h⟩ := tst_e h
  have hkx := resL_keep hkx
  have hE : RI [] (envS 0 (as ++ caps) : SEnv tb) := by
    intro t G x hx
    have := noOpts_e hox _ (envS_mem hx)
    cases this
  have key := exec_ok hI hE h
  refine GoT.act hg (fun d' h' => by rw [hd] at h'; cases h'; exact hN)
    (AEx.inl (L := L.av) (K := fun L1 => GoT P ops N rest K L1) (fn := i.fn) (c := i.code) (N2 := i.fn.ntmps) (xs := avL as) (caps := avL caps) ho hd i.hf i.hb rfl i.call hy has ?_ ?_) (fun L' h => h)
  · rw [← avL_append, avL_length]; exact Nat.le_of_ble_eq_true hle
  · have e0 : (⟨envS 0 (as ++ caps), L.e :: L.s, L.h, L.nx, L.gn⟩ : SLS tb).av = ⟨envFrom 0 (avL as ++ avL caps), L.av.e :: L.av.s, L.av.h, L.av.f⟩ := by
      show (⟨avE L.gn (envS 0 (as ++ caps)), _, _, _⟩ : LS) = _
      rw [envS_av hkx, avL_append]; rfl
    rw [e0] at key
    refine key.post ?_
    rintro e Lf ⟨L', h', hi', x', ht⟩
    have main : cutR [] i.fn.results.toList L' (fun L' => got (resSs P L' i.fn.results.toList) fun ys => tst (hasL (keepQ L'.gn) ys) <| tst (noOpts ys) <| k { L' with e := (d, tupSV ys) :: L.e, s := L.s } gs) = some r →
        ∃ L2, Tells Lf L2 ∧ ∃ xs e0 s0, RessOk P L2 i.fn.results.toList xs ∧ L2.s = e0 :: s0 ∧ GoT P ops N rest K ⟨(d, tupleOf xs) :: e0, s0, L2.h, L2.f⟩ := by
      intro h'
      obtain ⟨L9, h', g9⟩ := cutR_ok cx h'
      obtain ⟨ys, hys, h'⟩ := got_e h'
      obtain ⟨hky, h'⟩ := tst_e h'
      obtain ⟨hoy, h'⟩ := tst_e h'
      have hky := resL_keep hky
      have x9 := x'.trans g9.x
      refine ⟨L9.av, ht.trans g9.t, avL ys, avE L9.gn L.e, L.s.map (avE L9.gn), resSs_ok hys, ?_, ?_⟩
      · show L9.s.map (avE L9.gn) = _
        rw [x9.s]; rfl
      · have := kk _ _ h' (hi.put hm (tupSV_opt hoy)) ⟨rfl, ⟨[_], rfl⟩, x9.h, x9.nx, x9.gn⟩
        have e1 : ({ L9 with e := (d, tupSV ys) :: L.e, s := L.s } : SLS tb).av = ⟨(d, tupleOf (avL ys)) :: avE L9.gn L.e, L.s.map (avE L9.gn), L9.av.h, L9.av.f⟩ := by
          show (⟨(d, ((tupSV ys).res L9.gn).av) :: avE L9.gn L.e, _, _, _⟩ : LS) = _
          rw [tupSV_res hky, tupSV_av]; rfl
        rw [e1] at this
        exact this
    cases e with
    | exit j => cases h'
    | normal => obtain ⟨L2, t2, q⟩ := main h'; exact ⟨L2, t2, .inl rfl, q⟩
    | ret => obtain ⟨L2, t2, q⟩ := main h'; exact ⟨L2, t2, .inr rfl, q⟩
/-- Functions walked in their callers' states, n deep. -/
noncomputable def lvl (cx : Ctx P tb) : Nat → Iln P tb ρ
  | 0 => noIln
  | n + 1 => inlBy cx (lvl cx n)
theorem lvl_ok : ∀ n, InlOk (lvl (ρ := ρ) cx n)
  | 0 => noIln_ok
  | n + 1 => inlBy_ok (lvl_ok n)
end
end Go.Rx
