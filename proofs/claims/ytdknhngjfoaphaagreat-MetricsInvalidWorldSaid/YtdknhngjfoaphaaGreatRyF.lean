/-
  Ways that meet: the state that follows. No conditions.
-/
import Derived.Test.YtdknhngjfoaphaaGreatRyE
set_option linter.all false
namespace Go.Rx
open Go.RowKit

section
variable {P : Program} {tb : Tb} {ρ : Type} {cx : Ctx P tb}

def unVs (cx : Ctx P tb) (L0 L1 : SLS tb) : (l : List (JV tb)) → Option (VT l × List (Option Nat))
  | [] => some ((), [])
  | v :: r => got (unV cx L0 L1 v) fun p => tst (Nat.beq p.2.length (nOwn v)) <| got (unVs cx L0 L1 r) fun s => some (vc v r p.1 s.1, p.2 ++ s.2)
def mkVs (cx : Ctx P tb) (L0 : SLS tb) : (l : List (JV tb)) → VT l → Nat → SEnv tb × SHp tb
  | [], _, _ => ([], [])
  | v :: r, a, k => ((mkV cx L0 v (vh v r a) k).1 ++ (mkVs cx L0 r (vt v r a) (k + nOwn v)).1, (mkV cx L0 v (vh v r a) k).2 ++ (mkVs cx L0 r (vt v r a) (k + nOwn v)).2)
def nOwns : List (JV tb) → Nat
  | [] => 0
  | v :: r => nOwn v + nOwns r
theorem unVs_len {L0 L1 : SLS tb} : ∀ {l : List (JV tb)} {a ns}, unVs cx L0 L1 l = some (a, ns) → ns.length = nOwns l
  | [], _, _, h => by cases h; rfl
  | v :: r, a, ns, h => by
    obtain ⟨p, hp, h⟩ := got_e (show got (unV cx L0 L1 v) _ = some (a, ns) from h)
    obtain ⟨hl, h⟩ := tst_e h
    obtain ⟨s, hs, h⟩ := got_e h
    cases h
    rw [List.length_append, Nat.eq_of_beq_eq_true hl, unVs_len hs]; rfl
theorem unVs_ok {L0 L1 : SLS tb} {q r nils} : ∀ {l : List (JV tb)} {a ns k}, unVs cx L0 L1 l = some (a, ns) → Seg q r nils k ns → (∀ v ∈ l, ∀ id, v.bid L0 = some id → r id = some id) →
    (∀ p ∈ (mkVs cx L0 l a k).1, GoodE L1 q nils p) ∧ (∀ p ∈ (mkVs cx L0 l a k).2, GoodH L1 q r nils p)
  | [], _, _, _, _, _, _ => ⟨by simp [mkVs], by simp [mkVs]⟩
  | v :: rr, a, ns, k, h, hseg, hb => by
    obtain ⟨p, hp, h⟩ := got_e (show got (unV cx L0 L1 v) _ = some (a, ns) from h)
    obtain ⟨hl, h⟩ := tst_e h
    obtain ⟨s, hs, h⟩ := got_e h
    cases h
    obtain ⟨s1, s2⟩ := Seg.append hseg
    rw [Nat.eq_of_beq_eq_true hl] at s2
    obtain ⟨g1, g2⟩ := unV_ok (v := v) (a := p.1) (ns := p.2) hp s1 (fun id hid => hb v (by simp) id hid)
    obtain ⟨g3, g4⟩ := unVs_ok (a := s.1) (ns := s.2) hs s2 (fun v hv => hb v (List.mem_cons_of_mem _ hv))
    simp only [mkVs, vh_vc, vt_vc]
    refine ⟨fun p hp => ?_, fun p hp => ?_⟩
    · rcases List.mem_append.1 hp with hp | hp
      · exact g1 p hp
      · exact g3 p hp
    · rcases List.mem_append.1 hp with hp | hp
      · exact g2 p hp
      · exact g4 p hp

/-- Names that are known no more: of the own cells that are carried, of the slots listed. -/
def rwNames (own : List Nat) : Nat → List (SV tb) → List Nat
  | _, [] => []
  | j, x :: l => match own.contains j, x with
    | true, .rw id _ => id :: rwNames own (j + 1) l
    | _, _ => rwNames own (j + 1) l
def drV (L0 : SLS tb) : List (JV tb) → List Nat
  | [] => []
  | .val t _ own :: r => (match own with
    | [] => drV L0 r
    | _ :: _ => (match find t L0.e with | some x => rwNames own 0 (cellsS x) | none => []) ++ drV L0 r)
  | .blk t _ own :: r => (match own with
    | [] => drV L0 r
    | _ :: _ => (match blkId L0 t with | some id => (match find id L0.h with | some (.cells l) => rwNames own 0 l | _ => []) | none => []) ++ drV L0 r)
  | .arr _ _ _ :: r => drV L0 r
  | .itr _ :: r => drV L0 r
def drX (L0 : SLS tb) : List Nat → List Nat
  | [] => []
  | t :: r => match find t L0.e with
    | some (.ptr id _) => id :: drX L0 r
    | some (.rw id _) => id :: drX L0 r
    | _ => drX L0 r
def drN (L0 : SLS tb) (A : JA tb) : List Nat := drV L0 A.vars ++ drX L0 A.xdr
def undefs : List Nat → SEnv tb
  | [] => []
  | t :: r => (t, .undef) :: undefs r
def drops : List Nat → Gn tb
  | [] => []
  | t :: r => (t, .drop) :: drops r
/-- The state that follows. -/
def stJ (cx : Ctx P tb) (L0 : SLS tb) (asg : List Nat) (A : JA tb) (v : VT A.vars) : SLS tb :=
  { e := (mkVs cx L0 A.vars v L0.nx).1 ++ (undefs asg ++ L0.e), s := L0.s, h := (mkVs cx L0 A.vars v L0.nx).2 ++ L0.h, nx := L0.nx + nOwns A.vars, gn := drops (drN L0 A) ++ L0.gn }

def keysIn {α : Type} (f : Nat → Bool) : Nat → List (Nat × α) → Bool
  | 0, _ => true
  | _ + 1, [] => true
  | n + 1, (k, _) :: l => match f k with | true => keysIn f n l | false => false
theorem keysIn_e {α : Type} {f : Nat → Bool} : ∀ {p b : List (Nat × α)}, keysIn f p.length (p ++ b) = true → ∀ q ∈ p, f q.1 = true
  | [], _, _, q, hq => by cases hq
  | (k, x) :: p, b, h, q, hq => by
    simp only [List.cons_append, List.length_cons, keysIn] at h
    split at h
    · rename_i hk
      rcases List.mem_cons.1 hq with rfl | hq
      · exact hk
      · exact keysIn_e h q hq
    · cases h
def someIds : List (Option Nat) → List Nat
  | [] => []
  | some i :: r => i :: someIds r
  | none :: r => someIds r
def allB (f : Nat → Bool) : List Nat → Bool
  | [] => true
  | x :: l => match f x with | true => allB f l | false => false
theorem allB_e {f : Nat → Bool} : ∀ {l : List Nat}, allB f l = true → ∀ x ∈ l, f x = true
  | [], _, x, hx => by cases hx
  | y :: l, h, x, hx => by
    unfold allB at h
    split at h
    · rename_i hy
      rcases List.mem_cons.1 hx with rfl | hx
      · exact hy
      · exact allB_e h x hx
    · cases h
def nodupN : List Nat → Bool
  | [] => true
  | x :: l => match memN x l with | true => false | false => nodupN l
theorem nodupN_e : ∀ {l : List Nat}, nodupN l = true → l.Nodup
  | [], _ => .nil
  | x :: l, h => by
    unfold nodupN at h
    split at h
    · cases h
    · rename_i hm
      exact List.nodup_cons.2 ⟨fun hx => (by rw [memN_e.2 hx] at hm; cases hm), nodupN_e h⟩
def keepE (g : Gn tb) : SEnv tb → Bool
  | [] => true
  | (_, x) :: l => match x.has (keepQ g) with | true => (match notOpt x with | true => keepE g l | false => false) | false => false
theorem keepE_e {g : Gn tb} : ∀ {l : SEnv tb}, keepE g l = true → ∀ p ∈ l, p.2.has (keepQ g) = true ∧ notOpt p.2 = true
  | [], _, p, hp => by cases hp
  | (_, x) :: l, h, p, hp => by
    unfold keepE at h
    split at h
    · rename_i h1
      split at h
      · rename_i h2
        rcases List.mem_cons.1 hp with rfl | hp
        · exact ⟨h1, h2⟩
        · exact keepE_e h p hp
      · cases h
    · cases h
def keepH (g : Gn tb) : SHp tb → Bool
  | [] => true
  | (_, x) :: l => match x.has (keepQ g) with | true => keepH g l | false => false
theorem keepH_e {g : Gn tb} : ∀ {l : SHp tb}, keepH g l = true → ∀ p ∈ l, p.2.has (keepQ g) = true
  | [], _, p, hp => by cases hp
  | (_, x) :: l, h, p, hp => by
    unfold keepH at h
    split at h
    · rename_i h1
      rcases List.mem_cons.1 hp with rfl | hp
      · exact h1
      · exact keepH_e h p hp
    · cases h
def bids (L0 : SLS tb) : List (JV tb) → List Nat
  | [] => []
  | v :: r => match v.bid L0 with | some id => id :: bids L0 r | none => bids L0 r
theorem bids_e {L0 : SLS tb} : ∀ {l : List (JV tb)} {v id}, v ∈ l → v.bid L0 = some id → id ∈ bids L0 l
  | w :: r, v, id, hv, hid => by
    rcases List.mem_cons.1 hv with rfl | hv
    · simp only [bids]; rw [hid]; simp
    · simp only [bids]
      have := bids_e hv hid
      split
      · exact List.mem_cons_of_mem _ this
      · exact this
def newOrD (n : Nat) (dr : List Nat) (i : Nat) : Bool := match Nat.ble n i with | true => true | false => memN i dr
theorem newOrD_e {n dr i} (h : newOrD n dr i = true) : n ≤ i ∨ i ∈ dr := by
  unfold newOrD at h
  split at h
  · exact .inl (Nat.le_of_ble_eq_true ‹_›)
  · exact .inr (memN_e.1 h)
/-- The plain values that the state L1 carries, where it came from L0. -/
def unJ (cx : Ctx P tb) (L0 : SLS tb) (asg : List Nat) (A : JA tb) (L1 : SLS tb) (k : VT A.vars → Option ρ) : Option ρ :=
  got (unVs cx L0 L1 A.vars) fun p =>
  tst (keysIn (fun t => memN t asg) (L1.e.length - L0.e.length) L1.e) <|
  tst (keysIn (fun i => match find i (mkVs cx L0 A.vars p.1 L0.nx).2 with | some _ => true | none => newOrD L0.nx (drN L0 A) i) (L1.h.length - L0.h.length) L1.h) <|
  tst (keysIn (newOrD L0.nx (drN L0 A)) (L1.gn.length - L0.gn.length) L1.gn) <|
  tst (allB (newOrD L0.nx (drN L0 A)) (someIds p.2)) <| tst (nodupN (someIds p.2)) <|
  tst (allB (fun i => match ltN L0.nx i with | true => (match memN i (drN L0 A) with | true => false | false => (match memN i (someIds p.2) with | true => false | false => true)) | false => false) (bids L0 A.vars)) <|
  tst (keepE (drops (drN L0 A) ++ L0.gn) (mkVs cx L0 A.vars p.1 L0.nx).1) <| tst (keepH (drops (drN L0 A) ++ L0.gn) (mkVs cx L0 A.vars p.1 L0.nx).2) <| k p.1
end
end Go.Rx
