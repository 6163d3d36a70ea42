/- Several texts in one. No conditions. -/
import Derived.Test.YtffgldbihpgjgaaGreatDoorQE
import Derived.Laws.IdiomArrays
import Derived.ProofKit
import Derived.Carry
import Derived.Below
import Derived.ChangeSame
import Derived.Deep.Slices
import Derived.OpenShut
section
/-
  What a law's arguments are, and what its contract says of the statement. Conditions: those named in each rule.
-/
set_option linter.all false
namespace Go.Rx
open Go.RowKit Go.ChangeShapes Go.WideShapes Go.ChangeAt Go.Deep
variable [GlC]

/-- All that stands in memory. -/
def memOf (W : World) : Mem := fun b o => W.cell? ⟨b, o, none⟩
theorem imm_memOf (W : World) : Imm (memOf W) W := fun _ _ _ h => h

/-- What reads as data of type t stands for a value of α. -/
def Opens (P : Program) (W : World) (t : TypeId) {α : Type} (F : α → List AV) (wf : α → Prop) : Prop :=
  ∀ {H : Type} (enc : TypeId × Value → H) fuel cs x, DataW.trod enc P W 0 (fun _ => true) true fuel t cs = some x →
    ∃ a : α, Reps (memOf W) noNames (F a) cs ∧ (∀ c ∈ cs, oneCell c = true) ∧ wf a

section
variable {P : Program} {W : World} {t : TypeId}

theorem opens_bool (ht : P.underlying t = some .bool) : Opens P W t (fun b => [.v (.bool b)]) (fun _ => True) := by
  intro H enc fuel cs x h
  obtain ⟨b, rfl, -⟩ := DataW.trod_bool ht h
  exact ⟨b, .cons .v .nil, by simp [oneCell, Value.oneCell'], trivial⟩
theorem opens_int {k : IntKind} (ht : P.underlying t = some (.int k)) : Opens P W t (fun n => [.v (.int k n)]) (fun n => k.min ≤ n ∧ n ≤ k.max) := by
  intro H enc fuel cs x h
  obtain ⟨n, rfl, -, hw⟩ := DataW.trod_int ht h
  refine ⟨n, .cons .v .nil, by simp [oneCell, Value.oneCell'], ?_⟩
  simpa [Lit.wf] using hw
theorem opens_byte (ht : P.underlying t = some (.int .u8)) : Opens P W t (fun c => [byteAV c]) (fun _ => True) := by
  intro H enc fuel cs x h
  obtain ⟨n, rfl, -, hw⟩ := DataW.trod_int ht h
  have hw' : 0 ≤ n ∧ n ≤ 255 := by simpa [Lit.wf, IntKind.min, IntKind.max, IntKind.bits, IntKind.signed] using hw
  refine ⟨UInt8.ofNat n.toNat, ?_, by simp [oneCell, Value.oneCell'], trivial⟩
  have : byteAV (UInt8.ofNat n.toNat) = .v (.int .u8 n) := by
    have h1 : (UInt8.ofNat n.toNat).toNat = n.toNat % 256 := UInt8.toNat_ofNat'
    unfold byteAV; rw [h1]; congr 2; omega
  show Reps _ _ [byteAV _] _
  rw [this]
  exact .cons .v .nil
theorem reps_flat {m : Mem} {bl} {α : Type} {F : α → List AV} : ∀ (l : List α) (V : Nat → List Value), (∀ i (h : i < l.length), Reps m bl (F (l[i]'h)) (V i)) → Reps m bl (l.flatMap F) ((List.range l.length).flatMap V)
  | [], _, _ => .nil
  | a :: l, V, h => by
    rw [List.length_cons, List.range_succ_eq_map, List.flatMap_cons, List.flatMap_cons, List.flatMap_map]
    exact (h 0 (by simp)).append (reps_flat l (fun i => V (i + 1)) fun i hi => h (i + 1) (by simpa using hi))

theorem flat_get {V : Nat → List Value} {sz : Nat} : ∀ (n : Nat), (∀ i, i < n → (V i).length = sz) → ∀ (j : Nat) (v : Value), ((List.range n).flatMap V)[j]? = some v → ∃ i k, i < n ∧ k < sz ∧ j = i * sz + k ∧ (V i)[k]? = some v
  | 0, _, j, v, h => by simp at h
  | n + 1, hV, j, v, h => by
    have hlen : ((List.range n).flatMap V).length = n * sz := by
      clear h
      induction n with
      | zero => simp
      | succ n ih =>
        rw [List.range_succ, List.flatMap_append, List.length_append, ih fun i hi => hV i (by omega)]
        simp [hV n (by omega), Nat.add_mul]
    rw [List.range_succ, List.flatMap_append] at h
    by_cases hj : j < n * sz
    · rw [List.getElem?_append_left (by omega)] at h
      obtain ⟨i, k, h1, h2, h3, h4⟩ := flat_get n (fun i hi => hV i (by omega)) j v h
      exact ⟨i, k, by omega, h2, h3, h4⟩
    · rw [List.getElem?_append_right (by omega), hlen] at h
      simp only [List.flatMap_cons, List.flatMap_nil, List.append_nil] at h
      have hk : j - n * sz < sz := by
        rcases Nat.lt_or_ge (j - n * sz) sz with h' | h'
        · exact h'
        · rw [List.getElem?_eq_none (by rw [hV n (by omega)]; exact h')] at h; cases h
      exact ⟨n, j - n * sz, by omega, hk, by omega, h⟩

theorem cell_spot {w : World} {a : Addr} {v : Value} (h : w.cell? a = some v) : a.spot = none := by
  unfold World.cell? at h
  split at h
  · split at h
    · cases h
    · rename_i hs; simpa using hs
  · cases h

theorem opens_slice {e : TypeId} {α : Type} {F : α → List AV} {E : α → AV} {wf : α → Prop} {sz : Nat} (ht : P.underlying t = some (.slice e)) (hs : P.cellsOf e = sz) (hpos : 0 < sz) (he : Opens P W e F wf)
    (hE : ∀ a, (E a).cells = F a) (hl : ∀ a, (F a).length = sz) : Opens P W t (fun (l : List α) => [.sl false sz (l.map E)]) (fun l => (∀ a ∈ l, wf a) ∧ l.length ≤ 9223372036854775807) := by
  intro H enc fuel cs x h
  rcases open_slice ht h with ⟨rfl, -⟩ | ⟨a, len, cap, m, n, D, Pl, rfl, hb, hlc, hcm, hm, -, hel⟩
  · exact ⟨[], .cons .slnil .nil, by simp [oneCell, Value.oneCell'], by simp, by simp⟩
  rw [hs] at hel
  have hlm : len ≤ m := by rw [hm]; split <;> omega
  -- the elements
  have hch : ∀ i, i < len → ∃ p : α × List Value, Reps (memOf W) noNames (F p.1) p.2 ∧ (∀ c ∈ p.2, oneCell c = true) ∧ wf p.1 ∧ W.cells? 0 (a.add (i * sz)) sz = some p.2 := by
    intro i hi
    obtain ⟨cs', h1, h2⟩ := hel i (by omega)
    obtain ⟨y, g1, g2, g3⟩ := he enc n cs' _ h2
    exact ⟨(y, cs'), g1, g2, g3, h1⟩
  rcases Nat.eq_zero_or_pos len with h0 | h0
  · subst h0
    refine ⟨[], .cons (.sl (cs := []) (by simp) (by simpa using Reps.nil) (by simp) (by simp) (by simp) (by simp) (by simp)) .nil, by simp [oneCell, Value.oneCell'], by simp, by simp⟩
  obtain ⟨p0, -⟩ := hch 0 h0
  haveI : Inhabited (α × List Value) := ⟨p0⟩
  obtain ⟨f, hf⟩ := choose_lt hch
  have hall : ∀ i, i < len → ∀ k, k < sz → W.cell? ((a.add (i * sz)).add k) = (f i).2[k]? ∧ (f i).2.length = sz := by
    intro i hi k hk
    obtain ⟨-, -, -, h4⟩ := hf i hi
    obtain ⟨-, q1, q2⟩ := World.cells?_some h4
    exact ⟨q2 k hk, q1⟩
  have hsp : a.spot = none := by
    have h1 := hall 0 h0 0 hpos
    have h2 : (f 0).2[0]? = some ((f 0).2[0]'(by omega)) := by simp
    rw [h2] at h1
    have := cell_spot h1.1
    simpa [Addr.add] using this
  let l : List α := (List.range len).map fun i => (f i).1
  have hll : l.length = len := by simp [l]
  have hget : ∀ i (h : i < l.length), l[i]'h = (f i).1 := by intro i h; simp [l]
  have hrep : Reps (memOf W) noNames (l.flatMap F) ((List.range len).flatMap fun i => (f i).2) := by
    have := reps_flat (m := memOf W) (bl := noNames) (F := F) l (fun i => (f i).2) fun i hi => by rw [hget]; exact (hf i (by omega)).1
    rwa [hll] at this
  have hfm : (l.map E).flatMap AV.cells = l.flatMap F := by
    rw [List.flatMap_map]
    exact congrArg (fun g => l.flatMap g) (funext fun x => hE x)
  refine ⟨l, .cons (?_ : Rep _ _ (.sl false sz (l.map E)) _) .nil, by simp [oneCell, Value.oneCell'], ?_, ?_⟩
  · have := Rep.sl (m := memOf W) (bl := noNames) (c := false) (sz := sz) (l := l.map E) (a := a) (cap := cap) (cs := (List.range len).flatMap fun i => (f i).2)
      (by intro x hx; obtain ⟨y, -, rfl⟩ := List.mem_map.1 hx; rw [hE, hl]) (by rw [hfm]; exact hrep)
      (by intro c hc; obtain ⟨i, hi, hc⟩ := List.mem_flatMap.1 hc; exact (hf i (by simpa using hi)).2.1 c hc) (fun _ => hsp)
      (by
        intro j v hj
        obtain ⟨i, k, h1, h2, rfl, h4⟩ := flat_get len (fun i hi => (hall i hi 0 hpos).2) j v hj
        have := (hall i h1 k h2).1
        rw [h4] at this
        obtain ⟨b, o, sp⟩ := a
        simp only at hsp; subst hsp
        rw [addr_add, addr_add, Nat.add_assoc] at this
        exact this) (by simp [hll]; exact hlc) (by simp)
    rwa [List.length_map, hll] at this
  · intro y hy
    obtain ⟨i, hi, rfl⟩ := List.mem_map.1 hy
    exact (hf i (by simpa using hi)).2.2.1
  · rw [hll]
    have : cap ≤ 9223372036854775807 := hcm
    omega

theorem opensF_last {fs : Array Field} {i off : Nat} {f : Field} {α : Type} {F : α → List AV} {wf : α → Prop} {n : Nat} (hf : fs[i]? = some f) (ho : f.offset = off) (hc : P.cellsOf f.type = n) (h : Opens P W f.type F wf) :
    ∀ {H : Type} (enc : TypeId × Value → H) fuel (cs : List Value) (xs : List (DataW H × List MemPlace)), xs.length = fs.size → cs.length = off + n →
    (∀ (j : Nat) (f : Field), fs[j]? = some f → DataW.trod enc P W 0 (fun _ => true) true fuel f.type ((cs.drop f.offset).take (P.cellsOf f.type)) = xs[j]?) →
    ∃ a : α, Reps (memOf W) noNames (F a) (cs.drop off) ∧ (∀ c ∈ cs.drop off, oneCell c = true) ∧ wf a := by
  intro H enc fuel cs xs hx hl hall
  have hi : i < fs.size := by
    rcases Nat.lt_or_ge i fs.size with h | h
    · exact h
    · simp [Array.getElem?_eq_none h] at hf
  have h1 := hall i f hf
  rw [List.getElem?_eq_getElem (by omega), ho, hc, List.take_of_length_le (by simp; omega)] at h1
  exact h enc fuel _ _ h1
theorem opensF_cons {fs : Array Field} {i off off' N : Nat} {f : Field} {α β : Type} {F : α → List AV} {G : β → List AV} {wf : α → Prop} {wg : β → Prop} {n : Nat} (hf : fs[i]? = some f) (ho : f.offset = off) (hc : P.cellsOf f.type = n) (ho' : off + n = off') (h : Opens P W f.type F wf)
    (k : ∀ {H : Type} (enc : TypeId × Value → H) fuel (cs : List Value) (xs : List (DataW H × List MemPlace)), xs.length = fs.size → cs.length = N →
      (∀ (j : Nat) (f : Field), fs[j]? = some f → DataW.trod enc P W 0 (fun _ => true) true fuel f.type ((cs.drop f.offset).take (P.cellsOf f.type)) = xs[j]?) →
      ∃ a : β, Reps (memOf W) noNames (G a) (cs.drop off') ∧ (∀ c ∈ cs.drop off', oneCell c = true) ∧ wg a) :
    ∀ {H : Type} (enc : TypeId × Value → H) fuel (cs : List Value) (xs : List (DataW H × List MemPlace)), xs.length = fs.size → cs.length = N →
    (∀ (j : Nat) (f : Field), fs[j]? = some f → DataW.trod enc P W 0 (fun _ => true) true fuel f.type ((cs.drop f.offset).take (P.cellsOf f.type)) = xs[j]?) →
    ∃ a : α × β, Reps (memOf W) noNames (F a.1 ++ G a.2) (cs.drop off) ∧ (∀ c ∈ cs.drop off, oneCell c = true) ∧ wf a.1 ∧ wg a.2 := by
  intro H enc fuel cs xs hx hl hall
  have hi : i < fs.size := by
    rcases Nat.lt_or_ge i fs.size with h | h
    · exact h
    · simp [Array.getElem?_eq_none h] at hf
  have h1 := hall i f hf
  rw [List.getElem?_eq_getElem (by omega), ho, hc] at h1
  obtain ⟨a, g1, g2, g3⟩ := h enc fuel _ _ h1
  obtain ⟨b, k1, k2, k3⟩ := k enc fuel cs xs hx hl hall
  have e : cs.drop off = (cs.drop off).take n ++ cs.drop off' := by
    rw [← ho', ← List.drop_drop, List.take_append_drop]
  refine ⟨(a, b), ?_, ?_, g3, k3⟩
  · rw [e]; exact g1.append k1
  · intro c hc
    rw [e] at hc
    rcases List.mem_append.1 hc with hc | hc
    · exact g2 c hc
    · exact k2 c hc

theorem opens_struct {fs : Array Field} {α β : Type} {F : β → List AV} {G : α → List AV} {wf : β → Prop} {wg : α → Prop} {N : Nat} (g : β → α) (ht : P.underlying t = some (.struct fs)) (hN : P.cellsOf t = N)
    (k : ∀ {H : Type} (enc : TypeId × Value → H) fuel (cs : List Value) (xs : List (DataW H × List MemPlace)), xs.length = fs.size → cs.length = N →
      (∀ (j : Nat) (f : Field), fs[j]? = some f → DataW.trod enc P W 0 (fun _ => true) true fuel f.type ((cs.drop f.offset).take (P.cellsOf f.type)) = xs[j]?) →
      ∃ a : β, Reps (memOf W) noNames (F a) (cs.drop 0) ∧ (∀ c ∈ cs.drop 0, oneCell c = true) ∧ wf a)
    (hG : ∀ b, G (g b) = F b) (hw : ∀ b, wf b → wg (g b)) : Opens P W t G wg := by
  intro H enc fuel cs x h
  obtain ⟨xs, n, -, -, hl, hx, hall⟩ := DataW.trod_struct ht h
  obtain ⟨b, h1, h2, h3⟩ := k enc n cs xs hx (by rw [hl, hN]) hall
  exact ⟨g b, by rw [hG]; simpa using h1, by simpa using h2, hw b h3⟩

theorem trod_len {H : Type} {enc : TypeId × Value → H} {n : Nat} {e : TypeId} {fuel cs x} (ht : P.underlying t = some (.array n e)) (h : DataW.trod enc P W 0 (fun _ => true) true fuel t cs = some x) : cs.length = P.cellsOf t := by
  cases fuel with
  | zero => simp [DataW.trod] at h
  | succ k =>
    unfold DataW.trod at h
    rw [ht] at h
    simp at h
    exact h.1
theorem opens_arr4 {e : TypeId} {α : Type} {F : α → List AV} {wf : α → Prop} (ht : P.underlying t = some (.array 4 e)) (hN : P.cellsOf t = 4) (hc : P.cellsOf e = 1) (he : Opens P W e F wf) :
    Opens P W t (fun (x : α × α × α × α) => F x.1 ++ (F x.2.1 ++ (F x.2.2.1 ++ F x.2.2.2))) (fun x => wf x.1 ∧ wf x.2.1 ∧ wf x.2.2.1 ∧ wf x.2.2.2) := by
  intro H enc fuel cs x h
  have hl := trod_len ht h
  rw [hN] at hl
  match cs, hl with
  | [c0, c1, c2, c3], _ =>
    obtain ⟨y0, y1, y2, y3, n, -, g0, g1, g2, g3⟩ := trod_array4 ht hc h
    obtain ⟨a0, p0, q0, r0⟩ := he enc _ _ _ g0
    obtain ⟨a1, p1, q1, r1⟩ := he enc _ _ _ g1
    obtain ⟨a2, p2, q2, r2⟩ := he enc _ _ _ g2
    obtain ⟨a3, p3, q3, r3⟩ := he enc _ _ _ g3
    refine ⟨(a0, a1, a2, a3), ?_, ?_, r0, r1, r2, r3⟩
    · exact p0.append (p1.append (p2.append p3))
    · intro c hcm
      simp only [List.mem_cons, List.not_mem_nil, or_false] at hcm
      rcases hcm with rfl | rfl | rfl | rfl
      · exact q0 _ (by simp)
      · exact q1 _ (by simp)
      · exact q2 _ (by simp)
      · exact q3 _ (by simp)

/-! an argument -/
theorem arg_one {H : Type} {enc : TypeId × Value → H} {base : Nat} {v : Value} {d : DataW H} {ps : List MemPlace} (hna : ∀ cs, v ≠ .agg cs) {α : Type} {E : α → AV} {wf : α → Prop} (ho : Opens P W t (fun a => [E a]) wf)
    (h : DataW.Trod enc P W 0 (fun _ => true) true t v d ps) (hok : Value.okWide P W .any base t v) : ∃ a : α, Rep (memOf W) noNames (E a) v ∧ wf a := by
  obtain ⟨fuel, h⟩ := h
  obtain ⟨a, h1, h2, h3⟩ := ho enc fuel _ _ h
  refine ⟨a, ?_, h3⟩
  have hc : v.cells = #[v] := by cases v <;> first | rfl | exact absurd rfl (hna _)
  rw [hc] at h1
  cases h1 with
  | cons h t => exact h
theorem not_agg {base : Nat} {v : Value} {td : TypeDesc} (ht : P.underlying t = some td) (hd : isAggD td = false) (hok : Value.okWide P W .any base t v) : ∀ cs, v ≠ .agg cs := by
  rintro cs rfl
  unfold Value.okWide at hok
  rw [ht] at hok
  cases td <;> simp_all [isAggD, Cell.okWide, Cell.ok]

theorem trodAll_stays {H : Type} {enc : TypeId × Value → H} (hl : laidOutB P = true) {W W' : World} {sp : Nat → Bool} (hb : Below W.heap.size W W') : ∀ (ts : List TypeId) (vs : List Value) (ds : List (DataW H)) (ps : List MemPlace),
    (∀ t ∈ ts, P.readableRec t = true ∧ t < P.types.size) → DataW.TrodAll enc P W 0 (fun _ => true) true ts vs ds ps → (∀ x ∈ ps, x.block < W.heap.size) → (∀ x ∈ ps, sp x.block = true) → DataW.TrodAll enc P W' 0 sp true ts vs ds ps
  | [], [], [], ps, _, h, _, _ => h
  | t :: ts, v :: vs, d :: ds, ps, hr, h, hlt, hsp => by
    obtain ⟨p, q, h1, h2, rfl⟩ := h
    refine ⟨p, q, ?_, trodAll_stays hl hb ts vs ds q (fun t ht => hr t (by simp [ht])) h2 (fun x hx => hlt x (by simp [hx])) (fun x hx => hsp x (by simp [hx])), rfl⟩
    exact WideElems.Trod_stays hl (hr t (by simp)).1 (hr t (by simp)).2 h1 (fun x hx => hb.same (hlt x (by simp [hx]))) (fun x hx => hsp x (by simp [hx]))
  | [], [], _ :: _, _, _, h, _, _ => by simp [DataW.TrodAll] at h
  | [], _ :: _, _, _, _, h, _, _ => by simp [DataW.TrodAll] at h
  | _ :: _, [], _, _, _, h, _, _ => by simp [DataW.TrodAll] at h
  | _ :: _, _ :: _, [], _, _, h, _, _ => by simp [DataW.TrodAll] at h

theorem post_of_below {H : Type} {enc : TypeId × Value → H} {f : Func} {s : ChangeSpec} {apart fresh handsOn again : Bool} {W W' : World} {args : Array Value} {v : Value} {ds gs : List (DataW H)} {before pa pv : List MemPlace}
    (hW : DataW.Whole enc P f.params.toList s.vars apart W args.toList ds gs before)
    (hres : ∀ (b : Nat) (sp : Nat → Bool) (hd : Bool), DataW.TrodAll enc P W' b sp hd f.resultTypes.toList (v.resultList f.resultTypes.size) (s.fn H (ds ++ gs)).results [])
    (hargs : ∀ sp : Nat → Bool, (∀ p ∈ before, sp p.block = true) → DataW.TrodAll enc P W' 0 sp true f.params.toList args.toList (s.fn H (ds ++ gs)).args pa)
    (hvars : ∀ sp : Nat → Bool, (∀ p ∈ before, sp p.block = true) → DataW.TrodVars enc P W' sp s.vars (s.fn H (ds ++ gs)).vars pv)
    (hps : before = pa ++ pv) (hb : Below W.heap.size W W')
    (hok : ∀ (j : Nat) (t : TypeId) (r : Value), f.resultTypes[j]? = some t → (v.resultList f.resultTypes.size)[j]? = some r → Value.okWide P W' .any 0 t r) :
    s.post enc P f apart fresh handsOn again W args v W' := by
  have hlt : ∀ p ∈ before, p.block < W.heap.size := fun p hp => hW.lt p hp
  have hold : ∀ p ∈ before, (fun b => decide (b < W.heap.size)) p.block = true := fun p hp => by simpa using hlt p hp
  refine ⟨ds, gs, before, [], pa, pv, hW, hres _ _ _, hargs _ hold, hvars _ hold, World.keptBut_mono (fun p hp => ⟨hp, ?_⟩) (hb.frame (· ∈ before)), fun _ => ?_⟩
  · rw [hps, List.mem_append] at hp
    exact Or.inr hp
  · obtain ⟨_, _, _, _, _, hz, hn⟩ := hW
    refine ⟨hok, _, _, ([] ++ pa) ++ pv, ⟨[] ++ pa, pv, trodAll_append (hargs _ (fun _ _ => rfl)) (hres _ _ _), hvars _ (fun _ _ => rfl), rfl, ?_, ?_⟩, ?_⟩
    · intro b off hp
      have hin : MemPlace.cell b off ∈ before := by rw [hps]; simpa using hp
      rw [hb.frozen (hlt _ hin)]
      exact hz b off hin
    · intro ha
      have := hn ha
      rw [hps] at this
      simpa using this
    · intro p hp _
      rw [hps]
      simpa using hp

/-- A law's contract gives the statement's post. -/
theorem law_post {H : Type} {enc : TypeId × Value → H} {id : FuncId} {f : Func} {s : ChangeSpec} {apart fresh handsOn again : Bool} {args : Array Value} {ds : List (DataW H)} {before : List MemPlace} {avs : List AV} {tb : TypeId}
    (hl : laidOutB P = true) (hr0 : (f.params.toList.all fun t => P.readableRec t && Nat.blt t P.types.size) = true) (hrt : f.resultTypes = #[tb]) (htb : P.underlying tb = some .bool) (hvs : s.vars = [])
    (hW : DataW.Whole enc P f.params.toList s.vars apart W args.toList ds [] before) (hfn : s.fn H (ds ++ []) = { results := [.lit (.bool true)], args := ds })
    (hrep : Reps (memOf W) noNames avs args.toList) (hc : FnR P id avs (.v (.bool true)) []) (hgl : GlC.G (memOf W) := by exact True.intro) :
    Calls P id args W fun e W' => ∃ v, e = .returned v ∧ s.post enc P f apart fresh handsOn again W args v W' := by
  have hr : ∀ t ∈ f.params.toList, P.readableRec t = true ∧ t < P.types.size := by
    intro t ht
    have := List.all_eq_true.1 hr0 t ht
    simp only [Bool.and_eq_true] at this
    exact ⟨this.1, Nat.le_of_ble_eq_true this.2⟩
  have := hc W (memOf W) args.toList hgl (imm_memOf W) hrep
  rw [Array.toArray_toList] at this
  refine this.mono ?_
  rintro e W' ⟨v, m', bl', rfl, hb, -, -, hv⟩
  have hv' := hv.eq_v
  subst hv'
  have hW' := hW
  obtain ⟨p, q, hA, hV, rfl, -, -⟩ := hW
  rw [hvs] at hV
  obtain ⟨-, rfl⟩ := trodVars_none hV
  simp only [List.append_nil] at hW' hfn ⊢
  refine ⟨_, rfl, post_of_below (pa := p) (pv := []) hW' ?_ ?_ ?_ (by simp) hb ?_⟩
  · intro b sp hd
    rw [List.append_nil, hfn, hrt]
    exact trodAll_mk1 (shut_bool htb _)
  · intro sp hsp
    rw [List.append_nil, hfn]
    exact trodAll_stays hl hb _ _ _ _ hr hA (fun x hx => hW'.lt x hx) hsp
  · intro sp hsp
    rw [List.append_nil, hfn, hvs]
    rfl
  · exact ok_one hrt rfl (okWide_bool_mk htb _)
end
end Go.Rx
end

section
/-
  Plain lemmas on the forms in which the functions are put: numbers that wrap, checks, loops over lists. No conditions.
-/
set_option linter.all false
namespace Go.Rx
theorem wrap_in (n : Int) (h1 : -9223372036854775808 ≤ n) (h2 : n ≤ 9223372036854775807) : IntKind.i64.wrap n = n := by
  simp [IntKind.wrap, IntKind.bits, IntKind.signed]; omega
/-- A loop's next round. -/
theorem LOOP_s {V X : Type} (step : (V → Option X) → V → Option X) (n : Nat) (v : V) : LOOP step (n + 1) v = step (LOOP step n) v := rfl

@[simp] theorem Let_eq {β X : Type} (v : β) (k : β → X) : Let v k = k v := rfl
@[simp] theorem Bind_some {α β : Type} (x : α) (k : α → Option β) : Bind (some x) k = k x := rfl
@[simp] theorem Bind_none {α β : Type} (k : α → Option β) : Bind none k = none := rfl
theorem Bind_of {α β : Type} {m : Option α} {x : α} {k : α → Option β} (h : m = some x) : Bind m k = k x := by rw [h]; rfl
theorem Chk_of {α : Type} {c : Prop} [Decidable c] {k : Option α} (h : c) : Chk c k = k := if_pos h
@[simp] theorem Chk_true {α : Type} {k : Option α} : Chk True k = k := rfl
theorem w64_of (n : Int) (h : -9223372036854775808 ≤ n ∧ n ≤ 9223372036854775807) : w64 n = n := wrap_in n h.1 h.2
theorem cond_or (a b : Bool) : (bif a then true else b) = (a || b) := by cases a <;> rfl
theorem cond_and (a b : Bool) : (bif a then b else false) = (a && b) := by cases a <;> rfl
theorem ix_nat {α : Type} [Inhabited α] (l : List α) (i : Nat) : ix l (i : Int) = l.getD i default := rfl
theorem ix_lt {α : Type} [Inhabited α] (l : List α) (i : Nat) (h : i < l.length) : ix l (i : Int) = l[i] := by
  rw [ix_nat]; simp [List.getD, List.getElem?_eq_getElem h]
theorem drop_ix {α : Type} [Inhabited α] (l : List α) (i : Nat) (h : i < l.length) : l.drop i = ix l (i : Int) :: l.drop (i + 1) := by
  rw [ix_lt l i h, List.drop_eq_getElem_cons h]
end Go.Rx
namespace Go.Rx
theorem ix_mem {α : Type} [Inhabited α] (l : List α) (i : Int) (h : 0 ≤ i ∧ i < l.length) : ix l i ∈ l := by
  obtain ⟨n, rfl⟩ := Int.eq_ofNat_of_zero_le h.1
  rw [ix_lt l n (by omega)]; exact List.getElem_mem _
end Go.Rx
end

section
/-
  Plain lemmas on loops that go over a list, and on checks: the list's own recursion is what the loop computes. No conditions.
-/
set_option linter.all false
namespace Go.Rx
theorem Join_nr {V ρ : Type} (K : V → Option ρ) (b : (V → Option ρ) → Option ρ) : Join K b = b K := Eq.trans (by rfl) (Eq.refl _)
theorem Let_nr {β X : Type} (v : β) (k : β → X) : Let v k = k v := Eq.trans (by rfl) (Eq.refl _)
theorem Bind_snr {α β : Type} (x : α) (k : α → Option β) : Bind (some x) k = k x := Eq.trans (by rfl) (Eq.refl _)
theorem Bind_if {α β : Type} {p : Prop} [Decidable p] (a d : α) (k : α → Option β) : Bind (if p then some a else some d) k = k (if p then a else d) := by by_cases h : p <;> simp [h]
/-- Small lists: so many items that no index wraps. -/
def Sm {α : Type} (l : List α) : Prop := l.length < 2 ^ 62
theorem sm_of {α : Type} {l : List α} {n : Nat} (h : l.length ≤ n) (hn : n < 2 ^ 62) : Sm l := Nat.lt_of_le_of_lt h hn
theorem w64_s (i : Nat) (h : i < 2 ^ 62) : IntKind.i64.wrap ((i : Int) + 1) = (i : Int) + 1 := wrap_in _ (by omega) (by omega)
theorem LOOP_l0n {α X : Type} [Inhabited α] (l : List α) (G : List α → Nat → Option X) (step : (Int → Option X) → Int → Option X) (hl : Sm l)
    (hs : ∀ (r : Int → Option X) (i : Nat) (t : List α), IntKind.i64.wrap ((i : Int) + 1) = (i : Int) + 1 → (0 ≤ (i : Int) ∧ (i : Int) < (l.length : Int)) → ix l (i : Int) ∈ l → r ((i : Int) + 1) = G t (i + 1) → step r (i : Int) = G (ix l (i : Int) :: t) i)
    (he : ∀ (r : Int → Option X), step r (l.length : Int) = G [] l.length) : ∀ (n i : Nat), i ≤ l.length → l.length - i < n → LOOP step n (i : Int) = G (l.drop i) i
  | 0, i, _, h => by omega
  | n + 1, i, h1, h2 => by
    rw [LOOP_s]
    by_cases h : i < l.length
    · rw [drop_ix l i h]
      exact hs _ i _ (w64_s i (by unfold Sm at hl; omega)) ⟨by omega, by omega⟩ (ix_mem l _ ⟨by omega, by omega⟩) (LOOP_l0n l G step hl hs he n (i + 1) (by omega) (by omega))
    · have e : i = l.length := by omega
      subst e; rw [he, List.drop_length]
theorem LOOP_l0 {α X : Type} [Inhabited α] (l : List α) (G : List α → Nat → Option X) (step : (Int → Option X) → Int → Option X) (hl : Sm l)
    (hs : ∀ (r : Int → Option X) (i : Nat) (t : List α), IntKind.i64.wrap ((i : Int) + 1) = (i : Int) + 1 → (0 ≤ (i : Int) ∧ (i : Int) < (l.length : Int)) → ix l (i : Int) ∈ l → r ((i : Int) + 1) = G t (i + 1) → step r (i : Int) = G (ix l (i : Int) :: t) i)
    (he : ∀ (r : Int → Option X), step r (l.length : Int) = G [] l.length) : LOOP step fuel (0 : Int) = G l 0 :=
  LOOP_l0n l G step hl hs he fuel 0 (Nat.zero_le _) (Nat.lt_trans (Nat.lt_of_le_of_lt (Nat.sub_le _ _) hl) (by unfold fuel; decide))
theorem LOOP_l1n {α σ X : Type} [Inhabited α] (l : List α) (G : List α → Nat → σ → Option X) (step : (σ × Int → Option X) → σ × Int → Option X) (hl : Sm l)
    (hs : ∀ (r : σ × Int → Option X) (i : Nat) (t : List α) (s : σ), IntKind.i64.wrap ((i : Int) + 1) = (i : Int) + 1 → (0 ≤ (i : Int) ∧ (i : Int) < (l.length : Int)) → ix l (i : Int) ∈ l → (∀ s, r (s, (i : Int) + 1) = G t (i + 1) s) → step r (s, (i : Int)) = G (ix l (i : Int) :: t) i s)
    (he : ∀ (r : σ × Int → Option X) (s : σ), step r (s, (l.length : Int)) = G [] l.length s) : ∀ (n i : Nat) (s : σ), i ≤ l.length → l.length - i < n → LOOP step n (s, (i : Int)) = G (l.drop i) i s
  | 0, i, s, _, h => by omega
  | n + 1, i, s, h1, h2 => by
    rw [LOOP_s]
    by_cases h : i < l.length
    · rw [drop_ix l i h]
      exact hs _ i _ s (w64_s i (by unfold Sm at hl; omega)) ⟨by omega, by omega⟩ (ix_mem l _ ⟨by omega, by omega⟩) (fun s => LOOP_l1n l G step hl hs he n (i + 1) s (by omega) (by omega))
    · have e : i = l.length := by omega
      subst e; rw [he, List.drop_length]
theorem LOOP_l1 {α σ X : Type} [Inhabited α] (l : List α) (G : List α → Nat → σ → Option X) (step : (σ × Int → Option X) → σ × Int → Option X) (s0 : σ) (hl : Sm l)
    (hs : ∀ (r : σ × Int → Option X) (i : Nat) (t : List α) (s : σ), IntKind.i64.wrap ((i : Int) + 1) = (i : Int) + 1 → (0 ≤ (i : Int) ∧ (i : Int) < (l.length : Int)) → ix l (i : Int) ∈ l → (∀ s, r (s, (i : Int) + 1) = G t (i + 1) s) → step r (s, (i : Int)) = G (ix l (i : Int) :: t) i s)
    (he : ∀ (r : σ × Int → Option X) (s : σ), step r (s, (l.length : Int)) = G [] l.length s) : LOOP step fuel (s0, (0 : Int)) = G l 0 s0 :=
  LOOP_l1n l G step hl hs he fuel 0 s0 (Nat.zero_le _) (Nat.lt_trans (Nat.lt_of_le_of_lt (Nat.sub_le _ _) hl) (by unfold fuel; decide))
theorem LOOP_iN {α σ X : Type} [Inhabited α] (l : List α) (P : Nat → σ → Prop) (G : List α → Nat → σ → Option X) (step : (σ × Int → Option X) → σ × Int → Option X) (hl : Sm l)
    (hs : ∀ (r : σ × Int → Option X) (i : Nat) (t : List α) (s : σ), P i s → IntKind.i64.wrap ((i : Int) + 1) = (i : Int) + 1 → (0 ≤ (i : Int) ∧ (i : Int) < (l.length : Int)) → ix l (i : Int) ∈ l → (∀ s, P (i + 1) s → r (s, (i : Int) + 1) = G t (i + 1) s) → step r (s, (i : Int)) = G (ix l (i : Int) :: t) i s)
    (he : ∀ (r : σ × Int → Option X) (s : σ), P l.length s → step r (s, (l.length : Int)) = G [] l.length s) : ∀ (n i : Nat) (s : σ), P i s → i ≤ l.length → l.length - i < n → LOOP step n (s, (i : Int)) = G (l.drop i) i s
  | 0, i, s, _, _, h => by omega
  | n + 1, i, s, hp, h1, h2 => by
    rw [LOOP_s]
    by_cases h : i < l.length
    · rw [drop_ix l i h]
      exact hs _ i _ s hp (w64_s i (by unfold Sm at hl; omega)) ⟨by omega, by omega⟩ (ix_mem l _ ⟨by omega, by omega⟩) (fun s hp => LOOP_iN l P G step hl hs he n (i + 1) s hp (by omega) (by omega))
    · have e : i = l.length := by omega
      subst e; rw [he _ _ hp, List.drop_length]
/-- As LOOP_l1, with an invariant. -/
theorem LOOP_i {α σ X : Type} [Inhabited α] (l : List α) (P : Nat → σ → Prop) (G : List α → Nat → σ → Option X) (step : (σ × Int → Option X) → σ × Int → Option X) (s0 : σ) (hl : Sm l) (h0 : P 0 s0)
    (hs : ∀ (r : σ × Int → Option X) (i : Nat) (t : List α) (s : σ), P i s → IntKind.i64.wrap ((i : Int) + 1) = (i : Int) + 1 → (0 ≤ (i : Int) ∧ (i : Int) < (l.length : Int)) → ix l (i : Int) ∈ l → (∀ s, P (i + 1) s → r (s, (i : Int) + 1) = G t (i + 1) s) → step r (s, (i : Int)) = G (ix l (i : Int) :: t) i s)
    (he : ∀ (r : σ × Int → Option X) (s : σ), P l.length s → step r (s, (l.length : Int)) = G [] l.length s) : LOOP step fuel (s0, (0 : Int)) = G l 0 s0 :=
  LOOP_iN l P G step hl hs he fuel 0 s0 h0 (Nat.zero_le _) (Nat.lt_trans (Nat.lt_of_le_of_lt (Nat.sub_le _ _) hl) (by unfold fuel; decide))
theorem Alike_of {ρ : Type} {c : Prop} {a b : Option ρ} (h : c → a = b) : Rx.Alike c a b = b := by unfold Rx.Alike; exact @Chk_of _ _ (Classical.propDecidable _) _ (fun x => h x)
theorem dlt {i n : Int} (h : 0 ≤ i ∧ i < n) : decide (i < n) = true := decide_eq_true h.2
theorem dll (n : Int) : decide (n < n) = false := decide_eq_false (Int.lt_irrefl n)
end Go.Rx
namespace Go.Rx
/-- A loop that compares two lists of the same length. -/
theorem LOOP_eq2 {α X : Type} [Inhabited α] [DecidableEq α] (l m : List α) (fin bad : Option X) (step : (Int → Option X) → Int → Option X) (hl : Sm l) (hlen : l.length = m.length)
    (hs : ∀ (r : Int → Option X) (i : Nat), IntKind.i64.wrap ((i : Int) + 1) = (i : Int) + 1 → (0 ≤ (i : Int) ∧ (i : Int) < (l.length : Int)) → (0 ≤ (i : Int) ∧ (i : Int) < (m.length : Int)) → ix l (i : Int) ∈ l → step r (i : Int) = if ix l (i : Int) = ix m (i : Int) then r ((i : Int) + 1) else bad)
    (he : ∀ (r : Int → Option X), step r (l.length : Int) = fin) : LOOP step fuel (0 : Int) = if l = m then fin else bad := by
  have := LOOP_l0 l (fun t i => if t = m.drop i then fin else bad) step hl ?_ ?_
  · simpa using this
  · intro r i t hw hc hm hr
    have hc2 : 0 ≤ (i : Int) ∧ (i : Int) < (m.length : Int) := by omega
    rw [hs r i hw hc hc2 hm, hr, drop_ix m i (by omega)]
    by_cases h : ix l (i : Int) = ix m (i : Int)
    · simp [h]
    · simp [h]
  · intro r; rw [he, hlen, List.drop_length]; simp
theorem ne_bne {a b : Int} : (a != b) = !decide (a = b) := by rw [Bool.eq_iff_iff]; simp
end Go.Rx
namespace Go.Rx
end Go.Rx
namespace Go.Rx
/-- A loop that leaves where q does not hold. -/
theorem LOOP_all {α X : Type} [Inhabited α] (l : List α) (q : α → Bool) (fin bad : Option X) (step : (Int → Option X) → Int → Option X) (hl : Sm l)
    (hs : ∀ (r : Int → Option X) (i : Nat), IntKind.i64.wrap ((i : Int) + 1) = (i : Int) + 1 → (0 ≤ (i : Int) ∧ (i : Int) < (l.length : Int)) → ix l (i : Int) ∈ l → step r (i : Int) = if q (ix l (i : Int)) = true then r ((i : Int) + 1) else bad)
    (he : ∀ (r : Int → Option X), step r (l.length : Int) = fin) : LOOP step fuel (0 : Int) = if l.all q = true then fin else bad := by
  refine LOOP_l0 l (fun t _ => if t.all q = true then fin else bad) step hl ?_ ?_
  · intro r i t hw hc hm hr
    rw [hs r i hw hc hm, hr, List.all_cons]
    cases q (ix l (i : Int)) <;> simp
  · intro r; rw [he]; rfl
end Go.Rx
end
