/- Several texts in one. No conditions. -/
import Derived.Test.YtkkbdleogkengaaDoorZA
import Derived.Test.YtkkbdleogkengaaDoorZ6
import Derived.Test.YtkkbdleogkengaaDoorZ7
import Derived.Test.YtkkbdleogkengaaDoorZ8
import Derived.Test.YtkkbdleogkengaaDoorF44C1
import Derived.Test.YtkkbdleogkengaaDoorW44
section
/- slices.SortStableFunc at 40 events or fewer. No conditions. -/
set_option linter.all false
namespace Go.Srt
open Go Go.Proofs Go.Shelf Go.RowKit Go.Lib Go.Sort
variable {α : Type} [Inhabited α]
theorem symMerge (enc : α → List Value) (k : Nat) (zk : k = 5) (cf : α → α → Int) (hO : SWO (ltOf cf)) (g : Nat) (eg : ∀ args w, (callFunc g args).run Tryd.prog w = .ok (.enter g args) w) (hcmp : Cmp Tryd.prog g enc cf) (blk off cap : Nat) (w0 : World) (R : RX enc k w0 blk) : ∀ (N a m b : Nat) (d : Array α) (w : World), b - a < N → SX enc k w0 blk off d w → a < m → m < b → b ≤ d.size → d.size < 4611686018427387904 → SortedIn (ltOf cf) a m d → SortedIn (ltOf cf) m b d →
      Calls Tryd.prog 70 #[.slice (some ⟨blk, off, none⟩) d.size cap, .int .i64 a, .int .i64 m, .int .i64 b, .func (.func g) #[] #[]] w fun e w' => e = .returned (.tuple #[]) ∧ ∃ F, SX enc k w0 blk off F w' ∧ PermIn a b d F ∧ SortedIn (ltOf cf) a b F := by
  intro N
  induction N with
  | zero => intro a m b d w h; exact absurd h (Nat.not_lt_zero _)
  | succ N ih =>
    intro a m b d w hN S ham hmb hb hsz hs1 hs2
    by_cases c1 : m - a = 1
    · exact symL enc k zk cf hO g eg hcmp blk off cap w0 R a m b d w S ham hmb hb hsz hs1 hs2 c1
    · by_cases c2 : b - m = 1
      · exact symR enc k zk cf hO g eg hcmp blk off cap w0 R a m b d w S ham hmb hb hsz hs1 hs2 c1 c2
      · by_cases c3 : (a + b) / 2 < m
        · exact symGb enc k zk cf hO g eg hcmp blk off cap w0 R N ih a m b d w hN S ham hmb hb hsz hs1 hs2 c1 c2 c3
        · exact symGs enc k zk cf hO g eg hcmp blk off cap w0 R N ih a m b d w hN S ham hmb hb hsz hs1 hs2 c1 c2 c3
theorem SortedIn.keep {lt : α → α → Bool} {a b x y : Nat} {d F : Array α} (h : SortedIn lt a b d) (p : PermIn x y d F) (hd : b ≤ x ∨ y ≤ a) : SortedIn lt a b F := fun i j h1 h2 h3 => by
  rw [p.2.1 i (by omega), p.2.1 j (by omega)]; exact h i j h1 h2 h3
set_option maxHeartbeats 8000000 in
set_option maxRecDepth 1000000 in
theorem stable (enc : α → List Value) (k : Nat) (zk : k = 5) (cf : α → α → Int) (hO : SWO (ltOf cf)) (g : Nat) (eg : ∀ args w, (callFunc g args).run Tryd.prog w = .ok (.enter g args) w) (hcmp : Cmp Tryd.prog g enc cf) (blk off cap : Nat) (w0 : World) (R : RX enc k w0 blk) (d : Array α) (w : World) (S : SX enc k w0 blk off d w) (h40 : d.size ≤ 40) :
    Calls Tryd.prog 60 #[.slice (some ⟨blk, off, none⟩) d.size cap, .int .i64 d.size, .func (.func g) #[] #[]] w fun e w' => e = .returned (.tuple #[]) ∧ ∃ F, SX enc k w0 blk off F w' ∧ PermIn 0 d.size d F ∧ SortedIn (ltOf cf) 0 d.size F := by
  have mixed : Tryd.prog.follows .mixedOrders = true := by kernel_rfl
  have t3 := Tryd.underlying3; have a3 := Tryd.isAgg3; have z3 := Tryd.sizeOf3; have v3 := Tryd.zeroValue3
  have t4 := Tryd.underlying4; have a4 := Tryd.isAgg4; have z4 := Tryd.sizeOf4; have v4 := Tryd.zeroValue4
  have t39 := Tryd.underlying39; have a39 := Tryd.isAgg39; have z39 := Tryd.sizeOf39; have v39 := Tryd.zeroValue39
  have t68 := Tryd.underlying68; have a68 := Tryd.isAgg68; have z68 := Tryd.sizeOf68; have v68 := Tryd.zeroValue68
  have e69 := Tryd.call69
  have e70 := Tryd.call70
  have INS : Aside (∀ (a b : Nat) (F : Array α) (W : World), SX enc k w0 blk off F W → a ≤ b → b ≤ d.size → F.size = d.size → Calls Tryd.prog 69 #[.slice (some ⟨blk, off, none⟩) d.size cap, .int .i64 a, .int .i64 b, .func (.func g) #[] #[]] W fun e w' => e = .returned (.tuple #[]) ∧ ∃ G, SX enc k w0 blk off G w' ∧ PermIn a b F G ∧ SortedIn (ltOf cf) a b G) := by
    intro a b F W hS h1 h2 h3
    have h := insertion enc k zk cf g eg hcmp blk off cap a b F w0 W R hS h1 (by omega) (by omega)
    rw [h3] at h
    have p := insertionSort_holds hO F a b h1 (by omega)
    exact h.mono fun _ _ ⟨he, hS⟩ => ⟨he, _, hS, p.1, p.2⟩
  have SYM : Aside (∀ (a m b : Nat) (F : Array α) (W : World), SX enc k w0 blk off F W → a < m → m < b → b ≤ d.size → F.size = d.size → SortedIn (ltOf cf) a m F → SortedIn (ltOf cf) m b F → Calls Tryd.prog 70 #[.slice (some ⟨blk, off, none⟩) d.size cap, .int .i64 a, .int .i64 m, .int .i64 b, .func (.func g) #[] #[]] W fun e w' => e = .returned (.tuple #[]) ∧ ∃ G, SX enc k w0 blk off G w' ∧ PermIn a b F G ∧ SortedIn (ltOf cf) a b G) := by
    intro a m b F W hS h1 h2 h3 h4 h5 h6
    have h := symMerge enc k zk cf hO g eg hcmp blk off cap w0 R (b - a + 1) a m b F W (by omega) hS h1 h2 (by omega) (by omega) h5 h6
    rw [h4] at h
    exact h
  have S0 : Aside (SX enc k w0 blk off d w) := S
  clear S hcmp zk
  obtain ⟨n, hn⟩ : ∃ n, n = d.size := ⟨_, rfl⟩
  rw [← hn] at INS SYM h40 ⊢
  have HD : Hid (n = d.size) := hn
  clear hn
  go_enter Tryd.func60, Tryd.ntmps60
  generalize Tryd.prog = P at *
  by_cases c1 : n < 20
  · have c1z : ¬ (20 : Int) ≤ (n : Int) := by omega
    have c1y : ¬ (20 : Int) < (n : Int) := by omega
    have h1 := INS.out 0 n d w S0.out (by omega) (Nat.le_refl _) HD.out.symm
    go_wp2
    refine wp_loop_rounds 1 ?_
    rw [rounds_succ]
    go_wp2_with (go_at_call 69; refine h1.mono ?_; rintro _ w1 ⟨rfl, F1, hS1, hP1, hT1⟩)
    refine wp_loop_rounds 1 ?_
    rw [rounds_succ]
    go_wp2
    go_end0
    exact ⟨rfl, F1, hS1, hP1, hT1⟩
  by_cases c2 : n = 20
  · subst c2
    have h1 := INS.out 0 20 d w S0.out (by omega) (Nat.le_refl _) HD.out.symm
    go_wp2
    refine wp_loop_rounds 2 ?_
    rw [rounds_succ]
    go_wp2_with (go_at_call_of 69 (Value.int .i64 0); refine h1.mono ?_; rintro _ w1 ⟨rfl, F1, hS1, hP1, hT1⟩)
    have h2 := INS.out 20 20 F1 w1 hS1 (Nat.le_refl _) (Nat.le_refl _) (hP1.1.trans HD.out.symm)
    rw [rounds_succ]
    go_wp2_with (go_at_call 69; refine h2.mono ?_; rintro _ w2 ⟨rfl, F2, hS2, hP2, hT2⟩)
    refine wp_loop_rounds 1 ?_
    rw [rounds_succ]
    go_wp2
    go_end0
    exact ⟨rfl, F2, hS2, permIn_trans _ _ _ _ _ hP1 (permIn_mono _ _ 20 20 0 20 (by omega) (Nat.le_refl _) (by have := hP1.1; have := HD.out; omega) hP2), SortedIn.keep hT1 hP2 (by omega)⟩
  by_cases c3 : n < 40
  · have c1z : (20 : Int) ≤ (n : Int) := by omega
    have c1y : (20 : Int) < (n : Int) := by omega
    have c3z : ¬ (40 : Int) ≤ (n : Int) := by omega
    have c3y : ¬ (40 : Int) < (n : Int) := by omega
    have h1 := INS.out 0 20 d w S0.out (by omega) (by omega) HD.out.symm
    go_wp2
    refine wp_loop_rounds 2 ?_
    rw [rounds_succ]
    go_wp2_with (go_at_call_of 69 (Value.int .i64 0); refine h1.mono ?_; rintro _ w1 ⟨rfl, F1, hS1, hP1, hT1⟩)
    have h2 := INS.out 20 n F1 w1 hS1 (by omega) (Nat.le_refl _) (hP1.1.trans HD.out.symm)
    rw [rounds_succ]
    go_wp2_with (go_at_call 69; refine h2.mono ?_; rintro _ w2 ⟨rfl, F2, hS2, hP2, hT2⟩)
    have h3 := SYM.out 0 20 n F2 w2 hS2 (by omega) (by omega) (Nat.le_refl _) (hP2.1.trans (hP1.1.trans HD.out.symm)) (SortedIn.keep hT1 hP2 (by omega)) hT2
    refine wp_loop_rounds 2 ?_
    rw [rounds_succ]
    go_wp2
    refine wp_loop_rounds 1 ?_
    rw [rounds_succ]
    go_wp2_with (go_at_call 70; refine h3.mono ?_; rintro _ w3 ⟨rfl, F3, hS3, hP3, hT3⟩)
    rw [rounds_succ]
    go_wp2
    go_end0
    have hd := HD.out
    exact ⟨rfl, F3, hS3, permIn_trans _ _ _ _ _ (permIn_mono _ _ 0 20 0 n (by omega) (by omega) (by omega) hP1) (permIn_trans _ _ _ _ _ (permIn_mono _ _ 20 n 0 n (by omega) (by omega) (by have := hP1.1; omega) hP2) hP3), hT3⟩
  · obtain rfl : n = 40 := by omega
    have h1 := INS.out 0 20 d w S0.out (by omega) (by omega) HD.out.symm
    go_wp2
    refine wp_loop_rounds 3 ?_
    rw [rounds_succ]
    go_wp2_with (go_at_call_of 69 (Value.int .i64 0); refine h1.mono ?_; rintro _ w1 ⟨rfl, F1, hS1, hP1, hT1⟩)
    have h2 := INS.out 20 40 F1 w1 hS1 (by omega) (Nat.le_refl _) (hP1.1.trans HD.out.symm)
    rw [rounds_succ]
    go_wp2_with (go_at_call_of 69 (Value.int .i64 20); refine h2.mono ?_; rintro _ w2 ⟨rfl, F2, hS2, hP2, hT2⟩)
    have h3 := INS.out 40 40 F2 w2 hS2 (by omega) (Nat.le_refl _) (hP2.1.trans (hP1.1.trans HD.out.symm))
    rw [rounds_succ]
    go_wp2_with (go_at_call 69; refine h3.mono ?_; rintro _ w3 ⟨rfl, F3, hS3, hP3, hT3⟩)
    have h4 := SYM.out 0 20 40 F3 w3 hS3 (by omega) (by omega) (Nat.le_refl _) (hP3.1.trans (hP2.1.trans (hP1.1.trans HD.out.symm))) (SortedIn.keep (SortedIn.keep hT1 hP2 (by omega)) hP3 (by omega)) (SortedIn.keep hT2 hP3 (by omega))
    refine wp_loop_rounds 2 ?_
    rw [rounds_succ]
    go_wp2
    refine wp_loop_rounds 2 ?_
    rw [rounds_succ]
    go_wp2_with (go_at_call 70; refine h4.mono ?_; rintro _ w4 ⟨rfl, F4, hS4, hP4, hT4⟩)
    rw [rounds_succ]
    go_wp2
    rw [rounds_succ]
    go_wp2
    go_end0
    have hd := HD.out
    exact ⟨rfl, F4, hS4, permIn_trans _ _ _ _ _ (permIn_mono _ _ 0 20 0 40 (by omega) (by omega) (by omega) hP1) (permIn_trans _ _ _ _ _ (permIn_mono _ _ 20 40 0 40 (by omega) (by omega) (by have := hP1.1; omega) hP2) (permIn_trans _ _ _ _ _ (permIn_mono _ _ 40 40 0 40 (by omega) (by omega) (by have := hP1.1; have := hP2.1; omega) hP3) hP4)), hT4⟩
theorem sortStable (enc : α → List Value) (k : Nat) (zk : k = 5) (cf : α → α → Int) (hO : SWO (ltOf cf)) (g : Nat) (eg : ∀ args w, (callFunc g args).run Tryd.prog w = .ok (.enter g args) w) (hcmp : Cmp Tryd.prog g enc cf) (blk off cap : Nat) (w0 : World) (R : RX enc k w0 blk) (d : Array α) (w : World) (S : SX enc k w0 blk off d w) (h40 : d.size ≤ 40) :
    Calls Tryd.prog 48 #[.slice (some ⟨blk, off, none⟩) d.size cap, .func (.func g) #[] #[]] w fun e w' => e = .returned (.tuple #[]) ∧ ∃ F, SX enc k w0 blk off F w' ∧ PermIn 0 d.size d F ∧ SortedIn (ltOf cf) 0 d.size F := by
  have t3 := Tryd.underlying3; have a3 := Tryd.isAgg3; have z3 := Tryd.sizeOf3; have v3 := Tryd.zeroValue3
  have t39 := Tryd.underlying39; have a39 := Tryd.isAgg39; have z39 := Tryd.sizeOf39; have v39 := Tryd.zeroValue39
  have t68 := Tryd.underlying68; have a68 := Tryd.isAgg68; have z68 := Tryd.sizeOf68; have v68 := Tryd.zeroValue68
  have e60 := Tryd.call60
  have h := stable enc k zk cf hO g eg hcmp blk off cap w0 R d w S h40
  clear S
  go_enter Tryd.func48, Tryd.ntmps48
  generalize Tryd.prog = P at *
  go_wp2_with (go_at_call 60; refine h.mono ?_; rintro _ w1 ⟨rfl, F1, hS1, hP1, hT1⟩)
  go_end0
  exact ⟨rfl, F1, hS1, hP1, hT1⟩
end Go.Srt
end

section
/- event.Sort at 40 events or fewer: its contract. No conditions. -/
set_option linter.all false
set_option maxRecDepth 100000
open Go Go.Rx Go.Proofs Go.RowKit Go.Sort Go.Srt
namespace GoForm
/-- An event's five cells. -/
def encE (x : Event) : List Value := [.int .i64 x.Kind, .int .i64 x.Key.BodyA, .int .i64 x.Key.FixtureA, .int .i64 x.Key.BodyB, .int .i64 x.Key.FixtureB]
theorem encE_len (x : Event) : (encE x).length = 5 := rfl
theorem encE_one (x : Event) : ∀ v ∈ encE x, v.oneCell' = true := by
  intro v hv
  simp [encE] at hv
  rcases hv with rfl | rfl | rfl | rfl | rfl <;> rfl
theorem e_Event_eq (x : Event) : e_Event x = .agg ((encE x).map AV.v) := rfl
theorem reps_v {m : Mem} {bl : Names} : ∀ l : List Value, Reps m bl (l.map AV.v) l
  | [] => .nil
  | a :: l => .cons .v (reps_v l)
theorem rep_Event {m : Mem} {bl : Names} (x : Event) : Rep m bl (e_Event x) (.agg (encE x).toArray) := by
  rw [e_Event_eq]
  exact .agg (reps_v _) (encE_one x)
noncomputable def cfE (a b : Event) : Int := (event_compare a b).getD 0
theorem cfE_some (a b : Event) : event_compare a b = some (cfE a b) := by
  have h := Less_eq a b
  unfold event_Less at h
  unfold cfE
  cases hc : event_compare a b with
  | none => rw [hc] at h; cases h
  | some n => rfl
theorem lt_cfE (a b : Event) : ltOf cfE a b = lexL (flds a) (flds b) := by
  have h := Less_eq a b
  unfold event_Less at h
  rw [cfE_some] at h
  exact Option.some.inj h
theorem swoE : SWO (ltOf cfE) where
  irrefl x := by
    rw [lt_cfE]
    cases h : lexL (flds x) (flds x) with
    | false => rfl
    | true => have := lexL_asymm _ _ h; rw [h] at this; cases this
  trans x y z h1 h2 := by rw [lt_cfE] at *; exact lexL_trans _ _ _ h1 h2
  ntrans x y z h1 h2 := by
    rw [lt_cfE] at *
    cases h : lexL (flds x) (flds z) with
    | false => rfl
    | true =>
      exfalso
      have t1 := lexL_eq (flds x) (flds y) rfl
      have t2 := lexL_eq (flds y) (flds z) rfl
      rw [h1, Bool.false_or] at t1
      rw [h2, Bool.false_or] at t2
      have ha := lexL_asymm _ _ h
      cases b1 : lexL (flds y) (flds x) with
      | true =>
        have := lexL_trans _ _ _ b1 h
        rw [h2] at this; cases this
      | false =>
        rw [b1] at t1
        have e : flds x = flds y := by simpa using t1
        rw [e, h2] at h; cases h
theorem totE (x y : Event) (h1 : ltOf cfE x y = false) (h2 : ltOf cfE y x = false) : x = y := by
  rw [lt_cfE] at *
  have t1 := lexL_eq (flds x) (flds y) rfl
  rw [h1, h2] at t1
  exact (flds_inj x y).1 (by simpa using t1)
noncomputable def sortE (l : List Event) : List Event := l.mergeSort (fun x y => !ltOf cfE y x)
def noMem : Mem := fun _ _ => none
theorem cmp43 : Cmp Tryd.prog 43 encE cfE := by
  intro x y W
  have h := c_43.ok (x, y, ()) [e_Event x, e_Event y] (cfE x y) ⟨rfl, rfl, trivial⟩ (cfE_some x y)
  have h2 := h W noMem [.agg (encE x).toArray, .agg (encE y).toArray] (fun b o v e => by cases e) (.cons (rep_Event x) (.cons (rep_Event y) .nil))
  refine h2.mono ?_
  rintro e w' ⟨v, m', bl', rfl, hb, -, -, hr⟩
  have e1 := (ansS_av (tb := tb) cd cd_ok [Ix.tint] (cfE x y) 0).1
  have hr : Rep m' bl' (ansS tb cd [] [Ix.tint] (cfE x y) 0).1.av v := hr
  rw [e1] at hr
  exact ⟨congrArg _ (Rep.eq_v (x := .int .i64 (cfE x y)) hr), hb⟩

/-! the sort of nothing -/
set_option maxHeartbeats 4000000 in
theorem insert0 (ad : Option Addr) (g : Nat) (w : World) : Calls Tryd.prog 69 #[.slice ad 0 0, .int .i64 (0 : Nat), .int .i64 (0 : Nat), .func (.func g) #[] #[]] w fun e w' => e = .returned (.tuple #[]) ∧ w' = w := by
  go_enter Tryd.func69, Tryd.ntmps69
  go_wp2
  refine wp_loop_rounds 1 ?_
  rw [rounds_succ]
  go_wp2
  go_end0
  exact ⟨rfl, rfl⟩
set_option maxHeartbeats 4000000 in
theorem stable0 (ad : Option Addr) (g : Nat) (w : World) : Calls Tryd.prog 60 #[.slice ad 0 0, .int .i64 (0 : Nat), .func (.func g) #[] #[]] w fun e w' => e = .returned (.tuple #[]) ∧ w' = w := by
  have h := insert0 ad g w
  have e69 := Tryd.call69
  go_enter Tryd.func60, Tryd.ntmps60
  go_wp2
  refine wp_loop_rounds 1 ?_
  rw [rounds_succ]
  go_wp2_with (go_at_call 69; refine h.mono ?_; rintro _ w1 ⟨rfl, rfl⟩)
  refine wp_loop_rounds 1 ?_
  rw [rounds_succ]
  go_wp2
  go_end0
  exact ⟨rfl, rfl⟩
set_option maxHeartbeats 4000000 in
theorem sort0 (ad : Option Addr) (g : Nat) (w : World) : Calls Tryd.prog 48 #[.slice ad 0 0, .func (.func g) #[] #[]] w fun e w' => e = .returned (.tuple #[]) ∧ w' = w := by
  have h := stable0 ad g w
  have e60 := Tryd.call60
  go_enter Tryd.func48, Tryd.ntmps48
  go_wp2_with (go_at_call 60; refine h.mono ?_; rintro _ w1 ⟨rfl, rfl⟩)
  go_end0
  exact ⟨rfl, rfl⟩
/-! the row that slices.Clone hands over -/
def flatE (l : List Event) : List Value := l.flatMap encE
theorem elC_E (l : List Event) : elC tb Ix.tEvent l = (flatE l).map AV.v := by
  induction l with
  | nil => rfl
  | cons x l ih =>
    show AV.cells (e_Event x) ++ elC tb Ix.tEvent l = _
    rw [ih, e_Event_eq]
    show _ = ((encE x) ++ flatE l).map AV.v
    rw [List.map_append]; rfl
theorem reps_v_eq {m : Mem} {bl : Names} : ∀ {l vs : List Value}, Reps m bl (l.map AV.v) vs → vs = l
  | [], _, .nil => rfl
  | a :: l, _, .cons h t => by rw [Rep.eq_v h, reps_v_eq t]
theorem flatE_get (l : List Event) (j : Nat) (hj : j < l.length * 5) : (flatE l)[j]? = some ((flatK encE 5 l.toArray)[j]!) := by
  rw [get_flatK _ _ _ _ (by simpa using hj)]
  induction l generalizing j with
  | nil => simp at hj
  | cons x l ih =>
    show (encE x ++ flatE l)[j]? = _
    by_cases h : j < 5
    · rw [List.getElem?_append_left (by simpa [encE] using h)]
      have e1 : j / 5 = 0 := by omega
      have e2 : j % 5 = j := by omega
      rw [e1, e2]
      have : (x :: l).toArray[0]! = x := rfl
      rw [this, getElem!_pos (encE x) j (by simpa [encE] using h), List.getElem?_eq_getElem (by simpa [encE] using h)]
    · rw [List.getElem?_append_right (by simp [encE]; omega)]
      have e3 : (encE x).length = 5 := rfl
      rw [e3, ih (j - 5) (by simp only [List.length_cons] at hj; omega)]
      have e1 : (j - 5) / 5 = j / 5 - 1 := by omega
      have e2 : (j - 5) % 5 = j % 5 := by omega
      rw [e1, e2]
      obtain ⟨q, hq⟩ : ∃ q, j / 5 = q + 1 := ⟨j / 5 - 1, by omega⟩
      rw [hq]
      have : (x :: l).toArray[q + 1]! = l.toArray[q + 1 - 1]! := by simp
      rw [this]
theorem flatE_len (l : List Event) : (flatE l).length = l.length * 5 := by
  induction l with
  | nil => rfl
  | cons x l ih => show (encE x ++ flatE l).length = _; rw [List.length_append, ih, encE_len, List.length_cons]; omega
theorem Clone_le (l : List Event) (h : l.length ≤ 40) : slices_Clone_47 l = some l := by
  unfold slices_Clone_47
  rw [Alike_of (by intro h; subst h; rfl), Chk_of (by omega)]
/-! the sort itself -/
noncomputable def sortF (l : List Event) : Option (List Event) := if l.length ≤ 40 then some (sortE l) else none
theorem sorted_list {l : List Event} {F : Array Event} (p : PermIn 0 l.toArray.size l.toArray F) (t : SortedIn (ltOf cfE) 0 l.toArray.size F) : F.toList = sortE l := sorted_unique_holds swoE totE l.toArray F p t
theorem sort_fnr (l : List Event) (h40 : l.length ≤ 40) (r : List Event) (hr : r = sortE l) : FnR Tryd.prog 23 [e_sl_Event l] (AV.sl false 5 (r.map e_Event)) [] := by
  intro w m vs hi hreps
  obtain ⟨v, rfl⟩ : ∃ v, vs = [v] := by
    have := hreps.length
    match vs, this with
    | [v], _ => exact ⟨v, rfl⟩
  have hcl := c_47.ok (l, ()) [e_sl_Event l] l ⟨rfl, trivial⟩ (Clone_le l h40)
  have hcl : FnR Tryd.prog 47 [e_sl_Event l] (.rw 0 5) [(0, .cells (elC tb Ix.tEvent l))] := hcl
  have hcl := hcl w m [v] hi hreps
  have e47 := Tryd.call47
  have e48 := Tryd.call48
  have e43 := Tryd.call43
  -- what follows the copy
  have key : ∀ (v1 : Value) (w1 : World), (∃ m' bl', Go.RowKit.Below w.heap.size w w1 ∧ WSim w.heap.size m [(0, .cells (elC tb Ix.tEvent l))] m' bl' w1 ∧ Rep m' bl' (.rw 0 5) v1) →
      Calls Tryd.prog 48 #[v1, .func (.func 43) #[] #[]] w1 fun e w2 => e = .returned (.tuple #[]) ∧ ∃ m' bl', Go.RowKit.Below w.heap.size w w2 ∧ WSim w.heap.size m [] m' bl' w2 ∧ (∀ id, bl' id = none) ∧ Rep m' bl' (.sl false 5 (r.map e_Event)) v1 := by
    rintro v1 w1 ⟨m', bl', hb, hws, hrep⟩
    have hdrop : WSim w.heap.size m [] m' noNames w1 := ⟨hws.imm, hws.le, hws.grow, (by intro id l h; simp [find] at h), (by intro id s p h; simp [find] at h), (by intro id b n h; cases h), (by intro id id' b n n' h; cases h)⟩
    generalize hz : AV.rw 0 5 = z at hrep
    cases hrep <;> cases hz
    case rwnil ad hnil =>
      have hl : l = [] := by
        rcases hws.blk 0 _ (by rw [find_cons, if_pos rfl]) with ⟨-, h⟩ | ⟨b, n, arr, T, pre, rest, h, -⟩
        · have := congrArg List.length h
          rw [elC_E, List.length_map, flatE_len] at this
          exact List.length_eq_zero_iff.1 (by have e0 : ([] : List AV).length = 0 := rfl; omega)
        · rw [hnil] at h; cases h
      refine (sort0 ad 43 w1).mono ?_
      rintro e w2 ⟨rfl, rfl⟩
      refine ⟨rfl, m', noNames, hb, hdrop, fun _ => rfl, ?_⟩
      have : r = [] := by rw [hr, hl]; simp [sortE]
      rw [this]
      cases ad with
      | none => exact .slnil
      | some a => exact .sl (l := []) (by simp) .nil (by simp) (by simp) (by simp) (Nat.zero_le _) (by simp)
    case rw b n cap len hcap hbl hlen hsz =>
      rcases hws.blk 0 _ (by rw [find_cons, if_pos rfl]) with ⟨h, -⟩ | ⟨b', n', arr, T, pre, rest, h1, h2, h3, h4, h5, h6⟩
      · rw [hbl] at h; cases h
      rw [hbl] at h1
      cases h1
      rw [elC_E] at h5
      obtain rfl := reps_v_eq h5
      have h32 : (flatE l).length = n.2 := congrArg Prod.snd h3
      obtain rfl : len = l.length := by rw [← h32, flatE_len] at hlen; omega
      obtain ⟨o1, o2, o3⟩ := hws.own 0 b n hbl
      have hH : HoldsK encE 5 w1 b 0 l.toArray := by
        intro j hj
        have hj : j < l.length * 5 := by rw [size_flatK] at hj; simpa using hj
        have hg := flatE_get l j hj
        rw [Nat.zero_add]
        refine ⟨?_, ?_⟩
        · rw [cell_of_blk h2]; exact pre_get h4 hg
        · unfold World.frozen?; rw [h2]; simp
      have R : RX encE 5 w1 b := ⟨encE_len, encE_one, o2⟩
      have hs := sortStable encE 5 rfl cfE swoE 43 e43 cmp43 b 0 cap w1 R l.toArray w1 (SX.start hH) (by simpa using h40)
      refine (show Calls Tryd.prog 48 #[.slice (some ⟨b, 0, none⟩) l.length cap, .func (.func 43) #[] #[]] w1 _ from hs).mono ?_
      rintro e w2 ⟨rfl, F, S, p, t⟩
      have hF : F.toList = r := by rw [hr]; exact sorted_list p t
      have hFs : r.length = l.length := by rw [← hF]; exact p.1
      have hFl : F = r.toArray := by rw [← hF]
      have hb2 : ∀ b' o v, b' ≠ b → m' b' o = some v → w2.cell? ⟨b', o, none⟩ = some v := fun b' o v hne e => by
        have := hws.imm.lt e
        rw [World.cell?_of_block (w := w1) (S.block b' this hne)]
        exact hws.imm b' o v e
      refine ⟨rfl, fun b' o => if b' = b then (flatE r)[o]? else m' b' o, noNames, ?_, ⟨?_, ?_, ?_, (by intro id l h; simp [find] at h), (by intro id s p h; simp [find] at h), (by intro id b n h; cases h), (by intro id id' b n n' h; cases h)⟩, fun _ => rfl, ?_⟩
      · exact ⟨S.os.trans hb.os, S.tape.trans hb.tape, S.output.trans hb.output, Nat.le_trans hb.size S.size, fun k hk => (S.block k (Nat.lt_of_lt_of_le hk hb.size) (by omega)).trans (hb.block k hk)⟩
      · intro b' o v e
        by_cases hbb : b' = b
        · subst hbb
          have e : (if b' = b' then (flatE r)[o]? else m' b' o) = some v := e
          rw [if_pos rfl] at e
          have ho : o < r.length * 5 := by
            have := (List.getElem?_eq_some_iff.1 e).1
            rwa [flatE_len] at this
          have hg := flatE_get r o ho
          rw [e] at hg
          have := (S.holds o (by rw [size_flatK, hFl]; simpa using ho)).1
          rw [Nat.zero_add, hFl] at this
          rw [this]
          exact hg.symm
        · have e : (if b' = b then (flatE r)[o]? else m' b' o) = some v := e
          rw [if_neg hbb] at e
          exact hb2 b' o v hbb e
      · intro b' o v e
        show (if b' = b then (flatE r)[o]? else m' b' o) = some v
        have e2 := hws.le b' o v e
        by_cases hbb : b' = b
        · subst hbb; rw [o3 o] at e2; cases e2
        · rw [if_neg hbb]; exact e2
      · intro b' o v e
        have e : (if b' = b then (flatE r)[o]? else m' b' o) = some v := e
        by_cases hbb : b' = b
        · subst hbb; exact .inr o1
        · rw [if_neg hbb] at e; exact hws.grow b' o v e
      · have hlen2 : l.length = (r.map e_Event).length := by rw [List.length_map, hFs]
        rw [hlen2]
        refine .sl (cs := flatE r) ?_ ?_ ?_ (fun _ => rfl) ?_ ?_ (by simp)
        · intro e he
          obtain ⟨x, -, rfl⟩ := List.mem_map.1 he
          rfl
        · have : (r.map e_Event).flatMap AV.cells = (flatE r).map AV.v := elC_E r
          rw [this]; exact reps_v _
        · intro c hc
          obtain ⟨x, -, hx⟩ := List.mem_flatMap.1 hc
          exact encE_one x c hx
        · intro j v hv
          show (if b = b then (flatE r)[0 + j]? else m' b (0 + j)) = some v
          rw [if_pos rfl, Nat.zero_add]; exact hv
        · rw [← hlen2]; exact hcap
  go_enter Tryd.func23, Tryd.ntmps23
  go_wp2_with (first | (go_at_call 47; refine hcl.mono ?_; rintro _ w1 ⟨v1, m1, bl1, rfl, hb1, hws1, hn1, hr1⟩) | (go_at_call 48; refine (key v1 w1 ⟨m1, bl1, hb1, hws1, hr1⟩).mono ?_; rintro _ w2 ⟨rfl, m2, bl2, hb2, hws2, hn2, hr2⟩))
  go_ret
  exact ⟨v1, m2, bl2, rfl, hb2, hws2, fun id _ => hn2 id, hr2⟩
theorem sort_ok : ∀ (a : PArgs tb [PTy.d Ix.tsl_Event]) (avs : List AV) (r : List Event), ArgsR (tb := tb) Tryd.prog [PTy.d Ix.tsl_Event] a avs → sortF a.1 = some r → FnR Tryd.prog 23 avs (ansS tb cd [] [Ix.tsl_Event] r 0).1.av ((ansS tb cd [] [Ix.tsl_Event] r 0).2.map fun p => (p.1, p.2.av)) := by
  intro a avs r hr0 hf
  obtain ⟨l, hl⟩ : ∃ l : List Event, a.1 = l := ⟨_, rfl⟩
  rw [hl] at hf
  obtain rfl : avs = [e_sl_Event l] := by
    cases avs with
    | nil => cases hr0
    | cons x t =>
      cases t with
      | nil =>
        have h1 : x = e_sl_Event a.1 := hr0.1
        rw [h1, hl]
      | cons y t => obtain ⟨-, h⟩ := hr0; cases h
  unfold sortF at hf
  by_cases h40 : l.length ≤ 40
  · rw [if_pos h40] at hf
    obtain ⟨a1, a2⟩ := ansS_av (tb := tb) cd cd_ok [Ix.tsl_Event] r 0
    rw [a1, a2]
    exact sort_fnr l h40 r (Option.some.inj hf).symm
  · rw [if_neg h40] at hf; cases hf
end GoForm
end
