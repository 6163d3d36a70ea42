/- Several texts in one. No conditions. -/
import Derived.Shelf.SlSortCmp.ReverseRangeK
import Derived.Test.YtkkbdleogkengaaDoorProg
section
/- The worlds that a sort in place passes through: nothing but the row is written. No conditions. -/
set_option linter.all false
namespace Go.Srt
open Go Go.Proofs Go.Shelf Go.RowKit Go.Lib Go.Sort
variable {P : Program} {α : Type} [Inhabited α] {enc : α → List Value} {k : Nat} {w0 W : World} {blk off : Nat} {dk d0 : Array α}

/-- A block of cells: how many, of what, with which mark. -/
def shp (W : World) (b : Nat) : Option (Nat × TypeId × (Nat × Nat)) := match W.heap[b]? with | some (.cells c T f) => some (c.size, T, f) | _ => none
theorem shp_of {W W' : World} {b : Nat} (h : W'.heap[b]? = W.heap[b]?) : shp W' b = shp W b := by unfold shp; rw [h]
theorem shp_setCell (W : World) (a : Addr) (v : Value) (b : Nat) : shp (W.setCell a v) b = shp W b := by
  unfold shp World.setCell
  simp only [Array.getElem?_modify]
  by_cases h : a.block = b
  · rw [if_pos h]
    cases W.heap[b]? with
    | none => rfl
    | some o =>
      cases o with
      | cells c T f =>
        show some _ = some _
        split <;> simp
      | _ => rfl
  · rw [if_neg h]
theorem shp_setCells (b : Nat) (c : Nat) : ∀ (vs : List Value) (o : Nat) (W : World), shp (W.setCells c o vs) b = shp W b
  | [], _, _ => rfl
  | v :: r, o, W => by rw [World.setCells, shp_setCells b c r, shp_setCell]
theorem heap_setCells {b c : Nat} (h : b ≠ c) : ∀ (vs : List Value) (o : Nat) (W : World), (W.setCells c o vs).heap[b]? = W.heap[b]?
  | [], _, _ => rfl
  | v :: r, o, W => by rw [World.setCells, heap_setCells h r, Go.RowKit.Below.heap_setCell _ _ _ _ (by exact h)]
theorem rest_setCells (c : Nat) : ∀ (vs : List Value) (o : Nat) (W : World), (W.setCells c o vs).os = W.os ∧ (W.setCells c o vs).tape = W.tape ∧ (W.setCells c o vs).output = W.output ∧ (W.setCells c o vs).heap.size = W.heap.size
  | [], _, _ => ⟨rfl, rfl, rfl, rfl⟩
  | v :: r, o, W => by
    rw [World.setCells]
    obtain ⟨h1, h2, h3, h4⟩ := rest_setCells c r (o + 1) (W.setCell ⟨c, o, none⟩ v)
    exact ⟨h1, h2, h3, by rw [h4]; simp [World.setCell]⟩

/-- W is w0 but for the row, which holds dk, and for new blocks. -/
structure SX (enc : α → List Value) (k : Nat) (w0 : World) (blk off : Nat) (dk : Array α) (W : World) : Prop where
  os : W.os = w0.os
  tape : W.tape = w0.tape
  output : W.output = w0.output
  size : w0.heap.size ≤ W.heap.size
  block : ∀ b, b < w0.heap.size → b ≠ blk → W.heap[b]? = w0.heap[b]?
  shape : shp W blk = shp w0 blk
  holds : HoldsK enc k W blk off dk
/-- What is told of the row, once. -/
structure RX (enc : α → List Value) (k : Nat) (w0 : World) (blk : Nat) : Prop where
  hk : ∀ x, (enc x).length = k
  h1 : ∀ x, ∀ v ∈ enc x, v.oneCell' = true
  hblk : blk < w0.heap.size
/-- Such worlds. -/
structure WP (enc : α → List Value) (k : Nat) (w0 : World) (blk off : Nat) (dk : Array α) where
  w : World
  h : SX enc k w0 blk off dk w

theorem SX.start (h : HoldsK enc k w0 blk off dk) : SX enc k w0 blk off dk w0 := ⟨rfl, rfl, rfl, Nat.le_refl _, fun _ _ _ => rfl, rfl, h⟩
theorem SX.drew (h : SX enc k w0 blk off dk W) : SX enc k w0 blk off dk W.drew := ⟨h.os, h.tape, h.output, h.size, h.block, h.shape, h.holds⟩
theorem SX.below {W' : World} (R : RX enc k w0 blk) (h : SX enc k w0 blk off dk W) (hb : Go.RowKit.Below W.heap.size W W') : SX enc k w0 blk off dk W' :=
  ⟨hb.os.trans h.os, hb.tape.trans h.tape, hb.output.trans h.output, Nat.le_trans h.size hb.size,
    fun b h1 h2 => (hb.block b (Nat.lt_of_lt_of_le h1 h.size)).trans (h.block b h1 h2),
    (shp_of (hb.block blk (Nat.lt_of_lt_of_le R.hblk h.size))).trans h.shape,
    fun j hj => by
      have hlt := Nat.lt_of_lt_of_le R.hblk h.size
      have := h.holds j hj
      exact ⟨(hb.cell (p := ⟨blk, off + j, none⟩) hlt).trans this.1, (hb.frozen (p := ⟨blk, off + j, none⟩) hlt).trans this.2⟩⟩
theorem SX.alloc (R : RX enc k w0 blk) (h : SX enc k w0 blk off dk W) (o : Obj) : SX enc k w0 blk off dk (W.alloc o) := h.below R ((Go.RowKit.Below.refl _ _).alloc (Nat.le_refl _) o)
theorem SX.load (R : RX enc k w0 blk) (h : SX enc k w0 blk off dk W) (P : Program) (i : Nat) (hi : i < dk.size) :
    Sem.run P (loadCellsFrom ⟨blk, off + i * k, none⟩ 0 k #[]) W = .ok (enc dk[i]!).toArray W :=
  run_loadCellsFrom_list P _ _ _ k (R.hk _) (HoldsK.cells h.holds R.hk hi)
theorem SX.ld (R : RX enc k w0 blk) (P : Program) (i : Nat) (hi : i < dk.size) : ∀ p : WP enc k w0 blk off dk, Sem.run P (loadCellsFrom ⟨blk, off + i * k, none⟩ 0 k #[]) p.w = .ok (enc dk[i]!).toArray p.w :=
  fun p => p.h.load R P i hi
theorem SX.ld1 (R : RX enc k w0 blk) (h : SX enc k w0 blk off dk W) (P : Program) (i : Nat) (hi : i < dk.size) :
    Sem.run P (loadCellsFrom ⟨blk, off + i * k, none⟩ 0 k #[]) W.drew = .ok (enc dk[i]!).toArray W.drew := h.drew.load R P i hi
omit [Inhabited α] in
theorem rowBnd (dk : Array α) (k x : Nat) (hx : x < dk.size) : x * k + k ≤ dk.size * k := by
  have := Nat.mul_le_mul_right k (show x + 1 ≤ dk.size from hx); rwa [Nat.add_mul, Nat.one_mul] at this
theorem SX.st1 (R : RX enc k w0 blk) (h : SX enc k w0 blk off dk W) (P : Program) (i : Nat) (hi : i < dk.size) (y : α) :
    Sem.run P (storeCells ⟨blk, off + i * k, none⟩ (enc y) 0) W.drew = .ok () (W.drew.setCells blk (off + i * k) (enc y)) :=
  stores_of_holds P h.drew.holds (i * k) _ (by rw [R.hk, size_flatK]; exact rowBnd dk k i hi) (R.h1 _)
theorem SX.st2 (R : RX enc k w0 blk) (h : SX enc k w0 blk off dk W) (P : Program) (i j : Nat) (hi : i < dk.size) (hj : j < dk.size) (y x : α) :
    Sem.run P (storeCells ⟨blk, off + j * k, none⟩ (enc x) 0) (W.drew.setCells blk (off + i * k) (enc y)) = .ok () ((W.drew.setCells blk (off + i * k) (enc y)).setCells blk (off + j * k) (enc x)) :=
  stores_of_holds P (holds_setCells_c h.drew.holds (i * k) _ (by rw [R.hk, size_flatK]; exact rowBnd dk k i hi)) (j * k) _ (by rw [R.hk, size_setMany, size_flatK]; exact rowBnd dk k j hj) (R.h1 _)
theorem SX.swapped (R : RX enc k w0 blk) (h : SX enc k w0 blk off dk W) (i j : Nat) (hi : i < dk.size) (hj : j < dk.size) :
    SX enc k w0 blk off (swp dk i j) ((W.drew.setCells blk (off + i * k) (enc dk[j]!)).setCells blk (off + j * k) (enc dk[i]!)) := by
  have hd := h.drew
  obtain ⟨a1, a2, a3, a4⟩ := rest_setCells blk (enc dk[j]!) (off + i * k) W.drew
  obtain ⟨b1, b2, b3, b4⟩ := rest_setCells blk (enc dk[i]!) (off + j * k) (W.drew.setCells blk (off + i * k) (enc dk[j]!))
  refine ⟨(b1.trans a1).trans hd.os, (b2.trans a2).trans hd.tape, (b3.trans a3).trans hd.output, by rw [b4, a4]; exact hd.size, fun b h1 h2 => ?_, ?_, ?_⟩
  · rw [heap_setCells h2, heap_setCells h2]; exact hd.block b h1 h2
  · rw [shp_setCells, shp_setCells]; exact hd.shape
  · have e1 := holds_setCells_c hd.holds (i * k) (enc dk[j]!) (by rw [R.hk, size_flatK]; exact rowBnd dk k i hi)
    have e2 := holds_setCells_c e1 (j * k) (enc dk[i]!) (by rw [R.hk, size_setMany, size_flatK]; exact rowBnd dk k j hj)
    rw [setMany_swp enc k R.hk dk i j hi hj] at e2
    exact e2
/-- A region that draws its order, whose operations read: in whatever world of the sort's. -/
theorem wp_region_wp {id : Nat} {Q : Exit → Act → World → Prop} {a : Act} {w : World} {l : List Oper} (hm : P.follows .mixedOrders = true) (hB : Region.lexB .any l.toArray = true) (S : SX enc k w0 blk off dk w)
    (h : wpQuiet P l.toArray (fun w' => ∃ p : WP enc k w0 blk off dk, w' = p.w) (fun a' => ∀ w', (∃ p : WP enc k w0 blk off dk, w' = p.w) → Q .normal a' w') l a) : (Code.region id l.toArray true).wp P Q a w :=
  wp_region_quiet (C := fun w' => ∃ p : WP enc k w0 blk off dk, w' = p.w) hm hB ⟨⟨_, S.drew⟩, rfl⟩ (by simpa using h)
/-- What is asked of the comparison: it answers; it may lay blocks. -/
def Cmp (P : Program) (g : Nat) (enc : α → List Value) (cf : α → α → Int) : Prop :=
  ∀ (x y : α) (W : World), Calls P g #[.agg (enc x).toArray, .agg (enc y).toArray] W fun e w' => e = .returned (.int .i64 (cf x y)) ∧ Go.RowKit.Below W.heap.size W w'
theorem Cmp.at {g : Nat} {cf : α → α → Int} (R : RX enc k w0 blk) (h : Cmp P g enc cf) (x y : α) : ∀ p : WP enc k w0 blk off dk, Calls P g #[.agg (enc x).toArray, .agg (enc y).toArray] p.w fun e w' => e = .returned (.int .i64 (cf x y)) ∧ ∃ q : WP enc k w0 blk off dk, w' = q.w :=
  fun p => (h x y p.w).mono fun _ _ ⟨he, hb⟩ => ⟨he, ⟨⟨_, p.h.below R hb⟩, rfl⟩⟩
end Go.Srt
end

section
/- slices.swapRangeCmpFunc at events. No conditions. -/
set_option linter.all false
namespace Go.Srt
open Go Go.Proofs Go.Shelf Go.RowKit Go.Lib Go.Sort
variable {α : Type} [Inhabited α]
def swN (d : Array α) (a b : Nat) : Nat → Array α
  | 0 => d
  | i + 1 => swp (swN d a b i) (a + i) (b + i)
theorem size_swN (d : Array α) (a b : Nat) : ∀ n, (swN d a b n).size = d.size
  | 0 => rfl
  | i + 1 => by rw [swN, size_swp, size_swN d a b i]
set_option maxHeartbeats 4000000 in
set_option maxRecDepth 1000000 in
theorem swapRange (enc : α → List Value) (k : Nat) (zk : k = 5) (g : Nat) (blk off cap a b n : Nat) (d : Array α) (w0 w : World) (R : RX enc k w0 blk) (S : SX enc k w0 blk off d w) (ha : a + n ≤ d.size) (hb : b + n ≤ d.size) (hsz : d.size < 4611686018427387904) :
    Calls Tryd.prog 85 #[.slice (some ⟨blk, off, none⟩) d.size cap, .int .i64 a, .int .i64 b, .int .i64 n, .func (.func g) #[] #[]] w fun e w' => e = .returned (.tuple #[]) ∧ SX enc k w0 blk off (swN d a b n) w' := by
  have mixed : Tryd.prog.follows .mixedOrders = true := by kernel_rfl
  have t3 := Tryd.underlying3; have a3 := Tryd.isAgg3; have z3 := Tryd.sizeOf3; have v3 := Tryd.zeroValue3
  have t4 := Tryd.underlying4; have a4 := Tryd.isAgg4; have z4 := Tryd.sizeOf4; have v4 := Tryd.zeroValue4
  have t39 := Tryd.underlying39; have a39 := Tryd.isAgg39; have z39 := Tryd.sizeOf39; have v39 := Tryd.zeroValue39
  have aE := Tryd.isAgg26
  have zE : ∀ w, (Go.sizeOf 26).run Tryd.prog w = .ok k w := by rw [zk]; exact Tryd.sizeOf26
  have S0 : Aside (SX enc k w0 blk off d w) := S
  clear S zk
  go_enter Tryd.func85, Tryd.ntmps85
  generalize Tryd.prog = P at *
  go_wp2
  go_loopg [10] n (fun kx s10 wr => ∃ (i : Nat), s10 = .int .i64 i ∧ i ≤ n ∧ n - i ≤ kx ∧ Aside (SX enc k w0 blk off (swN d a b i) wr))
  case atStart => exact ⟨0, rfl, Nat.zero_le _, Nat.le_refl _, S0⟩
  case round =>
    clear S0
    obtain ⟨i, rfl, hin, hkx, S1⟩ := hrel
    by_cases hlt : (i : Int) < n
    · obtain ⟨x, hx⟩ : ∃ x, x = a + i := ⟨_, rfl⟩
      obtain ⟨y, hy⟩ : ∃ y, y = b + i := ⟨_, rfl⟩
      have wx : IntKind.i64.wrap ((a : Int) + (i : Int)) = (x : Int) := by rw [IntKind.wrap_i64]; omega
      have wy : IntKind.i64.wrap ((b : Int) + (i : Int)) = (y : Int) := by rw [IntKind.wrap_i64]; omega
      have wi : IntKind.i64.wrap ((i : Int) + 1) = ((i + 1 : Nat) : Int) := by rw [IntKind.wrap_i64]; omega
      have ea : ((x : Int)).toNat = x := by omega
      have pa : (0 : Int) ≤ (x : Int) := by omega
      have ba : (x : Int) < (d.size : Int) := by omega
      have ec : ((y : Int)).toNat = y := by omega
      have pc : (0 : Int) ≤ (y : Int) := by omega
      have bc : (y : Int) < (d.size : Int) := by omega
      have hxs : x < (swN d a b i).size := by rw [size_swN]; omega
      have hys : y < (swN d a b i).size := by rw [size_swN]; omega
      have S2 : Aside (SX enc k w0 blk off (swp (swN d a b i) x y) ((wr.drew.setCells blk (off + x * k) (enc (swN d a b i)[y]!)).setCells blk (off + y * k) (enc (swN d a b i)[x]!))) := S1.out.swapped R x y hxs hys
      have la := S1.out.ld1 R P x hxs
      have lb := S1.out.ld1 R P y hys
      have sa := S1.out.st1 R P x hxs (swN d a b i)[y]!
      have sb := S1.out.st2 R P x y hxs hys (swN d a b i)[y]! (swN d a b i)[x]!
      have na : (enc (swN d a b i)[x]!).length = k := R.hk _
      have nb : (enc (swN d a b i)[y]!).length = k := R.hk _
      have HX : Hid (x = a + i ∧ y = b + i) := ⟨hx, hy⟩
      clear hx hy hxs hys
      generalize enc (swN d a b i)[x]! = cI at S2 la sb na
      generalize enc (swN d a b i)[y]! = cJ at S2 lb sa sb nb
      clear S1
      go_wp2_with fail
      go_big_region_o
      clear la lb sa sb
      generalize (wr.drew.setCells blk (off + x * k) cJ).setCells blk (off + y * k) cI = w2 at S2 ⊢
      go_wp2
      go_roundg (n - (i + 1))
      case measure => omega
      case rel => exact ⟨i + 1, by go_num, by omega, by omega, by rw [HX.out.1, HX.out.2] at S2; exact S2⟩
    · go_wp2
      go_end0
      have : i = n := by omega
      subst this
      exact ⟨rfl, S1.out⟩
end Go.Srt
end

section
/- Two parts of a row exchanged, in plain Lean. No conditions. -/
set_option linter.all false
namespace Go.Srt
open Go Go.Proofs Go.Shelf Go.RowKit Go.Lib Go.Sort
variable {α : Type} [Inhabited α]
theorem swN_get (d : Array α) (a b : Nat) : ∀ n, a + n ≤ b → b + n ≤ d.size → ∀ t, (swN d a b n)[t]! = if a ≤ t ∧ t < a + n then d[t - a + b]! else if b ≤ t ∧ t < b + n then d[t - b + a]! else d[t]!
  | 0, _, _, t => by rw [if_neg (by omega), if_neg (by omega)]; rfl
  | i + 1, h1, h2, t => by
    have ih := swN_get d a b i (by omega) (by omega)
    rw [swN, swp_get _ (by rw [size_swN]; omega) (by rw [size_swN]; omega)]
    by_cases e1 : t = b + i
    · subst e1
      rw [if_pos rfl, ih, if_neg (by omega), if_neg (by omega), if_neg (by omega), if_pos (by omega)]
      exact congrArg (fun z => d[z]!) (by omega)
    rw [if_neg e1]
    by_cases e2 : t = a + i
    · subst e2
      rw [if_pos rfl, ih, if_neg (by omega), if_neg (by omega), if_pos (by omega)]
      exact congrArg (fun z => d[z]!) (by omega)
    rw [if_neg e2, ih]
    by_cases e3 : a ≤ t ∧ t < a + i
    · rw [if_pos e3, if_pos (by omega)]
    rw [if_neg e3, if_neg (show ¬ (a ≤ t ∧ t < a + (i + 1)) by omega)]
    by_cases e4 : b ≤ t ∧ t < b + i
    · rw [if_pos e4, if_pos (by omega)]
    rw [if_neg e4, if_neg (show ¬ (b ≤ t ∧ t < b + (i + 1)) by omega)]
theorem swN_perm (d : Array α) (a b lo hi : Nat) (hd : hi ≤ d.size) : ∀ n, lo ≤ a → a + n ≤ hi → lo ≤ b → b + n ≤ hi → PermIn lo hi d (swN d a b n)
  | 0, _, _, _, _ => permIn_refl d lo hi
  | i + 1, h1, h2, h3, h4 => by
    refine permIn_trans _ _ _ _ _ (swN_perm d a b lo hi hd i h1 (by omega) h3 (by omega)) ?_
    exact swp_permIn _ lo hi (a + i) (b + i) (by omega) (by omega) (by omega) (by omega) (by rw [size_swN]; exact hd)
/-- F is d with the two parts of [lo, hi) exchanged. -/
def RotIn (lo m hi : Nat) (d F : Array α) : Prop := F.size = d.size ∧ ∀ t, F[t]! = if lo ≤ t ∧ t < lo + (hi - m) then d[t + (m - lo)]! else if lo + (hi - m) ≤ t ∧ t < hi then d[t - (hi - m)]! else d[t]!
theorem rot_a {d F : Array α} {m i j : Nat} (hj : 1 ≤ j) (hij : j < i) (him : i ≤ m) (hs : m + j ≤ d.size) (h : RotIn (m - (i - j)) m (m + j) (swN d (m - i) m j) F) : RotIn (m - i) m (m + j) d F := by
  refine ⟨h.1.trans (size_swN _ _ _ _), fun t => ?_⟩
  have g := swN_get d (m - i) m j (by omega) (by omega)
  rw [h.2 t]
  by_cases c1 : m - i ≤ t ∧ t < m - i + (m + j - m)
  · rw [if_pos c1, if_neg (by omega), if_neg (by omega), g, if_pos (by omega)]
    exact congrArg (fun z => d[z]!) (by omega)
  rw [if_neg c1]
  by_cases c2 : m - i + (m + j - m) ≤ t ∧ t < m + j
  · rw [if_pos c2]
    by_cases c3 : m - (i - j) ≤ t ∧ t < m - (i - j) + (m + j - m)
    · rw [if_pos c3, g]
      by_cases c4 : t + (m - (m - (i - j))) < m
      · omega
      · rw [if_neg (by omega), if_pos (by omega)]
        exact congrArg (fun z => d[z]!) (by omega)
    · rw [if_neg c3]
      rw [if_pos (by omega), g, if_neg (by omega), if_neg (by omega)]
  · rw [if_neg c2, if_neg (by omega), if_neg (by omega), g, if_neg (by omega), if_neg (by omega)]
theorem rot_b {d F : Array α} {m i j : Nat} (hi : 1 ≤ i) (hij : i < j) (him : i ≤ m) (hs : m + j ≤ d.size) (h : RotIn (m - i) m (m + (j - i)) (swN d (m - i) (m + j - i) i) F) : RotIn (m - i) m (m + j) d F := by
  refine ⟨h.1.trans (size_swN _ _ _ _), fun t => ?_⟩
  have g := swN_get d (m - i) (m + j - i) i (by omega) (by omega)
  rw [h.2 t]
  by_cases c1 : m - i ≤ t ∧ t < m - i + (m + j - m)
  · rw [if_pos c1]
    by_cases c3 : t < m - i + (m + (j - i) - m)
    · rw [if_pos (by omega), g, if_neg (by omega), if_neg (by omega)]
    · rw [if_neg (by omega)]
      by_cases c4 : t < m + (j - i)
      · rw [if_pos (by omega), g, if_pos (by omega)]
        exact congrArg (fun z => d[z]!) (by omega)
      · omega
  rw [if_neg c1]
  by_cases c2 : m - i + (m + j - m) ≤ t ∧ t < m + j
  · rw [if_pos c2, if_neg (by omega), if_neg (by omega), g, if_neg (by omega), if_pos (by omega)]
    exact congrArg (fun z => d[z]!) (by omega)
  · rw [if_neg c2, if_neg (by omega), if_neg (by omega), g, if_neg (by omega), if_neg (by omega)]
theorem rot_c {d : Array α} {m i : Nat} (him : i ≤ m) (hs : m + i ≤ d.size) : RotIn (m - i) m (m + i) d (swN d (m - i) m i) := by
  refine ⟨size_swN _ _ _ _, fun t => ?_⟩
  rw [swN_get d (m - i) m i (by omega) (by omega)]
  by_cases c1 : m - i ≤ t ∧ t < m - i + i
  · rw [if_pos c1, if_pos (show m - i ≤ t ∧ t < m - i + (m + i - m) by omega)]
    exact congrArg (fun z => d[z]!) (by omega)
  rw [if_neg c1, if_neg (show ¬ (m - i ≤ t ∧ t < m - i + (m + i - m)) by omega)]
  by_cases c2 : m ≤ t ∧ t < m + i
  · rw [if_pos c2, if_pos (show m - i + (m + i - m) ≤ t ∧ t < m + i by omega)]
    exact congrArg (fun z => d[z]!) (by omega)
  · rw [if_neg c2, if_neg (show ¬ (m - i + (m + i - m) ≤ t ∧ t < m + i) by omega)]
end Go.Srt
end

section
/- slices.rotateCmpFunc at events. No conditions. -/
set_option linter.all false
namespace Go.Srt
open Go Go.Proofs Go.Shelf Go.RowKit Go.Lib Go.Sort
variable {α : Type} [Inhabited α]
theorem ent85 : ∀ args w, (callFunc 85 args).run Tryd.prog w = .ok (.enter 85 args) w := enters_of Tryd.func85 (by kernel_rfl) rfl
set_option maxHeartbeats 4000000 in
set_option maxRecDepth 1000000 in
theorem rotate (enc : α → List Value) (k : Nat) (zk : k = 5) (g : Nat) (blk off cap a m b : Nat) (d : Array α) (w0 w : World) (R : RX enc k w0 blk) (S : SX enc k w0 blk off d w) (ha : a < m) (hm : m < b) (hb : b ≤ d.size) (hsz : d.size < 4611686018427387904) :
    Calls Tryd.prog 77 #[.slice (some ⟨blk, off, none⟩) d.size cap, .int .i64 a, .int .i64 m, .int .i64 b, .func (.func g) #[] #[]] w fun e w' => e = .returned (.tuple #[]) ∧ ∃ F, SX enc k w0 blk off F w' ∧ RotIn a m b d F ∧ PermIn a b d F := by
  have mixed : Tryd.prog.follows .mixedOrders = true := by kernel_rfl
  have t3 := Tryd.underlying3; have a3 := Tryd.isAgg3; have z3 := Tryd.sizeOf3; have v3 := Tryd.zeroValue3
  have t4 := Tryd.underlying4; have a4 := Tryd.isAgg4; have z4 := Tryd.sizeOf4; have v4 := Tryd.zeroValue4
  have t39 := Tryd.underlying39; have a39 := Tryd.isAgg39; have z39 := Tryd.sizeOf39; have v39 := Tryd.zeroValue39
  have e85 := ent85
  have SR : Aside (∀ (x y n : Nat) (dk : Array α) (W : World), dk.size = d.size → SX enc k w0 blk off dk W → x + n ≤ d.size → y + n ≤ d.size → Calls Tryd.prog 85 #[.slice (some ⟨blk, off, none⟩) d.size cap, .int .i64 x, .int .i64 y, .int .i64 n, .func (.func g) #[] #[]] W fun e w' => e = .returned (.tuple #[]) ∧ SX enc k w0 blk off (swN dk x y n) w') := by
    intro x y n dk W hd hS h1 h2
    have := swapRange enc k zk g blk off cap x y n dk w0 W R hS (by omega) (by omega) (by omega)
    rw [hd] at this
    exact this
  have S0 : Aside (SX enc k w0 blk off d w) := S
  clear S zk
  go_enter Tryd.func77, Tryd.ntmps77
  generalize Tryd.prog = P at *
  have w1 : IntKind.i64.wrap ((m : Int) - (a : Int)) = ((m - a : Nat) : Int) := by rw [IntKind.wrap_i64]; omega
  have w2 : IntKind.i64.wrap ((b : Int) - (m : Int)) = ((b - m : Nat) : Int) := by rw [IntKind.wrap_i64]; omega
  obtain ⟨i0, hi0⟩ : ∃ i0, i0 = m - a := ⟨_, rfl⟩
  obtain ⟨j0, hj0⟩ : ∃ j0, j0 = b - m := ⟨_, rfl⟩
  rw [← hi0] at w1
  rw [← hj0] at w2
  have H0 : Hid (i0 = m - a ∧ j0 = b - m) := ⟨hi0, hj0⟩
  clear hi0 hj0
  go_wp2
  go_loopg [10, 11] (i0 + j0) (fun kx s10 s11 wr => ∃ (i j : Nat) (dk : Array α), s10 = .int .i64 i ∧ s11 = .int .i64 j ∧ 1 ≤ i ∧ i ≤ m - a ∧ 1 ≤ j ∧ j ≤ b - m ∧ i + j ≤ kx ∧ dk.size = d.size ∧ Aside (SX enc k w0 blk off dk wr) ∧ Hid (PermIn a b d dk ∧ ∀ F, RotIn (m - i) m (m + j) dk F → RotIn a m b d F))
  case atStart =>
    obtain ⟨h1, h2⟩ := H0.out
    refine ⟨i0, j0, d, rfl, rfl, by omega, by omega, by omega, by omega, Nat.le_refl _, rfl, S0, ⟨permIn_refl _ _ _, fun F hF => ?_⟩⟩
    rw [h1, h2, show m - (m - a) = a by omega, show m + (b - m) = b by omega] at hF
    exact hF
  case round =>
    clear S0 w1 w2
    obtain ⟨i, j, dk, rfl, rfl, hi1, hi2, hj1, hj2, hkx, hds, S1, HI⟩ := hrel
    obtain ⟨x, hx⟩ : ∃ x, x = m - i := ⟨_, rfl⟩
    have wx : IntKind.i64.wrap ((m : Int) - (i : Int)) = (x : Int) := by rw [IntKind.wrap_i64]; omega
    by_cases hne : i = j
    · subst hne
      have hc := SR.out x m i dk wr hds S1.out (by omega) (by omega)
      clear S1
      have HX : Hid (x = m - i) := hx
      clear hx
      go_wp2_with (go_at_call 85; refine hc.mono ?_; rintro e w1 ⟨rfl, hS⟩)
      go_end0
      rw [HX.out] at hS
      refine ⟨rfl, _, hS, HI.out.2 _ (rot_c (by omega) (by omega)), ?_⟩
      exact permIn_trans _ _ _ _ _ HI.out.1 (swN_perm dk _ _ a b (by omega) i (by omega) (by omega) (by omega) (by omega))
    · have hnz : ¬ ((i : Int) = (j : Int)) := by omega
      by_cases hgt : j < i
      · have hgz : (i : Int) > (j : Int) := by omega
        have hgz' : (j : Int) < (i : Int) := by omega
        have wi : IntKind.i64.wrap ((i : Int) - (j : Int)) = ((i - j : Nat) : Int) := by rw [IntKind.wrap_i64]; omega
        obtain ⟨i', hi'⟩ : ∃ i', i' = i - j := ⟨_, rfl⟩
        rw [← hi'] at wi
        have hc := SR.out x m j dk wr hds S1.out (by omega) (by omega)
        clear S1
        have HX : Hid (x = m - i ∧ i' = i - j) := ⟨hx, hi'⟩
        clear hx hi'
        go_wp2_with (go_at_call 85; refine hc.mono ?_; rintro e w1 ⟨rfl, hS⟩)
        go_roundg (i' + j)
        case measure => obtain ⟨h1, h2⟩ := HX.out; omega
        case rel =>
          obtain ⟨h1, h2⟩ := HX.out
          rw [h1] at hS
          refine ⟨i', j, _, rfl, rfl, by omega, by omega, hj1, hj2, Nat.le_refl _, (size_swN _ _ _ _).trans hds, hS, permIn_trans _ _ _ _ _ HI.out.1 (swN_perm dk _ _ a b (by omega) j (by omega) (by omega) (by omega) (by omega)), fun F hF => HI.out.2 F (rot_a hj1 hgt (by omega) (by omega) ?_)⟩
          rw [h2] at hF; exact hF
      · have hgz : ¬ ((i : Int) > (j : Int)) := by omega
        have hgz' : ¬ ((j : Int) < (i : Int)) := by omega
        have wj : IntKind.i64.wrap ((j : Int) - (i : Int)) = ((j - i : Nat) : Int) := by rw [IntKind.wrap_i64]; omega
        obtain ⟨j', hj'⟩ : ∃ j', j' = j - i := ⟨_, rfl⟩
        rw [← hj'] at wj
        obtain ⟨y, hy⟩ : ∃ y, y = m + j - i := ⟨_, rfl⟩
        obtain ⟨z, hz⟩ : ∃ z, z = m + j := ⟨_, rfl⟩
        have wz : IntKind.i64.wrap ((m : Int) + (j : Int)) = (z : Int) := by rw [IntKind.wrap_i64]; omega
        have wy : IntKind.i64.wrap ((z : Int) - (i : Int)) = (y : Int) := by rw [IntKind.wrap_i64]; omega
        have hc := SR.out x y i dk wr hds S1.out (by omega) (by omega)
        clear S1
        have HX : Hid (x = m - i ∧ j' = j - i ∧ y = m + j - i) := ⟨hx, hj', hy⟩
        clear hx hj' hy hz
        go_wp2_with (go_at_call 85; refine hc.mono ?_; rintro e w1 ⟨rfl, hS⟩)
        go_roundg (i + j')
        case measure => obtain ⟨h1, h2, h3⟩ := HX.out; omega
        case rel =>
          obtain ⟨h1, h2, h3⟩ := HX.out
          rw [h1, h3] at hS
          refine ⟨i, j', _, rfl, rfl, hi1, hi2, by omega, by omega, Nat.le_refl _, (size_swN _ _ _ _).trans hds, hS, permIn_trans _ _ _ _ _ HI.out.1 (swN_perm dk _ _ a b (by omega) i (by omega) (by omega) (by omega) (by omega)), fun F hF => HI.out.2 F (rot_b hi1 (by omega) (by omega) (by omega) ?_)⟩
          rw [h2] at hF; exact hF
end Go.Srt
end

section
/- slices.insertionSortCmpFunc at events. No conditions. -/
set_option linter.all false
namespace Go.Srt
open Go Go.Proofs Go.Shelf Go.RowKit Go.Lib Go.Sort
variable {α : Type} [Inhabited α]
set_option maxHeartbeats 4000000 in
set_option maxRecDepth 1000000 in
theorem insertion (enc : α → List Value) (k : Nat) (zk : k = 5) (cf : α → α → Int) (g : Nat) (eg : ∀ args w, (callFunc g args).run Tryd.prog w = .ok (.enter g args) w) (hcmp : Cmp Tryd.prog g enc cf)
    (blk off cap a b : Nat) (d : Array α) (w0 w : World) (R : RX enc k w0 blk) (S : SX enc k w0 blk off d w) (hab : a ≤ b) (hb : b ≤ d.size) (hsz : d.size < 4611686018427387904) :
    Calls Tryd.prog 69 #[.slice (some ⟨blk, off, none⟩) d.size cap, .int .i64 a, .int .i64 b, .func (.func g) #[] #[]] w fun e w' => e = .returned (.tuple #[]) ∧ SX enc k w0 blk off (Sort.insertionSort (ltOf cf) d a b) w' := by
  have mixed : Tryd.prog.follows .mixedOrders = true := by kernel_rfl
  have t3 := Tryd.underlying3; have a3 := Tryd.isAgg3; have z3 := Tryd.sizeOf3; have v3 := Tryd.zeroValue3
  have t4 := Tryd.underlying4; have a4 := Tryd.isAgg4; have z4 := Tryd.sizeOf4; have v4 := Tryd.zeroValue4
  have t39 := Tryd.underlying39; have a39 := Tryd.isAgg39; have z39 := Tryd.sizeOf39; have v39 := Tryd.zeroValue39
  have t68 := Tryd.underlying68; have a68 := Tryd.isAgg68; have z68 := Tryd.sizeOf68; have v68 := Tryd.zeroValue68
  have aE := Tryd.isAgg26
  have zE : ∀ w, (Go.sizeOf 26).run Tryd.prog w = .ok k w := by rw [zk]; exact Tryd.sizeOf26
  have S0 : Aside (SX enc k w0 blk off d w) := S
  have HC : Aside (Cmp Tryd.prog g enc cf) := hcmp
  clear S zk hcmp
  go_enter Tryd.func69, Tryd.ntmps69
  generalize Tryd.prog = P at *
  have wa : IntKind.i64.wrap ((a : Int) + 1) = ((a + 1 : Nat) : Int) := by rw [IntKind.wrap_i64]; omega
  go_wp2
  go_loopg [8] (b - a) (fun g1 vi wr => ∃ (i : Nat) (dk : Array α), vi = .int .i64 i ∧ a < i ∧ i ≤ b + 1 ∧ b + 1 - i ≤ g1 + 1 ∧ dk.size = d.size ∧ Aside (SX enc k w0 blk off dk wr) ∧ Hid (insOuter (ltOf cf) a b i dk = insOuter (ltOf cf) a b (a + 1) d))
  case atStart => exact ⟨a + 1, d, by go_num, by omega, by omega, by omega, rfl, S0, rfl⟩
  case round =>
    clear S0
    obtain ⟨i, dk, rfl, hai, hib, hg1, hsk, S1, HO⟩ := hrel
    by_cases hlt : i < b
    · have hltz : (i : Int) < (b : Int) := by omega
      have wi : IntKind.i64.wrap ((i : Int) + 1) = ((i + 1 : Nat) : Int) := by rw [IntKind.wrap_i64]; omega
      go_wp2
      go_loopg [9] i (fun g2 vj wr2 => ∃ (j : Nat) (dj : Array α), vj = .int .i64 j ∧ a ≤ j ∧ j ≤ i ∧ j ≤ g2 ∧ dj.size = d.size ∧ Aside (SX enc k w0 blk off dj wr2) ∧ Hid (insInner (ltOf cf) a j dj = insInner (ltOf cf) a i dk))
      case atStart => exact ⟨i, dk, rfl, by omega, Nat.le_refl _, Nat.le_refl _, hsk, S1, rfl⟩
      case round =>
        clear S1
        obtain ⟨j, dj, rfl, haj, hji, hg2, hsj, S1, HI⟩ := hrel
        have out : (j ≤ a ∨ ltOf cf dj[j]! dj[j - 1]! = false) → Hid (insOuter (ltOf cf) a b (i + 1) dj = insOuter (ltOf cf) a b (a + 1) d) := fun hs => by
          show _ = _
          rw [← HO.out, insOuter_go _ _ _ _ _ hlt, ← HI.out, insInner_stop _ _ _ _ hs]
        have OUT : Aside _ := out
        clear out
        by_cases hja : a < j
        · have hjaz : (a : Int) < (j : Int) := by omega
          obtain ⟨jp, rfl⟩ : ∃ jp, j = jp + 1 := ⟨j - 1, by omega⟩
          obtain ⟨xj, hxj⟩ : ∃ x, dj[jp + 1]! = x := ⟨_, rfl⟩
          obtain ⟨xp, hxp⟩ : ∃ x, dj[jp]! = x := ⟨_, rfl⟩
          have hwp : IntKind.i64.wrap (jp : Int) = (jp : Int) := by rw [IntKind.wrap_i64]; omega
          have jz : (jp : Int) + 1 < (d.size : Int) := by omega
          have jz1 : (jp : Int) < (d.size : Int) := by omega
          have hjaz' : (a : Int) < (jp : Int) + 1 := by omega
          have p0 : (0 : Int) ≤ (jp : Int) + 1 := by omega
          have e0 : ((jp : Int) + 1).toNat = jp + 1 := by omega
          have lj : ∀ p : WP enc k w0 blk off dj, Sem.run P (loadCellsFrom ⟨blk, off + (jp + 1) * k, none⟩ 0 k #[]) p.w = .ok (enc xj).toArray p.w := fun p => by rw [← hxj]; exact SX.ld R P (jp + 1) (by omega) p
          have lp : ∀ p : WP enc k w0 blk off dj, Sem.run P (loadCellsFrom ⟨blk, off + jp * k, none⟩ 0 k #[]) p.w = .ok (enc xp).toArray p.w := fun p => by rw [← hxp]; exact SX.ld R P jp (by omega) p
          have hcg : ∀ p : WP enc k w0 blk off dj, Calls P g #[.agg (enc xj).toArray, .agg (enc xp).toArray] p.w fun e w' => e = .returned (.int .i64 (cf xj xp)) ∧ ∃ q : WP enc k w0 blk off dj, w' = q.w := HC.out.at R xj xp
          by_cases hlv : cf xj xp < 0
          · go_wp2_with fail
            have ne : Nonempty (WP enc k w0 blk off dj) := ⟨⟨_, S1.out⟩⟩
            refine wp_region_wp mixed (by kernel_rfl) S1.out ?_
            clear S1
            repeat (quiet_step ((go_at_fn g; exact hcg _)))
            refine wpQuiet_nil ?_
            intro wq hw'
            obtain ⟨pq, hw''⟩ := hw'
            have S2 : Aside (SX enc k w0 blk off dj wq) := by rw [hw'']; exact pq.h
            clear hw'' pq ne lj lp hcg
            go_wp2_with fail
            have S3 : Aside (SX enc k w0 blk off (swp dj (jp + 1) jp) ((wq.drew.setCells blk (off + (jp + 1) * k) (enc xp)).setCells blk (off + jp * k) (enc xj))) := by rw [← hxp, ← hxj]; exact S2.out.swapped R (jp + 1) jp (by omega) (by omega)
            have lj2 : Sem.run P (loadCellsFrom ⟨blk, off + (jp + 1) * k, none⟩ 0 k #[]) wq.drew = .ok (enc xj).toArray wq.drew := by rw [← hxj]; exact S2.out.ld1 R P (jp + 1) (by omega)
            have lp2 : Sem.run P (loadCellsFrom ⟨blk, off + jp * k, none⟩ 0 k #[]) wq.drew = .ok (enc xp).toArray wq.drew := by rw [← hxp]; exact S2.out.ld1 R P jp (by omega)
            have s1 := S2.out.st1 R P (jp + 1) (by omega) xp
            have s2 := S2.out.st2 R P (jp + 1) jp (by omega) (by omega) xp xj
            have hsJ : (enc xj).length = k := R.hk _
            have hsP : (enc xp).length = k := R.hk _
            have HX : Hid (dj[jp + 1]! = xj ∧ dj[jp]! = xp) := ⟨hxj, hxp⟩
            clear hxj hxp S2
            generalize enc xj = cJ at S3 lj2 s2 hsJ
            generalize enc xp = cP at S3 lp2 s1 s2 hsP
            go_big_region_o
            clear lj2 lp2 s1 s2
            generalize (wq.drew.setCells blk (off + (jp + 1) * k) cP).setCells blk (off + jp * k) cJ = w2 at S3 ⊢
            all_goals go_wp2
            go_roundg jp
            case measure => omega
            case rel =>
              refine ⟨jp, swp dj (jp + 1) jp, by first | rfl | go_num | (congr 1; omega), by omega, by omega, Nat.le_refl _, by rw [size_swp]; exact hsj, S3, (show Hid _ from ?_)⟩
              show _ = _
              have := insInner_go (ltOf cf) a (jp + 1) dj hja (by simp only [Nat.add_sub_cancel]; rw [HX.out.1, HX.out.2]; exact decide_eq_true hlv)
              simp only [Nat.add_sub_cancel] at this
              rw [← HI.out, this]
          · go_wp2_with fail
            have ne : Nonempty (WP enc k w0 blk off dj) := ⟨⟨_, S1.out⟩⟩
            refine wp_region_wp mixed (by kernel_rfl) S1.out ?_
            clear S1
            repeat (quiet_step ((go_at_fn g; exact hcg _)))
            refine wpQuiet_nil ?_
            intro wq hw'
            obtain ⟨pq, hw''⟩ := hw'
            have S2 : Aside (SX enc k w0 blk off dj wq) := by rw [hw'']; exact pq.h
            clear hw'' pq ne lj lp hcg
            go_wp2
            go_roundg (b - (i + 1))
            case measure => omega
            case rel => exact ⟨i + 1, dj, by go_num, by omega, by omega, by omega, hsj, S2, OUT.out (Or.inr (by simp only [Nat.add_sub_cancel]; rw [hxj, hxp]; exact decide_eq_false (by omega)))⟩
        · have hjaz : decide ((j : Int) > (a : Int)) = false := decide_eq_false (by omega)
          have hjaz' : ¬ (a : Int) < (j : Int) := by omega
          go_wp2_with fail
          have S2 : Aside (SX enc k w0 blk off dj wr.drew) := S1.out.drew
          clear S1
          go_big_region_o
          all_goals go_wp2
          go_roundg (b - (i + 1))
          case measure => omega
          case rel => exact ⟨i + 1, dj, by go_num, by omega, by omega, by omega, hsj, S2, OUT.out (Or.inl (by omega))⟩
    · have hltz : ¬ (i : Int) < (b : Int) := by omega
      go_wp2
      go_end0
      exact ⟨rfl, by unfold Sort.insertionSort; rw [← HO.out, insOuter_stop _ _ _ _ _ hlt]; exact S1.out⟩
end Go.Srt
end

section
/- Two sorted parts of a row merged, in plain Lean. No conditions. -/
set_option linter.all false
namespace Go.Srt
open Go Go.Proofs Go.Shelf Go.RowKit Go.Lib Go.Sort
variable {α : Type} [Inhabited α] {lt : α → α → Bool} {d F : Array α}
/-- No later one is less. -/
theorem sorted_le (hO : SWO lt) {a b : Nat} (h : SortedIn lt a b d) {s t : Nat} (h1 : a ≤ s) (h2 : s ≤ t) (h3 : t < b) : lt d[t]! d[s]! = false := by
  rcases Nat.lt_or_eq_of_le h2 with h | rfl
  · exact ‹SortedIn lt a b d› s t h1 h h3
  · exact hO.irrefl _
theorem rot_id1 (m hi : Nat) : RotIn m m hi d d := ⟨rfl, fun t => by
  by_cases h : m ≤ t ∧ t < m + (hi - m)
  · rw [if_pos h]; exact congrArg (fun z => d[z]!) (by omega)
  · rw [if_neg h, if_neg (by omega)]⟩
theorem rot_id2 (lo m : Nat) (h : lo ≤ m) : RotIn lo m m d d := ⟨rfl, fun t => by
  rw [if_neg (by omega)]
  by_cases h : lo + (m - m) ≤ t ∧ t < m
  · rw [if_pos h]; exact congrArg (fun z => d[z]!) (by omega)
  · rw [if_neg h]⟩
/-- One step up. -/
theorem rot_up {a k : Nat} (ha : a ≤ k) (hk : k + 1 < d.size) (h : RotIn a (a + 1) (k + 1) d F) : RotIn a (a + 1) (k + 2) d (swp F k (k + 1)) := by
  refine ⟨by rw [size_swp]; exact h.1, fun t => ?_⟩
  rw [swp_get F (by rw [h.1]; omega) (by rw [h.1]; omega)]
  by_cases e1 : t = k + 1
  · subst e1
    rw [if_pos rfl, h.2, if_neg (by omega), if_pos (by omega), if_neg (by omega), if_pos (by omega)]
    exact congrArg (fun z => d[z]!) (by omega)
  rw [if_neg e1]
  by_cases e2 : t = k
  · subst e2
    rw [if_pos rfl, h.2, if_neg (by omega), if_neg (by omega), if_pos (by omega)]
    exact congrArg (fun z => d[z]!) (by omega)
  rw [if_neg e2, h.2]
  by_cases e3 : a ≤ t ∧ t < a + (k + 1 - (a + 1))
  · rw [if_pos e3, if_pos (by omega)]
  rw [if_neg e3, if_neg (show ¬ (a + (k + 1 - (a + 1)) ≤ t ∧ t < k + 1) by omega), if_neg (by omega), if_neg (by omega)]
/-- One step down. -/
theorem rot_down {k m : Nat} (hk : k + 1 ≤ m) (hm : m < d.size) (h : RotIn (k + 1) m (m + 1) d F) : RotIn k m (m + 1) d (swp F (k + 1) k) := by
  refine ⟨by rw [size_swp]; exact h.1, fun t => ?_⟩
  rw [swp_get F (by rw [h.1]; omega) (by rw [h.1]; omega)]
  by_cases e1 : t = k
  · subst e1
    rw [if_pos rfl, h.2, if_pos (by omega), if_pos (by omega)]
    exact congrArg (fun z => d[z]!) (by omega)
  rw [if_neg e1]
  by_cases e2 : t = k + 1
  · subst e2
    rw [if_pos rfl, h.2, if_neg (by omega), if_neg (by omega), if_neg (by omega), if_pos (by omega)]
    exact congrArg (fun z => d[z]!) (by omega)
  rw [if_neg e2, h.2, if_neg (show ¬ (k + 1 ≤ t ∧ t < k + 1 + (m + 1 - m)) by omega), if_neg (show ¬ (k ≤ t ∧ t < k + (m + 1 - m)) by omega)]
  by_cases e3 : k + 1 + (m + 1 - m) ≤ t ∧ t < m + 1
  · rw [if_pos e3, if_pos (by omega)]
  rw [if_neg e3, if_neg (by omega)]
/-- One on the left. -/
theorem merge_one_left (hO : SWO lt) {a i b : Nat} (hi : a + 1 ≤ i) (hib : i ≤ b) (hs : SortedIn lt (a + 1) b d) (h1 : ∀ t, a + 1 ≤ t → t < i → lt d[t]! d[a]! = true) (h2 : ∀ t, i ≤ t → t < b → lt d[t]! d[a]! = false) (hF : RotIn a (a + 1) i d F) : SortedIn lt a b F := by
  intro s t hs1 hst htb
  rw [hF.2 s, hF.2 t]
  by_cases c1 : s < i - 1
  · rw [if_pos (show a ≤ s ∧ s < a + (i - (a + 1)) by omega)]
    by_cases c2 : t < i - 1
    · rw [if_pos (show a ≤ t ∧ t < a + (i - (a + 1)) by omega)]
      exact sorted_le hO hs (by omega) (by omega) (by omega)
    · rw [if_neg (show ¬ (a ≤ t ∧ t < a + (i - (a + 1))) by omega)]
      by_cases c3 : t < i
      · rw [if_pos (show a + (i - (a + 1)) ≤ t ∧ t < i by omega), show t - (i - (a + 1)) = a by omega]
        exact hO.asymmA (h1 _ (by omega) (by omega))
      · rw [if_neg (show ¬ (a + (i - (a + 1)) ≤ t ∧ t < i) by omega)]
        exact sorted_le hO hs (by omega) (by omega) (by omega)
  · rw [if_neg (show ¬ (a ≤ s ∧ s < a + (i - (a + 1))) by omega), if_neg (show ¬ (a ≤ t ∧ t < a + (i - (a + 1))) by omega), if_neg (show ¬ (a + (i - (a + 1)) ≤ t ∧ t < i) by omega)]
    by_cases c3 : s < i
    · rw [if_pos (show a + (i - (a + 1)) ≤ s ∧ s < i by omega), show s - (i - (a + 1)) = a by omega]
      exact h2 _ (by omega) (by omega)
    · rw [if_neg (show ¬ (a + (i - (a + 1)) ≤ s ∧ s < i) by omega)]
      exact sorted_le hO hs (by omega) (by omega) (by omega)
/-- One on the right. -/
theorem merge_one_right (hO : SWO lt) {a i m : Nat} (hi : a ≤ i) (him : i ≤ m) (hs : SortedIn lt a m d) (h1 : ∀ t, a ≤ t → t < i → lt d[m]! d[t]! = false) (h2 : ∀ t, i ≤ t → t < m → lt d[m]! d[t]! = true) (hF : RotIn i m (m + 1) d F) : SortedIn lt a (m + 1) F := by
  intro s t hs1 hst htb
  rw [hF.2 s, hF.2 t]
  by_cases c1 : s < i
  · rw [if_neg (show ¬ (i ≤ s ∧ s < i + (m + 1 - m)) by omega), if_neg (show ¬ (i + (m + 1 - m) ≤ s ∧ s < m + 1) by omega)]
    by_cases c2 : t < i
    · rw [if_neg (show ¬ (i ≤ t ∧ t < i + (m + 1 - m)) by omega), if_neg (show ¬ (i + (m + 1 - m) ≤ t ∧ t < m + 1) by omega)]
      exact sorted_le hO hs (by omega) (by omega) (by omega)
    · by_cases c3 : t = i
      · rw [if_pos (show i ≤ t ∧ t < i + (m + 1 - m) by omega), show t + (m - i) = m by omega]
        exact h1 _ (by omega) (by omega)
      · rw [if_neg (show ¬ (i ≤ t ∧ t < i + (m + 1 - m)) by omega), if_pos (show i + (m + 1 - m) ≤ t ∧ t < m + 1 by omega)]
        exact sorted_le hO hs (by omega) (by omega) (by omega)
  · rw [if_neg (show ¬ (i ≤ t ∧ t < i + (m + 1 - m)) by omega), if_pos (show i + (m + 1 - m) ≤ t ∧ t < m + 1 by omega)]
    by_cases c3 : s = i
    · rw [if_pos (show i ≤ s ∧ s < i + (m + 1 - m) by omega), show s + (m - i) = m by omega]
      exact hO.asymmA (h2 _ (by omega) (by omega))
    · rw [if_neg (show ¬ (i ≤ s ∧ s < i + (m + 1 - m)) by omega), if_pos (show i + (m + 1 - m) ≤ s ∧ s < m + 1 by omega)]
      exact sorted_le hO hs (by omega) (by omega) (by omega)
/-- The search's test tells of all places before. -/
theorem search_lo (hO : SWO lt) {a m b n c t s0 : Nat} (h1 : SortedIn lt a m d) (h2 : SortedIn lt m b d) (ht : s0 ≤ t) (htc : t ≤ c) (ha : a ≤ s0) (hcm : c < m) (hb : n - 1 - s0 < b) (hm : m ≤ n - 1 - c) (hc : lt d[n - 1 - c]! d[c]! = false) : lt d[n - 1 - t]! d[t]! = false :=
  hO.ntrans _ _ _ (hO.ntrans _ _ _ (sorted_le hO h2 (s := n - 1 - c) (t := n - 1 - t) hm (by omega) (by omega)) hc) (sorted_le hO h1 (by omega) htc hcm)
theorem search_hi (hO : SWO lt) {a m b n c t r0 : Nat} (h1 : SortedIn lt a m d) (h2 : SortedIn lt m b d) (hct : c ≤ t) (ht : t < r0) (ha : a ≤ c) (hr : r0 ≤ m) (hb : n - 1 - c < b) (hm : m + r0 ≤ n) (hc : lt d[n - 1 - c]! d[c]! = true) : lt d[n - 1 - t]! d[t]! = true := by
  cases h : lt d[n - 1 - t]! d[t]! with
  | true => rfl
  | false =>
    have := hO.ntrans _ _ _ (hO.ntrans _ _ _ (sorted_le hO h2 (s := n - 1 - t) (t := n - 1 - c) (by omega) (by omega) hb) h) (sorted_le hO h1 (s := c) (t := t) ha hct (by omega))
    rw [hc] at this; cases this
/-- What the exchange leaves: four sorted runs, the left two not above the right two. -/
structure Cut (lt : α → α → Bool) (a s mid e b : Nat) (F : Array α) : Prop where
  r1 : SortedIn lt a s F
  r2 : SortedIn lt s mid F
  r3 : SortedIn lt mid e F
  r4 : SortedIn lt e b F
  cross : ∀ x y, a ≤ x → x < mid → mid ≤ y → y < b → lt F[y]! F[x]! = false
theorem cut_of (hO : SWO lt) {a m b mid n s e s0 r0 : Nat} (hn : n = mid + m) (he : e = n - s) (h1 : SortedIn lt a m d) (h2 : SortedIn lt m b d) (has : a ≤ s0) (hs0 : s0 ≤ s) (hsr : s ≤ r0) (hrm : r0 ≤ m) (hrd : r0 ≤ mid) (hm0 : n - 1 - s0 < b)
    (hend : s0 = a ∨ s0 + b = n) (hr0 : r0 = mid ∨ r0 = m) (k1 : ∀ t, s0 ≤ t → t < s → lt d[n - 1 - t]! d[t]! = false) (k2 : ∀ t, s ≤ t → t < r0 → lt d[n - 1 - t]! d[t]! = true) (hmb : m < b) (hF : RotIn s m e d F) : Cut lt a s mid e b F := by
  have g1 : ∀ t, t < s → F[t]! = d[t]! := fun t ht => by rw [hF.2, if_neg (by omega), if_neg (by omega)]
  have g2 : ∀ t, s ≤ t → t < mid → F[t]! = d[t + (m - s)]! := fun t h1 h2 => by rw [hF.2, if_pos (by omega)]
  have g3 : ∀ t, mid ≤ t → t < e → F[t]! = d[t - (e - m)]! := fun t h1 h2 => by rw [hF.2, if_neg (by omega), if_pos (by omega)]
  have g4 : ∀ t, e ≤ t → F[t]! = d[t]! := fun t h1 => by rw [hF.2, if_neg (by omega), if_neg (by omega)]
  refine ⟨fun x y hx hxy hy => ?_, fun x y hx hxy hy => ?_, fun x y hx hxy hy => ?_, fun x y hx hxy hy => ?_, fun x y hx hxm hmy hy => ?_⟩
  · rw [g1 x (by omega), g1 y (by omega)]; exact sorted_le hO h1 (by omega) (by omega) (by omega)
  · rw [g2 x (by omega) (by omega), g2 y (by omega) (by omega)]; exact sorted_le hO h2 (by omega) (by omega) (by omega)
  · rw [g3 x (by omega) (by omega), g3 y (by omega) (by omega)]; exact sorted_le hO h1 (by omega) (by omega) (by omega)
  · rw [g4 x (by omega), g4 y (by omega)]; exact sorted_le hO h2 (by omega) (by omega) (by omega)
  · by_cases cx : x < s
    · rw [g1 x cx]
      by_cases cy : y < e
      · rw [g3 y hmy cy]; exact sorted_le hO h1 (by omega) (by omega) (by omega)
      · rw [g4 y (by omega)]
        by_cases hss : s = s0
        · rcases hend with h | h
          · omega
          · omega
        · have := k1 (s - 1) (by omega) (by omega)
          exact hO.ntrans _ _ _ (hO.ntrans _ _ _ (sorted_le hO h2 (s := n - 1 - (s - 1)) (t := y) (by omega) (by omega) hy) this) (sorted_le hO h1 (s := x) (t := s - 1) hx (by omega) (by omega))
    · rw [g2 x (by omega) hxm]
      by_cases cy : y < e
      · rw [g3 y hmy cy]
        by_cases hsr0 : s = r0
        · rcases hr0 with h | h
          · omega
          · omega
        · have := hO.asymmA (k2 s (Nat.le_refl _) (by omega))
          exact hO.ntrans _ _ _ (hO.ntrans _ _ _ (sorted_le hO h1 (s := s) (t := y - (e - m)) (by omega) (by omega) (by omega)) this) (sorted_le hO h2 (s := x + (m - s)) (t := n - 1 - s) (by omega) (by omega) (by omega))
      · rw [g4 y (by omega)]; exact sorted_le hO h2 (by omega) (by omega) (by omega)
theorem cut_done (hO : SWO lt) {a s mid e b : Nat} {F1 F2 F3 : Array α} (c : Cut lt a s mid e b F1) (hb : b ≤ F1.size) (ham : a ≤ mid) (hmb : mid ≤ b) (p2 : PermIn a mid F1 F2) (s2 : SortedIn lt a mid F2) (p3 : PermIn mid b F2 F3) (s3 : SortedIn lt mid b F3) : SortedIn lt a b F3 := by
  have e2 : F2.size = F1.size := p2.1
  have x2 : ∀ x y, a ≤ x → x < mid → mid ≤ y → y < b → lt F2[y]! F2[x]! = false := fun x y h1 h2 h3 h4 => by
    rw [p2.2.1 y (by omega)]
    exact permIn_all F1 F2 a mid (fun z => lt F1[y]! z = false) (by omega) p2 (fun i h5 h6 => c.cross i y h5 h6 h3 h4) x h1 h2
  have x3 : ∀ x y, a ≤ x → x < mid → mid ≤ y → y < b → lt F3[y]! F3[x]! = false := fun x y h1 h2 h3 h4 => by
    rw [p3.2.1 x (by omega)]
    exact permIn_all F2 F3 mid b (fun z => lt z F2[x]! = false) (by omega) p3 (fun i h5 h6 => x2 x i h1 h2 h5 h6) y h3 h4
  intro x y hx hxy hy
  by_cases c1 : y < mid
  · rw [p3.2.1 x (by omega), p3.2.1 y (by omega)]; exact s2 x y hx hxy c1
  · by_cases c2 : x < mid
    · exact x3 x y hx c2 (by omega) hy
    · exact s3 x y (by omega) hxy hy
end Go.Srt
end
