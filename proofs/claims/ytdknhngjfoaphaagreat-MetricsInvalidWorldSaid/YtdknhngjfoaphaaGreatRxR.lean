/-
  Operations that only yield a value, run on symbolic values: arithmetic, conversions, picks. No conditions.
-/
import Derived.Test.YtdknhngjfoaphaaGreatRxQ
set_option linter.all false
namespace Go.Rx
open Go.RowKit

def got {α ρ : Type} (m : Option α) (k : α → Option ρ) : Option ρ := (fun (_ : Unit) => match m with | some a => k a | none => none) hh120
theorem got_e {α ρ : Type} {m : Option α} {k : α → Option ρ} {r : ρ} (h : got m k = some r) : ∃ a, m = some a ∧ k a = some r := by
  unfold got at h; split at h
  · exact ⟨_, rfl, h⟩
  · cases h
def tst {ρ : Type} (b : Bool) (k : Option ρ) : Option ρ := (fun (_ : Unit) => match b with | true => k | false => none) hh120
theorem tst_e {ρ : Type} {b : Bool} {k : Option ρ} {r : ρ} (h : tst b k = some r) : b = true ∧ k = some r := by
  unfold tst at h; split at h
  · exact ⟨rfl, h⟩
  · cases h

section
variable {P : Program} {tb : Tb} {ρ : Type}
/-- The operation yields x, and it goes on with that. -/
def QOk (P : Program) (L : SLS tb) (G : Gd) (o : Oper) (k : SV tb → List Nat → Option ρ) (r : ρ) : Prop :=
  ∃ x need, k x need = some r ∧ (Gu L G → QEx P o L.E (needAV L need) x.av)

def asI : SV tb → Option (IntKind × Int)
  | .i k n => some (k, n)
  | .con (.int k n) => some (k, n)
  | _ => none
theorem asI_e {x : SV tb} {p} (h : asI x = some p) : x.av = .v (.int p.1 p.2) := by
  unfold asI at h; split at h
  · cases h; rfl
  · cases h; rfl
  · cases h
def isByte (n : Int) : Bool := match n with | .ofNat m => Nat.blt m 256 | .negSucc _ => false
theorem isByte_e {n : Int} (h : isByte n = true) : 0 ≤ n ∧ n < 256 := by
  unfold isByte at h; split at h
  · have := Nat.le_of_ble_eq_true h
    simp; omega
  · cases h
def asC : SV tb → Option UInt8
  | .b8 c => some c
  | .con (.int .u8 n) => (match isByte n with | true => some (toByte n) | false => none)
  | _ => none
theorem asC_e {x : SV tb} {c} (h : asC x = some c) : x.av = byteAV c := by
  unfold asC at h; split at h
  · cases h; rfl
  · split at h
    · rename_i hb; cases h
      show AV.v _ = byteAV _
      unfold byteAV; rw [toByte_toNat (isByte_e hb)]
    · cases h
  · cases h
theorem boolOf_e {x : SV tb} {b} (h : boolOf x = some b) : x.av = bAV b := boolOf_av h
def asS : SV tb → Option (List UInt8)
  | .st s => some s
  | .con (.string s) => some s.data.toList
  | _ => none
theorem asS_e {x : SV tb} {s} (h : asS x = some s) : x.av = sAV s := by
  unfold asS at h; split at h
  · cases h; rfl
  · cases h; show AV.v _ = AV.v _; rw [str_mk]
  · cases h

/-- Is n known, and is it not 0? -/
def nz (x : SV tb) (G : Gd) (n : Int) (k : Option ρ) : Option ρ := match x with
  | .con _ => tst (decide (n ≠ 0)) k
  | _ => chk G (n ≠ 0) k
theorem nz_e {x : SV tb} {G n} {k : Option ρ} {r} (h : nz x G n k = some r) : (gc G = true → n ≠ 0) ∧ k = some r := by
  unfold nz at h; split at h
  · obtain ⟨h1, h⟩ := tst_e h; exact ⟨fun _ => of_decide_eq_true h1, h⟩
  · exact chk_e h
def nn (x : SV tb) (G : Gd) (n : Int) (k : Option ρ) : Option ρ := match x with
  | .con _ => tst (decide (0 ≤ n)) k
  | _ => chk G (0 ≤ n) k
theorem nn_e {x : SV tb} {G n} {k : Option ρ} {r} (h : nn x G n k = some r) : (gc G = true → 0 ≤ n) ∧ k = some r := by
  unfold nn at h; split at h
  · obtain ⟨h1, h⟩ := tst_e h; exact ⟨fun _ => of_decide_eq_true h1, h⟩
  · exact chk_e h

def binInt (G : Gd) (op : BinOp) (z : SV tb) (ki : IntKind) (a b : Int) (k : SV tb → List Nat → Option ρ) : Option ρ := match op with
  | .add => Let (ki.wrap (a + b)) fun n => k (.i ki n) []
  | .sub => Let (ki.wrap (a - b)) fun n => k (.i ki n) []
  | .mul => Let (ki.wrap (a * b)) fun n => k (.i ki n) []
  | .and => Let (bAnd ki a b) fun n => k (.i ki n) []
  | .or => Let (bOr ki a b) fun n => k (.i ki n) []
  | .xor => Let (bXor ki a b) fun n => k (.i ki n) []
  | .eql => Let (a == b) fun t => k (.bo t) []
  | .neq => Let (a != b) fun t => k (.bo t) []
  | .lss => Let (decide (a < b)) fun t => k (.bo t) []
  | .leq => Let (decide (a ≤ b)) fun t => k (.bo t) []
  | .gtr => Let (decide (a > b)) fun t => k (.bo t) []
  | .geq => Let (decide (a ≥ b)) fun t => k (.bo t) []
  | .quo => nz z G b (Let (ki.wrap (a.tdiv b)) fun n => k (.i ki n) [])
  | .rem => nz z G b (Let (a.tmod b) fun n => k (.i ki n) [])
  | _ => none
theorem binInt_ok {L : SLS tb} {G o op t y z yt ki a b zs} {k : SV tb → List Nat → Option ρ} {r} (ho : o.op = .binOp op t y z yt) (hy : Gu L G → OpdOk L.E y (.v (.int ki a))) (hz : Gu L G → OpdOk L.E z (.v (.int ki b)))
    (h : binInt G op zs ki a b k = some r) : QOk P L G o k r := by
  unfold binInt at h
  split at h
  all_goals first
    | cases h; done
    | exact ⟨_, [], h, fun u => QEx.binI ho (hy u) (hz u) rfl⟩
    | (obtain ⟨h1, h⟩ := nz_e h; exact ⟨_, [], h, fun u => QEx.quo ho (hy u) (hz u) (h1 u.on)⟩)
    | (obtain ⟨h1, h⟩ := nz_e h; exact ⟨_, [], h, fun u => QEx.rem ho (hy u) (hz u) (h1 u.on)⟩)
def binByte (G : Gd) (op : BinOp) (p q : UInt8) (k : SV tb → List Nat → Option ρ) : Option ρ := match op with
  | .add => Let (p + q) fun n => k (.b8 n) []
  | .sub => Let (p - q) fun n => k (.b8 n) []
  | .rem => chk G (q ≠ 0) (Let (p % q) fun n => k (.b8 n) [])
  | .eql => Let (p == q) fun t => k (.bo t) []
  | .neq => Let (p != q) fun t => k (.bo t) []
  | .lss => Let (decide (p < q)) fun t => k (.bo t) []
  | .leq => Let (decide (p ≤ q)) fun t => k (.bo t) []
  | .gtr => Let (decide (q < p)) fun t => k (.bo t) []
  | .geq => Let (decide (q ≤ p)) fun t => k (.bo t) []
  | _ => none
theorem binByte_ok {L : SLS tb} {G o op t y z yt a b} {k : SV tb → List Nat → Option ρ} {r} (ho : o.op = .binOp op t y z yt) (hy : Gu L G → OpdOk L.E y (byteAV a)) (hz : Gu L G → OpdOk L.E z (byteAV b))
    (h : binByte G op a b k = some r) : QOk P L G o k r := by
  unfold binByte at h
  split at h
  · exact ⟨_, [], h, fun u => QEx.addC ho (hy u) (hz u)⟩
  · exact ⟨_, [], h, fun u => QEx.subC ho (hy u) (hz u)⟩
  · obtain ⟨h1, h⟩ := chk_e h; exact ⟨_, [], h, fun u => QEx.remC ho (hy u) (hz u) (h1 u.on)⟩
  · exact ⟨_, [], h, fun u => QEx.eqlC ho (hy u) (hz u)⟩
  · exact ⟨_, [], h, fun u => QEx.neqC ho (hy u) (hz u)⟩
  · exact ⟨_, [], h, fun u => QEx.lssC ho (hy u) (hz u)⟩
  · exact ⟨_, [], h, fun u => QEx.leqC ho (hy u) (hz u)⟩
  · exact ⟨_, [], h, fun u => QEx.gtrC ho (hy u) (hz u)⟩
  · exact ⟨_, [], h, fun u => QEx.geqC ho (hy u) (hz u)⟩
  · cases h
def binStr (G : Gd) (op : BinOp) (p q : List UInt8) (k : SV tb → List Nat → Option ρ) : Option ρ := match op with
  | .add => chk G (p.length + q.length ≤ 9223372036854775807) (Let (p ++ q) fun n => k (.st n) [])
  | .eql => Let (p == q) fun t => k (.bo t) []
  | .neq => Let (p != q) fun t => k (.bo t) []
  | .lss => Let (strLess p q) fun t => k (.bo t) []
  | _ => none
theorem binStr_ok {L : SLS tb} {G o op t y z yt a b} {k : SV tb → List Nat → Option ρ} {r} (ho : o.op = .binOp op t y z yt) (hy : Gu L G → OpdOk L.E y (sAV a)) (hz : Gu L G → OpdOk L.E z (sAV b))
    (h : binStr G op a b k = some r) : QOk P L G o k r := by
  unfold binStr at h
  split at h
  · obtain ⟨h1, h⟩ := chk_e h; exact ⟨_, [], h, fun u => QEx.addS ho (hy u) (hz u) (h1 u.on)⟩
  · exact ⟨_, [], h, fun u => QEx.eqlS ho (hy u) (hz u)⟩
  · exact ⟨_, [], h, fun u => QEx.neqS ho (hy u) (hz u)⟩
  · exact ⟨_, [], h, fun u => QEx.lssS ho (hy u) (hz u)⟩
  · cases h
def binBool (op : BinOp) (p q : Bool) (k : SV tb → List Nat → Option ρ) : Option ρ := match op with
  | .eql => Let (p == q) fun t => k (.bo t) []
  | .neq => Let (p != q) fun t => k (.bo t) []
  | _ => none
def isBoolD : TypeDesc → Bool
  | .bool => true
  | _ => false
theorem isBoolD_e {d} (h : isBoolD d = true) : d = .bool := by unfold isBoolD at h; split at h; rfl; cases h
theorem binBool_ok {L : SLS tb} {G o op t y z yt a b} {k : SV tb → List Nat → Option ρ} {r} (ht : P.underlying t = some .bool) (ho : o.op = .binOp op t y z yt) (hy : Gu L G → OpdOk L.E y (bAV a)) (hz : Gu L G → OpdOk L.E z (bAV b))
    (h : binBool op a b k = some r) : QOk P L G o k r := by
  unfold binBool at h
  split at h
  · exact ⟨_, [], h, fun u => QEx.binB ho (hy u) (hz u) rfl ht⟩
  · exact ⟨_, [], h, fun u => QEx.binB ho (hy u) (hz u) rfl ht⟩
  · cases h

def findEq (t : Nat) : List (EqE P tb) → Option (EqE P tb)
  | [] => none
  | e :: r => match Nat.beq e.t t with | true => some e | false => findEq t r
theorem findEq_t {t : Nat} : ∀ {l : List (EqE P tb)} {e}, findEq t l = some e → e.t = t
  | [], _, h => by simp [findEq] at h
  | e :: r, e', h => by
    simp only [findEq] at h
    split at h
    · rename_i hb; cases h; exact Nat.eq_of_beq_eq_true hb
    · exact findEq_t h
def binAgg (cx : Ctx P tb) (op : BinOp) (t yt : Nat) (a b : SV tb) (k : SV tb → List Nat → Option ρ) : Option ρ :=
  tst (Nat.beq yt t) <| got (findEq t cx.eqs) fun e => got ((cx.cd e.i).of a) fun x => got ((cx.cd e.i).of b) fun y => match op with
    | .eql => Let (e.beq x y) fun t => k (.bo t) []
    | .neq => Let (!e.beq x y) fun t => k (.bo t) []
    | _ => none
theorem OpdOk.sub {e : Env} {y x x'} (h : OpdOk e y x) (s : Sub x x') : OpdOk e y x' := fun m bl a hr => s m bl _ (h m bl a hr)
theorem binAgg_ok {cx : Ctx P tb} {L : SLS tb} {G o op t y z yt a b} {k : SV tb → List Nat → Option ρ} {r} (ho : o.op = .binOp op t y z yt) (hy : Gu L G → OpdOk L.E y a.av) (hz : Gu L G → OpdOk L.E z b.av)
    (h : binAgg cx op t yt a b k = some r) : QOk P L G o k r := by
  unfold binAgg at h
  obtain ⟨ht, h⟩ := tst_e h
  have ht := Nat.eq_of_beq_eq_true ht
  obtain ⟨e, he, h⟩ := got_e h
  obtain ⟨x, hx, h⟩ := got_e h
  obtain ⟨x', hx', h⟩ := got_e h
  have h1 := fun u => (hy u).sub ((cx.ok e.i).of _ _ hx)
  have h2 := fun u => (hz u).sub ((cx.ok e.i).of _ _ hx')
  have := e.ok
  rw [findEq_t he] at this
  rw [ht] at ho
  split at h
  · exact ⟨_, [], h, fun u => QEx.eqlA ho this (h1 u) (h2 u)⟩
  · exact ⟨_, [], h, fun u => QEx.neqA ho this (h1 u) (h2 u)⟩
  · cases h
/-- Two numbers that are known. -/
def conP : SV tb → SV tb → Option (IntKind × Int × Int)
  | .con (.int k n), .con (.int k' n') => (match decide (k = k') with | true => some (k, n, n') | false => none)
  | _, _ => none
theorem conP_e {x y : SV tb} {p} (h : conP x y = some p) : x.av = .v (.int p.1 p.2.1) ∧ y.av = .v (.int p.1 p.2.2) := by
  unfold conP at h
  split at h
  · split at h
    · rename_i hd
      have := of_decide_eq_true hd
      subst this
      cases h; exact ⟨rfl, rfl⟩
    · cases h
  · cases h
/-- What is reckoned of known numbers. -/
def foldI (op : BinOp) (ki : IntKind) (a b : Int) : Option Value := match op with
  | .add => some (.int ki (ki.wrap (a + b)))
  | .sub => some (.int ki (ki.wrap (a - b)))
  | .eql => some (.bool (a == b))
  | .neq => some (.bool (a != b))
  | .lss => some (.bool (decide (a < b)))
  | .leq => some (.bool (decide (a ≤ b)))
  | .gtr => some (.bool (decide (a > b)))
  | .geq => some (.bool (decide (a ≥ b)))
  | _ => none
def fold2 (op : BinOp) (x y : SV tb) : Option Value := match conP x y with
  | some p => foldI op p.1 p.2.1 p.2.2
  | none => none
theorem foldI_ok {L : SLS tb} {G o op t y z yt ki a b v} {k : SV tb → List Nat → Option ρ} {r} (ho : o.op = .binOp op t y z yt) (hy : Gu L G → OpdOk L.E y (.v (.int ki a))) (hz : Gu L G → OpdOk L.E z (.v (.int ki b)))
    (hf : foldI op ki a b = some v) (h : k (.con v) [] = some r) : QOk P L G o k r := by
  unfold foldI at hf
  split at hf
  all_goals first | (cases hf; exact ⟨_, [], h, fun u => QEx.binI ho (hy u) (hz u) rfl⟩) | cases hf
def isShift : BinOp → Bool
  | .shl => true
  | .shr => true
  | _ => false
def qShift (G : Gd) (op : BinOp) (z : SV tb) (ki : IntKind) (a b : Int) (k : SV tb → List Nat → Option ρ) : Option ρ := match op with
  | .shl => nn z G b (Let (bShl ki a b) fun n => k (.i ki n) [])
  | .shr => nn z G b (Let (bShr ki a b) fun n => k (.i ki n) [])
  | _ => none
def qBin (cx : Ctx P tb) (L : SLS tb) (G : Gd) (op : BinOp) (t : Nat) (y z : Operand) (yt : Nat) (k : SV tb → List Nat → Option ρ) : Option ρ :=
  got (opd L G y) fun a => got (opd L G z) fun b => match fold2 op a b with
  | some v => k (.con v) []
  | none => match isShift op with
  | true => got (asI a) fun p => got (asI b) fun q => qShift G op b p.1 p.2 q.2 k
  | false => match asI a, asI b with
    | some p, some q => tst (decide (p.1 = q.1)) (binInt G op b p.1 p.2 q.2 k)
    | _, _ => match asC a, asC b with
      | some p, some q => binByte G op p q k
      | _, _ => match boolOf a, boolOf b with
        | some p, some q => got (P.underlying t) fun d => tst (isBoolD d) (binBool op p q k)
        | _, _ => match asS a, asS b with
          | some p, some q => binStr G op p q k
          | _, _ => binAgg cx op t yt a b k
theorem qBin_ok {cx : Ctx P tb} {L : SLS tb} {G o op t y z yt} {k : SV tb → List Nat → Option ρ} {r} (ho : o.op = .binOp op t y z yt) (h : qBin cx L G op t y z yt k = some r) : QOk P L G o k r := by
  unfold qBin at h
  obtain ⟨a, ha, h⟩ := got_e h
  obtain ⟨b, hb, h⟩ := got_e h
  have hy := fun u => opd_ok (L := L) (G := G) u ha
  have hz := fun u => opd_ok (L := L) (G := G) u hb
  split at h
  · rename_i v hv
    unfold fold2 at hv
    split at hv
    · rename_i p hp
      obtain ⟨g1, g2⟩ := conP_e hp
      rw [g1] at hy; rw [g2] at hz
      exact foldI_ok ho hy hz hv h
    · cases hv
  · split at h
    · obtain ⟨p, hp, h⟩ := got_e h
      obtain ⟨q, hq, h⟩ := got_e h
      rw [asI_e hp] at hy; rw [asI_e hq] at hz
      unfold qShift at h
      split at h
      · obtain ⟨h1, h⟩ := nn_e h; exact ⟨_, [], h, fun u => QEx.shl ho (hy u) (hz u) (h1 u.on)⟩
      · obtain ⟨h1, h⟩ := nn_e h; exact ⟨_, [], h, fun u => QEx.shr ho (hy u) (hz u) (h1 u.on)⟩
      · cases h
    · split at h
      · rename_i p q hp hq
        obtain ⟨h1, h⟩ := tst_e h
        have h1 := of_decide_eq_true h1
        rw [asI_e hp] at hy; rw [asI_e hq, ← h1] at hz
        exact binInt_ok ho hy hz h
      · split at h
        · rename_i p q hp hq
          rw [asC_e hp] at hy; rw [asC_e hq] at hz
          exact binByte_ok ho hy hz h
        · split at h
          · rename_i p q hp hq
            obtain ⟨d, hd, h⟩ := got_e h
            obtain ⟨h1, h⟩ := tst_e h
            rw [isBoolD_e h1] at hd
            rw [boolOf_e hp] at hy; rw [boolOf_e hq] at hz
            exact binBool_ok hd ho hy hz h
          · split at h
            · rename_i p q hp hq
              rw [asS_e hp] at hy; rw [asS_e hq] at hz
              exact binStr_ok ho hy hz h
            · exact binAgg_ok ho hy hz h
def qUn (L : SLS tb) (G : Gd) (op : UnOp) (y : Operand) (k : SV tb → List Nat → Option ρ) : Option ρ :=
  got (opd L G y) fun a => match op with
  | .not => got (boolOf a) fun b => Let (!b) fun t => k (.bo t) []
  | .neg => got (asI a) fun p => Let (p.1.wrap (0 - p.2)) fun n => k (.i p.1 n) []
  | _ => none
theorem qUn_ok {L : SLS tb} {G o op t y} {k : SV tb → List Nat → Option ρ} {r} (ho : o.op = .unOp op t y) (h : qUn L G op y k = some r) : QOk P L G o k r := by
  unfold qUn at h
  obtain ⟨a, ha, h⟩ := got_e h
  have hy := fun u => opd_ok (L := L) (G := G) u ha
  split at h
  · obtain ⟨p, hp, h⟩ := got_e h
    rw [boolOf_e hp] at hy
    exact ⟨_, [], h, fun u => QEx.not ho (hy u)⟩
  · obtain ⟨p, hp, h⟩ := got_e h
    rw [asI_e hp] at hy
    exact ⟨_, [], h, fun u => QEx.neg ho (hy u)⟩
  · cases h

/-! conversions -/
def isIntD : TypeDesc → Option IntKind
  | .int k => some k
  | _ => none
theorem isIntD_e {d k} (h : isIntD d = some k) : d = .int k := by unfold isIntD at h; split at h; cases h; rfl; cases h
def wideK : IntKind → Bool
  | .i64 => true
  | .u64 => true
  | .i32 => true
  | .u32 => true
  | .u16 => true
  | .i16 => true
  | _ => false
theorem wideK_e {k} (h : wideK k = true) : k = .i64 ∨ k = .u64 ∨ k = .i32 ∨ k = .u32 ∨ k = .u16 ∨ k = .i16 := by
  unfold wideK at h; split at h <;> simp at h ⊢
def isU8 : IntKind → Bool
  | .u8 => true
  | _ => false
theorem isU8_e {k} (h : isU8 k = true) : k = .u8 := by unfold isU8 at h; split at h; rfl; cases h
def isStrD : TypeDesc → Bool
  | .string => true
  | _ => false
theorem isStrD_e {d} (h : isStrD d = true) : d = .string := by unfold isStrD at h; split at h; rfl; cases h
def isSlD : TypeDesc → Option Nat
  | .slice E => some E
  | _ => none
theorem isSlD_e {d E} (h : isSlD d = some E) : d = .slice E := by unfold isSlD at h; split at h; cases h; rfl; cases h
theorem bytes_map {T : Type} {el : T → AV} (h : T = UInt8) (he : ∀ x, el x = byteAV (cast h x)) (l : List T) : l.map el = (cast (congrArg List h) l).map byteAV := by
  subst h; exact List.map_congr_left fun x _ => he x
theorem bytes_map2 {T : Type} {el : T → AV} (h : T = UInt8) (he : ∀ x, el x = byteAV (cast h x)) (l : List UInt8) : (cast (congrArg List h).symm l).map el = l.map byteAV := by
  subst h; exact List.map_congr_left fun x _ => he x
/-- A slice of bytes, as a list of them. -/
def bytesOf (tb : Tb) (E : tb.Ix) (l : List (tb.T E)) : Option (List UInt8) := match tb.byte with
  | some b => (match tb.dec E b.1 with | isTrue he => some (cast (congrArg List ((congrArg tb.T he).trans (Classical.choose b.2))) l) | isFalse _ => none)
  | none => none
theorem bytesOf_e {E l s} (h : bytesOf tb E l = some s) : tb.sz E = 1 ∧ l.map (tb.el E) = s.map byteAV := by
  unfold bytesOf at h
  split at h
  · rename_i b _
    split at h
    · rename_i he _
      cases h
      subst he
      obtain ⟨h1, h2⟩ := Classical.choose_spec b.2
      exact ⟨h1, bytes_map (Classical.choose b.2) h2 l⟩
    · cases h
  · cases h
def slB (tb : Tb) (s : List UInt8) : Option (SV tb) := match tb.byte with
  | some b => some (.sl false b.1 (cast (congrArg List (Classical.choose b.2)).symm s))
  | none => none
theorem slB_e {s x} (h : slB tb s = some x) : x.av = .sl false 1 (s.map byteAV) := by
  unfold slB at h
  split at h
  · rename_i b _
    cases h
    obtain ⟨h1, h2⟩ := Classical.choose_spec b.2
    show AV.sl false (tb.sz b.1) (List.map (tb.el b.1) _) = _
    rw [h1, bytes_map2 (Classical.choose b.2) h2]
  · cases h
/-- A plain slice's elements. -/
def asSl : SV tb → Option ((E : tb.Ix) × List (tb.T E))
  | .sl _ E l => some ⟨E, l⟩
  | .em E => some ⟨E, []⟩
  | _ => none
theorem asSl_e {x : SV tb} {p} (h : asSl x = some p) : ∃ c, x.av = .sl c (tb.sz p.1) (p.2.map (tb.el p.1)) := by
  unfold asSl at h; split at h
  · cases h; exact ⟨_, rfl⟩
  · cases h; exact ⟨_, rfl⟩
  · cases h
def isNil : SV tb → Bool
  | .con (.slice none 0 0) => true
  | _ => false
theorem isNil_e {x : SV tb} (h : isNil x = true) : x.av = .v (.slice none 0 0) := by
  unfold isNil at h; split at h
  · rfl
  · cases h

def qConv (P : Program) (L : SLS tb) (G : Gd) (s d : Nat) (y : Operand) (k : SV tb → List Nat → Option ρ) : Option ρ :=
  got (opd L G y) fun a => got (P.underlying d) fun D => got (P.underlying s) fun S => match isIntD D with
  | some kd => (match asI a with
    | some p => (match isU8 kd with
      | true => Let (toByte p.2) fun n => k (.b8 n) []
      | false => Let (kd.wrap p.2) fun n => k (.i kd n) [])
    | none => got (asC a) fun c => tst (wideK kd) (Let (c.toNat : Int) fun n => k (.i kd n) []))
  | none => match isStrD D with
    | true => got (isSlD S) fun E => got (P.underlying E) fun ED => got (isIntD ED) fun ke => tst (isU8 ke) (match isNil a with
      | true => k (.st []) []
      | false => got (asSl a) fun p => got (bytesOf tb p.1 p.2) fun bs => k (.st bs) [])
    | false => tst (isStrD S) <| got (isSlD D) fun E => got (P.underlying E) fun ED => got (isIntD ED) fun ke => tst (isU8 ke) (got (asS a) fun st => got (slB tb st) fun x => k x [])
theorem qConv_ok {L : SLS tb} {G o s d y} {k : SV tb → List Nat → Option ρ} {r} (ho : o.op = .convert s d y) (h : qConv P L G s d y k = some r) : QOk P L G o k r := by
  unfold qConv at h
  obtain ⟨a, ha, h⟩ := got_e h
  obtain ⟨D, hD, h⟩ := got_e h
  obtain ⟨S, hS, h⟩ := got_e h
  have hy := fun u => opd_ok (L := L) (G := G) u ha
  have hSs : (P.underlying s).isSome = true := by rw [hS]; rfl
  split at h
  · rename_i kd hkd
    rw [isIntD_e hkd] at hD
    split at h
    · rename_i p hp
      rw [asI_e hp] at hy
      split at h
      · rename_i hu
        rw [isU8_e hu] at hD
        exact ⟨_, [], h, fun u => QEx.cvKC ho hD hSs (hy u)⟩
      · exact ⟨_, [], h, fun u => QEx.convI ho hD hSs (hy u)⟩
    · obtain ⟨c, hc, h⟩ := got_e h
      obtain ⟨hw, h⟩ := tst_e h
      rw [asC_e hc] at hy
      exact ⟨_, [], h, fun u => QEx.cvCK ho hD hSs (hy u) (wideK_e hw)⟩
  · split at h
    · rename_i hs
      obtain ⟨E, hE, h⟩ := got_e h
      obtain ⟨ED, hED, h⟩ := got_e h
      obtain ⟨ke, hke, h⟩ := got_e h
      obtain ⟨hu, h⟩ := tst_e h
      rw [isStrD_e hs] at hD
      rw [isSlD_e hE] at hS
      rw [isIntD_e hke, isU8_e hu] at hED
      split at h
      · rename_i hn
        refine ⟨_, [], h, fun u => ?_⟩
        have h1 : OpdOk L.E y (.sl true 1 []) := (hy u).sub (by rw [isNil_e hn]; exact .nil)
        exact QEx.bytesStr (bs := []) ho hS hED hD h1 rfl
      · obtain ⟨p, hp, h⟩ := got_e h
        obtain ⟨bs, hbs, h⟩ := got_e h
        obtain ⟨c, hc⟩ := asSl_e hp
        obtain ⟨h1, h2⟩ := bytesOf_e hbs
        rw [hc, h1] at hy
        exact ⟨_, [], h, fun u => QEx.bytesStr ho hS hED hD (hy u) h2⟩
    · obtain ⟨hs, h⟩ := tst_e h
      obtain ⟨E, hE, h⟩ := got_e h
      obtain ⟨ED, hED, h⟩ := got_e h
      obtain ⟨ke, hke, h⟩ := got_e h
      obtain ⟨hu, h⟩ := tst_e h
      obtain ⟨st, hst, h⟩ := got_e h
      obtain ⟨x, hx, h⟩ := got_e h
      rw [isStrD_e hs] at hS
      rw [isSlD_e hE] at hD
      rw [isIntD_e hke, isU8_e hu] at hED
      rw [asS_e hst] at hy
      refine ⟨_, [], h, fun u => ?_⟩
      rw [slB_e hx]
      exact QEx.strBytes ho hS hD hED (hy u)

/-! lengths -/
def qLen (P : Program) (L : SLS tb) (G : Gd) (y : Operand) (t : Nat) (k : SV tb → List Nat → Option ρ) : Option ρ :=
  got (opd L G y) fun a => got (P.underlying t) fun D => match isStrD D with
  | true => got (asS a) fun s => Let (s.length : Int) fun n => k (.i .i64 n) []
  | false => got (isSlD D) fun _ => match isNil a with
    | true => k (.i .i64 0) []
    | false => match a with
      | .sl _ _ l => Let (l.length : Int) fun n => k (.i .i64 n) []
      | .row _ _ _ len _ => k (.i .i64 len) []
      | _ => none
theorem qLen_ok {L : SLS tb} {G o y t} {k : SV tb → List Nat → Option ρ} {r} (ho : o.op = .call { callee := .builtin .len, args := #[y], argTypes := #[t] }) (h : qLen P L G y t k = some r) : QOk P L G o k r := by
  unfold qLen at h
  obtain ⟨a, ha, h⟩ := got_e h
  obtain ⟨D, hD, h⟩ := got_e h
  have hy := fun u => opd_ok (L := L) (G := G) u ha
  split at h
  · rename_i hs
    obtain ⟨s, hs2, h⟩ := got_e h
    rw [isStrD_e hs] at hD
    rw [asS_e hs2] at hy
    exact ⟨_, [], h, fun u => QEx.lenStr ho hD (hy u)⟩
  · obtain ⟨E, hE, h⟩ := got_e h
    rw [isSlD_e hE] at hD
    split at h
    · rename_i hn
      refine ⟨_, [], h, fun u => ?_⟩
      have h1 : OpdOk L.E y (.sl true 1 []) := (hy u).sub (by rw [isNil_e hn]; exact .nil)
      exact QEx.len ho ⟨_, hD⟩ h1
    · split at h
      · refine ⟨_, [], h, fun u => ?_⟩
        have := QEx.len ho ⟨_, hD⟩ (hy u)
        rw [List.length_map] at this
        exact this
      · exact ⟨_, [], h, fun u => QEx.lenR ho hD ((hy u).r (by simp [ho, Op.operands, Call.operands]))⟩
      · cases h
def qMM (L : SLS tb) (G : Gd) (mx : Bool) (x y : Operand) (k : SV tb → List Nat → Option ρ) : Option ρ :=
  got (opd L G x) fun a => got (opd L G y) fun b => got (asI a) fun p => got (asI b) fun q => tst (decide (p.1 = q.1)) (match mx with
  | true => Let (max p.2 q.2) fun n => k (.i p.1 n) []
  | false => Let (min p.2 q.2) fun n => k (.i p.1 n) [])

/-! picks -/
/-- The guard that waits for the slot t to yield w. -/
def gdAt (e : SEnv tb) (t : Nat) (w : Bool) : Option Gd := match find t e with
  | some (.opt G' y) => (match G' with
    | [] => none
    | _ :: _ => match boolOf y with | some b => some ((t, w, b) :: G') | none => none)
  | some y => (match boolOf y with | some b => some [(t, w, b)] | none => none)
  | none => none
theorem gdAt_e {e : SEnv tb} {t w G} (hi : GInv e) (h : gdAt e t w = some G) : ∃ b G', G = (t, w, b) :: G' ∧ GD e G := by
  unfold gdAt at h
  split at h
  · rename_i G' y hf
    split at h
    · cases h
    · rename_i g G'
      split at h
      · rename_i b hb
        cases h
        exact ⟨b, g :: G', rfl, (hi _ _ _ hf).1, y, hb, .inr ⟨hf, by simp⟩⟩
      · cases h
  · rename_i y hne hf
    split at h
    · rename_i b hb
      cases h
      exact ⟨b, [], rfl, trivial, y, hb, .inl ⟨hf, rfl⟩⟩
    · cases h
  · cases h
def gdOp (L : SLS tb) (G : Gd) (w : Bool) : Operand → Option Gd
  | .tmp t => gdAt L.e t w
  | _ => some G
def conB : SV tb → Option Bool
  | .con (.bool t) => some t
  | _ => none
theorem conB_e {x : SV tb} {t} (h : conB x = some t) : x.av = bAV t := by
  unfold conB at h
  split at h
  · cases h; rfl
  · cases h
def qPick1 (L : SLS tb) (G : Gd) (c y z : Operand) (k : SV tb → List Nat → Option ρ) : Option ρ :=
  got (opd L G c) fun a => got (boolOf a) fun t => got (gdOp L G true c) fun G1 => got (gdOp L G false c) fun G2 =>
  got (opd L G1 y) fun b => got (boolOf b) fun s => got (opd L G2 z) fun d => got (boolOf d) fun r => Let (cond t s r) fun t => k (.bo t) []
theorem gdOp_u {L : SLS tb} {G G1 : Gd} {w c a t} (u : Gu L G) (ha : opd L G c = some a) (hb : boolOf a = some t) (h : gdOp L G w c = some G1) (ht : t = w) : Gu L G1 := by
  unfold gdOp at h
  split at h
  · rename_i s
    obtain ⟨b, G', rfl, hg⟩ := gdAt_e u.inv h
    refine ⟨u.inv, hg, ?_⟩
    rw [gc_eq]
    simp only [gc0, Bool.and_eq_true, beq_iff_eq]
    obtain ⟨h1, y, hy, h2⟩ := hg
    simp only [opd] at ha
    rcases h2 with ⟨h2, rfl⟩ | ⟨h2, h3⟩
    · rw [h2] at ha
      have hyo : ∀ G x, y ≠ .opt G x := by rintro G x rfl; cases hy
      split at ha
      · rename_i heq; cases heq; exact absurd rfl (hyo _ _)
      · rename_i heq; cases heq; cases ha
        rw [boolOf_res hy, hy] at hb; cases hb
        exact ⟨rfl, ht⟩
      · rename_i heq; cases heq
    · rw [h2] at ha
      simp only at ha
      split at ha
      · rename_i hs
        cases ha
        rw [boolOf_res hy, hy] at hb; cases hb
        refine ⟨?_, ht⟩
        rw [← gc_eq]
        exact gSuf_of u.gd h1 hs u.on
      · cases ha
  · cases h; exact u
theorem qPick1_ok {L : SLS tb} {G o c y z} {k : SV tb → List Nat → Option ρ} {r} (ho : o.op = .pick c y z) (h : qPick1 L G c y z k = some r) : QOk P L G o k r := by
  unfold qPick1 at h
  obtain ⟨a, ha, h⟩ := got_e h
  obtain ⟨t, ht, h⟩ := got_e h
  obtain ⟨G1, hG1, h⟩ := got_e h
  obtain ⟨G2, hG2, h⟩ := got_e h
  obtain ⟨b, hb, h⟩ := got_e h
  obtain ⟨s, hs, h⟩ := got_e h
  obtain ⟨d, hd, h⟩ := got_e h
  obtain ⟨q, hq, h⟩ := got_e h
  refine ⟨_, [], h, fun u => QEx.pick ho ?_ ?_ ?_⟩
  · have := opd_ok u ha; rwa [boolOf_e ht] at this
  · intro h1; have := opd_ok (gdOp_u u ha ht hG1 h1) hb; rwa [boolOf_e hs] at this
  · intro h1; have := opd_ok (gdOp_u u ha ht hG2 h1) hd; rwa [boolOf_e hq] at this

/-- A pick whose condition is known. -/
def qPickC (L : SLS tb) (t : Bool) (y z : Operand) (k : SV tb → List Nat → Option ρ) : Option ρ := match t with
  | true => got (opd L [] y) fun b => got (boolOf b) fun _ => k b []
  | false => got (opd L [] z) fun b => got (boolOf b) fun _ => k b []
def qPick (L : SLS tb) (G : Gd) (c y z : Operand) (k : SV tb → List Nat → Option ρ) : Option ρ := match G with
  | [] => (match (opd L [] c).bind conB with
    | some t => qPickC L t y z k
    | none => qPick1 L [] c y z k)
  | _ :: _ => qPick1 L G c y z k
theorem qPick_ok {L : SLS tb} {G o c y z} {k : SV tb → List Nat → Option ρ} {r} (ho : o.op = .pick c y z) (h : qPick L G c y z k = some r) : QOk P L G o k r := by
  unfold qPick at h
  split at h
  · split at h
    · rename_i t ht
      obtain ⟨a, ha, hb⟩ := Option.bind_eq_some_iff.1 ht
      have hc := fun u => opd_ok (L := L) (G := []) u ha
      rw [conB_e hb] at hc
      unfold qPickC at h
      split at h
      · obtain ⟨b, hb, h⟩ := got_e h
        obtain ⟨s, hs, h⟩ := got_e h
        refine ⟨_, [], h, fun u => ?_⟩
        have hy := opd_ok u hb
        rw [boolOf_e hs] at hy
        rw [boolOf_e hs]
        exact QEx.pick (t := true) (s := s) (r := s) ho (hc u) (fun _ => hy) (fun h => by cases h)
      · obtain ⟨b, hb, h⟩ := got_e h
        obtain ⟨s, hs, h⟩ := got_e h
        refine ⟨_, [], h, fun u => ?_⟩
        have hy := opd_ok u hb
        rw [boolOf_e hs] at hy
        rw [boolOf_e hs]
        exact QEx.pick (t := false) (s := s) (r := s) ho (hc u) (fun h => by cases h) (fun _ => hy)
    · exact qPick1_ok ho h
  · exact qPick1_ok ho h
def qMove (L : SLS tb) (G : Gd) (y : Operand) (k : SV tb → List Nat → Option ρ) : Option ρ := got (opd L G y) fun a => k a []
theorem qMove_ok {L : SLS tb} {G o y} {k : SV tb → List Nat → Option ρ} {r} (ho : o.op = .move y ∨ o.op = .assign y) (h : qMove L G y k = some r) : QOk P L G o k r := by
  unfold qMove at h
  obtain ⟨a, ha, h⟩ := got_e h
  rcases ho with ho | ho
  · exact ⟨_, [], h, fun u => QEx.move ho (opd_ok u ha)⟩
  · exact ⟨_, [], h, fun u => QEx.assign ho (opd_ok u ha)⟩
theorem avL_get {l : List (SV tb)} {i : Nat} {x} (h : l[i]? = some x) : (avL l)[i]? = some x.av := by
  rw [avL_map, List.getElem?_map, h]; rfl
def nth {α : Type} : List α → Nat → Option α
  | [], _ => none
  | x :: _, 0 => some x
  | _ :: l, n + 1 => nth l n
theorem nth_e {α : Type} : ∀ (l : List α) (n : Nat), nth l n = l[n]?
  | [], _ => by simp [nth]
  | x :: _, 0 => rfl
  | _ :: l, n + 1 => by simpa [nth] using nth_e l n
def qExt (L : SLS tb) (G : Gd) (y : Operand) (i : Nat) (k : SV tb → List Nat → Option ρ) : Option ρ := got (opd L G y) fun a => match a with
  | .tup l => got (nth l i) fun x => k x []
  | _ => none
theorem qExt_ok {L : SLS tb} {G o y i} {k : SV tb → List Nat → Option ρ} {r} (ho : o.op = .extract y i) (h : qExt L G y i k = some r) : QOk P L G o k r := by
  unfold qExt at h
  obtain ⟨a, ha, h⟩ := got_e h
  split at h
  · obtain ⟨x, hx, h⟩ := got_e h
    rw [nth_e] at hx
    exact ⟨_, [], h, fun u => QEx.extract ho (opd_ok u ha) (avL_get hx)⟩
  · cases h
end
end Go.Rx
