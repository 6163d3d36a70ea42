/-
  Strings and their bytes; the greater and the smaller of two integers. Conditions: those named in each rule.
-/
import Derived.Test.YtblkmlpjhpgkjaaCxH
set_option linter.all false
namespace Go.Cx
open Go.RowKit

def byteAV (b : UInt8) : AV := .v (.int .u8 b.toNat)
/-- A slice of bytes. -/
abbrev bytesAV (bs : List UInt8) : AV := .sl none 1 (bs.map byteAV)
def intAV (n : Int) : AV := .v (.int .i64 n)

theorem flat_bytes : ∀ (bs : List UInt8), (bs.map byteAV).flatMap AV.cells = bs.map byteAV
  | [] => rfl
  | b :: bs => by rw [List.map_cons, List.flatMap_cons, flat_bytes bs]; rfl

theorem Reps.bytes {m bl hh} : ∀ {bs : List UInt8} {cs}, Reps m bl hh (bs.map byteAV) cs → cs = bs.map fun b => Value.int .u8 b.toNat
  | [], _, .nil => rfl
  | b :: bs, _, .cons h t => by
    rw [List.map_cons, ← t.bytes]
    congr 1
    exact h.eq_v
theorem Reps.of_bytes {m bl hh} : ∀ (bs : List UInt8), Reps m bl hh (bs.map byteAV) (bs.map fun b => Value.int .u8 b.toNat)
  | [] => .nil
  | b :: bs => .cons .v (Reps.of_bytes bs)

section
variable {P : Program} {o : Oper} {e : Env}

theorem QEx.bytesStr {s d y E tk l} {bs : List UInt8} (ho : o.op = .convert s d y) (hs : P.underlying s = some (.slice E)) (hE : P.underlying E = some (.int .u8)) (hd : P.underlying d = some .string)
    (hy : OpdOk P e s y (.sl tk 1 l)) (hl : l = bs.map byteAV) : QEx P o e [] false (.v (.string ⟨bs.toArray⟩)) :=
  .pure fun _ _ _ m bl hh ac w hws _ hr => by
    subst hl
    have h1 := hy.rep hr (by simp [ho, Op.operands])
    obtain ⟨ad, n, cap, cs, hv, hn, hc, el, reps, one, emp, at_⟩ := sl_cells h1
    refine ⟨_, ?_, .v⟩
    rw [flat_bytes] at reps
    have hcs := reps.bytes
    cases had : ad with
    | none =>
      obtain ⟨hb, hc0⟩ := emp had
      have hb' : bs = [] := by simpa using hb
      subst hb'
      have := run_convert_bytes_nil (P := P) w s E hs hE n cap d hd
      rw [had] at hv
      simp only [execOp, ho, hv, Sem.run_bind, this, Result.andThen_ok, Sem.run_pure]
      rfl
    | some a =>
      obtain ⟨q1, q2, -⟩ := at_ a had
      have hl := run_loadCells_list (P := P) w a cs (cells_at hws.imm q1 q2)
      have hlen : cs.length = n := by rw [hn, hcs]; simp
      rw [hlen, hcs] at hl
      have hm : (bs.map fun b => Value.int .u8 b.toNat) = (bs.map fun b => (b.toNat : Int)).map (Value.int .u8) := by simp
      rw [hm] at hl
      have h2 := run_bytesToString (P := P) w a n cap _ hl
      have h3 := run_convert_bytes_string (P := P) w s d E (some a) n cap hs hE hd
      rw [foldl_push_byteCells] at h2
      rw [had] at hv
      simp only [execOp, ho, hv, Sem.run_bind, h3, h2, Result.andThen_ok, Sem.run_pure]
      simp

theorem QEx.strBytes {s d y E st} (ho : o.op = .convert s d y) (hs : P.underlying s = some .string) (hd : P.underlying d = some (.slice E)) (hE : P.underlying E = some (.int .u8)) (hy : OpdOk P e s y (.v (.string st))) :
    QEx P o e [] false (.sl none 1 (st.data.toList.map byteAV)) := by
  intro B m0 hp m bl hh a w hws hB _ hr _ next Q k
  have h1 := (hy.rep hr (by simp [ho, Op.operands])).eq_v
  have hrun := run_bytes_of_string (P := P) w s d E st hs hd hE
  have hge := grownCap_ge w st.size 0 E
  have hbr : ∀ c, bytesRow st c = ((st.data.toList.map fun b => Value.int .u8 b.toNat).toArray ++ Array.replicate (c - st.size) (.int .u8 0)) := by
    intro c; unfold bytesRow; rw [← Array.toList_inj]; simp
  generalize grownCap w st.size 0 E = cap at hrun hge
  obtain ⟨hs', hle⟩ := hws.newBlk (w' := w.drew.alloc (.cells (bytesRow st cap) E ((bytesRow st cap).size, (bytesRow st cap).size + 1))) (arr := bytesRow st cap) (T := E) (fr := ((bytesRow st cap).size, (bytesRow st cap).size + 1)) hB rfl
    (cs := st.data.toList.map fun b => Value.int .u8 b.toNat) (fun j v e => by
      have hj : j < (st.data.toList.map fun b => Value.int .u8 b.toNat).length := by
        rcases Nat.lt_or_ge j (st.data.toList.map fun b => Value.int .u8 b.toNat).length with h | h
        · exact h
        · rw [List.getElem?_eq_none h] at e; cases e
      rw [hbr, Array.getElem?_append_left (by simpa using hj)]
      simpa using e)
  have hrun2 : (execOp a.eval o).run P w = .ok (.value (.slice (some ⟨w.heap.size, 0, none⟩) st.size cap)) (w.drew.alloc (.cells (bytesRow st cap) E ((bytesRow st cap).size, (bytesRow st cap).size + 1))) := by
    simp only [execOp, ho, h1, Sem.run_bind, hrun, Result.andThen_ok, Sem.run_pure]
  unfold Oper.wp
  rw [hrun2, Oper.upon_value]
  refine k _ _ _ hh hle (((Below.refl _ _).drew).alloc (Nat.le_refl _) _) hs' (fun _ _ e => e) (fun _ _ => rfl) ?_
  have hlen : (st.data.toList.map byteAV).length = st.size := by simp
  have := Rep.sl (m := addBlk m w.heap.size (st.data.toList.map fun b => Value.int .u8 b.toNat)) (bl := bl) (hh := hh) (tk := none) (sz := 1) (l := st.data.toList.map byteAV) (a := ⟨w.heap.size, 0, none⟩) (cap := cap)
    (by intro x hx; obtain ⟨b, -, rfl⟩ := List.mem_map.1 hx; rfl) (by rw [flat_bytes]; exact Reps.of_bytes _) (by intro c hc; obtain ⟨b, -, rfl⟩ := List.mem_map.1 hc; rfl) (fun _ => rfl)
    (fun j v e => by simp only [Nat.zero_add]; rw [addBlk_at]; exact e) (by rw [hlen]; exact hge) (by simp)
  rwa [hlen] at this

theorem QEx.max2 {x y ts k a b} (ho : o.op = .call { callee := .builtin .max, args := #[x, y], argTypes := ts }) (hx : OpdOk P e 0 x (.v (.int k a))) (hy : OpdOk P e 0 y (.v (.int k b))) :
    QEx P o e [] false (.v (.int k (max a b))) :=
  .pure fun _ _ _ m bl hh ac w hws _ hr => by
    have h1 := (hx.rep hr (by simp [ho, Op.operands, Call.operands])).eq_v
    have h2 := (hy.rep hr (by simp [ho, Op.operands, Call.operands])).eq_v
    refine ⟨_, ?_, .v⟩
    have : (if b > a then b else a) = max a b := by split <;> omega
    simp [execOp, ho, h1, h2, resolve, invoke, builtin, Builtin.max_, Builtin.max2]
    simpa using this

theorem QEx.min2 {x y ts k a b} (ho : o.op = .call { callee := .builtin .min, args := #[x, y], argTypes := ts }) (hx : OpdOk P e 0 x (.v (.int k a))) (hy : OpdOk P e 0 y (.v (.int k b))) :
    QEx P o e [] false (.v (.int k (min a b))) :=
  .pure fun _ _ _ m bl hh ac w hws _ hr => by
    have h1 := (hx.rep hr (by simp [ho, Op.operands, Call.operands])).eq_v
    have h2 := (hy.rep hr (by simp [ho, Op.operands, Call.operands])).eq_v
    refine ⟨_, ?_, .v⟩
    have : (if b < a then b else a) = min a b := by split <;> omega
    simp [execOp, ho, h1, h2, resolve, invoke, builtin, Builtin.min_, Builtin.min2]
    simpa using this

end
end Go.Cx
