/-
  Contracts of functions of Go's library that are met by what the kit proves of them. Conditions: those named in each rule.
-/
import Derived.Test.YtelkhkmeoahhlaaGreatDoorRyI
import Derived.Lib.Bytealg
import Derived.Lib.Join
set_option linter.all false
namespace Go.Rx
open Go.RowKit

/-- A contract from what the call does to any world. -/
theorem FnR.ofCalls {P : Program} {f : FuncId} {args : List AV} {r : AV}
    (H : ∀ (w : World) (m : Mem) (vs : List Value), Imm m w → Reps m noNames args vs → Calls P f vs.toArray w fun e w' => ∃ v, e = .returned v ∧ Below w.heap.size w w' ∧ Rep m noNames r v) : FnR P f args r [] := by
  intro w m vs hi hr
  refine (H w m vs hi hr).mono ?_
  rintro e w' ⟨v, he, hb, hv⟩
  refine ⟨v, m, noNames, he, hb, ⟨hi.below hb, Mem.le.refl m, fun _ _ _ h => .inl h, ?_, ?_, ?_, ?_⟩, fun _ _ => rfl, hv⟩
  · intro id l h; simp [find] at h
  · intro id s p h; simp [find] at h
  · intro id b n h; simp [noNames] at h
  · intro id id' b n n' h; simp [noNames] at h

theorem reps2 {m bl x y vs} (h : Reps m bl [x, y] vs) : ∃ a b, vs = [a, b] ∧ Rep m bl x a ∧ Rep m bl y b := by
  cases h with
  | cons h1 t => cases t with
    | cons h2 t => cases t with
      | nil => exact ⟨_, _, rfl, h1, h2⟩

/-- The place of a byte in a string. -/
def index1 (s sub : List UInt8) : Option Int := match sub with
  | [c] => some (Lib.indexByte s c)
  | _ => none
theorem fnr_index1 {P : Program} {f : FuncId} (H : ∀ (s : ByteArray) (c : UInt8) (w : World), Calls P f #[.string s, .string ⟨#[c]⟩] w fun e w' => e = .returned (.int .i64 (Lib.indexByte s.data.toList c)) ∧ w' = w)
    {s sub : List UInt8} {n : Int} (h : index1 s sub = some n) : FnR P f [sAV s, sAV sub] (.v (.int .i64 n)) [] := by
  unfold index1 at h
  split at h
  · rename_i c
    cases h
    refine FnR.ofCalls fun w m vs hi hr => ?_
    obtain ⟨a, b, rfl, h1, h2⟩ := reps2 hr
    have h1 := h1.eq_v; have h2 := h2.eq_v
    subst h1 h2
    refine (H ⟨s.toArray⟩ c w).mono ?_
    rintro e w' ⟨rfl, rfl⟩
    exact ⟨_, rfl, Below.refl _ _, .v⟩
  · cases h
/-- How often a byte is in a string. -/
def count1 (s sub : List UInt8) : Option Int := match sub with
  | [c] => some (s.count c : Int)
  | _ => none
theorem fnr_count1 {P : Program} {f : FuncId} (H : ∀ (s : ByteArray) (c : UInt8) (w : World), Calls P f #[.string s, .string ⟨#[c]⟩] w fun e w' => e = .returned (.int .i64 (Lib.countByte s.data.toList c)) ∧ w' = w)
    {s sub : List UInt8} {n : Int} (h : count1 s sub = some n) : FnR P f [sAV s, sAV sub] (.v (.int .i64 n)) [] := by
  unfold count1 at h
  split at h
  · rename_i c
    cases h
    refine FnR.ofCalls fun w m vs hi hr => ?_
    obtain ⟨a, b, rfl, h1, h2⟩ := reps2 hr
    have h1 := h1.eq_v; have h2 := h2.eq_v
    subst h1 h2
    refine (H ⟨s.toArray⟩ c w).mono ?_
    rintro e w' ⟨rfl, rfl⟩
    exact ⟨_, rfl, Below.refl _ _, .v⟩
  · cases h
/-- Strings joined. -/
def joinS (l : List (List UInt8)) (sep : List UInt8) : Option (List UInt8) := Chk ((Lib.join l sep).length ≤ 140737488355328 ∧ l.length ≤ 140737488355328) (some (Lib.join l sep))
theorem reps_str {m bl} : ∀ {l : List (List UInt8)} {cs}, Reps m bl (l.map sAV) cs → cs = l.map fun s => Value.string ⟨s.toArray⟩
  | [], _, .nil => rfl
  | s :: l, _, .cons h t => by rw [h.eq_v, reps_str t]; rfl
theorem flat_str : ∀ l : List (List UInt8), (l.map sAV).flatMap AV.cells = l.map sAV
  | [] => rfl
  | s :: l => by rw [List.map_cons, List.flatMap_cons, flat_str l]; rfl
theorem fnr_join {P : Program} {f : FuncId}
    (H0 : ∀ (a : Option Addr) (c : Nat) (sep : ByteArray) (w : World), Calls P f #[.slice a 0 c, .string sep] w fun e w' => e = .returned (.string ⟨#[]⟩) ∧ w' = w)
    (H : ∀ (bk o c : Nat) (xs : List ByteArray) (sep : ByteArray) (w : World) (hcells : ∀ (j : Nat) x, xs[j]? = some x → w.cell? ⟨bk, o + j, none⟩ = some (.string x))
      (hbk : bk < w.heap.size) (hN : xs.length ≤ 140737488355328) (hcap : xs.length ≤ c) (hlen : (Lib.join (xs.map (·.data.toList)) sep.data.toList).length ≤ 140737488355328),
      Calls P f #[.slice (some ⟨bk, o, none⟩) xs.length c, .string sep] w fun e w' => e = .returned (.string ⟨(Lib.join (xs.map (·.data.toList)) sep.data.toList).toArray⟩) ∧ Below w.heap.size w w')
    {l : List (List UInt8)} {sep s : List UInt8} (h : joinS l sep = some s) : FnR P f [.sl false 1 (l.map sAV), sAV sep] (sAV s) [] := by
  obtain ⟨⟨hc, hN⟩, h⟩ := Chk_e h
  cases h
  refine FnR.ofCalls fun w m vs hi hr => ?_
  obtain ⟨a, b, rfl, h1, h2⟩ := reps2 hr
  have h2 := h2.eq_v
  subst h2
  have e0 : ∀ (ad : Option Addr) (c : Nat), Calls P f [Value.slice ad 0 c, .string ⟨sep.toArray⟩].toArray w fun e w' => ∃ v, e = .returned v ∧ Below w.heap.size w w' ∧ Rep m noNames (sAV (Lib.join [] sep)) v := by
    intro ad c
    refine (H0 ad c ⟨sep.toArray⟩ w).mono ?_
    rintro e w' ⟨rfl, rfl⟩
    exact ⟨_, rfl, Below.refl _ _, .v⟩
  cases l with
  | nil =>
    cases h1 with
    | slnil => exact e0 _ _
    | sl g1 g2 g3 g4 g5 g6 g7 => exact e0 _ _
  | cons x l =>
    cases h1 with
    | sl g1 g2 g3 g4 g5 g6 g7 =>
      rename_i ad cap cs
      rw [flat_str] at g2
      have hcs := reps_str g2
      subst hcs
      have hsp := g4 (by simp)
      have hd : ad = ⟨ad.block, ad.off, none⟩ := by rw [← hsp]
      rw [hd]
      have key := H ad.block ad.off cap ((x :: l).map fun s => (⟨s.toArray⟩ : ByteArray)) ⟨sep.toArray⟩ w ?_ ?_ ?_ ?_ ?_
      · rw [List.length_map] at key
        have e1 : ((x :: l).map fun s => (⟨s.toArray⟩ : ByteArray)).map (·.data.toList) = x :: l := by
          rw [List.map_map]
          exact (List.map_congr_left fun s _ => rfl).trans (List.map_id _)
        rw [e1] at key
        rw [List.length_map]
        refine key.mono ?_
        rintro e w' ⟨rfl, hb⟩
        exact ⟨_, rfl, hb, .v⟩
      · intro j y hj
        rw [List.getElem?_map] at hj
        obtain ⟨z, hz, rfl⟩ := Option.map_eq_some_iff.1 hj
        exact hi _ _ _ (g5 j _ (by rw [List.getElem?_map, hz]; rfl))
      · exact hi.lt (g5 0 _ rfl)
      · rw [List.length_map]; exact hN
      · rw [List.length_map, ← List.length_map (f := sAV) ]; exact g6
      · rw [List.map_map]
        refine Nat.le_trans (Nat.le_of_eq ?_) hc
        congr 2
        exact (List.map_congr_left fun s _ => rfl).trans (List.map_id _)
end Go.Rx
