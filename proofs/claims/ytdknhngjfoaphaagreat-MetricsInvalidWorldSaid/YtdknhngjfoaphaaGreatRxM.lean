/-
  The slice of all that is known of an own block. No conditions.
-/
import Derived.Test.YtdknhngjfoaphaaGreatRxL
set_option linter.all false
namespace Go.Rx
open Go.RowKit

theorem LS.cut.tells {id nid k sz len mc t L L'} (h : LS.cut id nid k sz len mc L L' t) (hp : 0 < sz) : Tells L L' := by
  intro N W0 m0 sa a w m bl s
  obtain ⟨l, hl, hkl, hl', hbare⟩ := h.h0
  have hv := s.env t _ h.t0
  obtain ⟨X, hX, hXv⟩ : ∃ X : Bnd, (∀ b n, X = .blk b n → ∃ n0, bl id = some (.blk b n0)) ∧
      ((X = .nil ∧ k = 0 ∧ ∃ ad, a.tmps.getD t undef = .slice ad 0 0) ∨ ∃ b n cap, X = .blk b (n.1, k) ∧ bl id = some (.blk b n) ∧ a.tmps.getD t undef = .slice (some ⟨b, 0, none⟩) len cap ∧ len ≤ cap ∧ cap * sz ≤ n.1) := by
    generalize a.tmps.getD t undef = v at hv
    cases hv with
    | rownil => exact ⟨.nil, (by intro b n h; cases h), .inl ⟨rfl, by rw [h.hk]; simp, _, rfl⟩⟩
    | row hb g1 g2 g3 => exact ⟨.blk _ (_, k), (by intro b n h; cases h; exact ⟨_, hb⟩), .inr ⟨_, _, _, rfl, hb, rfl, by omega, by omega⟩⟩
  let bl' : Names := fun i => if i = nid then some X else if i = id then none else bl i
  have hfree := s.free nid h.f.1
  have hold : ∀ i i', (if i = id then none else some i : Option Nat) = some i' → ∀ b, bl i = some b → bl' i' = some b := by
    intro i i' hi b hb
    split at hi
    · cases hi
    · cases hi
      show (if _ then _ else if _ then _ else _) = _
      rw [if_neg (by rintro rfl; rw [hfree] at hb; cases hb), if_neg ‹_›]; exact hb
  have hcase : ∀ i b n, bl' i = some (.blk b n) → (i = nid ∧ X = .blk b n) ∨ (i ≠ nid ∧ i ≠ id ∧ bl i = some (.blk b n)) := by
    intro i b n hi
    change (if _ then _ else if _ then _ else _) = _ at hi
    split at hi
    · exact .inl ⟨‹_›, Option.some.inj hi⟩
    · split at hi
      · cases hi
      · exact .inr ⟨‹_›, ‹_›, hi⟩
  refine ⟨m, bl', s.defers, s.size, s.below, ⟨s.ws.imm, s.ws.le, s.ws.grow, ?_, ?_, ?_, ?_⟩, ?_, ?_, ?_⟩
  · intro i l1 hf
    by_cases hi : i = nid
    · subst hi
      rw [hl'] at hf; cases hf
      have hXn : bl' i = some X := by show (if _ then _ else _) = _; rw [if_pos rfl]
      rcases hXv with ⟨rfl, rfl, -⟩ | ⟨b, n, cap, rfl, hb, -, -, -⟩
      · exact .inl ⟨hXn, by simp⟩
      · obtain ⟨arr, T, pre, rest, q1, q2, q3, q4, q5⟩ := s.ws.at_ hl hb
        have hn1 : n.1 = arr.size := by rw [← q2]
        refine .inr ⟨b, (n.1, k), arr, T, pre.take k, pre.drop k ++ rest, hXn, q1, ?_, by rw [q3, ← List.append_assoc, List.take_append_drop], ?_, fun c hc => q5 c (List.mem_of_mem_take hc)⟩
        · rw [hn1, List.length_take, ← q4.length, Nat.min_eq_left hkl]
        · have := (q4.take k).bare (bl' := bl')
          rwa [bareL, bareL_of hbare] at this
    · obtain ⟨hne, b0, h1, h2⟩ := h.h i _ hi hf
      cases b0 with
      | iter => exact absurd h2 (by simp)
      | cells l0 =>
        rcases s.ws.blk i l0 h1 with ⟨g1, rfl⟩ | ⟨b, n, arr, T, pre, rest, g1, g2, g3, g4, g5, g6⟩
        · refine .inl ⟨hold i i (by rw [if_neg hne]) _ g1, ?_⟩
          have := h2 m bl [] (by simp [reL]; exact .nil)
          cases this; rfl
        · exact .inr ⟨b, n, arr, T, pre, rest, hold i i (by rw [if_neg hne]) _ g1, g2, g3, g4, h2 _ _ _ (g5.re hold), g6⟩
  · intro i x p hf
    by_cases hi : i = nid
    · subst hi; rw [hl'] at hf; cases hf
    · obtain ⟨hne, b0, h1, h2⟩ := h.h i _ hi hf
      cases b0 with
      | cells => exact absurd h2 (by simp)
      | iter x' p' =>
        obtain ⟨rfl, rfl⟩ := h2
        obtain ⟨b, n, g1, g2⟩ := s.ws.it i _ _ h1
        exact ⟨b, n, hold i i (by rw [if_neg hne]) _ g1, g2⟩
  · intro i b n hi
    rcases hcase i b n hi with ⟨-, hx⟩ | ⟨-, -, hb⟩
    · obtain ⟨n0, hb⟩ := hX b n hx
      exact s.ws.own id b n0 hb
    · exact s.ws.own i b n hb
  · intro i i' b n n' hi hi'
    rcases hcase i b n hi with ⟨rfl, hx⟩ | ⟨h1, h2, hb⟩
    · rcases hcase i' b n' hi' with ⟨rfl, -⟩ | ⟨h1', h2', hb'⟩
      · rfl
      · obtain ⟨n0, hb⟩ := hX b n hx
        exact absurd (s.ws.inj _ _ b _ _ hb' hb) h2'
    · rcases hcase i' b n' hi' with ⟨rfl, hx'⟩ | ⟨h1', h2', hb'⟩
      · obtain ⟨n0, hb'⟩ := hX b n' hx'
        exact absurd (s.ws.inj _ _ b _ _ hb hb') h2
      · exact s.ws.inj i i' b n n' hb hb'
  · intro t' x hx
    rcases h.e t' x hx with ⟨rfl, rfl⟩ | ⟨y, hf, hsub⟩
    · have hXn : bl' nid = some X := by show (if _ then _ else _) = _; rw [if_pos rfl]
      rcases hXv with ⟨rfl, -, ad, hvv⟩ | ⟨b, n, cap, rfl, hb, hvv, g1, g2⟩
      · rw [hvv]; exact .rwnil hXn
      · rw [hvv]; exact .rw hXn h.hk.symm g1 g2
    · exact hsub _ _ _ ((s.env t' y hf).re hold)
  · obtain ⟨k1, k2⟩ := Stk_iff.1 s.stk
    refine Stk_iff.2 ⟨by rw [h.s.1, k1], fun i e' t' he ht t x hx => ?_⟩
    have hlt : i < L.s.length := by
      rw [← h.s.1]
      rcases Nat.lt_or_ge i L'.s.length with h | h
      · exact h
      · rw [List.getElem?_eq_none h] at he; cases he
    obtain ⟨y, hf, hsub⟩ := h.s.2 i e' L.s[i] he (List.getElem?_eq_getElem hlt) t x hx
    exact hsub _ _ _ ((k2 i _ t' (List.getElem?_eq_getElem hlt) ht t y hf).re hold)
  · intro d hd
    obtain ⟨h1, h2⟩ := h.f.2 d hd
    show (if _ then _ else if _ then _ else _) = _
    rw [if_neg h2]
    split
    · rfl
    · exact s.free d h1
end Go.Rx
