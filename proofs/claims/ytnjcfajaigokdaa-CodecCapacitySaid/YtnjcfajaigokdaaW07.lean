/- Plain laws, joined from several texts. No conditions. -/
import Derived.Test.YtnjcfajaigokdaaF07D
import Derived.Test.YtnjcfajaigokdaaRzQ
/-
  Plain laws of package codec: CodecCapacity. No conditions.
-/
set_option linter.all false
set_option maxRecDepth 100000
open Go Go.Rx

namespace GoForm
theorem mag_ex (n : Int) : ∃ u : Int, 0 ≤ u ∧ u < 18446744073709551616 ∧ codec_magnitude n = some u := by
  unfold codec_magnitude
  simp only [Let_nr]
  by_cases h : n < 0
  · rw [if_pos (decide_eq_true h)]
    exact ⟨_, by rw [wrap_u64]; omega, by rw [wrap_u64]; omega, rfl⟩
  · rw [if_neg (by simpa using h)]
    exact ⟨_, by rw [wrap_u64]; omega, by rw [wrap_u64]; omega, rfl⟩
theorem shr8 (u : Int) : bShr IntKind.u64 u (8 : Int) = u / 256 := by
  unfold bShr
  rw [show ((2 : Int) ^ (min (8 : Int).toNat IntKind.u64.bits)) = 256 from rfl, Int.fdiv_eq_ediv_of_nonneg _ (by omega)]
/-- The loop that gathers digits. -/
theorem dig_loop {X : Type} (K : List UInt8 → Option X) (step : (List UInt8 × Int → Option X) → List UInt8 × Int → Option X)
    (hs : ∀ (r : List UInt8 × Int → Option X) (s : List UInt8) (u : Int), 0 < u → s.length ≤ 100 → ∃ c, step r (s, u) = r (c :: s, u / 256))
    (he : ∀ (r : List UInt8 × Int → Option X) (s : List UInt8), step r (s, 0) = K s) : ∀ (k n : Nat) (s : List UInt8) (u : Int), 0 ≤ u → u < 256 ^ k → s.length + k ≤ 100 → k < n → ∃ d : List UInt8, d.length ≤ s.length + k ∧ LOOP step n (s, u) = K d
  | 0, n + 1, s, u, h0, h1, _, _ => by
    have : u = 0 := by simp at h1; omega
    subst this
    exact ⟨s, by omega, by rw [LOOP_s, he]⟩
  | k + 1, n + 1, s, u, h0, h1, h2, h3 => by
    by_cases hu : u = 0
    · subst hu
      exact ⟨s, by omega, by rw [LOOP_s, he]⟩
    · obtain ⟨c, hc⟩ := hs (LOOP step n) s u (by omega) (by omega)
      obtain ⟨d, hd, e⟩ := dig_loop K step hs he k n (c :: s) (u / 256) (by omega) (by rw [Int.pow_succ] at h1; omega) (by simp; omega) (by omega)
      exact ⟨d, by simp at hd; omega, by rw [LOOP_s, hc, e]⟩
theorem dig0 {X : Type} (K : List UInt8 → Option X) (step : (List UInt8 × Int → Option X) → List UInt8 × Int → Option X) (u : Int) (h0 : 0 ≤ u) (h1 : u < 18446744073709551616)
    (hs : ∀ (r : List UInt8 × Int → Option X) (s : List UInt8) (u : Int), 0 < u → s.length ≤ 100 → ∃ c, step r (s, u) = r (c :: s, u / 256))
    (he : ∀ (r : List UInt8 × Int → Option X) (s : List UInt8), step r (s, 0) = K s) : ∃ d : List UInt8, d.length ≤ 8 ∧ LOOP step fuel ([], u) = K d := by
  obtain ⟨d, hd, e⟩ := dig_loop K step hs he 8 fuel [] u h0 (by rw [show ((256 : Int) ^ 8) = 18446744073709551616 from rfl]; exact h1) (by simp) (by unfold fuel; decide)
  exact ⟨d, by simpa using hd, e⟩
theorem dig_goal {X : Type} (Q : Option X → Prop) (step : (List UInt8 × Int → Option X) → List UInt8 × Int → Option X) (u : Int) (h0 : 0 ≤ u) (h1 : u < 18446744073709551616)
    (hs : ∀ (r : List UInt8 × Int → Option X) (s : List UInt8) (u : Int), 0 < u → s.length ≤ 100 → ∃ c, step r (s, u) = r (c :: s, u / 256))
    (he : ∀ (r r' : List UInt8 × Int → Option X) (s : List UInt8), step r (s, 0) = step r' (s, 0))
    (hk : ∀ (r : List UInt8 × Int → Option X) (d : List UInt8), d.length ≤ 8 → Q (step r (d, 0))) : Q (LOOP step fuel ([], u)) := by
  obtain ⟨d, hd, e⟩ := dig0 (fun s => step (fun _ => none) (s, 0)) step u h0 h1 hs (fun r s => he _ _ _)
  rw [e]; exact hk _ d hd
theorem Join_eq {A X : Type} (f : A → Option X) (g : (A → Option X) → Option X) : Join f g = g f := rfl
theorem dec_gt (u : Int) (h : 0 < u) : decide (u > 0) = true := decide_eq_true h
theorem take_int {α : Type} (l : List α) : l.take (l.length : Int).toNat = l := by simp
/-- What AppendInt appends: at least a byte, at most nine. -/
theorem AppendInt_ex (b : List UInt8) (n : Int) (hb : b.length ≤ 1000000) : ∃ t : List UInt8, 0 < t.length ∧ t.length ≤ 9 ∧ codec_AppendInt b n = some (b ++ t) := by
  obtain ⟨u, h0, h1, hu⟩ := mag_ex n
  unfold codec_AppendInt
  simp only [hu, Bind_snr, Let_nr, Join_eq, shr8, take_int]
  refine dig_goal (fun o => ∃ t : List UInt8, 0 < t.length ∧ t.length ≤ 9 ∧ o = some (b ++ t)) _ u h0 h1 ?_ ?_ ?_
  · intro r s u hu hs
    refine ⟨toByte u, ?_⟩
    simp only [dec_gt u hu, if_true]
    rw [Chk_of (by simp; omega)]
    rfl
  · intro r r' s
    rfl
  · intro r d hd
    simp only [show decide ((0 : Int) > 0) = false from rfl, ff, if_false]
    split
    all_goals
      rw [Chk_of ⟨by omega, by omega, trivial⟩, Chk_of ⟨by simp, by simp; omega⟩, Chk_of ⟨trivial, trivial⟩, Chk_of (by simp; omega)]
      exact ⟨_ :: d, by simp, by simp; omega, by rw [List.append_assoc]; rfl⟩
theorem AppendInt_ex2 (b : List UInt8) (n : Int) (hb : b.length ≤ 1000000) : ∃ c : List UInt8, c.length ≤ b.length + 9 ∧ codec_AppendInt b n = some c := by
  obtain ⟨t, -, h, e⟩ := AppendInt_ex b n hb
  exact ⟨_, by rw [List.length_append]; omega, e⟩
theorem AppendString_ex (b s : List UInt8) (hb : b.length ≤ 10000) (hp : 0 < s.length) (hs : s.length ≤ 10000) : ∃ t : List UInt8, codec_AppendString b s = some (b ++ t) := by
  obtain ⟨t, h1, h2, e⟩ := AppendInt_ex b (s.length : Int) (by omega)
  unfold codec_AppendString
  simp only [e, Bind_snr, Let_nr, take_int]
  rw [Chk_of ⟨by omega, by omega, by trivial⟩, Chk_of ⟨hp, by simp; omega⟩]
  exact ⟨t ++ s, by rw [List.append_assoc]⟩
theorem AppendBool_ex (b : List UInt8) (x : Bool) (hb : b.length ≤ 10000) : ∃ t : List UInt8, codec_AppendBool b x = some (b ++ t) := by
  unfold codec_AppendBool
  simp only [Let_nr, take_int]
  split
  all_goals
    rw [Chk_of ⟨by omega, by omega, by trivial⟩, Chk_of ⟨by decide, by omega⟩]
    exact ⟨_, rfl⟩
theorem AppendInts2_ex (b : List UInt8) (m n : Int) (hb : b.length ≤ 10000) : ∃ t : List UInt8, codec_AppendInts b [m, n] = some t := by
  obtain ⟨c1, h1, e1⟩ := AppendInt_ex2 b ([m, n].length : Int) (by omega)
  obtain ⟨c2, h2, e2⟩ := AppendInt_ex2 c1 m (by omega)
  obtain ⟨c3, h3, e3⟩ := AppendInt_ex2 c2 n (by omega)
  obtain ⟨k, hk⟩ : ∃ k, fuel = k + 3 := ⟨2 ^ 70 - 3, rfl⟩
  unfold codec_AppendInts
  rw [hk]
  have w1 : IntKind.i64.wrap ((0 : Int) + 1) = 1 := rfl
  have w2 : IntKind.i64.wrap ((1 : Int) + 1) = 2 := rfl
  have d0 : decide ((0 : Int) < (([m, n].length : Nat) : Int)) = true := rfl
  have d1 : decide ((1 : Int) < (([m, n].length : Nat) : Int)) = true := rfl
  have d2 : decide ((2 : Int) < (([m, n].length : Nat) : Int)) = false := rfl
  have c0 : (0 : Int) ≤ 0 ∧ (0 : Int) < (([m, n].length : Nat) : Int) := ⟨by decide, by simp⟩
  have c1' : (0 : Int) ≤ 1 ∧ (1 : Int) < (([m, n].length : Nat) : Int) := ⟨by decide, by simp⟩
  have i0 : ix [m, n] (0 : Int) = m := rfl
  have i1 : ix [m, n] (1 : Int) = n := rfl
  simp only [e1, Bind_snr, Let_nr, LOOP_s, d0, d1, d2, if_true, Chk_of c0, Chk_of c1', i0, i1, e2, e3, w1, w2, ff, if_false]
  exact ⟨c3, rfl⟩
theorem AppendVec_ex (b : List UInt8) (v : Vec) (hb : b.length ≤ 10000) : ∃ t : List UInt8, codec_AppendVec b v = some t := by
  obtain ⟨c1, h1, e1⟩ := AppendInt_ex2 b v.X (by omega)
  obtain ⟨c2, h2, e2⟩ := AppendInt_ex2 c1 v.Y (by omega)
  unfold codec_AppendVec
  simp only [e1, e2, Bind_snr]
  exact ⟨c2, rfl⟩
theorem example07 : caromlaw07_example = some true := by kernel_rfl
end GoForm


/-
  Plain laws of package codec: CodecCapacity, the law. No conditions.
-/
set_option linter.all false
set_option maxRecDepth 100000
open Go Go.Rx

namespace GoForm
/-- The loop that writes into what was appended. -/
theorem inc_loop {X : Type} (a : List UInt8) (R : Option X) (step : (Int × List UInt8 → Option X) → Int × List UInt8 → Option X) (hl : a.length ≤ 1000000)
    (hs : ∀ (r : Int × List UInt8 → Option X) (i : Nat) (s : List UInt8), s.length = a.length → i < a.length → ∃ s', s'.length = a.length ∧ step r ((i : Int), s) = r ((i : Int) + 1, s'))
    (he : ∀ (r : Int × List UInt8 → Option X) (s : List UInt8), s.length = a.length → step r ((a.length : Int), s) = R) : ∀ (n i : Nat) (s : List UInt8), s.length = a.length → i ≤ a.length → a.length - i < n → LOOP step n ((i : Int), s) = R
  | n + 1, i, s, h1, h2, h3 => by
    by_cases hi : i = a.length
    · subst hi
      rw [LOOP_s, he _ s h1]
    · obtain ⟨s', h4, e⟩ := hs (LOOP step n) i s h1 (by omega)
      rw [LOOP_s, e]
      exact inc_loop a R step hl hs he n (i + 1) s' h4 (by omega) (by omega)
theorem small_eq (b : List UInt8) : caromlaw07_small b [] [] = some (decide ((b.length : Int) ≤ 2000)) := by
  unfold caromlaw07_small
  simp only [Let_nr]
  cases decide ((b.length : Int) ≤ 2000) <;> rfl
theorem caromlaw07_CodecCapacity_true (b : List UInt8) (cut n : Int) (hb : (∀ a ∈ b, True) ∧ b.length ≤ 9223372036854775807) (hc : IntKind.u16.min ≤ cut ∧ cut ≤ IntKind.u16.max) (hn : IntKind.i64.min ≤ n ∧ n ≤ IntKind.i64.max) : caromlaw07_CodecCapacity b cut n = some true := by
  have hc0 : 0 ≤ cut := hc.1
  have hc1 : cut ≤ 65535 := hc.2
  unfold caromlaw07_CodecCapacity
  rw [show #[].toList = ([] : List UInt8) from rfl]
  simp only [small_eq, Bind_snr, Let_nr, example07]
  by_cases hs : (b.length : Int) ≤ 2000
  case neg => simp only [decide_eq_false hs, Bool.not_false, if_true]
  simp only [decide_eq_true hs, Bool.not_true, ff, if_false]
  rw [wrap_in cut (by omega) (by omega), wrap_in ((b.length : Int) + 1) (by omega) (by omega)]
  rw [Chk_of (by omega)]
  have hk0 : 0 ≤ cut.tmod ((b.length : Int) + 1) := Int.tmod_nonneg _ hc0
  have hk1 : cut.tmod ((b.length : Int) + 1) ≤ (b.length : Int) := by
    have := Int.tmod_lt_of_pos cut (b := (b.length : Int) + 1) (by omega)
    omega
  generalize cut.tmod ((b.length : Int) + 1) = k at hk0 hk1
  rw [Chk_of ⟨hk0, hk1⟩]
  obtain ⟨j, rfl⟩ : ∃ j : Nat, k = (j : Int) := ⟨k.toNat, by omega⟩
  simp only [Int.toNat_natCast]
  have htl : (b.take j).length = j := by simp; omega
  obtain ⟨u, h0, h1, hu⟩ := mag_ex n
  obtain ⟨t2, e2⟩ := AppendString_ex (b.take j) (#[(97 : UInt8), (98 : UInt8), (99 : UInt8)].toList) (by omega) (by decide) (by decide)
  obtain ⟨t3, e3⟩ := AppendBool_ex (b.take j) true (by omega)
  obtain ⟨t4, e4⟩ := AppendInts2_ex (b.take j) n n (by omega)
  obtain ⟨t5, e5⟩ := AppendVec_ex (b.take j) { X := n, Y := 1 } (by omega)
  simp only [hu, Bind_snr, Join_eq, shr8, Int.toNat_natCast, List.take_length, Chk_of (⟨hk0, hk1⟩ : (0 : Int) ≤ (j : Int) ∧ (j : Int) ≤ (b.length : Int)), e2, e3, e4, e5, bne_self_eq_false, cond_or, Bool.false_or]
  refine dig_goal (fun o => o = some true) _ u h0 h1 ?_ ?_ ?_
  · intro r s u hu hs
    refine ⟨toByte u, ?_⟩
    simp only [dec_gt u hu, if_true]
    rw [Chk_of (by simp; omega)]
    rfl
  · intro r r' s
    rfl
  · intro r d hd
    simp only [show decide ((0 : Int) > 0) = false from rfl, ff, if_false]
    have key : ∀ c : UInt8, ((b.take j ++ [c] ++ d).length : Int) = (j : Int) + 1 + (d.length : Int) := by
      intro c
      rw [List.length_append, List.length_append, htl]; simp
    split
    all_goals
      rw [Chk_of ⟨by omega, by omega, trivial⟩, Chk_of ⟨by simp, by simp; omega⟩, Chk_of ⟨trivial, trivial⟩, Chk_of (by simp; omega)]
      rw [decide_eq_false (by rw [key]; omega)]
      rw [Chk_of (fun _ => ⟨hk0, by rw [List.length_append, htl]; omega⟩), Chk_of (fun _ => ⟨hk0, hk1⟩)]
      rw [show (b.take j ++ t2).take j = b.take j by rw [List.take_append_of_le_length (by omega), List.take_of_length_le (by omega)]]
      simp only [bne_self_eq_false, Bool.or_self, ff, if_false]
      refine inc_loop _ (some true) _ (show _ ≤ _ by have := key; rw [List.length_append, List.length_append, htl]; simp; omega) ?_ ?_ fuel 0 _ rfl (Nat.zero_le _) (by rw [List.length_append, List.length_append, htl]; simp; unfold fuel; omega)
      · intro r i s hl hi
        have hc : (0 : Int) ≤ (i : Int) ∧ (i : Int) < (s.length : Int) := by omega
        simp only [decide_eq_true hc.2, if_true, Chk_of hc]
        rw [w64_s i (by rw [List.length_append, List.length_append, htl] at hi; simp at hi; omega)]
        exact ⟨_, by rw [List.length_set]; exact hl, rfl⟩
      · intro r s hl
        rw [← hl]
        simp only [dll, ff, if_false, beq_self_eq_true, if_true, Bind_snr, cond_true]
end GoForm

