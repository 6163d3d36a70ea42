/- The plain laws of chapter 7: what the codec's functions compute, and that they agree with the reference. No conditions. -/
import Derived.Test.YtnjcfajaigokdaaRzP
import Derived.Test.YtnjcfajaigokdaaF07O
open Go Go.Rx
namespace GoOld

theorem example_true : law07_example = some true := by kernel_rfl

/-- The number that bytes make, the first the greatest. -/
def beF (a : Int) (l : List UInt8) : Int := l.foldl (fun a c => a * 256 + (c.toNat : Int)) a

theorem beF_bd : ∀ (l : List UInt8) (a : Int), 0 ≤ a → 0 ≤ beF a l ∧ beF a l < (a + 1) * 256 ^ l.length
  | [], a, h => by simp [beF]; omega
  | c :: l, a, h => by
    have hc := c.toNat_lt
    have ih := beF_bd l (a * 256 + c.toNat) (by omega)
    have e : beF a (c :: l) = beF (a * 256 + c.toNat) l := rfl
    rw [e, List.length_cons, Int.pow_succ]
    refine ⟨ih.1, Int.lt_of_lt_of_le ih.2 ?_⟩
    rw [Int.mul_comm (256 ^ l.length) 256, ← Int.mul_assoc]
    exact Int.mul_le_mul_of_nonneg_right (by omega) (Int.pow_nonneg (by omega))

theorem bOr_step {x : Int} (c : UInt8) (h0 : 0 ≤ x) (h1 : x < 72057594037927936) : bOr .u64 (bShl .u64 x 8) (c.toNat : Int) = x * 256 + c.toNat := by
  obtain ⟨n, rfl⟩ := Int.eq_ofNat_of_zero_le h0
  have hm : c.toNat < 2 ^ 8 := c.toNat_lt
  unfold bOr bShl
  have e1 : IntKind.u64.wrap ((n : Int) * 2 ^ (min (8 : Int).toNat IntKind.u64.bits)) = ((n * 256 : Nat) : Int) := by
    rw [wrap_u64]; show ((n : Int) * 2 ^ 8) % _ = _; omega
  rw [e1, wrap_u64]
  show (((BitVec.ofInt 64 ((n * 256 : Nat) : Int) ||| BitVec.ofInt 64 (c.toNat : Int)).toNat : Nat) : Int) % _ = _
  rw [BitVec.toNat_or]
  have e3 : (BitVec.ofInt 64 ((n * 256 : Nat) : Int)).toNat = n * 256 := by
    rw [BitVec.toNat_ofInt]; omega
  have e4 : (BitVec.ofInt 64 (c.toNat : Int)).toNat = c.toNat := by
    rw [BitVec.toNat_ofInt]; omega
  rw [e3, e4]
  have e5 : n * 256 ||| c.toNat = n * 256 + c.toNat := by
    have := Nat.shiftLeft_add_eq_or_of_lt hm n
    rw [Nat.shiftLeft_eq] at this
    exact this.symm
  rw [e5]
  omega

theorem pow_bd {k : Nat} (h : k ≤ 7) : (256 : Int) ^ k ≤ 72057594037927936 := by
  have : 256 ^ k ≤ 256 ^ 7 := Nat.pow_le_pow_right (by omega) h
  have h2 : ((256 ^ k : Nat) : Int) ≤ ((256 ^ 7 : Nat) : Int) := by exact_mod_cast this
  simpa using h2

theorem ReadInt_l1_eq (l : List UInt8) (hl : l.length ≤ 8) (k : Int → Option (Int × Int × Int)) : ∀ (n i : Nat), i ≤ l.length → l.length - i < n →
    codec_ReadInt_l1 k l n (beF 0 (l.take i)) (i : Int) = k (beF 0 l)
  | 0, i, _, h => by omega
  | n + 1, i, hi, h => by
    unfold codec_ReadInt_l1
    by_cases hlt : i < l.length
    · rw [if_pos (by simpa using hlt)]
      have hb := beF_bd (l.take i) 0 (by omega)
      have hp := pow_bd (k := (l.take i).length) (by rw [List.length_take]; omega)
      rw [Chk_of (by omega), Let_eq, Let_eq, Let_eq, bOr_step _ hb.1 (by omega), w64_of _ (by omega)]
      have e : beF 0 (l.take i) * 256 + ((ix l (i : Int)).toNat : Int) = beF 0 (l.take (i + 1)) := by
        have e2 : l.take (i + 1) = l.take i ++ [l[i]] := List.take_succ_eq_append_getElem hlt
        rw [e2, ix_lt l i hlt]
        unfold beF; rw [List.foldl_append]; rfl
      rw [e]
      exact ReadInt_l1_eq l hl k n (i + 1) (by omega) (by omega)
    · rw [if_neg (by simpa using hlt)]
      rw [List.take_of_length_le (by omega)]

/-- An integer as it is read: its value, the place behind it, the error. -/
def rdInt (b : List UInt8) (at_ : Int) : Int × Int × Int :=
  if at_ < 0 ∨ (b.length : Int) < at_ then (0, 0, 2) else if at_ = b.length then (0, 0, 4) else
  let hd : Int := (ix b at_).toNat
  let size := if 16 ≤ hd then hd - 16 else hd
  if 8 < size ∨ hd = 16 then (0, 0, 3) else if (b.length : Int) - at_ - 1 < size then (0, 0, 4) else
  let m := beF 0 ((b.drop (at_ + 1).toNat).take size.toNat)
  if (0 < size ∧ ix b (at_ + 1) = 0) ∨ (¬ 16 ≤ hd ∧ 9223372036854775807 < m) ∨ (16 ≤ hd ∧ 9223372036854775808 < m) then (0, 0, 3)
  else (if 16 ≤ hd then -m else m, at_ + 1 + size, 0)

theorem readByte_eq (b : List UInt8) (at_ : Int) : codec_readByte b at_ = some (if at_ < 0 ∨ (b.length : Int) < at_ then (0, 2) else if at_ = b.length then (0, 4) else (ix b at_, 0)) := by
  unfold codec_readByte
  simp only [Let_eq, cond_or, Bool.or_eq_true, decide_eq_true_eq, beq_iff_eq]
  split
  · rfl
  · split
    · rfl
    · rw [Chk_of (by omega)]

theorem take_ix (b : List UInt8) (k : Nat) (i : Nat) (hi : i < k) (h : k ≤ b.length) : (b.take k)[i]'(by rw [List.length_take]; omega) = b[i] := by simp

theorem beF_pos (l : List UInt8) (h : 0 < l.length) (h0 : l[0] ≠ 0) : 0 < beF 0 l := by
  cases l with
  | nil => simp at h
  | cons c l =>
    have : 0 < (c.toNat : Int) := by
      have : c ≠ 0 := h0
      have h2 : c.toNat ≠ 0 := fun h => this (UInt8.toNat_inj.1 (by simpa using h))
      omega
    have e : beF 0 (c :: l) = beF (c.toNat : Int) l := by simp [beF]
    rw [e]
    have mono : ∀ (l : List UInt8) (a : Int), 0 < a → 0 < beF a l := by
      intro l
      induction l with
      | nil => intro a h; simpa [beF] using h
      | cons d l ih => intro a h; exact ih (a * 256 + d.toNat) (by omega)
    exact mono l _ this

theorem magnitude_eq (n : Int) (h : -9223372036854775808 ≤ n ∧ n ≤ 9223372036854775807) : codec_magnitude n = n.natAbs := by
  unfold codec_magnitude
  simp only [Let_eq, decide_eq_true_eq, u64_eq]
  split <;> omega

theorem codec_ReadInt_eq (b : List UInt8) (at_ : Int) (hb : b.length ≤ 4611686018427387904) : codec_ReadInt b at_ = some (rdInt b at_) := by
  unfold codec_ReadInt rdInt
  rw [readByte_eq, Bind_some]
  by_cases h1 : at_ < 0 ∨ (b.length : Int) < at_
  · rw [if_pos h1, if_pos h1]; rfl
  rw [if_neg h1, if_neg h1]
  by_cases h2 : at_ = b.length
  · rw [if_pos h2, if_pos h2]; rfl
  rw [if_neg h2, if_neg h2]
  have hd := (ix b at_).toNat_lt
  simp only [Let_eq]
  have hgt : (16 < ix b at_) ↔ (16 : Int) < ((ix b at_).toNat : Int) := by
    rw [UInt8.lt_iff_toNat_lt]
    show (16 : Nat) < _ ↔ _
    omega
  rw [if_neg (by simp)]
  have fin : ∀ (size : Int) (neg : Bool), (neg = true ↔ (16 : Int) < (ix b at_).toNat) → size = (if (16 : Int) < (ix b at_).toNat then ((ix b at_).toNat : Int) - 16 else ((ix b at_).toNat : Int)) →
      codec_ReadInt_j4 b at_ neg size = some (
        let hd : Int := (ix b at_).toNat
        let size := if 16 ≤ hd then hd - 16 else hd
        if 8 < size ∨ hd = 16 then (0, 0, 3) else if (b.length : Int) - at_ - 1 < size then (0, 0, 4) else
        let m := beF 0 ((b.drop (at_ + 1).toNat).take size.toNat)
        if (0 < size ∧ ix b (at_ + 1) = 0) ∨ (¬ 16 ≤ hd ∧ 9223372036854775807 < m) ∨ (16 ≤ hd ∧ 9223372036854775808 < m) then (0, 0, 3)
        else (if 16 ≤ hd then -m else m, at_ + 1 + size, 0)) := by
    intro size neg hneg hsize
    unfold codec_ReadInt_j4
    simp only
    by_cases h16 : ((ix b at_).toNat : Int) = 16
    · rw [if_neg (by omega)] at hsize
      rw [if_pos (by simp; omega), if_pos (.inr h16)]
    have hs2 : size = (if (16 : Int) ≤ (ix b at_).toNat then ((ix b at_).toNat : Int) - 16 else ((ix b at_).toNat : Int)) := by
      rw [hsize]; split <;> split <;> omega
    have hneg2 : neg = true ↔ (16 : Int) ≤ (ix b at_).toNat := by rw [hneg]; omega
    rw [← hs2]
    by_cases h8 : 8 < size
    · rw [if_pos (by simpa using h8), if_pos (.inl h8)]
    rw [if_neg (by simpa using h8), if_neg (by omega)]
    have hw : w64 (at_ + 1) = at_ + 1 := w64_of _ (by omega)
    rw [hw, Chk_of (by omega)]
    have hs0 : 0 ≤ size := by rw [hs2]; split <;> omega
    have hlen : (b.drop (at_ + 1).toNat).length = b.length - (at_ + 1).toNat := List.length_drop
    simp only [Let_eq]
    by_cases h4 : (b.length : Int) - at_ - 1 < size
    · rw [if_pos (by simp; omega), if_pos h4]
    rw [if_neg (by simp; omega), if_neg h4, Chk_of (by omega)]
    have hlt : ((b.drop (at_ + 1).toNat).take size.toNat).length = size.toNat := by rw [List.length_take]; omega
    have hloop := ReadInt_l1_eq ((b.drop (at_ + 1).toNat).take size.toNat) (by omega) (codec_ReadInt_j3 at_ neg size (b.drop (at_ + 1).toNat)) fuel 0 (by omega) (fuel_lt _ (by omega))
    simp only [List.take_zero] at hloop
    have hb0 : beF 0 [] = 0 := rfl
    rw [hb0] at hloop
    have hloop' : codec_ReadInt_l1 (codec_ReadInt_j3 at_ neg size (b.drop (at_ + 1).toNat)) ((b.drop (at_ + 1).toNat).take size.toNat) fuel 0 0 = _ := hloop
    rw [hloop']
    have hbd := beF_bd ((b.drop (at_ + 1).toNat).take size.toNat) 0 (by omega)
    have hpw : (256 : Int) ^ ((b.drop (at_ + 1).toNat).take size.toNat).length ≤ 18446744073709551616 := by
      rw [hlt]
      have : 256 ^ size.toNat ≤ 256 ^ 8 := Nat.pow_le_pow_right (by omega) (by omega)
      have h2 : ((256 ^ size.toNat : Nat) : Int) ≤ ((256 ^ 8 : Nat) : Int) := by exact_mod_cast this
      simpa using h2
    have hz : ix (b.drop (at_ + 1).toNat) 0 = ix b (at_ + 1) := by
      unfold ix; simp [List.getD]
    have hpos : 0 < size → ix b (at_ + 1) ≠ 0 → 0 < beF 0 ((b.drop (at_ + 1).toNat).take size.toNat) := by
      intro h0 h1
      refine beF_pos _ (by omega) ?_
      rw [List.getElem_take, ← ix_lt _ 0 (by omega)]
      show ix (b.drop (at_ + 1).toNat) 0 ≠ 0
      rw [hz]; exact h1
    have hzero : size = 0 → beF 0 ((b.drop (at_ + 1).toNat).take size.toNat) = 0 := by
      intro h; rw [h]; rfl
    generalize beF 0 ((b.drop (at_ + 1).toNat).take size.toNat) = m at hbd hpos hzero ⊢
    have hm : 0 ≤ m ∧ m < 18446744073709551616 := ⟨hbd.1, by omega⟩
    unfold codec_ReadInt_j3
    simp only [Let_eq]
    -- the last test
    have last : ∀ v : Int, -9223372036854775808 ≤ v ∧ v ≤ 9223372036854775807 → codec_ReadInt_j2 at_ neg size (b.drop (at_ + 1).toNat) m v =
        some (if (0 < size ∧ ix b (at_ + 1) = 0) ∨ (v.natAbs : Int) ≠ m ∨ (decide (v < 0) ≠ neg) then (0, 0, 3) else (v, at_ + 1 + size, 0)) := by
      intro v hv
      unfold codec_ReadInt_j2
      rw [Chk_of (by intro _; refine ⟨Int.le_refl _, ?_⟩; rename_i h; simp at h; omega), magnitude_eq v hv, hz]
      simp only [Let_eq, cond_or, cond_and, hw]
      rw [w64_of (at_ + 1 + size) (by omega)]
      by_cases hc : (0 < size ∧ ix b (at_ + 1) = 0) ∨ (v.natAbs : Int) ≠ m ∨ (decide (v < 0) ≠ neg)
      · rw [if_pos hc, if_pos]
        simp only [Bool.or_eq_true, Bool.and_eq_true, decide_eq_true_eq, beq_iff_eq, bne_iff_ne, or_assoc]
        exact hc
      · rw [if_neg hc, if_neg]
        simp only [Bool.or_eq_true, Bool.and_eq_true, decide_eq_true_eq, beq_iff_eq, bne_iff_ne, or_assoc]
        exact hc
    cases neg with
    | true =>
      have h17 := hneg2.1 rfl
      simp only [if_true, h17, true_and, not_true_eq_false, false_and, false_or]
      rw [last _ (by rcases w64_or (0 - w64 m) with h | h <;> omega)]
      congr 1
      have h0 : size = 0 → False := by intro h; rw [if_pos h17] at hs2; omega
      by_cases hf : 0 < size ∧ ix b (at_ + 1) = 0
      · rw [if_pos (.inl hf), if_pos (.inl hf)]
      · have hmp : 0 < m := hpos (by omega) (fun h => hf ⟨by omega, h⟩)
        by_cases hbig : 9223372036854775808 < m
        · rw [if_pos, if_pos (.inr hbig)]
          right; right
          have : 0 < w64 (0 - w64 m) := by rcases w64_or m with h | h <;> rcases w64_or (0 - w64 m) with h' | h' <;> omega
          rw [decide_eq_false (by omega)]; decide
        · have : w64 (0 - w64 m) = -m := by rcases w64_or m with h | h <;> rcases w64_or (0 - w64 m) with h' | h' <;> omega
          rw [this, if_neg, if_neg (by rintro (h | h); exact hf h; exact hbig h)]
          rintro (h | h | h)
          · exact hf h
          · omega
          · simp at h; omega
    | false =>
      have h17 : ¬ (16 : Int) ≤ (ix b at_).toNat := fun h => by have := hneg2.2 h; cases this
      simp only [h17, if_false, false_and, or_false, not_false_eq_true, true_and, Bool.false_eq_true]
      rw [last _ (by rcases w64_or m with h | h <;> omega)]
      congr 1
      by_cases hf : 0 < size ∧ ix b (at_ + 1) = 0
      · rw [if_pos (.inl hf), if_pos (.inl hf)]
      · by_cases hbig : 9223372036854775807 < m
        · rw [if_pos, if_pos (.inr hbig)]
          right; right
          have : w64 m < 0 := by rcases w64_or m with h | h <;> omega
          simp; omega
        · have : w64 m = m := by rcases w64_or m with h | h <;> omega
          rw [this, if_neg, if_neg (by rintro (h | h); exact hf h; exact hbig h)]
          rintro (h | h | h)
          · exact hf h
          · omega
          · simp at h; omega
  split
  · rename_i hx
    simp only [decide_eq_true_eq] at hx
    rw [fin _ _ (by simp [hgt]) (by rw [if_pos (hgt.1 hx), w64_of _ (by omega)])]
  · rename_i hx
    simp only [decide_eq_true_eq] at hx
    rw [fin _ _ (by simp [hgt]) (by rw [if_neg (fun h => hx (hgt.2 h))])]

theorem ref_ReadInt_l1_eq (b : List UInt8) (a : Nat) (size : Nat) (hb : b.length ≤ 4611686018427387904) (hs : size ≤ 8) (ha : a + 1 + size ≤ b.length) (k : Int → Option (Int × Int × Int)) : ∀ (n i : Nat), i ≤ size → size - i < n →
    ref07_ReadInt_l1 b (a : Int) (size : Int) k n (beF 0 ((b.drop (a + 1)).take i)) ((i + 1 : Nat) : Int) = k (beF 0 ((b.drop (a + 1)).take size))
  | 0, i, _, h => by omega
  | n + 1, i, hi, h => by
    unfold ref07_ReadInt_l1
    by_cases hlt : i < size
    · rw [if_pos (by simp; omega)]
      have hbd := beF_bd ((b.drop (a + 1)).take i) 0 (by omega)
      have hl : ((b.drop (a + 1)).take i).length = i := by rw [List.length_take, List.length_drop]; omega
      have hp := pow_bd (k := ((b.drop (a + 1)).take i).length) (by omega)
      have e1 : w64 ((a : Int) + ((i + 1 : Nat) : Int)) = ((a + 1 + i : Nat) : Int) := by rw [w64_of _ (by omega)]; omega
      have hc := (ix b ((a + 1 + i : Nat) : Int)).toNat_lt
      rw [e1, Chk_of (by omega), Let_eq, Let_eq, w64_of _ (by omega), u64_eq, u64_eq]
      have e2 : (beF 0 ((b.drop (a + 1)).take i) * 256 % 18446744073709551616 + ((ix b ((a + 1 + i : Nat) : Int)).toNat : Int)) % 18446744073709551616 = beF 0 ((b.drop (a + 1)).take (i + 1)) := by
        have e3 : (b.drop (a + 1)).take (i + 1) = (b.drop (a + 1)).take i ++ [(b.drop (a + 1))[i]'(by rw [List.length_drop]; omega)] := List.take_succ_eq_append_getElem _
        have e4 : beF 0 ((b.drop (a + 1)).take (i + 1)) = beF 0 ((b.drop (a + 1)).take i) * 256 + (ix b ((a + 1 + i : Nat) : Int)).toNat := by
          rw [e3, ix_lt b (a + 1 + i) (by omega)]
          unfold beF; rw [List.foldl_append, List.getElem_drop]; rfl
        rw [e4]; omega
      rw [e2]
      exact ref_ReadInt_l1_eq b a size hb hs ha k n (i + 1) (by omega) (by omega)
    · rw [if_neg (by simp; omega)]
      have : i = size := by omega
      rw [this]

theorem ref_ReadInt_eq (b : List UInt8) (at_ : Int) (hb : b.length ≤ 4611686018427387904) : ref07_ReadInt b at_ = some (rdInt b at_) := by
  unfold ref07_ReadInt rdInt
  simp only [cond_or, Bool.or_eq_true, decide_eq_true_eq, beq_iff_eq, Let_eq]
  by_cases h1 : at_ < 0 ∨ (b.length : Int) < at_
  · rw [if_pos h1, if_pos h1]
  rw [if_neg h1, if_neg h1]
  by_cases h2 : at_ = b.length
  · rw [if_pos h2, if_pos h2]
  rw [if_neg h2, if_neg h2, Chk_of (by omega)]
  have hd := (ix b at_).toNat_lt
  obtain ⟨a, rfl⟩ := Int.eq_ofNat_of_zero_le (show 0 ≤ at_ by omega)
  have fin : ∀ (size : Int), size = (if (16 : Int) ≤ (ix b (a : Int)).toNat then ((ix b (a : Int)).toNat : Int) - 16 else ((ix b (a : Int)).toNat : Int)) →
      ref07_ReadInt_j3 b a (decide ((16 : Int) ≤ (ix b (a : Int)).toNat)) size = some (
        let hd : Int := (ix b (a : Int)).toNat
        let size := if 16 ≤ hd then hd - 16 else hd
        if 8 < size ∨ hd = 16 then (0, 0, 3) else if (b.length : Int) - a - 1 < size then (0, 0, 4) else
        let m := beF 0 ((b.drop ((a : Int) + 1).toNat).take size.toNat)
        if (0 < size ∧ ix b ((a : Int) + 1) = 0) ∨ (¬ 16 ≤ hd ∧ 9223372036854775807 < m) ∨ (16 ≤ hd ∧ 9223372036854775808 < m) then (0, 0, 3)
        else (if 16 ≤ hd then -m else m, a + 1 + size, 0)) := by
    intro size hs
    have hs0 : 0 ≤ size := by rw [hs]; split <;> omega
    unfold ref07_ReadInt_j3
    simp only [cond_or, cond_and, Bool.or_eq_true, Bool.and_eq_true, decide_eq_true_eq, beq_iff_eq, Let_eq]
    rw [← hs]
    by_cases h8 : 8 < size ∨ ((ix b (a : Int)).toNat : Int) = 16
    · rw [if_pos h8, if_pos]
      rcases h8 with h8 | h8
      · exact .inl (.inl h8)
      · rw [if_pos (by omega)] at hs; exact .inr ⟨by omega, by omega⟩
    · rw [if_neg h8, if_neg]
      · rw [w64_of ((b.length : Int) - a) (by omega), w64_of _ (by omega)]
        by_cases h4 : (b.length : Int) - a - 1 < size
        · rw [if_pos h4, if_pos h4]
        · rw [if_neg h4, if_neg h4]
          obtain ⟨z, rfl⟩ := Int.eq_ofNat_of_zero_le hs0
          have hloop := ref_ReadInt_l1_eq b a z hb (by omega) (by omega) (ref07_ReadInt_j2 b a (decide ((16 : Int) ≤ (ix b (a : Int)).toNat)) z) fuel 0 (by omega) (fuel_lt _ (by omega))
          simp only [List.take_zero] at hloop
          have hloop' : ref07_ReadInt_l1 b (a : Int) (z : Int) (ref07_ReadInt_j2 b a (decide ((16 : Int) ≤ (ix b (a : Int)).toNat)) z) fuel 0 1 = _ := hloop
          rw [hloop']
          have e1 : ((a : Int) + 1).toNat = a + 1 := by omega
          have e2 : (z : Int).toNat = z := by omega
          rw [e1, e2]
          have hlt : ((b.drop (a + 1)).take z).length = z := by rw [List.length_take, List.length_drop]; omega
          have hbd := beF_bd ((b.drop (a + 1)).take z) 0 (by omega)
          have hpw : (256 : Int) ^ ((b.drop (a + 1)).take z).length ≤ 18446744073709551616 := by
            rw [hlt]
            have : 256 ^ z ≤ 256 ^ 8 := Nat.pow_le_pow_right (by omega) (by omega)
            have h2 : ((256 ^ z : Nat) : Int) ≤ ((256 ^ 8 : Nat) : Int) := by exact_mod_cast this
            simpa using h2
          have hpos : 0 < z → ix b ((a : Int) + 1) ≠ 0 → 0 < beF 0 ((b.drop (a + 1)).take z) := by
            intro h0 h1
            refine beF_pos _ (by omega) ?_
            rw [List.getElem_take, List.getElem_drop]
            have : ix b ((a + 1 : Nat) : Int) = b[a + 1] := ix_lt b (a + 1) (by omega)
            exact fun h => h1 (this.trans h)
          generalize beF 0 ((b.drop (a + 1)).take z) = m at hbd hpos ⊢
          have hm : 0 ≤ m ∧ m < 18446744073709551616 := ⟨hbd.1, by omega⟩
          have hz0 : (16 : Int) ≤ (ix b (a : Int)).toNat → 0 < z := by intro h; rw [if_pos h] at hs; omega
          unfold ref07_ReadInt_j2
          have hw : w64 ((a : Int) + 1) = (a : Int) + 1 := w64_of _ (by omega)
          rw [hw]
          simp only [cond_or, cond_and, Bool.or_eq_true, Bool.and_eq_true, decide_eq_true_eq, beq_iff_eq, Let_eq, Bool.not_eq_true', decide_eq_false_iff_not]
          rw [Chk_of (by intro _; rename_i h; simp at h; omega), w64_of ((a : Int) + 1 + z) (by omega)]
          by_cases hc : (0 < (z : Int) ∧ ix b ((a : Int) + 1) = 0) ∨ (¬ (16 : Int) ≤ (ix b (a : Int)).toNat ∧ 9223372036854775807 < m) ∨ ((16 : Int) ≤ (ix b (a : Int)).toNat ∧ 9223372036854775808 < m)
          · rw [if_pos hc, if_pos (or_assoc.2 hc)]
          · rw [if_neg hc, if_neg (fun h => hc (or_assoc.1 h))]
            by_cases h16 : (16 : Int) ≤ (ix b (a : Int)).toNat
            · rw [if_pos h16, if_pos h16]
              have hmp : 0 < m := hpos (hz0 h16) (fun h => hc (.inl ⟨by have := hz0 h16; omega, h⟩))
              have hml : m ≤ 9223372036854775808 := by
                refine Int.not_lt.1 fun h => hc (.inr (.inr ⟨h16, h⟩))
              rw [u64_eq, w64_of ((m - 1) % _) (by omega), w64_of (0 - _) (by omega), w64_of _ (by omega)]
              have : 0 - (m - 1) % 18446744073709551616 - 1 = -m := by omega
              rw [this]
            · rw [if_neg h16, if_neg h16]
              have hml : m ≤ 9223372036854775807 := by
                refine Int.not_lt.1 fun h => hc (.inr (.inl ⟨h16, h⟩))
              rw [w64_of m (by omega)]
      · rintro ((h | h) | ⟨h, h'⟩)
        · exact h8 (.inl h)
        · omega
        · rw [if_pos h] at hs; exact h8 (.inr (by omega))
  by_cases hx : (16 : Int) ≤ (ix b (a : Int)).toNat
  · rw [if_pos hx]
    exact fin _ (by rw [if_pos hx, w64_of _ (by omega)])
  · rw [if_neg hx]
    exact fin _ (by rw [if_neg hx])

theorem ReadBool_eq (b : List UInt8) (at_ : Int) (hb : b.length ≤ 4611686018427387904) : codec_ReadBool b at_ = ref07_ReadBool b at_ := by
  unfold codec_ReadBool ref07_ReadBool
  rw [readByte_eq, Bind_some]
  simp only [cond_or, Bool.or_eq_true, decide_eq_true_eq, beq_iff_eq, Let_eq, bne_iff_ne]
  by_cases h1 : at_ < 0 ∨ (b.length : Int) < at_
  · rw [if_pos h1, if_pos h1]; rfl
  rw [if_neg h1, if_neg h1]
  by_cases h2 : at_ = b.length
  · rw [if_pos h2, if_pos h2]; rfl
  rw [if_neg h2, if_neg h2, Chk_of (by omega), Chk_of (by omega), if_neg (by simp)]

theorem ReadVec_eq (b : List UInt8) (at_ : Int) (hb : b.length ≤ 4611686018427387904) : codec_ReadVec b at_ = ref07_ReadVec b at_ := by
  unfold codec_ReadVec ref07_ReadVec
  simp only [codec_ReadInt_eq b _ hb, ref_ReadInt_eq b _ hb]

theorem ReadBool_some (b : List UInt8) (at_ : Int) (hb : b.length ≤ 4611686018427387904) : ∃ r, codec_ReadBool b at_ = some r := by
  unfold codec_ReadBool
  rw [readByte_eq, Bind_some]
  simp only [Let_eq]
  repeat' split
  all_goals first | exact ⟨_, rfl⟩ | (simp at *; done) | skip
theorem ReadVec_some (b : List UInt8) (at_ : Int) (hb : b.length ≤ 4611686018427387904) : ∃ r, codec_ReadVec b at_ = some r := by
  unfold codec_ReadVec
  simp only [codec_ReadInt_eq b _ hb, Bind_some, Let_eq]
  split <;> first | exact ⟨_, rfl⟩ | (split <;> exact ⟨_, rfl⟩)

theorem Vec.beq_self (x : Vec) : Vec.beq x x = true := by simp [Vec.beq]

theorem law07_CodecScalars_true (a0 : List UInt8) (a1 : Int) (_w0 : ((∀ a ∈ a0, True) ∧ (a0).length ≤ 9223372036854775807)) (_w1 : (IntKind.i64.min ≤ a1 ∧ a1 ≤ IntKind.i64.max)) : law07_CodecScalars a0 a1 = some true := by
  unfold law07_CodecScalars
  simp only [Let_eq]
  by_cases hs : law07_small a0 [] [] = true
  · have hb : a0.length ≤ 4611686018427387904 := by
      simp only [law07_small, Let_eq, cond_and, Bool.and_eq_true, decide_eq_true_eq] at hs; omega
    rw [if_neg (by simp [hs])]
    obtain ⟨rb, hrb⟩ := ReadBool_some a0 a1 hb
    obtain ⟨rv, hrv⟩ := ReadVec_some a0 a1 hb
    simp only [codec_ReadInt_eq a0 _ hb, ref_ReadInt_eq a0 _ hb, ← ReadBool_eq a0 _ hb, ← ReadVec_eq a0 _ hb, hrb, hrv, Bind_some, bne_self_eq_false, cond_or, Bool.or_self, Bool.false_eq_true, if_false]
    simp [Vec.beq_self, example_true]
  · rw [if_pos (by simpa using hs), example_true]; rfl
end GoOld
