/- The plain laws of chapter 7, the second part: what is appended is read back. No conditions. -/
import Derived.Test.YtnjcfajaigokdaaF07OP
set_option linter.all false
open Go Go.Rx
namespace GoOld

/-- The bytes of a number, the greatest first, no leading zero. -/
def digs (m : Nat) : List UInt8 := if h : m = 0 then [] else digs (m / 256) ++ [UInt8.ofNat (m % 256)]
termination_by m
decreasing_by omega

theorem digs_zero : digs 0 = [] := by rw [digs]; rfl
theorem digs_pos {m : Nat} (h : 0 < m) : digs m = digs (m / 256) ++ [UInt8.ofNat (m % 256)] := by rw [digs, dif_neg (by omega)]

theorem digs_len : ∀ (k m : Nat), m < 256 ^ k → (digs m).length ≤ k
  | 0, m, h => by have : m = 0 := by simpa using h
                  subst this; simp [digs_zero]
  | k + 1, m, h => by
    rcases Nat.eq_zero_or_pos m with rfl | hm
    · simp [digs_zero]
    · rw [digs_pos hm, List.length_append]
      have := digs_len k (m / 256) (by rw [Nat.pow_succ] at h; omega)
      simp; omega

theorem byte_nat (m : Nat) : (UInt8.ofNat (m % 256)).toNat = m % 256 := by
  have : (UInt8.ofNat (m % 256)).toNat = m % 256 % 256 := UInt8.toNat_ofNat'
  omega

theorem beF_snoc (l : List UInt8) (c : UInt8) : beF 0 (l ++ [c]) = beF 0 l * 256 + c.toNat := by unfold beF; rw [List.foldl_append]; rfl

theorem beF_digs : ∀ (m : Nat), beF 0 (digs m) = m := by
  intro m
  induction m using Nat.strongRecOn with
  | _ m ih =>
    rcases Nat.eq_zero_or_pos m with rfl | hm
    · rw [digs_zero]; rfl
    · rw [digs_pos hm, beF_snoc, ih (m / 256) (by omega), byte_nat]; omega

theorem digs_first : ∀ (m : Nat) (h : 0 < (digs m).length), (digs m)[0] ≠ 0 := by
  intro m
  induction m using Nat.strongRecOn with
  | _ m ih =>
    rcases Nat.eq_zero_or_pos m with rfl | hm
    · simp [digs_zero]
    · intro h
      have e := digs_pos hm
      by_cases h0 : m / 256 = 0
      · have : digs m = [UInt8.ofNat (m % 256)] := by rw [e, h0, digs_zero]; rfl
        simp only [this, List.getElem_cons_zero]
        intro hz
        have := congrArg UInt8.toNat hz
        rw [byte_nat] at this
        simp at this; omega
      · have hl : 0 < (digs (m / 256)).length := by
          rw [digs_pos (by omega)]; simp
        have := ih (m / 256) (by omega) hl
        have e2 : (digs m)[0] = (digs (m / 256))[0] := by
          have : (digs m)[0]? = (digs (m / 256))[0]? := by rw [e, List.getElem?_append_left hl]
          rw [List.getElem?_eq_getElem h, List.getElem?_eq_getElem hl] at this
          exact Option.some.inj this
        rw [e2]; exact this

theorem digs_pos_len {m : Nat} (h : 0 < m) : 0 < (digs m).length := by rw [digs_pos h]; simp

theorem snoc_ind {α : Type} {p : List α → Prop} (h0 : p []) (h1 : ∀ l c, p l → p (l ++ [c])) : ∀ l, p l := by
  intro l
  rw [← List.reverse_reverse l]
  generalize l.reverse = m
  induction m with
  | nil => exact h0
  | cons c m ih => rw [List.reverse_cons]; exact h1 _ _ ih
theorem pow8 : (256 : Nat) ^ 8 = 18446744073709551616 := by decide

/-- Digits that do not begin with zero are those of their number. -/
theorem digs_beF : ∀ (l : List UInt8), (∀ h : 0 < l.length, l[0] ≠ 0) → digs (beF 0 l).toNat = l := by
  refine snoc_ind ?_ ?_
  · intro _; show digs 0 = []; exact digs_zero
  · intro l c ih h0
    have hb := beF_bd l 0 (by omega)
    have hc := c.toNat_lt
    rw [beF_snoc]
    have hl0 : ∀ h : 0 < l.length, l[0] ≠ 0 := by
      intro h
      have := h0 (by simp)
      have e : (l ++ [c])[0]'(by simp) = l[0] := by rw [List.getElem_append_left h]
      rw [e] at this; exact this
    have hpos : 0 < beF 0 l * 256 + (c.toNat : Int) := by
      rcases Nat.eq_zero_or_pos l.length with h | h
      · have : l = [] := List.eq_nil_of_length_eq_zero h
        subst this
        have := h0 (by simp)
        simp at this
        have h2 : c.toNat ≠ 0 := fun h => this (UInt8.toNat_inj.1 (by simpa using h))
        show 0 < (0 : Int) * 256 + _
        omega
      · have := beF_pos l h (hl0 h)
        omega
    rw [digs_pos (by omega)]
    have e1 : (beF 0 l * 256 + (c.toNat : Int)).toNat / 256 = (beF 0 l).toNat := by omega
    have e2 : UInt8.ofNat ((beF 0 l * 256 + (c.toNat : Int)).toNat % 256) = c := by
      apply UInt8.toNat_inj.1
      rw [byte_nat]; omega
    rw [e1, e2, ih hl0]

theorem toByte_eq (m : Nat) : toByte (m : Int) = UInt8.ofNat (m % 256) := by unfold toByte; congr 1

theorem AppendInt_l1_eq (k : List UInt8 → Option (List UInt8)) : ∀ (n j : Nat) (acc : List UInt8) (m : Nat), m < 256 ^ j → j < n → acc.length + j ≤ 1000 → codec_AppendInt_l1 k n acc (m : Int) = k (digs m ++ acc)
  | 0, j, _, _, _, h, _ => by omega
  | n + 1, j, acc, m, hm, hj, hl => by
    unfold codec_AppendInt_l1
    rcases Nat.eq_zero_or_pos m with rfl | hp
    · rw [if_neg (by simp), digs_zero]; rfl
    · rw [if_pos (by simp; omega), Chk_of (by simp; omega), Let_eq, Let_eq]
      have e : bShr .u64 (m : Int) 8 = ((m / 256 : Nat) : Int) := by
        unfold bShr
        show (m : Int).fdiv (2 ^ 8) = _
        rw [Int.fdiv_eq_ediv_of_nonneg _ (by omega)]
        omega
      rw [e]
      cases j with
      | zero => simp at hm; omega
      | succ j =>
        rw [AppendInt_l1_eq k n j _ (m / 256) (by rw [Nat.pow_succ] at hm; omega) (by omega) (by simp; omega), digs_pos hp, toByte_eq]
        simp

/-- The encoding of an integer. -/
def encInt (n : Int) : List UInt8 := UInt8.ofNat ((digs n.natAbs).length + if n < 0 then 16 else 0) :: digs n.natAbs

theorem encInt_len (n : Int) (h : -9223372036854775808 ≤ n ∧ n ≤ 9223372036854775807) : (digs n.natAbs).length ≤ 8 := digs_len 8 _ (by rw [pow8]; omega)

theorem extend_eq (b more : List UInt8) (h : b.length + more.length ≤ 140737488355328) : codec_extend b more = some (b ++ more) := by
  unfold codec_extend; rw [Chk_of (by omega)]; rfl

theorem codec_AppendInt_eq (b : List UInt8) (n : Int) (hn : -9223372036854775808 ≤ n ∧ n ≤ 9223372036854775807) (hb : b.length ≤ 100000000000) : codec_AppendInt b n = some (b ++ encInt n) := by
  have hl := encInt_len n hn
  unfold codec_AppendInt
  rw [Let_eq, magnitude_eq n hn]
  have := AppendInt_l1_eq (codec_AppendInt_j3 b n) fuel 8 [] n.natAbs (by rw [pow8]; omega) (fuel_lt _ (by omega)) (by simp)
  rw [this, List.append_nil]
  unfold codec_AppendInt_j3
  have hd : (digs n.natAbs).length ≤ 8 := hl
  have fin : ∀ h : Nat, h ≤ 24 → codec_AppendInt_j2 b (digs n.natAbs) (h : Int) = some (b ++ UInt8.ofNat h :: digs n.natAbs) := by
    intro h hh
    unfold codec_AppendInt_j2
    rw [extend_eq b _ (by simp; omega), Bind_some, extend_eq _ _ (by simp; omega), Bind_some, toByte_eq]
    have : h % 256 = h := by omega
    rw [this]; simp
  unfold encInt
  by_cases h0 : n < 0
  · rw [if_pos (by simpa using h0), if_pos h0, Let_eq, w64_of _ (by omega)]
    exact fin ((digs n.natAbs).length + 16) (by omega)
  · rw [if_neg (by simpa using h0), if_neg h0]
    exact fin (digs n.natAbs).length (by omega)

theorem ix_app {α : Type} [Inhabited α] (a b : List α) (i : Nat) (h : i < b.length) : ix (a ++ b) ((a.length + i : Nat) : Int) = b[i] := by
  rw [ix_lt _ _ (by simp; omega), List.getElem_append_right (by omega)]
  simp

/-- What was appended is read back. -/
theorem rdInt_enc (b more : List UInt8) (n : Int) (hn : -9223372036854775808 ≤ n ∧ n ≤ 9223372036854775807) : rdInt (b ++ encInt n ++ more) b.length = (n, (b.length : Int) + ((encInt n).length : Int), 0) := by
  have hl := encInt_len n hn
  have hlen : (b ++ encInt n ++ more).length = b.length + 1 + (digs n.natAbs).length + more.length := by simp [encInt]; omega
  have h0 : ix (b ++ encInt n ++ more) (b.length : Int) = UInt8.ofNat ((digs n.natAbs).length + if n < 0 then 16 else 0) := by
    rw [List.append_assoc]
    have := ix_app b (encInt n ++ more) 0 (by simp [encInt])
    simpa [encInt] using this
  have hhd : (((ix (b ++ encInt n ++ more) (b.length : Int)).toNat : Nat) : Int) = (((digs n.natAbs).length : Int) + (if n < 0 then (16 : Int) else 0)) := by
    rw [h0]
    have : (UInt8.ofNat ((digs n.natAbs).length + if n < 0 then 16 else 0)).toNat = ((digs n.natAbs).length + if n < 0 then 16 else 0) % 256 := UInt8.toNat_ofNat'
    rw [this]; split <;> omega
  have hdrop : ((b ++ encInt n ++ more).drop (b.length + 1)).take (digs n.natAbs).length = digs n.natAbs := by
    have : b ++ encInt n ++ more = (b ++ [UInt8.ofNat ((digs n.natAbs).length + if n < 0 then 16 else 0)]) ++ (digs n.natAbs ++ more) := by simp [encInt]
    rw [this, List.drop_left' (by simp), List.take_left']
    rfl
  have hneg : n < 0 → 0 < n.natAbs := by omega
  have hsz : n < 0 → 0 < (digs n.natAbs).length := fun h => digs_pos_len (hneg h)
  have e1 : ((b.length : Int) + 1).toNat = b.length + 1 := by omega
  have hfirst : 0 < (digs n.natAbs).length → ix (b ++ encInt n ++ more) ((b.length : Int) + 1) ≠ 0 := by
    intro h
    have e2 : ix (b ++ encInt n ++ more) ((b.length : Int) + 1) = (digs n.natAbs)[0] := by
      have : b ++ encInt n ++ more = (b ++ [UInt8.ofNat ((digs n.natAbs).length + if n < 0 then 16 else 0)]) ++ (digs n.natAbs ++ more) := by simp [encInt]
      rw [this]
      have := ix_app (b ++ [UInt8.ofNat ((digs n.natAbs).length + if n < 0 then 16 else 0)]) (digs n.natAbs ++ more) 0 (by simp; omega)
      simp only [List.length_append, List.length_cons, List.length_nil, Nat.add_zero, Nat.zero_add] at this
      rw [List.getElem_append_left h] at this
      exact this
    rw [e2]; exact digs_first _ h
  unfold rdInt
  rw [if_neg (by omega), if_neg (by omega)]
  have hsize : (if (16 : Int) ≤ (((digs n.natAbs).length : Int) + (if n < 0 then (16 : Int) else 0)) then (((digs n.natAbs).length : Int) + (if n < 0 then (16 : Int) else 0)) - 16 else (((digs n.natAbs).length : Int) + (if n < 0 then (16 : Int) else 0))) = ((digs n.natAbs).length : Int) := by
    by_cases hn0 : n < 0
    · rw [if_pos hn0, if_pos (by omega)]; omega
    · rw [if_neg hn0, if_neg (by omega)]; omega
  simp only [hhd, e1, hsize]
  have e3 : ((digs n.natAbs).length : Int).toNat = (digs n.natAbs).length := by omega
  rw [e3, hdrop, beF_digs]
  have hle : (encInt n).length = (digs n.natAbs).length + 1 := by simp [encInt]
  by_cases hn0 : n < 0
  · rw [if_pos hn0, if_neg (by have := hsz hn0; omega), if_neg (by omega), if_neg, if_pos (by omega), hle]
    · refine Prod.ext (by simp only; omega) (Prod.ext (by simp only; omega) rfl)
    · rintro (⟨h, h'⟩ | ⟨h, -⟩ | ⟨-, h⟩)
      · exact hfirst (by omega) h'
      · omega
      · omega
  · rw [if_neg hn0, if_neg (by omega), if_neg (by omega), if_neg, if_neg (by omega), hle]
    · refine Prod.ext (by simp only; omega) (Prod.ext (by simp only; omega) rfl)
    · rintro (⟨h, h'⟩ | ⟨-, h⟩ | ⟨h, -⟩)
      · exact hfirst (by omega) h'
      · omega
      · omega

/-- What is read encodes to the bytes that it was read from. -/
theorem enc_rdInt (b : List UInt8) (at_ : Int) (h : (rdInt b at_).2.2 = 0) : 0 ≤ at_ ∧ at_ < (rdInt b at_).2.1 ∧ (rdInt b at_).2.1 ≤ b.length ∧ b.take at_.toNat ++ encInt (rdInt b at_).1 = b.take (rdInt b at_).2.1.toNat ∧
    -9223372036854775808 ≤ (rdInt b at_).1 ∧ (rdInt b at_).1 ≤ 9223372036854775807 := by
  unfold rdInt at h ⊢
  by_cases h1 : at_ < 0 ∨ (b.length : Int) < at_
  · rw [if_pos h1] at h; simp at h
  rw [if_neg h1] at h ⊢
  by_cases h2 : at_ = b.length
  · rw [if_pos h2] at h; simp at h
  rw [if_neg h2] at h ⊢
  obtain ⟨a, rfl⟩ := Int.eq_ofNat_of_zero_le (show 0 ≤ at_ by omega)
  have ha : a < b.length := by omega
  have hd := (ix b (a : Int)).toNat_lt
  have e1 : ((a : Int) + 1).toNat = a + 1 := by omega
  simp only [e1] at h ⊢
  generalize hz : (if (16 : Int) ≤ ((ix b (a : Int)).toNat : Int) then ((ix b (a : Int)).toNat : Int) - 16 else ((ix b (a : Int)).toNat : Int)) = z at h ⊢
  have hz0 : 0 ≤ z := by rw [← hz]; split <;> omega
  by_cases h8 : 8 < z ∨ ((ix b (a : Int)).toNat : Int) = 16
  · rw [if_pos h8] at h; simp at h
  rw [if_neg h8] at h ⊢
  by_cases h4 : (b.length : Int) - a - 1 < z
  · rw [if_pos h4] at h; simp at h
  rw [if_neg h4] at h ⊢
  obtain ⟨k, rfl⟩ := Int.eq_ofNat_of_zero_le hz0
  have e2 : (k : Int).toNat = k := by omega
  simp only [e2] at h ⊢
  have hlk : ((b.drop (a + 1)).take k).length = k := by rw [List.length_take, List.length_drop]; omega
  have hbd := beF_bd ((b.drop (a + 1)).take k) 0 (by omega)
  by_cases hc : (0 < (k : Int) ∧ ix b ((a : Int) + 1) = 0) ∨ (¬ (16 : Int) ≤ (ix b (a : Int)).toNat ∧ 9223372036854775807 < beF 0 ((b.drop (a + 1)).take k)) ∨ ((16 : Int) ≤ (ix b (a : Int)).toNat ∧ 9223372036854775808 < beF 0 ((b.drop (a + 1)).take k))
  · rw [if_pos hc] at h; simp at h
  rw [if_neg hc] at h ⊢
  have hfirst : ∀ hh : 0 < ((b.drop (a + 1)).take k).length, ((b.drop (a + 1)).take k)[0] ≠ 0 := by
    intro hh h0
    apply hc; left
    refine ⟨by omega, ?_⟩
    have : ix b ((a + 1 : Nat) : Int) = b[a + 1]'(by omega) := ix_lt b (a + 1) (by omega)
    rw [List.getElem_take, List.getElem_drop] at h0
    exact this.trans h0
  have hdig := digs_beF _ hfirst
  have hnabs : (if (16 : Int) ≤ ((ix b (a : Int)).toNat : Int) then -beF 0 ((b.drop (a + 1)).take k) else beF 0 ((b.drop (a + 1)).take k)).natAbs = (beF 0 ((b.drop (a + 1)).take k)).toNat := by
    split <;> omega
  have hneg : (if (16 : Int) ≤ ((ix b (a : Int)).toNat : Int) then -beF 0 ((b.drop (a + 1)).take k) else beF 0 ((b.drop (a + 1)).take k)) < 0 ↔ (16 : Int) ≤ ((ix b (a : Int)).toNat : Int) := by
    by_cases h16 : (16 : Int) ≤ ((ix b (a : Int)).toNat : Int)
    · rw [if_pos h16] at hz ⊢
      have := beF_pos _ (by rw [hlk]; omega) (hfirst (by rw [hlk]; omega))
      omega
    · rw [if_neg h16]; omega
  refine ⟨by omega, by simp only; omega, by simp only; omega, ?_, ?_⟩
  · have henc : encInt (if (16 : Int) ≤ ((ix b (a : Int)).toNat : Int) then -beF 0 ((b.drop (a + 1)).take k) else beF 0 ((b.drop (a + 1)).take k)) = b[a] :: (b.drop (a + 1)).take k := by
      unfold encInt
      rw [hnabs, hdig, hlk]
      congr 1
      apply UInt8.toNat_inj.1
      have e5 : (ix b (a : Int)) = b[a] := ix_lt b a ha
      rw [← e5]
      by_cases h16 : (16 : Int) ≤ ((ix b (a : Int)).toNat : Int)
      · rw [if_pos (hneg.2 h16)]
        rw [if_pos h16] at hz
        have : (UInt8.ofNat (k + 16)).toNat = (k + 16) % 256 := UInt8.toNat_ofNat'
        omega
      · rw [if_neg (fun h => h16 (hneg.1 h))]
        rw [if_neg h16] at hz
        have : (UInt8.ofNat (k + 0)).toNat = (k + 0) % 256 := UInt8.toNat_ofNat'
        omega
    rw [henc]
    have e6 : ((a : Int) + 1 + (k : Int)).toNat = a + (1 + k) := by omega
    simp only [e6, Int.toNat_natCast]
    rw [List.take_add, List.drop_eq_getElem_cons ha, Nat.add_comm 1 k, List.take_succ_cons]
  · simp only
    have hpw : (256 : Int) ^ ((b.drop (a + 1)).take k).length ≤ 18446744073709551616 := by
      rw [hlk]
      have : 256 ^ k ≤ 256 ^ 8 := Nat.pow_le_pow_right (by omega) (by omega)
      have h2 : ((256 ^ k : Nat) : Int) ≤ ((256 ^ 8 : Nat) : Int) := by exact_mod_cast this
      simpa using h2
    have hc2 : ¬ (¬ (16 : Int) ≤ (ix b (a : Int)).toNat ∧ 9223372036854775807 < beF 0 ((b.drop (a + 1)).take k)) := fun h => hc (.inr (.inl h))
    have hc3 : ¬ ((16 : Int) ≤ (ix b (a : Int)).toNat ∧ 9223372036854775808 < beF 0 ((b.drop (a + 1)).take k)) := fun h => hc (.inr (.inr h))
    split <;> omega
end GoOld
