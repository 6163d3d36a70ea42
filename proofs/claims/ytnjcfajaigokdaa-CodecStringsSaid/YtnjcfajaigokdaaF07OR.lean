/- The plain laws of chapter 7, the third part: slices of integers, strings, and the laws. No conditions. -/
import Derived.Test.YtnjcfajaigokdaaF07OQ
set_option linter.all false
open Go Go.Rx
namespace GoOld

def encInts (l : List Int) : List UInt8 := l.flatMap encInt
abbrev I64 (n : Int) : Prop := -9223372036854775808 ≤ n ∧ n ≤ 9223372036854775807

theorem encInt_le (n : Int) (h : I64 n) : (encInt n).length ≤ 9 := by
  have := encInt_len n h
  simp [encInt]; omega
theorem encInts_le : ∀ (l : List Int), (∀ n ∈ l, I64 n) → (encInts l).length ≤ 9 * l.length
  | [], _ => by simp [encInts]
  | n :: l, h => by
    have h1 := encInt_le n (h n (by simp))
    have h2 := encInts_le l fun m hm => h m (by simp [hm])
    simp only [encInts, List.flatMap_cons, List.length_append, List.length_cons] at h2 ⊢
    omega

theorem AppendInts_l1_eq (l : List Int) (hl : ∀ n ∈ l, I64 n) (hb : l.length ≤ 1000000) : ∀ (n i : Nat) (acc : List UInt8), i ≤ l.length → l.length - i < n → acc.length + 9 * (l.length - i) ≤ 100000000 →
    codec_AppendInts_l1 l codec_AppendInts_j2 n acc (i : Int) = some (acc ++ encInts (l.drop i))
  | 0, i, _, _, h, _ => by omega
  | n + 1, i, acc, hi, h, ha => by
    unfold codec_AppendInts_l1
    by_cases hlt : i < l.length
    · rw [if_pos (by simpa using hlt), Chk_of (by omega), Let_eq, ix_lt l i hlt, codec_AppendInt_eq _ _ (hl _ (List.getElem_mem hlt)) (by omega), Bind_some, Let_eq, w64_of _ (by omega)]
      have h9 := encInt_le l[i] (hl _ (List.getElem_mem hlt))
      have := AppendInts_l1_eq l hl hb n (i + 1) (acc ++ encInt l[i]) (by omega) (by omega) (by simp only [List.length_append]; omega)
      have e : encInts (l.drop i) = encInt l[i] ++ encInts (l.drop (i + 1)) := by unfold encInts; rw [List.drop_eq_getElem_cons hlt, List.flatMap_cons]
      rw [show ((i : Int) + 1) = ((i + 1 : Nat) : Int) from rfl, this, e, List.append_assoc]
    · rw [if_neg (by simpa using hlt), List.drop_of_length_le (by omega)]
      simp [encInts, codec_AppendInts_j2]

theorem codec_AppendInts_eq (b : List UInt8) (l : List Int) (hl : ∀ n ∈ l, I64 n) (hb : l.length ≤ 1000000) (hbb : b.length ≤ 10000000) : codec_AppendInts b l = some (b ++ encInt l.length ++ encInts l) := by
  unfold codec_AppendInts
  have h9 := encInt_le (l.length : Int) ⟨by omega, by omega⟩
  rw [codec_AppendInt_eq b _ ⟨by omega, by omega⟩ (by omega), Bind_some]
  exact AppendInts_l1_eq l hl hb fuel 0 _ (by omega) (fuel_lt _ (by omega)) (by simp only [List.length_append]; omega)

def rdLen (b : List UInt8) (at_ limit : Int) : Int × Int × Int :=
  if (rdInt b at_).2.2 ≠ 0 then (0, 0, (rdInt b at_).2.2) else if (rdInt b at_).1 < 0 then (0, 0, 3) else if max limit 0 < (rdInt b at_).1 then (0, 0, 5) else ((rdInt b at_).1, (rdInt b at_).2.1, 0)

theorem readLength_eq (b : List UInt8) (at_ limit : Int) (hb : b.length ≤ 4611686018427387904) : codec_readLength b at_ limit = some (rdLen b at_ limit) := by
  unfold codec_readLength rdLen
  rw [codec_ReadInt_eq b _ hb, Bind_some]
  simp only [Let_eq, bne_iff_ne, decide_eq_true_eq]
  repeat' split
  all_goals first | rfl | (simp_all; done)
theorem ref_length_eq (b : List UInt8) (at_ limit : Int) (hb : b.length ≤ 4611686018427387904) : ref07_length b at_ limit = some (rdLen b at_ limit) := by
  unfold ref07_length rdLen
  rw [ref_ReadInt_eq b _ hb, Bind_some]
  simp only [Let_eq, bne_iff_ne, decide_eq_true_eq]
  repeat' split
  all_goals first | rfl | (simp_all; done)

theorem ReadInts_l1_ref (b : List UInt8) (hb : b.length ≤ 4611686018427387904) (r : Int × Int × Int) : ∀ (n : Nat) (at_ : Int) (acc : List Int) (i : Int), codec_ReadInts_l1 b r codec_ReadInts_j2 n at_ acc i = ref07_ReadInts_l1 b r ref07_ReadInts_j2 n at_ acc i
  | 0, _, _, _ => rfl
  | n + 1, at_, acc, i => by
    unfold codec_ReadInts_l1 ref07_ReadInts_l1
    simp only [codec_ReadInt_eq b _ hb, ref_ReadInt_eq b _ hb, Bind_some, Let_eq, ReadInts_l1_ref b hb r n]
    rfl
theorem ReadInts_ref (b : List UInt8) (at_ limit : Int) (hb : b.length ≤ 4611686018427387904) : codec_ReadInts b at_ limit = ref07_ReadInts b at_ limit := by
  unfold codec_ReadInts ref07_ReadInts
  simp only [readLength_eq b _ _ hb, ref_length_eq b _ _ hb, Bind_some, ReadInts_l1_ref b hb]

/-- The loop of ReadInts ends, and what it reads encodes to what it read. -/
theorem ReadInts_l1_some (b : List UInt8) (hb : b.length ≤ 1000000) (r : Int × Int × Int) (hr : I64 r.1) : ∀ (n a : Nat) (acc : List Int) (i : Nat), acc.length = i → i ≤ a → a ≤ b.length → b.length - a < n → (i : Int) ≤ r.1 →
    ∃ q, codec_ReadInts_l1 b r codec_ReadInts_j2 n (a : Int) acc (i : Int) = some q ∧ q.1.length ≤ b.length ∧ (q.2.2 = 0 → ∃ l, q.1 = acc ++ l ∧ (l.length : Int) = r.1 - i ∧ (a : Int) ≤ q.2.1 ∧ q.2.1 ≤ b.length ∧ b.take a ++ encInts l = b.take q.2.1.toNat ∧ ∀ n ∈ l, I64 n)
  | 0, a, acc, i, _, _, _, h, _ => by omega
  | n + 1, a, acc, i, hi, hia, ha, h, hir => by
    unfold codec_ReadInts_l1
    by_cases hlt : (i : Int) < r.1
    · rw [if_pos (by simpa using hlt), codec_ReadInt_eq b _ (by omega), Bind_some]
      by_cases he : (rdInt b (a : Int)).2.2 = 0
      · obtain ⟨h1, h2, h3, h4, h5, h6⟩ := enc_rdInt b a he
        rw [if_neg (by simp [he]), Chk_of (by simp; omega), Let_eq, Let_eq, w64_of _ (by obtain ⟨_, _⟩ := hr; omega)]
        obtain ⟨a2, ha2⟩ := Int.eq_ofNat_of_zero_le (show 0 ≤ (rdInt b (a : Int)).2.1 by omega)
        obtain ⟨q, hq, hlen, hp⟩ := ReadInts_l1_some b hb r hr n a2 (acc ++ [(rdInt b (a : Int)).1]) (i + 1) (by simp [hi]) (by omega) (by omega) (by omega) (by omega)
        refine ⟨q, ?_, hlen, ?_⟩
        · rw [ha2]; exact hq
        · intro hq0
          obtain ⟨l, g1, g2, g3, g4, g5, g6⟩ := hp hq0
          refine ⟨(rdInt b (a : Int)).1 :: l, by rw [g1]; simp, by simp; omega, by omega, g4, ?_, ?_⟩
          · rw [← g5]
            simp only [encInts, List.flatMap_cons] at h4 ⊢
            rw [← List.append_assoc]
            congr 1
            have e1 : (a : Int).toNat = a := by omega
            have e2 : (rdInt b (a : Int)).2.1.toNat = a2 := by omega
            rw [e1, e2] at h4
            exact h4
          · intro m hm
            rcases List.mem_cons.1 hm with rfl | hm
            · exact ⟨h5, h6⟩
            · exact g6 m hm
      · rw [if_pos (by simpa using he)]
        exact ⟨_, rfl, by simp, fun h0 => absurd h0 he⟩
    · rw [if_neg (by simpa using hlt)]
      refine ⟨_, rfl, by simp; omega, fun _ => ⟨[], by simp, by simp; omega, by simp, by simp; omega, by simp [encInts], by simp⟩⟩

/-- ReadInts ends, and what it reads encodes to what it read. -/
theorem ReadInts_some (b : List UInt8) (at_ limit : Int) (hb : b.length ≤ 1000000) : ∃ q, codec_ReadInts b at_ limit = some q ∧ q.1.length ≤ b.length ∧ (q.2.2 = 0 → 0 ≤ at_ ∧ at_ < q.2.1 ∧ q.2.1 ≤ b.length ∧ b.take at_.toNat ++ encInt q.1.length ++ encInts q.1 = b.take q.2.1.toNat ∧
    (∀ n ∈ q.1, I64 n) ∧ (q.1.length : Int) ≤ max limit 0) := by
  unfold codec_ReadInts
  rw [readLength_eq b _ _ (by omega), Bind_some]
  by_cases he : (rdLen b at_ limit).2.2 = 0
  · rw [if_neg (by simp [he])]
    have h0 : (rdInt b at_).2.2 = 0 := by
      unfold rdLen at he
      by_cases h : (rdInt b at_).2.2 ≠ 0
      · rw [if_pos h] at he; exact he
      · exact Decidable.not_not.1 h
    obtain ⟨h1, h2, h3, h4, h5, h6⟩ := enc_rdInt b at_ h0
    have hl : rdLen b at_ limit = ((rdInt b at_).1, (rdInt b at_).2.1, 0) ∧ 0 ≤ (rdInt b at_).1 ∧ (rdInt b at_).1 ≤ max limit 0 := by
      unfold rdLen at he ⊢
      rw [if_neg (by simpa using h0)] at he ⊢
      by_cases g1 : (rdInt b at_).1 < 0
      · rw [if_pos g1] at he; simp at he
      · rw [if_neg g1] at he ⊢
        by_cases g2 : max limit 0 < (rdInt b at_).1
        · rw [if_pos g2] at he; simp at he
        · rw [if_neg g2]; exact ⟨rfl, by omega, by omega⟩
    rw [hl.1]
    obtain ⟨a2, ha2⟩ := Int.eq_ofNat_of_zero_le (show 0 ≤ (rdInt b at_).2.1 by omega)
    obtain ⟨q, hq, hln, hp⟩ := ReadInts_l1_some b hb ((rdInt b at_).1, (rdInt b at_).2.1, 0) ⟨h5, h6⟩ fuel a2 [] 0 rfl (by omega) (by omega) (fuel_lt _ (by omega)) hl.2.1
    refine ⟨q, ?_, hln, ?_⟩
    · rw [← hq]; simp only [ha2]; rfl
    · intro hq0
      obtain ⟨l, g1, g2, g3, g4, g5, g6⟩ := hp hq0
      simp only [List.nil_append] at g1
      subst g1
      have hlen : (q.1.length : Int) = (rdInt b at_).1 := by simpa using g2
      refine ⟨h1, by omega, g4, ?_, g6, by rw [hlen]; exact hl.2.2⟩
      rw [hlen, h4, ha2, ← g5]; rfl
  · rw [if_pos (by simpa using he)]
    exact ⟨_, rfl, by simp, fun h0 => absurd h0 he⟩

theorem Ints_l1_self (a : List Int) (ha : a.length ≤ 1000000) : ∀ (n i : Nat), i ≤ a.length → a.length - i < n → ref07_Ints_l1 a a ref07_Ints_j2 n (i : Int) = some true
  | 0, _, _, h => by omega
  | n + 1, i, hi, h => by
    unfold ref07_Ints_l1
    by_cases hlt : i < a.length
    · rw [if_pos (by simpa using hlt), Chk_of (by omega), Chk_of (by omega), if_neg (by simp), Let_eq, w64_of _ (by omega)]
      exact Ints_l1_self a ha n (i + 1) (by omega) (by omega)
    · rw [if_neg (by simpa using hlt)]; rfl
theorem Ints_self (a : List Int) (ha : a.length ≤ 1000000) : ref07_Ints a a = some true := by
  unfold ref07_Ints
  rw [if_neg (by simp)]
  exact Ints_l1_self a ha fuel 0 (by omega) (fuel_lt _ (by omega))

theorem ReadInts_l1_enc (hd : List UInt8) (more : List UInt8) (hm : more.length ≤ 1000000) (r : Int × Int × Int) : ∀ (l : List Int) (n : Nat) (pre : List UInt8) (acc : List Int) (i : Nat), pre.length + 9 * l.length ≤ 1000000 → (∀ n ∈ l, I64 n) → l.length < n → r.1 = i + l.length → acc.length = i → i + l.length ≤ 1000000 →
    codec_ReadInts_l1 (pre ++ encInts l ++ more) r codec_ReadInts_j2 n (pre.length : Int) acc (i : Int) = some (acc ++ l, ((pre ++ encInts l).length : Int), 0)
  | [], 0, _, _, _, _, _, h, _, _, _ => by simp at h
  | [], n + 1, pre, acc, i, _, _, _, hr, ha, _ => by
    unfold codec_ReadInts_l1
    rw [if_neg (by simp [hr])]
    simp [codec_ReadInts_j2, encInts]
  | m :: l, 0, _, _, _, _, _, h, _, _, _ => by simp at h
  | m :: l, n + 1, pre, acc, i, hp, hl, hn, hr, ha, hi => by
    have h9 := encInts_le (m :: l) hl
    simp only [List.length_cons] at hp hn hr h9 hi
    unfold codec_ReadInts_l1
    rw [if_pos (by simp; omega), codec_ReadInt_eq _ _ (by simp only [List.length_append]; omega), Bind_some]
    have e : pre ++ encInts (m :: l) ++ more = pre ++ encInt m ++ (encInts l ++ more) := by simp [encInts]
    have h1 := rdInt_enc pre (encInts l ++ more) m (hl m (by simp))
    rw [← e] at h1
    rw [h1]
    have e2 : pre ++ encInts (m :: l) ++ more = (pre ++ encInt m) ++ encInts l ++ more := by simp [encInts]
    have h8 := encInt_le m (hl m (by simp))
    have ih := ReadInts_l1_enc hd more hm r l n (pre ++ encInt m) (acc ++ [m]) (i + 1) (by simp only [List.length_append]; omega) (fun x hx => hl x (by simp [hx])) (by omega) (by omega) (by simp [ha]) (by omega)
    rw [if_neg (by simp), Chk_of (by simp; omega), Let_eq, Let_eq, w64_of _ (by omega), e2]
    simp only [List.length_append] at ih ⊢
    have e3 : ((pre.length : Int) + ((encInt m).length : Int)) = ((pre.length + (encInt m).length : Nat) : Int) := by omega
    rw [e3]
    have e4 : (i : Int) + 1 = ((i + 1 : Nat) : Int) := by omega
    rw [e4, ih]
    simp [encInts]; omega

theorem ReadInts_enc (b more : List UInt8) (l : List Int) (limit : Int) (hl : ∀ n ∈ l, I64 n) (hs : b.length ≤ 10000) (hk : l.length ≤ 10000) (hm : more.length ≤ 1000000) (hlim : (l.length : Int) ≤ limit) :
    codec_ReadInts (b ++ encInt l.length ++ encInts l ++ more) b.length limit = some (l, ((b ++ encInt l.length ++ encInts l).length : Int), 0) := by
  have h9 := encInts_le l hl
  have h8 := encInt_le (l.length : Int) ⟨by omega, by omega⟩
  unfold codec_ReadInts
  have e : b ++ encInt l.length ++ encInts l ++ more = b ++ encInt l.length ++ (encInts l ++ more) := by simp
  have h1 := rdInt_enc b (encInts l ++ more) l.length ⟨by omega, by omega⟩
  rw [← e] at h1
  rw [readLength_eq _ _ _ (by simp only [List.length_append]; omega), Bind_some]
  have h2 : rdLen (b ++ encInt l.length ++ encInts l ++ more) b.length limit = ((l.length : Int), (b.length : Int) + ((encInt (l.length : Int)).length : Int), 0) := by
    unfold rdLen
    rw [h1]
    rw [if_neg (by simp), if_neg (by simp only; omega), if_neg (by simp only; omega)]
  rw [h2, if_neg (by simp)]
  have h3 := ReadInts_l1_enc [] more hm ((l.length : Int), (b.length : Int) + ((encInt (l.length : Int)).length : Int), 0) l fuel (b ++ encInt l.length) [] 0 (by simp only [List.length_append]; omega) hl (fuel_lt _ (by omega)) (by simp) rfl (by omega)
  have e3 : (((b ++ encInt (l.length : Int)).length : Nat) : Int) = (b.length : Int) + ((encInt (l.length : Int)).length : Int) := by simp
  rw [e3] at h3
  exact h3

theorem AppendBool_eq (b : List UInt8) (x : Bool) (h : b.length ≤ 1000000) : codec_AppendBool b x = some (b ++ [if x then 1 else 0]) := by
  unfold codec_AppendBool
  cases x
  · rw [if_neg (by simp), extend_eq _ _ (by simp; omega)]; rfl
  · rw [if_pos rfl, extend_eq _ _ (by simp; omega)]; rfl
theorem AppendVec_eq (b : List UInt8) (v : Vec) (h : b.length ≤ 1000000) (hx : I64 v.X) (hy : I64 v.Y) : codec_AppendVec b v = some (b ++ encInt v.X ++ encInt v.Y) := by
  have := encInt_le v.X hx
  unfold codec_AppendVec
  rw [codec_AppendInt_eq _ _ hx (by omega), Bind_some, codec_AppendInt_eq _ _ hy (by simp only [List.length_append]; omega)]; rfl

theorem ReadBool_enc (b more : List UInt8) (x : Bool) (h : b.length ≤ 1000000) : codec_ReadBool (b ++ [if x then 1 else 0] ++ more) b.length = some (x, (b.length : Int) + 1, 0) := by
  unfold codec_ReadBool
  rw [readByte_eq, if_neg (by simp; omega), if_neg (by simp; omega), Bind_some]
  have : ix (b ++ [if x then (1 : UInt8) else 0] ++ more) (b.length : Int) = if x then 1 else 0 := by
    rw [List.append_assoc]
    have := ix_app b ([if x then (1 : UInt8) else 0] ++ more) 0 (by simp)
    simpa using this
  rw [this]
  simp only [Let_eq]
  rw [w64_of _ (by omega)]
  cases x <;> rfl
theorem ReadVec_enc (b more : List UInt8) (v : Vec) (h : b.length ≤ 1000000) (hm : more.length ≤ 1000000) (hx : I64 v.X) (hy : I64 v.Y) : codec_ReadVec (b ++ encInt v.X ++ encInt v.Y ++ more) b.length = some (v, ((b ++ encInt v.X ++ encInt v.Y).length : Int), 0) := by
  have h1 := encInt_le v.X hx
  have h2 := encInt_le v.Y hy
  unfold codec_ReadVec
  have hl : (b ++ encInt v.X ++ encInt v.Y ++ more).length ≤ 4611686018427387904 := by simp only [List.length_append]; omega
  simp only [codec_ReadInt_eq _ _ hl, Bind_some, Let_eq]
  have e1 := rdInt_enc b (encInt v.Y ++ more) v.X hx
  rw [show b ++ encInt v.X ++ (encInt v.Y ++ more) = b ++ encInt v.X ++ encInt v.Y ++ more by simp] at e1
  rw [e1]
  have e2 := rdInt_enc (b ++ encInt v.X) more v.Y hy
  simp only [List.length_append] at e2
  rw [show (b.length : Int) + ((encInt v.X).length : Int) = ((b.length + (encInt v.X).length : Nat) : Int) by omega]
  simp only [e2]
  simp; omega

theorem small_eq (b s : List UInt8) (l : List Int) : law07_small b s l = (decide ((b.length : Int) ≤ 2000) && decide ((s.length : Int) ≤ 500) && decide ((l.length : Int) ≤ 100)) := by
  simp only [law07_small, Let_eq, cond_and]

theorem law07_CodecRoundTrip_true (a0 : List UInt8) (a1 : Int) (a2 : Bool) (a3 : List Int) (a4 : List UInt8) (_w0 : ((∀ a ∈ a0, True) ∧ (a0).length ≤ 9223372036854775807)) (w1 : (IntKind.i64.min ≤ a1 ∧ a1 ≤ IntKind.i64.max)) (_w2 : True) (w3 : ((∀ a ∈ a3, (IntKind.i64.min ≤ a ∧ a ≤ IntKind.i64.max)) ∧ (a3).length ≤ 9223372036854775807)) (_w4 : ((∀ a ∈ a4, True) ∧ (a4).length ≤ 9223372036854775807)) : law07_CodecRoundTrip a0 a1 a2 a3 a4 = some true := by
  unfold law07_CodecRoundTrip
  rw [Let_eq, small_eq]
  by_cases hs : (cond (!(decide ((a0.length : Int) ≤ 2000) && decide ((([] : List UInt8).length : Int) ≤ 500) && decide ((a3.length : Int) ≤ 100))) true (decide (2000 < (a4.length : Int)))) = true
  · rw [if_pos hs, example_true]; rfl
  rw [if_neg hs]
  simp only [cond_or, Bool.or_eq_true, Bool.not_eq_true', Bool.and_eq_false_iff, decide_eq_false_iff_not, decide_eq_true_eq, not_or, Int.not_lt] at hs
  obtain ⟨hs1, hm⟩ := hs
  have hb : a0.length ≤ 2000 := by omega
  have hl : a3.length ≤ 100 := by omega
  have h3 : ∀ n ∈ a3, I64 n := fun n hn => by have := w3.1 n hn; rw [i64_min, i64_max] at this; exact this
  have h1 : I64 a1 := by rw [i64_min, i64_max] at w1; exact w1
  have hv : I64 (a0.length : Int) := ⟨by omega, by omega⟩
  have n1 := encInt_le a1 h1
  have n2 := encInt_le (a0.length : Int) hv
  have n3 := encInts_le a3 h3
  have n4 := encInt_le (a3.length : Int) ⟨by omega, by omega⟩
  rw [Let_eq, codec_AppendInt_eq _ _ h1 (by omega), Bind_some, Chk_of (by simp only [List.length_append]; omega), Let_eq, AppendBool_eq _ _ (by omega), Bind_some, Chk_of (by simp only [List.length_append, List.length_cons, List.length_nil]; omega), Let_eq,
    codec_AppendInts_eq _ _ h3 (by omega) (by omega), Bind_some, Chk_of (by simp only [List.length_append]; omega), Let_eq, AppendVec_eq _ ⟨a1, (a0.length : Int)⟩ (by omega) h1 hv, Bind_some, Chk_of (by simp only [List.length_append]; omega), Let_eq,
    codec_ReadInt_eq _ _ (by simp only [List.length_append]; omega), Bind_some, rdInt_enc _ _ _ h1, Let_eq, ReadBool_enc _ _ _ (by omega), Bind_some, ReadInts_enc _ _ _ _ h3 (by omega) (by omega) (by omega) (by omega), Bind_some, Ints_self _ (by simp only; omega), Bind_some, Let_eq,
    ReadVec_enc _ _ ⟨a1, (a0.length : Int)⟩ (by omega) (by omega) h1 hv, Bind_some, Let_eq, Let_eq]
  have x1 : w64 (((a0 ++ encInt a1 ++ a4).length : Int) - (a4.length : Int)) = (a0.length : Int) + ((encInt a1).length : Int) := by rw [w64_of _ (by simp only [List.length_append]; omega)]; simp only [List.length_append]; omega
  have x2 : w64 ((a0.length : Int) + 1) = (a0.length : Int) + 1 := w64_of _ (by omega)
  have x3 : w64 (((a0 ++ encInt a3.length ++ encInts a3 ++ a4).length : Int) - (a4.length : Int)) = ((a0 ++ encInt a3.length ++ encInts a3).length : Int) := by rw [w64_of _ (by simp only [List.length_append]; omega)]; simp only [List.length_append]; omega
  have x4 : w64 (((a0 ++ encInt a1 ++ encInt (a0.length : Int) ++ a4).length : Int) - (a4.length : Int)) = ((a0 ++ encInt a1 ++ encInt (a0.length : Int)).length : Int) := by rw [w64_of _ (by simp only [List.length_append]; omega)]; simp only [List.length_append]; omega
  simp only [x1, x2, x3, x4]
  simp [Vec.beq, example_true, cond_or, cond_and]

theorem abs_eq (n : Int) (h : I64 n) : ref07_abs n = n.natAbs := by
  unfold ref07_abs
  obtain ⟨h1, h2⟩ := h
  simp only [Let_eq, decide_eq_true_eq, u64_eq]
  split
  · rw [w64_of (n + 1) (by omega), w64_of (0 - (n + 1)) (by omega)]; omega
  · omega

theorem toByte_mod (m : Nat) : toByte (Int.tmod (m : Int) 256) = UInt8.ofNat (m % 256) := by
  have : Int.tmod (m : Int) 256 = ((m % 256 : Nat) : Int) := by
    rw [Int.tmod_eq_emod_of_nonneg (by omega)]; omega
  rw [this, toByte_eq]; congr 1; omega

theorem ref_AppendInt_l1_eq (k : List UInt8 → Option (List UInt8)) : ∀ (n j : Nat) (acc : List UInt8) (m : Nat), m < 256 ^ j → m < 18446744073709551616 → j < n → acc.length + j ≤ 1000 → ref07_AppendInt_l1 k n acc (m : Int) = k (digs m ++ acc)
  | 0, j, _, _, _, _, h, _ => by omega
  | n + 1, j, acc, m, hm, h64, hj, hl => by
    unfold ref07_AppendInt_l1
    rcases Nat.eq_zero_or_pos m with rfl | hp
    · rw [if_neg (by simp), digs_zero]; rfl
    · rw [if_pos (by simp; omega), Chk_of (by simp; omega), Let_eq, Let_eq]
      have e : IntKind.u64.wrap (Int.tdiv (m : Int) 256) = ((m / 256 : Nat) : Int) := by
        rw [u64_eq, Int.tdiv_eq_ediv_of_nonneg (by omega)]; omega
      rw [e]
      cases j with
      | zero => simp at hm; omega
      | succ j =>
        rw [ref_AppendInt_l1_eq k n j _ (m / 256) (by rw [Nat.pow_succ] at hm; omega) (by omega) (by omega) (by simp; omega), digs_pos hp, toByte_mod]
        simp

theorem ref_AppendInt_eq (b : List UInt8) (n : Int) (hn : I64 n) (hb : b.length ≤ 100000000000) : ref07_AppendInt b n = some (b ++ encInt n) := by
  have hl := encInt_len n hn
  unfold ref07_AppendInt
  rw [Let_eq, abs_eq n hn]
  have := ref_AppendInt_l1_eq (ref07_AppendInt_j3 b n) fuel 8 [] n.natAbs (by rw [pow8]; obtain ⟨_, _⟩ := hn; omega) (by obtain ⟨_, _⟩ := hn; omega) (fuel_lt _ (by omega)) (by simp)
  rw [this, List.append_nil]
  unfold ref07_AppendInt_j3
  have fin : ∀ h : UInt8, ref07_AppendInt_j2 b (digs n.natAbs) h = some (b ++ h :: digs n.natAbs) := by
    intro h
    unfold ref07_AppendInt_j2
    rw [Chk_of (by simp; omega), Let_eq, Chk_of (by simp; omega), Let_eq, Chk_of (by simp; omega), Let_eq]
    simp
  have e0 : toByte ((digs n.natAbs).length : Int) = UInt8.ofNat (digs n.natAbs).length := by rw [toByte_eq]; congr 1; omega
  rw [Let_eq, e0]
  unfold encInt
  by_cases h0 : n < 0
  · rw [if_pos (by simpa using h0), if_pos h0, Let_eq, fin]
    have : UInt8.ofNat (digs n.natAbs).length + 16 = UInt8.ofNat ((digs n.natAbs).length + 16) := by
      rw [UInt8.ofNat_add]; rfl
    rw [this]
  · rw [if_neg (by simpa using h0), if_neg h0, fin]
    rfl

theorem ref_AppendInts_l1_eq (l : List Int) (hl : ∀ n ∈ l, I64 n) (hb : l.length ≤ 1000000) : ∀ (n i : Nat) (acc : List UInt8), i ≤ l.length → l.length - i < n → acc.length + 9 * (l.length - i) ≤ 100000000 →
    ref07_AppendInts_l1 l ref07_AppendInts_j2 n acc (i : Int) = some (acc ++ encInts (l.drop i))
  | 0, i, _, _, h, _ => by omega
  | n + 1, i, acc, hi, h, ha => by
    unfold ref07_AppendInts_l1
    by_cases hlt : i < l.length
    · have h9 := encInt_le l[i] (hl _ (List.getElem_mem hlt))
      rw [if_pos (by simpa using hlt), Chk_of (by omega), ix_lt l i hlt, ref_AppendInt_eq _ _ (hl _ (List.getElem_mem hlt)) (by simp), Bind_some, List.nil_append, Chk_of (by omega), Let_eq, Let_eq, w64_of _ (by omega)]
      have := ref_AppendInts_l1_eq l hl hb n (i + 1) (acc ++ encInt l[i]) (by omega) (by omega) (by simp only [List.length_append]; omega)
      have e : encInts (l.drop i) = encInt l[i] ++ encInts (l.drop (i + 1)) := by unfold encInts; rw [List.drop_eq_getElem_cons hlt, List.flatMap_cons]
      rw [show ((i : Int) + 1) = ((i + 1 : Nat) : Int) from rfl, this, e, List.append_assoc]
    · rw [if_neg (by simpa using hlt), List.drop_of_length_le (by omega)]
      simp [encInts, ref07_AppendInts_j2]
theorem ref_AppendInts_eq (b : List UInt8) (l : List Int) (hl : ∀ n ∈ l, I64 n) (hb : l.length ≤ 1000000) (hbb : b.length ≤ 10000000) : ref07_AppendInts b l = some (b ++ encInt l.length ++ encInts l) := by
  unfold ref07_AppendInts
  have h9 := encInt_le (l.length : Int) ⟨by omega, by omega⟩
  rw [ref_AppendInt_eq b _ ⟨by omega, by omega⟩ (by omega), Bind_some]
  exact ref_AppendInts_l1_eq l hl hb fuel 0 _ (by omega) (fuel_lt _ (by omega)) (by simp only [List.length_append]; omega)

theorem law07_CodecSlices_true (a0 : List UInt8) (a1 : Int) (a2 : Int) (a3 : List Int) (_w0 : ((∀ a ∈ a0, True) ∧ (a0).length ≤ 9223372036854775807)) (_w1 : (IntKind.i64.min ≤ a1 ∧ a1 ≤ IntKind.i64.max)) (_w2 : (IntKind.i64.min ≤ a2 ∧ a2 ≤ IntKind.i64.max)) (w3 : ((∀ a ∈ a3, (IntKind.i64.min ≤ a ∧ a ≤ IntKind.i64.max)) ∧ (a3).length ≤ 9223372036854775807)) : law07_CodecSlices a0 a1 a2 a3 = some true := by
  unfold law07_CodecSlices
  rw [Let_eq, small_eq]
  by_cases hs : (!(decide ((a0.length : Int) ≤ 2000) && decide ((([] : List UInt8).length : Int) ≤ 500) && decide ((a3.length : Int) ≤ 100))) = true
  · rw [if_pos hs, example_true]; rfl
  rw [if_neg hs]
  simp only [Bool.not_eq_true', Bool.and_eq_false_iff, decide_eq_false_iff_not, not_or, Int.not_lt, Decidable.not_not] at hs
  have h3 : ∀ n ∈ a3, I64 n := fun n hn => by have := w3.1 n hn; rw [i64_min, i64_max] at this; exact this
  obtain ⟨q, hq, hlen, -⟩ := ReadInts_some a0 a1 a2 (by omega)
  rw [← ReadInts_ref a0 a1 a2 (by omega), hq]
  simp only [Bind_some, Ints_self q.1 (by omega), codec_AppendInts_eq a0 a3 h3 (by omega) (by omega), ref_AppendInts_eq a0 a3 h3 (by omega) (by omega)]
  simp [example_true]

theorem AppendString_eq (b t : List UInt8) (hb : b.length ≤ 1000000) (ht : t.length ≤ 1000000) : codec_AppendString b t = some (b ++ encInt t.length ++ t) := by
  have h9 := encInt_le (t.length : Int) ⟨by omega, by omega⟩
  unfold codec_AppendString
  rw [codec_AppendInt_eq _ _ ⟨by omega, by omega⟩ (by omega), Bind_some, extend_eq _ _ (by simp only [List.length_append]; omega)]; rfl

/-- A string as it is read. -/
def rdStr (b : List UInt8) (at_ limit : Int) : List UInt8 × Int × Int :=
  if (rdLen b at_ limit).2.2 ≠ 0 then ([], 0, (rdLen b at_ limit).2.2) else if (b.length : Int) - (rdLen b at_ limit).2.1 < (rdLen b at_ limit).1 then ([], 0, 4)
  else ((b.drop (rdLen b at_ limit).2.1.toNat).take (rdLen b at_ limit).1.toNat, (rdLen b at_ limit).2.1 + (rdLen b at_ limit).1, 0)

theorem rdLen_in {b : List UInt8} {at_ limit : Int} (h : (rdLen b at_ limit).2.2 = 0) : 0 ≤ at_ ∧ at_ < (rdLen b at_ limit).2.1 ∧ (rdLen b at_ limit).2.1 ≤ b.length ∧ 0 ≤ (rdLen b at_ limit).1 ∧ (rdLen b at_ limit).1 ≤ max limit 0 ∧ I64 (rdLen b at_ limit).1 ∧
    b.take at_.toNat ++ encInt (rdLen b at_ limit).1 = b.take (rdLen b at_ limit).2.1.toNat := by
  have h0 : (rdInt b at_).2.2 = 0 := by
    unfold rdLen at h
    by_cases h' : (rdInt b at_).2.2 ≠ 0
    · rw [if_pos h'] at h; exact h
    · exact Decidable.not_not.1 h'
  obtain ⟨h1, h2, h3, h4, h5, h6⟩ := enc_rdInt b at_ h0
  unfold rdLen at h ⊢
  rw [if_neg (by simpa using h0)] at h ⊢
  by_cases g1 : (rdInt b at_).1 < 0
  · rw [if_pos g1] at h; simp at h
  · rw [if_neg g1] at h ⊢
    by_cases g2 : max limit 0 < (rdInt b at_).1
    · rw [if_pos g2] at h; simp at h
    · rw [if_neg g2]; exact ⟨h1, h2, h3, by simp only; omega, by simp only; omega, ⟨h5, h6⟩, h4⟩

theorem ReadString_eq (b : List UInt8) (at_ limit : Int) (hb : b.length ≤ 1000000) : codec_ReadString b at_ limit = some (rdStr b at_ limit) := by
  unfold codec_ReadString rdStr
  rw [readLength_eq _ _ _ (by omega), Bind_some]
  simp only [Let_eq, bne_iff_ne, decide_eq_true_eq]
  by_cases h : (rdLen b at_ limit).2.2 ≠ 0
  · rw [if_pos h, if_pos h]
  rw [if_neg h, if_neg h]
  obtain ⟨h1, h2, h3, h4, h5, ⟨h6, h6'⟩, -⟩ := rdLen_in (Decidable.not_not.1 h)
  rw [w64_of ((b.length : Int) - _) (by omega)]
  by_cases h7 : (b.length : Int) - (rdLen b at_ limit).2.1 < (rdLen b at_ limit).1
  · rw [if_pos h7, if_pos h7]
  · rw [if_neg h7, if_neg h7, w64_of _ (by omega), Chk_of (by omega)]
    have : ((rdLen b at_ limit).2.1 + (rdLen b at_ limit).1).toNat - (rdLen b at_ limit).2.1.toNat = (rdLen b at_ limit).1.toNat := by omega
    rw [this]

theorem rdStr_in {b : List UInt8} {at_ limit : Int} (h : (rdStr b at_ limit).2.2 = 0) : 0 ≤ at_ ∧ at_ < (rdStr b at_ limit).2.1 ∧ (rdStr b at_ limit).2.1 ≤ b.length ∧ ((rdStr b at_ limit).1.length : Int) ≤ max limit 0 ∧
    b.take at_.toNat ++ encInt (rdStr b at_ limit).1.length ++ (rdStr b at_ limit).1 = b.take (rdStr b at_ limit).2.1.toNat := by
  have h0 : (rdLen b at_ limit).2.2 = 0 := by
    unfold rdStr at h
    by_cases h' : (rdLen b at_ limit).2.2 ≠ 0
    · rw [if_pos h'] at h; exact h
    · exact Decidable.not_not.1 h'
  obtain ⟨h1, h2, h3, h4, h5, -, h7⟩ := rdLen_in h0
  unfold rdStr at h ⊢
  rw [if_neg (by simpa using h0)] at h ⊢
  by_cases g1 : (b.length : Int) - (rdLen b at_ limit).2.1 < (rdLen b at_ limit).1
  · rw [if_pos g1] at h; simp at h
  rw [if_neg g1]
  have hl : ((b.drop (rdLen b at_ limit).2.1.toNat).take (rdLen b at_ limit).1.toNat).length = (rdLen b at_ limit).1.toNat := by rw [List.length_take, List.length_drop]; omega
  have hl2 : (((b.drop (rdLen b at_ limit).2.1.toNat).take (rdLen b at_ limit).1.toNat).length : Int) = (rdLen b at_ limit).1 := by rw [hl]; omega
  refine ⟨h1, by simp only; omega, by simp only; omega, by simp only; omega, ?_⟩
  simp only [hl2]
  rw [h7]
  have : ((rdLen b at_ limit).2.1 + (rdLen b at_ limit).1).toNat = (rdLen b at_ limit).2.1.toNat + (rdLen b at_ limit).1.toNat := by omega
  rw [this, List.take_add]

/-- One check of the law: what was read is appended again. -/
theorem uniq_step {α : Type} [Inhabited (List UInt8)] (b : List UInt8) (at_ to e : Int) (app : Option (List UInt8)) (K : Option α) (bad : Option α) (h : e = 0 → 0 ≤ at_ ∧ at_ < to ∧ to ≤ b.length ∧ app = some (b.take to.toNat)) :
    (Chk ((((e == 0) == true) && ((bif decide (to ≤ at_) then true else decide ((b.length : Int) < to)) == false)) = true → 0 ≤ at_ ∧ at_ ≤ (b.length : Int)) <|
    Bind (if (((e == 0) == true) && ((bif decide (to ≤ at_) then true else decide ((b.length : Int) < to)) == false)) = true then app else some default) fun r =>
    Chk ((((e == 0) == true) && ((bif decide (to ≤ at_) then true else decide ((b.length : Int) < to)) == false)) = true → 0 ≤ to ∧ to ≤ (b.length : Int)) <|
    if (bif e == 0 then (bif (bif decide (to ≤ at_) then true else decide ((b.length : Int) < to)) then true else (r != b.take to.toNat)) else false) = true then bad else K) = K := by
  by_cases he : e = 0
  · obtain ⟨h1, h2, h3, h4⟩ := h he
    have e1 : (bif decide (to ≤ at_) then true else decide ((b.length : Int) < to)) = false := by
      rw [decide_eq_false (by omega), decide_eq_false (by omega)]; rfl
    rw [e1, he, Chk_of (by intro _; omega), if_pos (by rfl), h4, Bind_some, Chk_of (by intro _; omega), if_neg (by simp)]
  · have e0 : (e == 0) = false := by simpa using he
    rw [e0, Chk_of (by intro h; simp at h), if_neg (by simp), Bind_some, Chk_of (by intro h; simp at h), if_neg (by simp)]

theorem law07_CodecUnique_true (a0 : List UInt8) (a1 : Int) (_w0 : ((∀ a ∈ a0, True) ∧ (a0).length ≤ 9223372036854775807)) (_w1 : (IntKind.i64.min ≤ a1 ∧ a1 ≤ IntKind.i64.max)) : law07_CodecUnique a0 a1 = some true := by
  unfold law07_CodecUnique
  rw [Let_eq, small_eq]
  by_cases hs : (!(decide ((a0.length : Int) ≤ 2000) && decide ((([] : List UInt8).length : Int) ≤ 500) && decide ((([] : List Int).length : Int) ≤ 100))) = true
  · rw [if_pos hs, example_true]; rfl
  rw [if_neg hs]
  simp only [Bool.not_eq_true', Bool.and_eq_false_iff, decide_eq_false_iff_not, not_or, Int.not_lt, Decidable.not_not] at hs
  have hb : a0.length ≤ 2000 := by omega
  have htk : (a0.take a1.toNat).length ≤ 2000 := by rw [List.length_take]; omega
  obtain ⟨q, hq, hlen, hqp⟩ := ReadInts_some a0 a1 3000 (by omega)
  rw [codec_ReadInt_eq _ _ (by omega), Bind_some, uniq_step a0 a1 _ _ _ _ _ (fun he => ?_), ReadString_eq _ _ _ (by omega), Bind_some, uniq_step a0 a1 _ _ _ _ _ (fun he => ?_), hq, Bind_some, uniq_step a0 a1 _ _ _ _ _ (fun he => ?_), example_true]
  · rfl
  · obtain ⟨h1, h2, h3, h4, h5, h6⟩ := hqp he
    exact ⟨h1, h2, h3, by rw [codec_AppendInts_eq _ _ h5 (by omega) (by omega), h4]⟩
  · obtain ⟨h1, h2, h3, h4, h5⟩ := rdStr_in he
    exact ⟨h1, h2, h3, by rw [AppendString_eq _ _ (by omega) (by omega), h5]⟩
  · obtain ⟨h1, h2, h3, h4, h5, h6⟩ := enc_rdInt a0 a1 he
    exact ⟨h1, h2, h3, by rw [codec_AppendInt_eq _ _ ⟨h5, h6⟩ (by omega), h4]⟩
end GoOld
