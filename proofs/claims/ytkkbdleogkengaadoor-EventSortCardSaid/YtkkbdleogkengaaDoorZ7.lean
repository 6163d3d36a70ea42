/- slices.symMergeCmpFunc at events, where no part is of one element; the left part is the longer. No conditions. -/
import Derived.Test.YtkkbdleogkengaaDoorZA
import Derived.Test.YtkkbdleogkengaaDoorZA
set_option linter.all false
namespace Go.Srt
open Go Go.Proofs Go.Shelf Go.RowKit Go.Lib Go.Sort
variable {α : Type} [Inhabited α]
set_option maxHeartbeats 8000000 in
set_option maxRecDepth 1000000 in
theorem symGb (enc : α → List Value) (k : Nat) (zk : k = 5) (cf : α → α → Int) (hO : SWO (ltOf cf)) (g : Nat) (eg : ∀ args w, (callFunc g args).run Tryd.prog w = .ok (.enter g args) w) (hcmp : Cmp Tryd.prog g enc cf) (blk off cap : Nat) (w0 : World) (R : RX enc k w0 blk) (N : Nat) (ih : ∀ (a m b : Nat) (d : Array α) (w : World), b - a < N → SX enc k w0 blk off d w → a < m → m < b → b ≤ d.size → d.size < 4611686018427387904 → SortedIn (ltOf cf) a m d → SortedIn (ltOf cf) m b d →
      Calls Tryd.prog 70 #[.slice (some ⟨blk, off, none⟩) d.size cap, .int .i64 a, .int .i64 m, .int .i64 b, .func (.func g) #[] #[]] w fun e w' => e = .returned (.tuple #[]) ∧ ∃ F, SX enc k w0 blk off F w' ∧ PermIn a b d F ∧ SortedIn (ltOf cf) a b F) (a m b : Nat) (d : Array α) (w : World) (hN : b - a < N + 1) (S : SX enc k w0 blk off d w) (ham : a < m) (hmb : m < b) (hb : b ≤ d.size) (hsz : d.size < 4611686018427387904) (hs1 : SortedIn (ltOf cf) a m d) (hs2 : SortedIn (ltOf cf) m b d) (c1 : ¬ m - a = 1) (c2 : ¬ b - m = 1) (cbig : (a + b) / 2 < m) :
    Calls Tryd.prog 70 #[.slice (some ⟨blk, off, none⟩) d.size cap, .int .i64 a, .int .i64 m, .int .i64 b, .func (.func g) #[] #[]] w fun e w' => e = .returned (.tuple #[]) ∧ ∃ F, SX enc k w0 blk off F w' ∧ PermIn a b d F ∧ SortedIn (ltOf cf) a b F := by
  have mixed : Tryd.prog.follows .mixedOrders = true := by kernel_rfl
  have t3 := Tryd.underlying3; have a3 := Tryd.isAgg3; have z3 := Tryd.sizeOf3; have v3 := Tryd.zeroValue3
  have t4 := Tryd.underlying4; have a4 := Tryd.isAgg4; have z4 := Tryd.sizeOf4; have v4 := Tryd.zeroValue4
  have t39 := Tryd.underlying39; have a39 := Tryd.isAgg39; have z39 := Tryd.sizeOf39; have v39 := Tryd.zeroValue39
  have t68 := Tryd.underlying68; have a68 := Tryd.isAgg68; have z68 := Tryd.sizeOf68; have v68 := Tryd.zeroValue68
  have t114 := Tryd.underlying114; have a114 := Tryd.isAgg114; have z114 := Tryd.sizeOf114; have v114 := Tryd.zeroValue114
  have aE := Tryd.isAgg26
  have zE : ∀ w, (Go.sizeOf 26).run Tryd.prog w = .ok k w := by rw [zk]; exact Tryd.sizeOf26
  have e70 := Tryd.call70
  have e77 := Tryd.call77
  have RO : Aside (∀ (a m b : Nat) (d : Array α) (w : World), SX enc k w0 blk off d w → a < m → m < b → b ≤ d.size → d.size < 4611686018427387904 → Calls Tryd.prog 77 #[.slice (some ⟨blk, off, none⟩) d.size cap, .int .i64 a, .int .i64 m, .int .i64 b, .func (.func g) #[] #[]] w fun e w' => e = .returned (.tuple #[]) ∧ ∃ F, SX enc k w0 blk off F w' ∧ RotIn a m b d F ∧ PermIn a b d F) :=
    fun a m b d w S h1 h2 h3 h4 => rotate enc k zk g blk off cap a m b d w0 w R S h1 h2 h3 h4
  have IH : Aside (∀ (a m b : Nat) (d : Array α) (w : World), b - a < N → SX enc k w0 blk off d w → a < m → m < b → b ≤ d.size → d.size < 4611686018427387904 → SortedIn (ltOf cf) a m d → SortedIn (ltOf cf) m b d →
      Calls Tryd.prog 70 #[.slice (some ⟨blk, off, none⟩) d.size cap, .int .i64 a, .int .i64 m, .int .i64 b, .func (.func g) #[] #[]] w fun e w' => e = .returned (.tuple #[]) ∧ ∃ F, SX enc k w0 blk off F w' ∧ PermIn a b d F ∧ SortedIn (ltOf cf) a b F) := ih
  clear ih
  have HC : Aside (Cmp Tryd.prog g enc cf) := hcmp
  clear hcmp zk
  have S0 : Aside (SX enc k w0 blk off d w) := S
  have Q1 : Aside (SortedIn (ltOf cf) a m d) := hs1
  have Q2 : Aside (SortedIn (ltOf cf) m b d) := hs2
  clear S hs1 hs2
  go_enter Tryd.func70, Tryd.ntmps70
  generalize Tryd.prog = P at *
  have q1 : ¬ IntKind.i64.wrap ((m : Int) - (a : Int)) = 1 := by rw [IntKind.wrap_i64]; omega
  have q1b : ((m : Int) - (a : Int) == 1) = false := by rw [beq_eq_false_iff_ne]; omega
  have q2 : ¬ IntKind.i64.wrap ((b : Int) - (m : Int)) = 1 := by rw [IntKind.wrap_i64]; omega
  have q2b : ((b : Int) - (m : Int) == 1) = false := by rw [beq_eq_false_iff_ne]; omega
  obtain ⟨mid, hmid⟩ : ∃ mid, mid = (a + b) / 2 := ⟨_, rfl⟩
  have wmid : ((a : Int) + (b : Int)) / 2 = ((mid : Nat) : Int) := by omega
  obtain ⟨n, hn⟩ : ∃ n, n = mid + m := ⟨_, rfl⟩
  have wn : IntKind.i64.wrap (((mid : Nat) : Int) + (m : Int)) = ((n : Nat) : Int) := by rw [IntKind.wrap_i64]; omega
  obtain ⟨p, hp⟩ : ∃ p, p = n - 1 := ⟨_, rfl⟩
  have wn' : ((mid : Nat) : Int) + (m : Int) = ((n : Nat) : Int) := by omega
  have w2_n : IntKind.i64.wrap ((n : Nat) : Int) = ((n : Nat) : Int) := by rw [IntKind.wrap_i64]; omega
  have wpp' : ((n : Nat) : Int) - 1 = ((p : Nat) : Int) := by omega
  have w2_p : IntKind.i64.wrap ((p : Nat) : Int) = ((p : Nat) : Int) := by rw [IntKind.wrap_i64]; omega
  have wpp : IntKind.i64.wrap (((n : Nat) : Int) - 1) = ((p : Nat) : Int) := by rw [IntKind.wrap_i64]; omega
  have hmd1 : 2 * mid ≤ a + b := by omega
  have hmd2 : a + b ≤ 2 * mid + 1 := by omega
  have hn1 : n ≤ mid + m := by omega
  have hn2 : mid + m ≤ n := by omega
  have hp1 : p ≤ n - 1 := by omega
  have hp2 : n - 1 ≤ p := by omega
  have HN : Hid (n = mid + m) := hn
  have cbig : mid < m := by omega
  clear hmid hn hp
  have g1 : (m : Int) > ((mid : Nat) : Int) := by omega
  have g2 : ((mid : Nat) : Int) < (m : Int) := by omega
  obtain ⟨s0, hs0⟩ : ∃ s0, s0 = n - b := ⟨_, rfl⟩
  have ws0 : IntKind.i64.wrap (((n : Nat) : Int) - (b : Int)) = ((s0 : Nat) : Int) := by rw [IntKind.wrap_i64]; omega
  have ws0' : ((n : Nat) : Int) - (b : Int) = ((s0 : Nat) : Int) := by omega
  have w2_s0 : IntKind.i64.wrap ((s0 : Nat) : Int) = ((s0 : Nat) : Int) := by rw [IntKind.wrap_i64]; omega
  obtain ⟨r0, hr0⟩ : ∃ r0, r0 = mid := ⟨_, rfl⟩
  have K1 : a ≤ s0 := by omega
  have K2 : s0 ≤ r0 := by omega
  have K3 : r0 ≤ m := by omega
  have K4 : r0 ≤ mid := by omega
  have K5 : n - 1 - s0 < b := by omega
  have K6 : s0 = a ∨ s0 + b = n := by omega
  have K7 : r0 = mid ∨ r0 = m := by omega
  have HS0 : Hid (s0 = n - b) := hs0
  have HR0 : Hid (r0 = mid) := hr0
  have hs02 : s0 ≤ n - b := by omega
  have hs03 : n - b ≤ s0 := by omega
  have hr02 : r0 ≤ mid := by omega
  have hr03 : mid ≤ r0 := by omega
  clear hs0 hr0
  go_wp2
  go_loopg [20, 21] (r0 - s0) (fun kx s20 s21 wr => ∃ s r : Nat, s20 = .int .i64 s ∧ s21 = .int .i64 r ∧ s0 ≤ s ∧ s ≤ r ∧ r ≤ r0 ∧ r - s ≤ kx ∧ Aside (SX enc k w0 blk off d wr) ∧ Aside ((∀ t, s0 ≤ t → t < s → ltOf cf d[n - 1 - t]! d[t]! = false) ∧ (∀ t, r ≤ t → t < r0 → ltOf cf d[n - 1 - t]! d[t]! = true)))
  case atStart => exact ⟨s0, mid, rfl, rfl, by omega, by omega, by omega, by omega, S0, (⟨fun t h1 h2 => by omega, fun t h1 h2 => by omega⟩ : (∀ t, s0 ≤ t → t < s0 → ltOf cf d[n - 1 - t]! d[t]! = false) ∧ (∀ t, mid ≤ t → t < r0 → ltOf cf d[n - 1 - t]! d[t]! = true))⟩
  case round =>
    clear S0
    obtain ⟨s, r, rfl, rfl, hss, hsr, hrr, hkx, S1, I⟩ := hrel
    by_cases hlt : s < r
    · have hltz : (s : Int) < (r : Int) := by omega
      obtain ⟨c, hc⟩ : ∃ c, c = (s + r) / 2 := ⟨_, rfl⟩
      have wc : ((s : Int) + (r : Int)) / 2 = ((c : Nat) : Int) := by omega
      have h1 : s ≤ c := by omega
      have h2 : c < r := by omega
      have wc1 : IntKind.i64.wrap (((c : Nat) : Int) + 1) = ((c + 1 : Nat) : Int) := by rw [IntKind.wrap_i64]; omega
      obtain ⟨pc, hpc⟩ : ∃ pc, pc = n - 1 - c := ⟨_, rfl⟩
      have wpc : IntKind.i64.wrap (((p : Nat) : Int) - ((c : Nat) : Int)) = ((pc : Nat) : Int) := by rw [IntKind.wrap_i64]; omega
      have wpc' : ((p : Nat) : Int) - ((c : Nat) : Int) = ((pc : Nat) : Int) := by omega
      have w2_pc : IntKind.i64.wrap ((pc : Nat) : Int) = ((pc : Nat) : Int) := by rw [IntKind.wrap_i64]; omega
      have hpc1 : pc ≤ n - 1 - c := by omega
      have hpc2 : n - 1 - c ≤ pc := by omega
      have HPC : Hid (n - 1 - c = pc) := hpc.symm
      clear hc hpc
      have e_c : ((c : Nat) : Int).toNat = c := by omega
      have p_c : (0 : Int) ≤ ((c : Nat) : Int) := by omega
      have b_c : ((c : Nat) : Int) < (d.size : Int) := by omega
      have e_pc : ((pc : Nat) : Int).toNat = pc := by omega
      have p_pc : (0 : Int) ≤ ((pc : Nat) : Int) := by omega
      have b_pc : ((pc : Nat) : Int) < (d.size : Int) := by omega
      obtain ⟨xx, hxx⟩ : ∃ v, d[pc]! = v := ⟨_, rfl⟩
      obtain ⟨yy, hyy⟩ : ∃ v, d[c]! = v := ⟨_, rfl⟩
      have lx : ∀ p : WP enc k w0 blk off d, Sem.run P (loadCellsFrom ⟨blk, off + pc * k, none⟩ 0 k #[]) p.w = .ok (enc xx).toArray p.w := fun p => by rw [← hxx]; exact SX.ld R P pc (by omega) p
      have ly : ∀ p : WP enc k w0 blk off d, Sem.run P (loadCellsFrom ⟨blk, off + c * k, none⟩ 0 k #[]) p.w = .ok (enc yy).toArray p.w := fun p => by rw [← hyy]; exact SX.ld R P c (by omega) p
      have hcg : ∀ p : WP enc k w0 blk off d, Calls P g #[.agg (enc xx).toArray, .agg (enc yy).toArray] p.w fun e w' => e = .returned (.int .i64 (cf xx yy)) ∧ ∃ q : WP enc k w0 blk off d, w' = q.w := HC.out.at R xx yy
      have LV : Hid (ltOf cf d[pc]! d[c]! = decide (cf xx yy < 0)) := by rw [hxx, hyy]; exact rfl
      clear hxx hyy

      by_cases hlv : cf xx yy < 0
      · have L1 : Hid (ltOf cf d[n - 1 - c]! d[c]! = true) := by have := LV.out; rw [decide_eq_true hlv] at this; rw [HPC.out]; exact this
        clear LV
        go_wp2_with fail
        have ne : Nonempty (WP enc k w0 blk off d) := ⟨⟨_, S1.out⟩⟩
        refine wp_region_wp mixed (by kernel_rfl) S1.out ?_
        clear S1
        repeat (quiet_step ((go_at_fn g; exact hcg _)))
        refine wpQuiet_nil ?_
        intro wq hw'
        obtain ⟨pq, hw''⟩ := hw'
        have S2 : Aside (SX enc k w0 blk off d wq) := by rw [hw'']; exact pq.h
        clear hw'' pq ne lx ly hcg

        go_wp2
        go_roundg (c - s)
        case measure => omega
        case rel =>
          exact ⟨s, c, rfl, by go_num, hss, h1, by omega, Nat.le_refl _, S2, (⟨I.out.1, fun t h3 h4 => search_hi hO Q1.out Q2.out h3 h4 (by omega) K3 (by omega) (by omega) L1.out⟩ : (∀ t, s0 ≤ t → t < s → ltOf cf d[n - 1 - t]! d[t]! = false) ∧ (∀ t, c ≤ t → t < r0 → ltOf cf d[n - 1 - t]! d[t]! = true))⟩
      · have L1 : Hid (ltOf cf d[n - 1 - c]! d[c]! = false) := by have := LV.out; rw [decide_eq_false hlv] at this; rw [HPC.out]; exact this
        have hlv0 : 0 ≤ cf xx yy := by omega
        have hlv1 : decide (cf xx yy < 0) = false := decide_eq_false hlv
        clear LV
        go_wp2_with fail
        have ne : Nonempty (WP enc k w0 blk off d) := ⟨⟨_, S1.out⟩⟩
        refine wp_region_wp mixed (by kernel_rfl) S1.out ?_
        clear S1
        repeat (quiet_step ((go_at_fn g; exact hcg _)))
        refine wpQuiet_nil ?_
        intro wq hw'
        obtain ⟨pq, hw''⟩ := hw'
        have S2 : Aside (SX enc k w0 blk off d wq) := by rw [hw'']; exact pq.h
        clear hw'' pq ne lx ly hcg

        go_wp2
        go_roundg (r - (c + 1))
        case measure => omega
        case rel =>
          exact ⟨c + 1, r, by go_num, rfl, by omega, by omega, hrr, Nat.le_refl _, S2, (⟨fun t h3 h4 => search_lo hO Q1.out Q2.out h3 (by omega) K1 (by omega) K5 (by omega) L1.out, I.out.2⟩ : (∀ t, s0 ≤ t → t < c + 1 → ltOf cf d[n - 1 - t]! d[t]! = false) ∧ (∀ t, r ≤ t → t < r0 → ltOf cf d[n - 1 - t]! d[t]! = true))⟩
    · obtain rfl : r = s := by omega
      have hltz : ¬ (r : Int) < (r : Int) := by omega
      obtain ⟨s, hs⟩ : ∃ s, s = r := ⟨_, rfl⟩
      rw [← hs] at hss hrr hltz I ⊢
      clear hsr hlt
      obtain ⟨e, he⟩ : ∃ e, e = n - s := ⟨_, rfl⟩
      have we : IntKind.i64.wrap (((n : Nat) : Int) - ((s : Nat) : Int)) = ((e : Nat) : Int) := by rw [IntKind.wrap_i64]; omega
      have we' : ((n : Nat) : Int) - ((s : Nat) : Int) = ((e : Nat) : Int) := by omega
      have w2_e : IntKind.i64.wrap ((e : Nat) : Int) = ((e : Nat) : Int) := by rw [IntKind.wrap_i64]; omega
      have CU : Aside (∀ F1, RotIn s m e d F1 → Cut (ltOf cf) a s mid e b F1) := fun F1 hF => cut_of hO HN.out he Q1.out Q2.out K1 hss hrr K3 K4 K5 K6 K7 I.out.1 I.out.2 hmb hF
      have E1 : mid ≤ e := by omega
      have E2 : m ≤ e := by omega
      have E3 : e ≤ b := by omega
      have E4 : s < m → mid < e := by omega
      have E5 : m < e → s < mid := by omega
      have E6 : ¬ s < m → ¬ mid < e := by omega
      have E7 : ¬ m < e → ¬ s < mid := by omega
      have he1 : e + s ≤ n := by omega
      have he2 : n ≤ e + s := by omega
      clear I he hs hltz K5 K6 K7 hkx
      by_cases d1 : s < m
      · by_cases d2 : m < e
        · by_cases d3 : a < s
          · by_cases d4 : e < b
            · have u1z : ((s : Nat) : Int) < ((m : Nat) : Int) := by omega
              have u1d : decide (((s : Nat) : Int) < ((m : Nat) : Int)) = true := decide_eq_true u1z
              have u2z : ((m : Nat) : Int) < ((e : Nat) : Int) := by omega
              have u2d : decide (((m : Nat) : Int) < ((e : Nat) : Int)) = true := decide_eq_true u2z
              have u3z : ((a : Nat) : Int) < ((s : Nat) : Int) := by omega
              have u3d : decide (((a : Nat) : Int) < ((s : Nat) : Int)) = true := decide_eq_true u3z
              have u4z : ((s : Nat) : Int) < ((mid : Nat) : Int) := by omega
              have u4d : decide (((s : Nat) : Int) < ((mid : Nat) : Int)) = true := decide_eq_true u4z
              have u5z : ((mid : Nat) : Int) < ((e : Nat) : Int) := by omega
              have u5d : decide (((mid : Nat) : Int) < ((e : Nat) : Int)) = true := decide_eq_true u5z
              have u6z : ((e : Nat) : Int) < ((b : Nat) : Int) := by omega
              have u6d : decide (((e : Nat) : Int) < ((b : Nat) : Int)) = true := decide_eq_true u6z
              have hc := RO.out s m e d wr S1.out d1 d2 (by omega) hsz
              clear S1
              go_wp2_with (go_at_call 77; refine hc.mono ?_; rintro _ w1 ⟨rfl, F1, hS1, hR1, hP1⟩)
              have T1 : Aside (SX enc k w0 blk off F1 w1) := hS1
              have z1 : Aside (F1.size = d.size) := hR1.1
              have CC : Aside (Cut (ltOf cf) a s mid e b F1) := CU.out F1 hR1
              have HP1 : Aside (PermIn a b d F1) := permIn_mono _ _ s e a b (by omega) (by omega) hb hP1
              clear hS1 hR1 hP1 hc
              have hc := IH.out a s mid F1 w1 (by omega) T1.out d3 (by omega) (by have := z1.out; omega) (by have := z1.out; omega) CC.out.r1 CC.out.r2
              rw [z1.out] at hc
              clear T1
              go_wp2_with (go_at_call_of 70 (Value.int .i64 ((a : Nat) : Int)); refine hc.mono ?_; rintro _ w2 ⟨rfl, F2, hS2, hP2, hT2⟩)
              have T2 : Aside (SX enc k w0 blk off F2 w2) := hS2
              have HP2 : Aside (PermIn a mid F1 F2) := hP2
              have HT2 : Aside (SortedIn (ltOf cf) a mid F2) := hT2
              have z2 : Aside (F2.size = d.size) := hP2.1.trans z1.out
              clear hS2 hP2 hT2 hc
              have r3 : SortedIn (ltOf cf) mid e F2 := fun x y h1 h2 h3 => by rw [HP2.out.2.1 x (by omega), HP2.out.2.1 y (by omega)]; exact CC.out.r3 x y h1 h2 h3
              have r4 : SortedIn (ltOf cf) e b F2 := fun x y h1 h2 h3 => by rw [HP2.out.2.1 x (by omega), HP2.out.2.1 y (by omega)]; exact CC.out.r4 x y h1 h2 h3
              have hc := IH.out mid e b F2 w2 (by omega) T2.out (by omega) d4 (by have := z2.out; omega) (by have := z2.out; omega) r3 r4
              rw [z2.out] at hc
              clear T2 r3 r4
              go_wp2_with (go_at_call_of 70 (Value.int .i64 ((mid : Nat) : Int)); refine hc.mono ?_; rintro _ w3 ⟨rfl, F3, hS3, hP3, hT3⟩)
              go_end0
              exact ⟨rfl, F3, hS3, permIn_trans _ _ _ _ _ HP1.out (permIn_trans _ _ _ _ _ (permIn_mono _ _ a mid a b (Nat.le_refl _) (by omega) (by have := z1.out; omega) HP2.out) (permIn_mono _ _ mid b a b (by omega) (Nat.le_refl _) (by have := z2.out; omega) hP3)), cut_done hO CC.out (by have := z1.out; omega) (by omega) (by omega) HP2.out HT2.out hP3 hT3⟩
            · have u1z : ((s : Nat) : Int) < ((m : Nat) : Int) := by omega
              have u1d : decide (((s : Nat) : Int) < ((m : Nat) : Int)) = true := decide_eq_true u1z
              have u2z : ((m : Nat) : Int) < ((e : Nat) : Int) := by omega
              have u2d : decide (((m : Nat) : Int) < ((e : Nat) : Int)) = true := decide_eq_true u2z
              have u3z : ((a : Nat) : Int) < ((s : Nat) : Int) := by omega
              have u3d : decide (((a : Nat) : Int) < ((s : Nat) : Int)) = true := decide_eq_true u3z
              have u4z : ((s : Nat) : Int) < ((mid : Nat) : Int) := by omega
              have u4d : decide (((s : Nat) : Int) < ((mid : Nat) : Int)) = true := decide_eq_true u4z
              have u5z : ((mid : Nat) : Int) < ((e : Nat) : Int) := by omega
              have u5d : decide (((mid : Nat) : Int) < ((e : Nat) : Int)) = true := decide_eq_true u5z
              have u6z : ¬ ((e : Nat) : Int) < ((b : Nat) : Int) := by omega
              have u6d : decide (((e : Nat) : Int) < ((b : Nat) : Int)) = false := decide_eq_false u6z
              have u6l : ((b : Nat) : Int) ≤ ((e : Nat) : Int) := by omega
              have hc := RO.out s m e d wr S1.out d1 d2 (by omega) hsz
              clear S1
              go_wp2_with (go_at_call 77; refine hc.mono ?_; rintro _ w1 ⟨rfl, F1, hS1, hR1, hP1⟩)
              have T1 : Aside (SX enc k w0 blk off F1 w1) := hS1
              have z1 : Aside (F1.size = d.size) := hR1.1
              have CC : Aside (Cut (ltOf cf) a s mid e b F1) := CU.out F1 hR1
              have HP1 : Aside (PermIn a b d F1) := permIn_mono _ _ s e a b (by omega) (by omega) hb hP1
              clear hS1 hR1 hP1 hc
              have hc := IH.out a s mid F1 w1 (by omega) T1.out d3 (by omega) (by have := z1.out; omega) (by have := z1.out; omega) CC.out.r1 CC.out.r2
              rw [z1.out] at hc
              clear T1
              go_wp2_with (go_at_call_of 70 (Value.int .i64 ((a : Nat) : Int)); refine hc.mono ?_; rintro _ w2 ⟨rfl, F2, hS2, hP2, hT2⟩)
              have T2 : Aside (SX enc k w0 blk off F2 w2) := hS2
              have HP2 : Aside (PermIn a mid F1 F2) := hP2
              have HT2 : Aside (SortedIn (ltOf cf) a mid F2) := hT2
              have z2 : Aside (F2.size = d.size) := hP2.1.trans z1.out
              clear hS2 hP2 hT2 hc
              have r34 : SortedIn (ltOf cf) mid b F1 := by have e1 : e = b := (by omega); rw [e1] at CC; exact CC.out.r3
              have r34' : SortedIn (ltOf cf) mid b F2 := fun x y h1 h2 h3 => by rw [HP2.out.2.1 x (by omega), HP2.out.2.1 y (by omega)]; exact r34 x y h1 h2 h3
              have R34 : Aside (SortedIn (ltOf cf) mid b F2) := r34'
              clear r34 r34'
              go_end0
              exact ⟨rfl, F2, T2.out, permIn_trans _ _ _ _ _ HP1.out (permIn_mono _ _ a mid a b (Nat.le_refl _) (by omega) (by have := z1.out; omega) HP2.out), cut_done hO CC.out (by have := z1.out; omega) (by omega) (by omega) HP2.out HT2.out (permIn_refl _ _ _) R34.out⟩
          · by_cases d4 : e < b
            · have u1z : ((s : Nat) : Int) < ((m : Nat) : Int) := by omega
              have u1d : decide (((s : Nat) : Int) < ((m : Nat) : Int)) = true := decide_eq_true u1z
              have u2z : ((m : Nat) : Int) < ((e : Nat) : Int) := by omega
              have u2d : decide (((m : Nat) : Int) < ((e : Nat) : Int)) = true := decide_eq_true u2z
              have u3z : ¬ ((a : Nat) : Int) < ((s : Nat) : Int) := by omega
              have u3d : decide (((a : Nat) : Int) < ((s : Nat) : Int)) = false := decide_eq_false u3z
              have u3l : ((s : Nat) : Int) ≤ ((a : Nat) : Int) := by omega
              have u4z : ((s : Nat) : Int) < ((mid : Nat) : Int) := by omega
              have u4d : decide (((s : Nat) : Int) < ((mid : Nat) : Int)) = true := decide_eq_true u4z
              have u5z : ((mid : Nat) : Int) < ((e : Nat) : Int) := by omega
              have u5d : decide (((mid : Nat) : Int) < ((e : Nat) : Int)) = true := decide_eq_true u5z
              have u6z : ((e : Nat) : Int) < ((b : Nat) : Int) := by omega
              have u6d : decide (((e : Nat) : Int) < ((b : Nat) : Int)) = true := decide_eq_true u6z
              have hc := RO.out s m e d wr S1.out d1 d2 (by omega) hsz
              clear S1
              go_wp2_with (go_at_call 77; refine hc.mono ?_; rintro _ w1 ⟨rfl, F1, hS1, hR1, hP1⟩)
              have T1 : Aside (SX enc k w0 blk off F1 w1) := hS1
              have z1 : Aside (F1.size = d.size) := hR1.1
              have CC : Aside (Cut (ltOf cf) a s mid e b F1) := CU.out F1 hR1
              have HP1 : Aside (PermIn a b d F1) := permIn_mono _ _ s e a b (by omega) (by omega) hb hP1
              clear hS1 hR1 hP1 hc
              have HP2 : Aside (PermIn a mid F1 F1) := permIn_refl _ _ _
              have HT2 : Aside (SortedIn (ltOf cf) a mid F1) := by have e1 : s = a := (by omega); rw [e1] at CC; exact CC.out.r2
              have z2 : Aside (F1.size = d.size) := z1.out
              have r3 : SortedIn (ltOf cf) mid e F1 := fun x y h1 h2 h3 => by rw [HP2.out.2.1 x (by omega), HP2.out.2.1 y (by omega)]; exact CC.out.r3 x y h1 h2 h3
              have r4 : SortedIn (ltOf cf) e b F1 := fun x y h1 h2 h3 => by rw [HP2.out.2.1 x (by omega), HP2.out.2.1 y (by omega)]; exact CC.out.r4 x y h1 h2 h3
              have hc := IH.out mid e b F1 w1 (by omega) T1.out (by omega) d4 (by have := z2.out; omega) (by have := z2.out; omega) r3 r4
              rw [z2.out] at hc
              clear T1 r3 r4
              go_wp2_with (go_at_call_of 70 (Value.int .i64 ((mid : Nat) : Int)); refine hc.mono ?_; rintro _ w3 ⟨rfl, F3, hS3, hP3, hT3⟩)
              go_end0
              exact ⟨rfl, F3, hS3, permIn_trans _ _ _ _ _ HP1.out (permIn_trans _ _ _ _ _ (permIn_mono _ _ a mid a b (Nat.le_refl _) (by omega) (by have := z1.out; omega) HP2.out) (permIn_mono _ _ mid b a b (by omega) (Nat.le_refl _) (by have := z2.out; omega) hP3)), cut_done hO CC.out (by have := z1.out; omega) (by omega) (by omega) HP2.out HT2.out hP3 hT3⟩
            · have u1z : ((s : Nat) : Int) < ((m : Nat) : Int) := by omega
              have u1d : decide (((s : Nat) : Int) < ((m : Nat) : Int)) = true := decide_eq_true u1z
              have u2z : ((m : Nat) : Int) < ((e : Nat) : Int) := by omega
              have u2d : decide (((m : Nat) : Int) < ((e : Nat) : Int)) = true := decide_eq_true u2z
              have u3z : ¬ ((a : Nat) : Int) < ((s : Nat) : Int) := by omega
              have u3d : decide (((a : Nat) : Int) < ((s : Nat) : Int)) = false := decide_eq_false u3z
              have u3l : ((s : Nat) : Int) ≤ ((a : Nat) : Int) := by omega
              have u4z : ((s : Nat) : Int) < ((mid : Nat) : Int) := by omega
              have u4d : decide (((s : Nat) : Int) < ((mid : Nat) : Int)) = true := decide_eq_true u4z
              have u5z : ((mid : Nat) : Int) < ((e : Nat) : Int) := by omega
              have u5d : decide (((mid : Nat) : Int) < ((e : Nat) : Int)) = true := decide_eq_true u5z
              have u6z : ¬ ((e : Nat) : Int) < ((b : Nat) : Int) := by omega
              have u6d : decide (((e : Nat) : Int) < ((b : Nat) : Int)) = false := decide_eq_false u6z
              have u6l : ((b : Nat) : Int) ≤ ((e : Nat) : Int) := by omega
              have hc := RO.out s m e d wr S1.out d1 d2 (by omega) hsz
              clear S1
              go_wp2_with (go_at_call 77; refine hc.mono ?_; rintro _ w1 ⟨rfl, F1, hS1, hR1, hP1⟩)
              have T1 : Aside (SX enc k w0 blk off F1 w1) := hS1
              have z1 : Aside (F1.size = d.size) := hR1.1
              have CC : Aside (Cut (ltOf cf) a s mid e b F1) := CU.out F1 hR1
              have HP1 : Aside (PermIn a b d F1) := permIn_mono _ _ s e a b (by omega) (by omega) hb hP1
              clear hS1 hR1 hP1 hc
              have HP2 : Aside (PermIn a mid F1 F1) := permIn_refl _ _ _
              have HT2 : Aside (SortedIn (ltOf cf) a mid F1) := by have e1 : s = a := (by omega); rw [e1] at CC; exact CC.out.r2
              have z2 : Aside (F1.size = d.size) := z1.out
              have r34 : SortedIn (ltOf cf) mid b F1 := by have e1 : e = b := (by omega); rw [e1] at CC; exact CC.out.r3
              have r34' : SortedIn (ltOf cf) mid b F1 := fun x y h1 h2 h3 => by rw [HP2.out.2.1 x (by omega), HP2.out.2.1 y (by omega)]; exact r34 x y h1 h2 h3
              have R34 : Aside (SortedIn (ltOf cf) mid b F1) := r34'
              clear r34 r34'
              go_end0
              exact ⟨rfl, F1, T1.out, permIn_trans _ _ _ _ _ HP1.out (permIn_mono _ _ a mid a b (Nat.le_refl _) (by omega) (by have := z1.out; omega) HP2.out), cut_done hO CC.out (by have := z1.out; omega) (by omega) (by omega) HP2.out HT2.out (permIn_refl _ _ _) R34.out⟩
        · by_cases d3 : a < s
          · by_cases d4 : e < b
            · have u1z : ((s : Nat) : Int) < ((m : Nat) : Int) := by omega
              have u1d : decide (((s : Nat) : Int) < ((m : Nat) : Int)) = true := decide_eq_true u1z
              have u2z : ¬ ((m : Nat) : Int) < ((e : Nat) : Int) := by omega
              have u2d : decide (((m : Nat) : Int) < ((e : Nat) : Int)) = false := decide_eq_false u2z
              have u2l : ((e : Nat) : Int) ≤ ((m : Nat) : Int) := by omega
              have u3z : ((a : Nat) : Int) < ((s : Nat) : Int) := by omega
              have u3d : decide (((a : Nat) : Int) < ((s : Nat) : Int)) = true := decide_eq_true u3z
              have u4z : ¬ ((s : Nat) : Int) < ((mid : Nat) : Int) := by omega
              have u4d : decide (((s : Nat) : Int) < ((mid : Nat) : Int)) = false := decide_eq_false u4z
              have u4l : ((mid : Nat) : Int) ≤ ((s : Nat) : Int) := by omega
              have u5z : ((mid : Nat) : Int) < ((e : Nat) : Int) := by omega
              have u5d : decide (((mid : Nat) : Int) < ((e : Nat) : Int)) = true := decide_eq_true u5z
              have u6z : ((e : Nat) : Int) < ((b : Nat) : Int) := by omega
              have u6d : decide (((e : Nat) : Int) < ((b : Nat) : Int)) = true := decide_eq_true u6z
              have z1 : Aside (d.size = d.size) := rfl
              have CC : Aside (Cut (ltOf cf) a s mid e b d) := CU.out d (by have e1 : e = m := (by omega); rw [e1]; exact rot_id2 s m (by omega))
              have HP1 : Aside (PermIn a b d d) := permIn_refl _ _ _
              have HP2 : Aside (PermIn a mid d d) := permIn_refl _ _ _
              have HT2 : Aside (SortedIn (ltOf cf) a mid d) := by have e1 : s = mid := (by omega); rw [e1] at CC; exact CC.out.r1
              have z2 : Aside (d.size = d.size) := z1.out
              have r3 : SortedIn (ltOf cf) mid e d := fun x y h1 h2 h3 => by rw [HP2.out.2.1 x (by omega), HP2.out.2.1 y (by omega)]; exact CC.out.r3 x y h1 h2 h3
              have r4 : SortedIn (ltOf cf) e b d := fun x y h1 h2 h3 => by rw [HP2.out.2.1 x (by omega), HP2.out.2.1 y (by omega)]; exact CC.out.r4 x y h1 h2 h3
              have hc := IH.out mid e b d wr (by omega) S1.out (by omega) d4 (by have := z2.out; omega) (by have := z2.out; omega) r3 r4
              clear S1 r3 r4
              go_wp2_with (go_at_call_of 70 (Value.int .i64 ((mid : Nat) : Int)); refine hc.mono ?_; rintro _ w3 ⟨rfl, F3, hS3, hP3, hT3⟩)
              go_end0
              exact ⟨rfl, F3, hS3, permIn_trans _ _ _ _ _ HP1.out (permIn_trans _ _ _ _ _ (permIn_mono _ _ a mid a b (Nat.le_refl _) (by omega) (by have := z1.out; omega) HP2.out) (permIn_mono _ _ mid b a b (by omega) (Nat.le_refl _) (by have := z2.out; omega) hP3)), cut_done hO CC.out (by have := z1.out; omega) (by omega) (by omega) HP2.out HT2.out hP3 hT3⟩
            · exfalso; omega
          · by_cases d4 : e < b
            · exfalso; omega
            · exfalso; omega
      · by_cases d2 : m < e
        · by_cases d3 : a < s
          · by_cases d4 : e < b
            · exfalso; omega
            · exfalso; omega
          · by_cases d4 : e < b
            · exfalso; omega
            · exfalso; omega
        · by_cases d3 : a < s
          · by_cases d4 : e < b
            · exfalso; omega
            · exfalso; omega
          · by_cases d4 : e < b
            · exfalso; omega
            · exfalso; omega

end Go.Srt
