/- slices.symMergeCmpFunc at events, where one part is of one element. No conditions. -/
import Derived.Test.YtkkbdleogkengaaDoorZA
import Derived.Test.YtkkbdleogkengaaDoorZA
set_option linter.all false
namespace Go.Srt
open Go Go.Proofs Go.Shelf Go.RowKit Go.Lib Go.Sort
variable {α : Type} [Inhabited α]
set_option maxHeartbeats 8000000 in
set_option maxRecDepth 1000000 in
theorem symL (enc : α → List Value) (k : Nat) (zk : k = 5) (cf : α → α → Int) (hO : SWO (ltOf cf)) (g : Nat) (eg : ∀ args w, (callFunc g args).run Tryd.prog w = .ok (.enter g args) w) (hcmp : Cmp Tryd.prog g enc cf) (blk off cap : Nat) (w0 : World) (R : RX enc k w0 blk)  (a m b : Nat) (d : Array α) (w : World)  (S : SX enc k w0 blk off d w) (ham : a < m) (hmb : m < b) (hb : b ≤ d.size) (hsz : d.size < 4611686018427387904) (hs1 : SortedIn (ltOf cf) a m d) (hs2 : SortedIn (ltOf cf) m b d) (c1 : m - a = 1) :
    Calls Tryd.prog 70 #[.slice (some ⟨blk, off, none⟩) d.size cap, .int .i64 a, .int .i64 m, .int .i64 b, .func (.func g) #[] #[]] w fun e w' => e = .returned (.tuple #[]) ∧ ∃ F, SX enc k w0 blk off F w' ∧ PermIn a b d F ∧ SortedIn (ltOf cf) a b F := by
  have mixed : Tryd.prog.follows .mixedOrders = true := by kernel_rfl
  have t3 := Tryd.underlying3; have a3 := Tryd.isAgg3; have z3 := Tryd.sizeOf3; have v3 := Tryd.zeroValue3
  have t4 := Tryd.underlying4; have a4 := Tryd.isAgg4; have z4 := Tryd.sizeOf4; have v4 := Tryd.zeroValue4
  have t39 := Tryd.underlying39; have a39 := Tryd.isAgg39; have z39 := Tryd.sizeOf39; have v39 := Tryd.zeroValue39
  have t68 := Tryd.underlying68; have a68 := Tryd.isAgg68; have z68 := Tryd.sizeOf68; have v68 := Tryd.zeroValue68
  have t114 := Tryd.underlying114; have a114 := Tryd.isAgg114; have z114 := Tryd.sizeOf114; have v114 := Tryd.zeroValue114
  have aE := Tryd.isAgg26
  have zE : ∀ w, (Go.sizeOf 26).run Tryd.prog w = .ok k w := by rw [zk]; exact Tryd.sizeOf26
  have HC : Aside (Cmp Tryd.prog g enc cf) := hcmp
  clear hcmp zk
  have S0 : Aside (SX enc k w0 blk off d w) := S
  have Q1 : Aside (SortedIn (ltOf cf) a m d) := hs1
  have Q2 : Aside (SortedIn (ltOf cf) m b d) := hs2
  clear S hs1 hs2
  go_enter Tryd.func70, Tryd.ntmps70
  generalize Tryd.prog = P at *
  · have q1 : IntKind.i64.wrap ((m : Int) - (a : Int)) = 1 := by rw [IntKind.wrap_i64]; omega
    go_wp2
    go_loopg [10, 11] (b - m) (fun kx s10 s11 wr => ∃ i j : Nat, s10 = .int .i64 i ∧ s11 = .int .i64 j ∧ m ≤ i ∧ i ≤ j ∧ j ≤ b ∧ j - i ≤ kx ∧ Aside (SX enc k w0 blk off d wr) ∧ Aside ((∀ t, m ≤ t → t < i → ltOf cf d[t]! d[a]! = true) ∧ (∀ t, j ≤ t → t < b → ltOf cf d[t]! d[a]! = false)))
    case atStart => exact ⟨m, b, rfl, rfl, Nat.le_refl _, by omega, Nat.le_refl _, Nat.le_refl _, S0, (⟨fun t h1 h2 => by omega, fun t h1 h2 => by omega⟩ : (∀ t, m ≤ t → t < m → ltOf cf d[t]! d[a]! = true) ∧ (∀ t, b ≤ t → t < b → ltOf cf d[t]! d[a]! = false))⟩
    case round =>
      clear S0
      obtain ⟨i, j, rfl, rfl, hmi, hij, hjb, hkx, S1, I⟩ := hrel
      by_cases hlt : i < j
      · have hltz : (i : Int) < (j : Int) := by omega
        obtain ⟨h, hh⟩ : ∃ h, h = (i + j) / 2 := ⟨_, rfl⟩
        have wh : ((i : Int) + (j : Int)) / 2 = ((h : Nat) : Int) := by omega
        have h1 : i ≤ h := by omega
        have h2 : h < j := by omega
        have wh1 : IntKind.i64.wrap (((h : Nat) : Int) + 1) = ((h + 1 : Nat) : Int) := by rw [IntKind.wrap_i64]; omega
        clear hh
        have e_h : ((h : Nat) : Int).toNat = h := by omega
        have p_h : (0 : Int) ≤ ((h : Nat) : Int) := by omega
        have b_h : ((h : Nat) : Int) < (d.size : Int) := by omega
        have e_a : ((a : Nat) : Int).toNat = a := by omega
        have p_a : (0 : Int) ≤ ((a : Nat) : Int) := by omega
        have b_a : ((a : Nat) : Int) < (d.size : Int) := by omega
        obtain ⟨xx, hxx⟩ : ∃ v, d[h]! = v := ⟨_, rfl⟩
        obtain ⟨yy, hyy⟩ : ∃ v, d[a]! = v := ⟨_, rfl⟩
        have lx : ∀ p : WP enc k w0 blk off d, Sem.run P (loadCellsFrom ⟨blk, off + h * k, none⟩ 0 k #[]) p.w = .ok (enc xx).toArray p.w := fun p => by rw [← hxx]; exact SX.ld R P h (by omega) p
        have ly : ∀ p : WP enc k w0 blk off d, Sem.run P (loadCellsFrom ⟨blk, off + a * k, none⟩ 0 k #[]) p.w = .ok (enc yy).toArray p.w := fun p => by rw [← hyy]; exact SX.ld R P a (by omega) p
        have hcg : ∀ p : WP enc k w0 blk off d, Calls P g #[.agg (enc xx).toArray, .agg (enc yy).toArray] p.w fun e w' => e = .returned (.int .i64 (cf xx yy)) ∧ ∃ q : WP enc k w0 blk off d, w' = q.w := HC.out.at R xx yy
        have LV : Hid (ltOf cf d[h]! d[a]! = decide (cf xx yy < 0)) := by rw [hxx, hyy]; exact rfl
        clear hxx hyy

        by_cases hlv : cf xx yy < 0
        · have L1 : Hid (ltOf cf d[h]! d[a]! = true) := by have := LV.out; rw [decide_eq_true hlv] at this; exact this
          clear LV
          go_wp2_with fail
          have ne : Nonempty (WP enc k w0 blk off d) := ⟨⟨_, S1.out⟩⟩
          refine wp_region_wp mixed (by kernel_rfl) S1.out ?_
          clear S1
          repeat (quiet_step ((go_at_fn g; exact hcg _)))
          refine wpQuiet_nil ?_
          intro wq hw'
          obtain ⟨pq, hw''⟩ := hw'
          have S2 : Aside (SX enc k w0 blk off d wq) := by rw [hw'']; exact pq.h
          clear hw'' pq ne lx ly hcg

          go_wp2
          go_roundg (j - (h + 1))
          case measure => omega
          case rel =>
            refine ⟨h + 1, j, by go_num, rfl, by omega, by omega, hjb, Nat.le_refl _, S2, (⟨fun t h3 h4 => ?_, I.out.2⟩ : (∀ t, m ≤ t → t < h + 1 → ltOf cf d[t]! d[a]! = true) ∧ (∀ t, j ≤ t → t < b → ltOf cf d[t]! d[a]! = false))⟩
            cases hc : ltOf cf d[t]! d[a]! with
            | true => rfl
            | false =>
              have := hO.ntrans _ _ _ (sorted_le hO Q2.out (s := t) (t := h) h3 (by omega) (by omega)) hc
              rw [L1.out] at this; cases this
        · have L1 : Hid (ltOf cf d[h]! d[a]! = false) := by have := LV.out; rw [decide_eq_false hlv] at this; exact this
          have hlv0 : 0 ≤ cf xx yy := by omega
          have hlv1 : decide (cf xx yy < 0) = false := decide_eq_false hlv
          clear LV
          go_wp2_with fail
          have ne : Nonempty (WP enc k w0 blk off d) := ⟨⟨_, S1.out⟩⟩
          refine wp_region_wp mixed (by kernel_rfl) S1.out ?_
          clear S1
          repeat (quiet_step ((go_at_fn g; exact hcg _)))
          refine wpQuiet_nil ?_
          intro wq hw'
          obtain ⟨pq, hw''⟩ := hw'
          have S2 : Aside (SX enc k w0 blk off d wq) := by rw [hw'']; exact pq.h
          clear hw'' pq ne lx ly hcg

          go_wp2
          go_roundg (h - i)
          case measure => omega
          case rel =>
            exact ⟨i, h, rfl, by go_num, by omega, by omega, by omega, Nat.le_refl _, S2, (⟨I.out.1, fun t h3 h4 => hO.ntrans _ _ _ (sorted_le hO Q2.out (s := h) (t := t) (by omega) h3 h4) L1.out⟩ : (∀ t, m ≤ t → t < i → ltOf cf d[t]! d[a]! = true) ∧ (∀ t, h ≤ t → t < b → ltOf cf d[t]! d[a]! = false))⟩
      · obtain rfl : j = i := by omega
        have hltz : ¬ (j : Int) < (j : Int) := by omega
        obtain ⟨j1, hj1⟩ : ∃ j1, j1 = j - 1 := ⟨_, rfl⟩
        have wj : IntKind.i64.wrap ((j : Int) - 1) = ((j1 : Nat) : Int) := by rw [IntKind.wrap_i64]; omega
        go_wp2
        go_loopg [13] (j1 - a) (fun kx s13 wr => ∃ (q : Nat) (F : Array α), s13 = .int .i64 q ∧ a ≤ q ∧ q ≤ j1 ∧ j1 - q ≤ kx ∧ F.size = d.size ∧ Aside (SX enc k w0 blk off F wr) ∧ Hid (RotIn a (a + 1) (q + 1) d F ∧ PermIn a b d F))
        case atStart => exact ⟨a, d, rfl, Nat.le_refl _, by omega, Nat.le_refl _, rfl, S1, ⟨rot_id2 a (a + 1) (by omega), permIn_refl _ _ _⟩⟩
        case round =>
          clear S1
          obtain ⟨q, F, rfl, haq, hqj, hkx, hFs, S1, HR⟩ := hrel
          by_cases hlt2 : q < j1
          · have hltz2 : (q : Int) < (j1 : Int) := by omega
            obtain ⟨y, hy⟩ : ∃ y, y = q + 1 := ⟨_, rfl⟩
            have wy : IntKind.i64.wrap ((q : Int) + 1) = ((y : Nat) : Int) := by rw [IntKind.wrap_i64]; omega
            have hxs : q < F.size := by omega
            have hys : y < F.size := by omega
            have e_q : ((q : Nat) : Int).toNat = q := by omega
            have p_q : (0 : Int) ≤ ((q : Nat) : Int) := by omega
            have b_q : ((q : Nat) : Int) < (d.size : Int) := by omega
            have e_y : ((y : Nat) : Int).toNat = y := by omega
            have p_y : (0 : Int) ≤ ((y : Nat) : Int) := by omega
            have b_y : ((y : Nat) : Int) < (d.size : Int) := by omega
            have HY : Hid (y = q + 1) := hy
            clear hy
            have S2 : Aside (SX enc k w0 blk off (swp F q y) ((wr.drew.setCells blk (off + q * k) (enc F[y]!)).setCells blk (off + y * k) (enc F[q]!))) := S1.out.swapped R q y hxs hys
            have la := S1.out.ld1 R P q hxs
            have lb := S1.out.ld1 R P y hys
            have sa := S1.out.st1 R P q hxs F[y]!
            have sb := S1.out.st2 R P q y hxs hys F[y]! F[q]!
            have na : (enc F[q]!).length = k := R.hk _
            have nb : (enc F[y]!).length = k := R.hk _
            generalize enc F[q]! = cI at S2 la sb na
            generalize enc F[y]! = cJ at S2 lb sa sb nb
            clear S1
            go_wp2_with fail
            go_big_region_o
            clear la lb sa sb
            generalize (wr.drew.setCells blk (off + q * k) cJ).setCells blk (off + y * k) cI = w2 at S2 ⊢
            go_wp2

            go_roundg (j1 - y)
            case measure => have := HY.out; omega
            case rel =>
              have h3 := HY.out
              refine ⟨y, _, by go_num, by omega, by omega, Nat.le_refl _, by rw [size_swp]; exact hFs, S2, ?_⟩
              rw [h3]
              exact ⟨rot_up haq (by omega) HR.out.1, permIn_trans _ _ _ _ _ HR.out.2 (swp_permIn F a b q (q + 1) haq (by omega) (by omega) (by omega) (by omega))⟩
          · have hltz2 : ¬ (q : Int) < (j1 : Int) := by omega
            go_wp2
            (try simp only [Exit.inBlock, Exit.then]); refine bodyPost_ret (results_none rfl _ _ _) rfl ?_
            have e1 : a + 1 = m := by omega
            have e2 : q + 1 = j := by omega
            have := HR.out
            rw [e1, e2] at this
            refine ⟨rfl, F, S1.out, this.2, ?_⟩
            rw [← e1] at this
            exact merge_one_left hO (by omega) hjb (by rw [e1]; exact Q2.out) (by rw [e1]; exact I.out.1) I.out.2 this.1
set_option maxHeartbeats 8000000 in
set_option maxRecDepth 1000000 in
theorem symR (enc : α → List Value) (k : Nat) (zk : k = 5) (cf : α → α → Int) (hO : SWO (ltOf cf)) (g : Nat) (eg : ∀ args w, (callFunc g args).run Tryd.prog w = .ok (.enter g args) w) (hcmp : Cmp Tryd.prog g enc cf) (blk off cap : Nat) (w0 : World) (R : RX enc k w0 blk)  (a m b : Nat) (d : Array α) (w : World)  (S : SX enc k w0 blk off d w) (ham : a < m) (hmb : m < b) (hb : b ≤ d.size) (hsz : d.size < 4611686018427387904) (hs1 : SortedIn (ltOf cf) a m d) (hs2 : SortedIn (ltOf cf) m b d) (c1 : ¬ m - a = 1) (c2 : b - m = 1) :
    Calls Tryd.prog 70 #[.slice (some ⟨blk, off, none⟩) d.size cap, .int .i64 a, .int .i64 m, .int .i64 b, .func (.func g) #[] #[]] w fun e w' => e = .returned (.tuple #[]) ∧ ∃ F, SX enc k w0 blk off F w' ∧ PermIn a b d F ∧ SortedIn (ltOf cf) a b F := by
  have mixed : Tryd.prog.follows .mixedOrders = true := by kernel_rfl
  have t3 := Tryd.underlying3; have a3 := Tryd.isAgg3; have z3 := Tryd.sizeOf3; have v3 := Tryd.zeroValue3
  have t4 := Tryd.underlying4; have a4 := Tryd.isAgg4; have z4 := Tryd.sizeOf4; have v4 := Tryd.zeroValue4
  have t39 := Tryd.underlying39; have a39 := Tryd.isAgg39; have z39 := Tryd.sizeOf39; have v39 := Tryd.zeroValue39
  have t68 := Tryd.underlying68; have a68 := Tryd.isAgg68; have z68 := Tryd.sizeOf68; have v68 := Tryd.zeroValue68
  have t114 := Tryd.underlying114; have a114 := Tryd.isAgg114; have z114 := Tryd.sizeOf114; have v114 := Tryd.zeroValue114
  have aE := Tryd.isAgg26
  have zE : ∀ w, (Go.sizeOf 26).run Tryd.prog w = .ok k w := by rw [zk]; exact Tryd.sizeOf26
  have HC : Aside (Cmp Tryd.prog g enc cf) := hcmp
  clear hcmp zk
  have S0 : Aside (SX enc k w0 blk off d w) := S
  have Q1 : Aside (SortedIn (ltOf cf) a m d) := hs1
  have Q2 : Aside (SortedIn (ltOf cf) m b d) := hs2
  clear S hs1 hs2
  go_enter Tryd.func70, Tryd.ntmps70
  generalize Tryd.prog = P at *
  · · have q1 : ¬ IntKind.i64.wrap ((m : Int) - (a : Int)) = 1 := by rw [IntKind.wrap_i64]; omega
      have q1b : ((m : Int) - (a : Int) == 1) = false := by rw [beq_eq_false_iff_ne]; omega
      have q2 : IntKind.i64.wrap ((b : Int) - (m : Int)) = 1 := by rw [IntKind.wrap_i64]; omega
      go_wp2
      go_loopg [14, 15] (m - a) (fun kx s14 s15 wr => ∃ i j : Nat, s14 = .int .i64 i ∧ s15 = .int .i64 j ∧ a ≤ i ∧ i ≤ j ∧ j ≤ m ∧ j - i ≤ kx ∧ Aside (SX enc k w0 blk off d wr) ∧ Aside ((∀ t, a ≤ t → t < i → ltOf cf d[m]! d[t]! = false) ∧ (∀ t, j ≤ t → t < m → ltOf cf d[m]! d[t]! = true)))
      case atStart => exact ⟨a, m, rfl, rfl, Nat.le_refl _, by omega, Nat.le_refl _, Nat.le_refl _, S0, (⟨fun t h1 h2 => by omega, fun t h1 h2 => by omega⟩ : (∀ t, a ≤ t → t < a → ltOf cf d[m]! d[t]! = false) ∧ (∀ t, m ≤ t → t < m → ltOf cf d[m]! d[t]! = true))⟩
      case round =>
        clear S0
        obtain ⟨i, j, rfl, rfl, hmi, hij, hjb, hkx, S1, I⟩ := hrel
        by_cases hlt : i < j
        · have hltz : (i : Int) < (j : Int) := by omega
          obtain ⟨h, hh⟩ : ∃ h, h = (i + j) / 2 := ⟨_, rfl⟩
          have wh : ((i : Int) + (j : Int)) / 2 = ((h : Nat) : Int) := by omega
          have h1 : i ≤ h := by omega
          have h2 : h < j := by omega
          have wh1 : IntKind.i64.wrap (((h : Nat) : Int) + 1) = ((h + 1 : Nat) : Int) := by rw [IntKind.wrap_i64]; omega
          clear hh
          have e_h : ((h : Nat) : Int).toNat = h := by omega
          have p_h : (0 : Int) ≤ ((h : Nat) : Int) := by omega
          have b_h : ((h : Nat) : Int) < (d.size : Int) := by omega
          have e_m : ((m : Nat) : Int).toNat = m := by omega
          have p_m : (0 : Int) ≤ ((m : Nat) : Int) := by omega
          have b_m : ((m : Nat) : Int) < (d.size : Int) := by omega
          obtain ⟨xx, hxx⟩ : ∃ v, d[m]! = v := ⟨_, rfl⟩
          obtain ⟨yy, hyy⟩ : ∃ v, d[h]! = v := ⟨_, rfl⟩
          have lx : ∀ p : WP enc k w0 blk off d, Sem.run P (loadCellsFrom ⟨blk, off + m * k, none⟩ 0 k #[]) p.w = .ok (enc xx).toArray p.w := fun p => by rw [← hxx]; exact SX.ld R P m (by omega) p
          have ly : ∀ p : WP enc k w0 blk off d, Sem.run P (loadCellsFrom ⟨blk, off + h * k, none⟩ 0 k #[]) p.w = .ok (enc yy).toArray p.w := fun p => by rw [← hyy]; exact SX.ld R P h (by omega) p
          have hcg : ∀ p : WP enc k w0 blk off d, Calls P g #[.agg (enc xx).toArray, .agg (enc yy).toArray] p.w fun e w' => e = .returned (.int .i64 (cf xx yy)) ∧ ∃ q : WP enc k w0 blk off d, w' = q.w := HC.out.at R xx yy
          have LV : Hid (ltOf cf d[m]! d[h]! = decide (cf xx yy < 0)) := by rw [hxx, hyy]; exact rfl
          clear hxx hyy

          by_cases hlv : cf xx yy < 0
          · have L1 : Hid (ltOf cf d[m]! d[h]! = true) := by have := LV.out; rw [decide_eq_true hlv] at this; exact this
            clear LV
            go_wp2_with fail
            have ne : Nonempty (WP enc k w0 blk off d) := ⟨⟨_, S1.out⟩⟩
            refine wp_region_wp mixed (by kernel_rfl) S1.out ?_
            clear S1
            repeat (quiet_step ((go_at_fn g; exact hcg _)))
            refine wpQuiet_nil ?_
            intro wq hw'
            obtain ⟨pq, hw''⟩ := hw'
            have S2 : Aside (SX enc k w0 blk off d wq) := by rw [hw'']; exact pq.h
            clear hw'' pq ne lx ly hcg

            go_wp2
            go_roundg (h - i)
            case measure => omega
            case rel =>
              refine ⟨i, h, rfl, by go_num, by omega, by omega, by omega, Nat.le_refl _, S2, (⟨I.out.1, fun t h3 h4 => ?_⟩ : (∀ t, a ≤ t → t < i → ltOf cf d[m]! d[t]! = false) ∧ (∀ t, h ≤ t → t < m → ltOf cf d[m]! d[t]! = true))⟩
              cases hc : ltOf cf d[m]! d[t]! with
              | true => rfl
              | false =>
                have := hO.ntrans _ _ _ hc (sorted_le hO Q1.out (s := h) (t := t) (by omega) h3 h4)
                rw [L1.out] at this; cases this
          · have L1 : Hid (ltOf cf d[m]! d[h]! = false) := by have := LV.out; rw [decide_eq_false hlv] at this; exact this
            have hlv0 : 0 ≤ cf xx yy := by omega
            have hlv1 : decide (cf xx yy < 0) = false := decide_eq_false hlv
            clear LV
            go_wp2_with fail
            have ne : Nonempty (WP enc k w0 blk off d) := ⟨⟨_, S1.out⟩⟩
            refine wp_region_wp mixed (by kernel_rfl) S1.out ?_
            clear S1
            repeat (quiet_step ((go_at_fn g; exact hcg _)))
            refine wpQuiet_nil ?_
            intro wq hw'
            obtain ⟨pq, hw''⟩ := hw'
            have S2 : Aside (SX enc k w0 blk off d wq) := by rw [hw'']; exact pq.h
            clear hw'' pq ne lx ly hcg

            go_wp2
            go_roundg (j - (h + 1))
            case measure => omega
            case rel =>
              exact ⟨h + 1, j, by go_num, rfl, by omega, by omega, hjb, Nat.le_refl _, S2, (⟨fun t h3 h4 => hO.ntrans _ _ _ L1.out (sorted_le hO Q1.out (s := t) (t := h) h3 (by omega) (by omega)), I.out.2⟩ : (∀ t, a ≤ t → t < h + 1 → ltOf cf d[m]! d[t]! = false) ∧ (∀ t, j ≤ t → t < m → ltOf cf d[m]! d[t]! = true))⟩
        · obtain rfl : j = i := by omega
          have hltz : ¬ (j : Int) < (j : Int) := by omega
          go_wp2
          go_loopg [17] (m - j) (fun kx s17 wr => ∃ (q : Nat) (F : Array α), s17 = .int .i64 q ∧ j ≤ q ∧ q ≤ m ∧ q - j ≤ kx ∧ F.size = d.size ∧ Aside (SX enc k w0 blk off F wr) ∧ Hid (RotIn q m (m + 1) d F ∧ PermIn a b d F))
          case atStart => exact ⟨m, d, rfl, hjb, Nat.le_refl _, Nat.le_refl _, rfl, S1, ⟨rot_id1 m (m + 1), permIn_refl _ _ _⟩⟩
          case round =>
            clear S1
            obtain ⟨q, F, rfl, haq, hqj, hkx, hFs, S1, HR⟩ := hrel
            by_cases hlt2 : j < q
            · have hltz2 : (j : Int) < (q : Int) := by omega
              have hgtz2 : (q : Int) > (j : Int) := by omega
              obtain ⟨y, hy⟩ : ∃ y, y = q - 1 := ⟨_, rfl⟩
              have wy : IntKind.i64.wrap ((q : Int) - 1) = ((y : Nat) : Int) := by rw [IntKind.wrap_i64]; omega
              have hxs : q < F.size := by omega
              have hys : y < F.size := by omega
              have e_q : ((q : Nat) : Int).toNat = q := by omega
              have p_q : (0 : Int) ≤ ((q : Nat) : Int) := by omega
              have b_q : ((q : Nat) : Int) < (d.size : Int) := by omega
              have e_y : ((y : Nat) : Int).toNat = y := by omega
              have p_y : (0 : Int) ≤ ((y : Nat) : Int) := by omega
              have b_y : ((y : Nat) : Int) < (d.size : Int) := by omega
              have HY : Hid (q = y + 1) := by show q = y + 1; omega
              clear hy
              have S2 : Aside (SX enc k w0 blk off (swp F q y) ((wr.drew.setCells blk (off + q * k) (enc F[y]!)).setCells blk (off + y * k) (enc F[q]!))) := S1.out.swapped R q y hxs hys
              have la := S1.out.ld1 R P q hxs
              have lb := S1.out.ld1 R P y hys
              have sa := S1.out.st1 R P q hxs F[y]!
              have sb := S1.out.st2 R P q y hxs hys F[y]! F[q]!
              have na : (enc F[q]!).length = k := R.hk _
              have nb : (enc F[y]!).length = k := R.hk _
              generalize enc F[q]! = cI at S2 la sb na
              generalize enc F[y]! = cJ at S2 lb sa sb nb
              clear S1
              go_wp2_with fail
              go_big_region_o
              clear la lb sa sb
              generalize (wr.drew.setCells blk (off + q * k) cJ).setCells blk (off + y * k) cI = w2 at S2 ⊢
              go_wp2

              go_roundg (y - j)
              case measure => have := HY.out; omega
              case rel =>
                have h3 := HY.out
                refine ⟨y, _, by go_num, by omega, by omega, Nat.le_refl _, by rw [size_swp]; exact hFs, S2, ?_⟩
                have h4 := HR.out
                rw [h3] at h4 ⊢
                exact ⟨rot_down (by omega) (by omega) h4.1, permIn_trans _ _ _ _ _ h4.2 (swp_permIn F a b (y + 1) y (by omega) (by omega) (by omega) (by omega) (by omega))⟩
            · have hltz2 : ¬ (j : Int) < (q : Int) := by omega
              have hgtz2 : ¬ (q : Int) > (j : Int) := by omega
              go_wp2
              (try simp only [Exit.inBlock, Exit.then]); refine bodyPost_ret (results_none rfl _ _ _) rfl ?_
              obtain rfl : q = j := by omega
              refine ⟨rfl, F, S1.out, HR.out.2, ?_⟩
              have e1 : b = m + 1 := by omega
              rw [e1]
              exact merge_one_right hO hmi hjb Q1.out I.out.1 I.out.2 HR.out.1
end Go.Srt
