/-
  Ways that meet again and loops, by the number of values that they hand on; leaves; what is stored and appended. No conditions.
-/
import Derived.Test.YtblkmlpjhpgkjaaCxS
set_option linter.all false
namespace Go.Cx
open Go.RowKit
set_option linter.unusedVariables false

def Joined0 (st : LS) (J : Prop) (L' : LS) : Prop := ∃ ds rn, J ∧ LS.to ds rn (st) L'
theorem Joined0.mk {st : LS} {J : Prop} {L' : LS} (ds rn) (h : J) (k : LS.to ds rn (st) L') : Joined0 st J L' := ⟨ds, rn, h, k⟩
theorem Wp.join0 {P N c rest Q L} (st : LS) (J : Prop) (hr : J → Wp P N rest Q (st)) (hc : Wp P N c (AExit.then (Joined0 st J) Q) L) : Wp P N (.seq c rest) Q L :=
  Wp.join (S := Unit) (fun x => st) (fun x => J) (fun x h => hr h) (hc.mono fun e L' q => by
    cases e with
    | normal => obtain ⟨ds, rn, h, k⟩ := q; exact ⟨(), ds, rn, h, k⟩
    | exit => exact q
    | ret => exact q)
def Round0 (st : LS) (J : Nat → Prop) (n : Nat) (L' : LS) : Prop := ∃ n', ∃ ds rn, n' < n ∧ J n' ∧ LS.to ds rn (st) L'
theorem Round0.mk {st : LS} {J : Nat → Prop} {n : Nat} {L' : LS} (ds rn) (h : J n) (k : LS.to ds rn (st) L') : Round0 st J (n + 1) L' := ⟨n, ds, rn, Nat.lt_succ_self n, h, k⟩
theorem Wp.loop0 {P N c Q L} (st : LS) (J : Nat → Prop) (n0 : Nat) (ds rn) (h0 : J n0) (hl : LS.to ds rn (st) L)
    (round : ∀ n, J n → Wp P N c (AExit.then (Round0 st J n) Q) (st)) : Wp P N (.loop c) Q L :=
  Wp.loopS (S := Unit) (fun x => st) (fun n x => J n) n0 () ds rn h0 hl (fun n x h => (round n h).mono fun e L' q => by
    cases e with
    | normal => obtain ⟨n', ds, rn, hn, h, k⟩ := q; exact ⟨n', (), ds, rn, hn, h, k⟩
    | exit => exact q
    | ret => exact q)
def Joined1 {A0 : Type} (st : A0 → LS) (J : A0 → Prop) (L' : LS) : Prop := ∃ a0, ∃ ds rn, J a0 ∧ LS.to ds rn (st a0) L'
theorem Joined1.mk {A0 : Type} {st : A0 → LS} {J : A0 → Prop} {L' : LS} (a0 : A0) (ds rn) (h : J a0) (k : LS.to ds rn (st a0) L') : Joined1 st J L' := ⟨a0, ds, rn, h, k⟩
theorem Wp.join1 {P N c rest Q L} {A0 : Type} (st : A0 → LS) (J : A0 → Prop) (hr : ∀ a0, J a0 → Wp P N rest Q (st a0)) (hc : Wp P N c (AExit.then (Joined1 st J) Q) L) : Wp P N (.seq c rest) Q L :=
  Wp.join (S := A0) (fun x => st x) (fun x => J x) (fun x h => hr _ h) (hc.mono fun e L' q => by
    cases e with
    | normal => obtain ⟨a0, ds, rn, h, k⟩ := q; exact ⟨a0, ds, rn, h, k⟩
    | exit => exact q
    | ret => exact q)
def Round1 {A0 : Type} (st : A0 → LS) (J : Nat → A0 → Prop) (n : Nat) (L' : LS) : Prop := ∃ n', ∃ a0, ∃ ds rn, n' < n ∧ J n' a0 ∧ LS.to ds rn (st a0) L'
theorem Round1.mk {A0 : Type} {st : A0 → LS} {J : Nat → A0 → Prop} {n : Nat} {L' : LS} (a0 : A0) (ds rn) (h : J n a0) (k : LS.to ds rn (st a0) L') : Round1 st J (n + 1) L' := ⟨n, a0, ds, rn, Nat.lt_succ_self n, h, k⟩
theorem Wp.loop1 {P N c Q L} {A0 : Type} (st : A0 → LS) (J : Nat → A0 → Prop) (n0 : Nat) (a0 : A0) (ds rn) (h0 : J n0 a0) (hl : LS.to ds rn (st a0) L)
    (round : ∀ n, ∀ a0, J n a0 → Wp P N c (AExit.then (Round1 st J n) Q) (st a0)) : Wp P N (.loop c) Q L :=
  Wp.loopS (S := A0) (fun x => st x) (fun n x => J n x) n0 a0 ds rn h0 hl (fun n x h => (round n _ h).mono fun e L' q => by
    cases e with
    | normal => obtain ⟨n', a0, ds, rn, hn, h, k⟩ := q; exact ⟨n', a0, ds, rn, hn, h, k⟩
    | exit => exact q
    | ret => exact q)
def Joined2 {A0 A1 : Type} (st : A0 → A1 → LS) (J : A0 → A1 → Prop) (L' : LS) : Prop := ∃ a0, ∃ a1, ∃ ds rn, J a0 a1 ∧ LS.to ds rn (st a0 a1) L'
theorem Joined2.mk {A0 A1 : Type} {st : A0 → A1 → LS} {J : A0 → A1 → Prop} {L' : LS} (a0 : A0) (a1 : A1) (ds rn) (h : J a0 a1) (k : LS.to ds rn (st a0 a1) L') : Joined2 st J L' := ⟨a0, a1, ds, rn, h, k⟩
theorem Wp.join2 {P N c rest Q L} {A0 A1 : Type} (st : A0 → A1 → LS) (J : A0 → A1 → Prop) (hr : ∀ a0 a1, J a0 a1 → Wp P N rest Q (st a0 a1)) (hc : Wp P N c (AExit.then (Joined2 st J) Q) L) : Wp P N (.seq c rest) Q L :=
  Wp.join (S := A0 × A1) (fun x => st x.1 x.2) (fun x => J x.1 x.2) (fun x h => hr _ _ h) (hc.mono fun e L' q => by
    cases e with
    | normal => obtain ⟨a0, a1, ds, rn, h, k⟩ := q; exact ⟨⟨a0, a1⟩, ds, rn, h, k⟩
    | exit => exact q
    | ret => exact q)
def Round2 {A0 A1 : Type} (st : A0 → A1 → LS) (J : Nat → A0 → A1 → Prop) (n : Nat) (L' : LS) : Prop := ∃ n', ∃ a0, ∃ a1, ∃ ds rn, n' < n ∧ J n' a0 a1 ∧ LS.to ds rn (st a0 a1) L'
theorem Round2.mk {A0 A1 : Type} {st : A0 → A1 → LS} {J : Nat → A0 → A1 → Prop} {n : Nat} {L' : LS} (a0 : A0) (a1 : A1) (ds rn) (h : J n a0 a1) (k : LS.to ds rn (st a0 a1) L') : Round2 st J (n + 1) L' := ⟨n, a0, a1, ds, rn, Nat.lt_succ_self n, h, k⟩
theorem Wp.loop2 {P N c Q L} {A0 A1 : Type} (st : A0 → A1 → LS) (J : Nat → A0 → A1 → Prop) (n0 : Nat) (a0 : A0) (a1 : A1) (ds rn) (h0 : J n0 a0 a1) (hl : LS.to ds rn (st a0 a1) L)
    (round : ∀ n, ∀ a0 a1, J n a0 a1 → Wp P N c (AExit.then (Round2 st J n) Q) (st a0 a1)) : Wp P N (.loop c) Q L :=
  Wp.loopS (S := A0 × A1) (fun x => st x.1 x.2) (fun n x => J n x.1 x.2) n0 ⟨a0, a1⟩ ds rn h0 hl (fun n x h => (round n _ _ h).mono fun e L' q => by
    cases e with
    | normal => obtain ⟨n', a0, a1, ds, rn, hn, h, k⟩ := q; exact ⟨n', ⟨a0, a1⟩, ds, rn, hn, h, k⟩
    | exit => exact q
    | ret => exact q)
def Joined3 {A0 A1 A2 : Type} (st : A0 → A1 → A2 → LS) (J : A0 → A1 → A2 → Prop) (L' : LS) : Prop := ∃ a0, ∃ a1, ∃ a2, ∃ ds rn, J a0 a1 a2 ∧ LS.to ds rn (st a0 a1 a2) L'
theorem Joined3.mk {A0 A1 A2 : Type} {st : A0 → A1 → A2 → LS} {J : A0 → A1 → A2 → Prop} {L' : LS} (a0 : A0) (a1 : A1) (a2 : A2) (ds rn) (h : J a0 a1 a2) (k : LS.to ds rn (st a0 a1 a2) L') : Joined3 st J L' := ⟨a0, a1, a2, ds, rn, h, k⟩
theorem Wp.join3 {P N c rest Q L} {A0 A1 A2 : Type} (st : A0 → A1 → A2 → LS) (J : A0 → A1 → A2 → Prop) (hr : ∀ a0 a1 a2, J a0 a1 a2 → Wp P N rest Q (st a0 a1 a2)) (hc : Wp P N c (AExit.then (Joined3 st J) Q) L) : Wp P N (.seq c rest) Q L :=
  Wp.join (S := A0 × A1 × A2) (fun x => st x.1 x.2.1 x.2.2) (fun x => J x.1 x.2.1 x.2.2) (fun x h => hr _ _ _ h) (hc.mono fun e L' q => by
    cases e with
    | normal => obtain ⟨a0, a1, a2, ds, rn, h, k⟩ := q; exact ⟨⟨a0, a1, a2⟩, ds, rn, h, k⟩
    | exit => exact q
    | ret => exact q)
def Round3 {A0 A1 A2 : Type} (st : A0 → A1 → A2 → LS) (J : Nat → A0 → A1 → A2 → Prop) (n : Nat) (L' : LS) : Prop := ∃ n', ∃ a0, ∃ a1, ∃ a2, ∃ ds rn, n' < n ∧ J n' a0 a1 a2 ∧ LS.to ds rn (st a0 a1 a2) L'
theorem Round3.mk {A0 A1 A2 : Type} {st : A0 → A1 → A2 → LS} {J : Nat → A0 → A1 → A2 → Prop} {n : Nat} {L' : LS} (a0 : A0) (a1 : A1) (a2 : A2) (ds rn) (h : J n a0 a1 a2) (k : LS.to ds rn (st a0 a1 a2) L') : Round3 st J (n + 1) L' := ⟨n, a0, a1, a2, ds, rn, Nat.lt_succ_self n, h, k⟩
theorem Wp.loop3 {P N c Q L} {A0 A1 A2 : Type} (st : A0 → A1 → A2 → LS) (J : Nat → A0 → A1 → A2 → Prop) (n0 : Nat) (a0 : A0) (a1 : A1) (a2 : A2) (ds rn) (h0 : J n0 a0 a1 a2) (hl : LS.to ds rn (st a0 a1 a2) L)
    (round : ∀ n, ∀ a0 a1 a2, J n a0 a1 a2 → Wp P N c (AExit.then (Round3 st J n) Q) (st a0 a1 a2)) : Wp P N (.loop c) Q L :=
  Wp.loopS (S := A0 × A1 × A2) (fun x => st x.1 x.2.1 x.2.2) (fun n x => J n x.1 x.2.1 x.2.2) n0 ⟨a0, a1, a2⟩ ds rn h0 hl (fun n x h => (round n _ _ _ h).mono fun e L' q => by
    cases e with
    | normal => obtain ⟨n', a0, a1, a2, ds, rn, hn, h, k⟩ := q; exact ⟨n', ⟨a0, a1, a2⟩, ds, rn, hn, h, k⟩
    | exit => exact q
    | ret => exact q)
def Joined4 {A0 A1 A2 A3 : Type} (st : A0 → A1 → A2 → A3 → LS) (J : A0 → A1 → A2 → A3 → Prop) (L' : LS) : Prop := ∃ a0, ∃ a1, ∃ a2, ∃ a3, ∃ ds rn, J a0 a1 a2 a3 ∧ LS.to ds rn (st a0 a1 a2 a3) L'
theorem Joined4.mk {A0 A1 A2 A3 : Type} {st : A0 → A1 → A2 → A3 → LS} {J : A0 → A1 → A2 → A3 → Prop} {L' : LS} (a0 : A0) (a1 : A1) (a2 : A2) (a3 : A3) (ds rn) (h : J a0 a1 a2 a3) (k : LS.to ds rn (st a0 a1 a2 a3) L') : Joined4 st J L' := ⟨a0, a1, a2, a3, ds, rn, h, k⟩
theorem Wp.join4 {P N c rest Q L} {A0 A1 A2 A3 : Type} (st : A0 → A1 → A2 → A3 → LS) (J : A0 → A1 → A2 → A3 → Prop) (hr : ∀ a0 a1 a2 a3, J a0 a1 a2 a3 → Wp P N rest Q (st a0 a1 a2 a3)) (hc : Wp P N c (AExit.then (Joined4 st J) Q) L) : Wp P N (.seq c rest) Q L :=
  Wp.join (S := A0 × A1 × A2 × A3) (fun x => st x.1 x.2.1 x.2.2.1 x.2.2.2) (fun x => J x.1 x.2.1 x.2.2.1 x.2.2.2) (fun x h => hr _ _ _ _ h) (hc.mono fun e L' q => by
    cases e with
    | normal => obtain ⟨a0, a1, a2, a3, ds, rn, h, k⟩ := q; exact ⟨⟨a0, a1, a2, a3⟩, ds, rn, h, k⟩
    | exit => exact q
    | ret => exact q)
def Round4 {A0 A1 A2 A3 : Type} (st : A0 → A1 → A2 → A3 → LS) (J : Nat → A0 → A1 → A2 → A3 → Prop) (n : Nat) (L' : LS) : Prop := ∃ n', ∃ a0, ∃ a1, ∃ a2, ∃ a3, ∃ ds rn, n' < n ∧ J n' a0 a1 a2 a3 ∧ LS.to ds rn (st a0 a1 a2 a3) L'
theorem Round4.mk {A0 A1 A2 A3 : Type} {st : A0 → A1 → A2 → A3 → LS} {J : Nat → A0 → A1 → A2 → A3 → Prop} {n : Nat} {L' : LS} (a0 : A0) (a1 : A1) (a2 : A2) (a3 : A3) (ds rn) (h : J n a0 a1 a2 a3) (k : LS.to ds rn (st a0 a1 a2 a3) L') : Round4 st J (n + 1) L' := ⟨n, a0, a1, a2, a3, ds, rn, Nat.lt_succ_self n, h, k⟩
theorem Wp.loop4 {P N c Q L} {A0 A1 A2 A3 : Type} (st : A0 → A1 → A2 → A3 → LS) (J : Nat → A0 → A1 → A2 → A3 → Prop) (n0 : Nat) (a0 : A0) (a1 : A1) (a2 : A2) (a3 : A3) (ds rn) (h0 : J n0 a0 a1 a2 a3) (hl : LS.to ds rn (st a0 a1 a2 a3) L)
    (round : ∀ n, ∀ a0 a1 a2 a3, J n a0 a1 a2 a3 → Wp P N c (AExit.then (Round4 st J n) Q) (st a0 a1 a2 a3)) : Wp P N (.loop c) Q L :=
  Wp.loopS (S := A0 × A1 × A2 × A3) (fun x => st x.1 x.2.1 x.2.2.1 x.2.2.2) (fun n x => J n x.1 x.2.1 x.2.2.1 x.2.2.2) n0 ⟨a0, a1, a2, a3⟩ ds rn h0 hl (fun n x h => (round n _ _ _ _ h).mono fun e L' q => by
    cases e with
    | normal => obtain ⟨n', a0, a1, a2, a3, ds, rn, hn, h, k⟩ := q; exact ⟨n', ⟨a0, a1, a2, a3⟩, ds, rn, hn, h, k⟩
    | exit => exact q
    | ret => exact q)
def Joined5 {A0 A1 A2 A3 A4 : Type} (st : A0 → A1 → A2 → A3 → A4 → LS) (J : A0 → A1 → A2 → A3 → A4 → Prop) (L' : LS) : Prop := ∃ a0, ∃ a1, ∃ a2, ∃ a3, ∃ a4, ∃ ds rn, J a0 a1 a2 a3 a4 ∧ LS.to ds rn (st a0 a1 a2 a3 a4) L'
theorem Joined5.mk {A0 A1 A2 A3 A4 : Type} {st : A0 → A1 → A2 → A3 → A4 → LS} {J : A0 → A1 → A2 → A3 → A4 → Prop} {L' : LS} (a0 : A0) (a1 : A1) (a2 : A2) (a3 : A3) (a4 : A4) (ds rn) (h : J a0 a1 a2 a3 a4) (k : LS.to ds rn (st a0 a1 a2 a3 a4) L') : Joined5 st J L' := ⟨a0, a1, a2, a3, a4, ds, rn, h, k⟩
theorem Wp.join5 {P N c rest Q L} {A0 A1 A2 A3 A4 : Type} (st : A0 → A1 → A2 → A3 → A4 → LS) (J : A0 → A1 → A2 → A3 → A4 → Prop) (hr : ∀ a0 a1 a2 a3 a4, J a0 a1 a2 a3 a4 → Wp P N rest Q (st a0 a1 a2 a3 a4)) (hc : Wp P N c (AExit.then (Joined5 st J) Q) L) : Wp P N (.seq c rest) Q L :=
  Wp.join (S := A0 × A1 × A2 × A3 × A4) (fun x => st x.1 x.2.1 x.2.2.1 x.2.2.2.1 x.2.2.2.2) (fun x => J x.1 x.2.1 x.2.2.1 x.2.2.2.1 x.2.2.2.2) (fun x h => hr _ _ _ _ _ h) (hc.mono fun e L' q => by
    cases e with
    | normal => obtain ⟨a0, a1, a2, a3, a4, ds, rn, h, k⟩ := q; exact ⟨⟨a0, a1, a2, a3, a4⟩, ds, rn, h, k⟩
    | exit => exact q
    | ret => exact q)
def Round5 {A0 A1 A2 A3 A4 : Type} (st : A0 → A1 → A2 → A3 → A4 → LS) (J : Nat → A0 → A1 → A2 → A3 → A4 → Prop) (n : Nat) (L' : LS) : Prop := ∃ n', ∃ a0, ∃ a1, ∃ a2, ∃ a3, ∃ a4, ∃ ds rn, n' < n ∧ J n' a0 a1 a2 a3 a4 ∧ LS.to ds rn (st a0 a1 a2 a3 a4) L'
theorem Round5.mk {A0 A1 A2 A3 A4 : Type} {st : A0 → A1 → A2 → A3 → A4 → LS} {J : Nat → A0 → A1 → A2 → A3 → A4 → Prop} {n : Nat} {L' : LS} (a0 : A0) (a1 : A1) (a2 : A2) (a3 : A3) (a4 : A4) (ds rn) (h : J n a0 a1 a2 a3 a4) (k : LS.to ds rn (st a0 a1 a2 a3 a4) L') : Round5 st J (n + 1) L' := ⟨n, a0, a1, a2, a3, a4, ds, rn, Nat.lt_succ_self n, h, k⟩
theorem Wp.loop5 {P N c Q L} {A0 A1 A2 A3 A4 : Type} (st : A0 → A1 → A2 → A3 → A4 → LS) (J : Nat → A0 → A1 → A2 → A3 → A4 → Prop) (n0 : Nat) (a0 : A0) (a1 : A1) (a2 : A2) (a3 : A3) (a4 : A4) (ds rn) (h0 : J n0 a0 a1 a2 a3 a4) (hl : LS.to ds rn (st a0 a1 a2 a3 a4) L)
    (round : ∀ n, ∀ a0 a1 a2 a3 a4, J n a0 a1 a2 a3 a4 → Wp P N c (AExit.then (Round5 st J n) Q) (st a0 a1 a2 a3 a4)) : Wp P N (.loop c) Q L :=
  Wp.loopS (S := A0 × A1 × A2 × A3 × A4) (fun x => st x.1 x.2.1 x.2.2.1 x.2.2.2.1 x.2.2.2.2) (fun n x => J n x.1 x.2.1 x.2.2.1 x.2.2.2.1 x.2.2.2.2) n0 ⟨a0, a1, a2, a3, a4⟩ ds rn h0 hl (fun n x h => (round n _ _ _ _ _ h).mono fun e L' q => by
    cases e with
    | normal => obtain ⟨n', a0, a1, a2, a3, a4, ds, rn, hn, h, k⟩ := q; exact ⟨n', ⟨a0, a1, a2, a3, a4⟩, ds, rn, hn, h, k⟩
    | exit => exact q
    | ret => exact q)
def Joined6 {A0 A1 A2 A3 A4 A5 : Type} (st : A0 → A1 → A2 → A3 → A4 → A5 → LS) (J : A0 → A1 → A2 → A3 → A4 → A5 → Prop) (L' : LS) : Prop := ∃ a0, ∃ a1, ∃ a2, ∃ a3, ∃ a4, ∃ a5, ∃ ds rn, J a0 a1 a2 a3 a4 a5 ∧ LS.to ds rn (st a0 a1 a2 a3 a4 a5) L'
theorem Joined6.mk {A0 A1 A2 A3 A4 A5 : Type} {st : A0 → A1 → A2 → A3 → A4 → A5 → LS} {J : A0 → A1 → A2 → A3 → A4 → A5 → Prop} {L' : LS} (a0 : A0) (a1 : A1) (a2 : A2) (a3 : A3) (a4 : A4) (a5 : A5) (ds rn) (h : J a0 a1 a2 a3 a4 a5) (k : LS.to ds rn (st a0 a1 a2 a3 a4 a5) L') : Joined6 st J L' := ⟨a0, a1, a2, a3, a4, a5, ds, rn, h, k⟩
theorem Wp.join6 {P N c rest Q L} {A0 A1 A2 A3 A4 A5 : Type} (st : A0 → A1 → A2 → A3 → A4 → A5 → LS) (J : A0 → A1 → A2 → A3 → A4 → A5 → Prop) (hr : ∀ a0 a1 a2 a3 a4 a5, J a0 a1 a2 a3 a4 a5 → Wp P N rest Q (st a0 a1 a2 a3 a4 a5)) (hc : Wp P N c (AExit.then (Joined6 st J) Q) L) : Wp P N (.seq c rest) Q L :=
  Wp.join (S := A0 × A1 × A2 × A3 × A4 × A5) (fun x => st x.1 x.2.1 x.2.2.1 x.2.2.2.1 x.2.2.2.2.1 x.2.2.2.2.2) (fun x => J x.1 x.2.1 x.2.2.1 x.2.2.2.1 x.2.2.2.2.1 x.2.2.2.2.2) (fun x h => hr _ _ _ _ _ _ h) (hc.mono fun e L' q => by
    cases e with
    | normal => obtain ⟨a0, a1, a2, a3, a4, a5, ds, rn, h, k⟩ := q; exact ⟨⟨a0, a1, a2, a3, a4, a5⟩, ds, rn, h, k⟩
    | exit => exact q
    | ret => exact q)
def Round6 {A0 A1 A2 A3 A4 A5 : Type} (st : A0 → A1 → A2 → A3 → A4 → A5 → LS) (J : Nat → A0 → A1 → A2 → A3 → A4 → A5 → Prop) (n : Nat) (L' : LS) : Prop := ∃ n', ∃ a0, ∃ a1, ∃ a2, ∃ a3, ∃ a4, ∃ a5, ∃ ds rn, n' < n ∧ J n' a0 a1 a2 a3 a4 a5 ∧ LS.to ds rn (st a0 a1 a2 a3 a4 a5) L'
theorem Round6.mk {A0 A1 A2 A3 A4 A5 : Type} {st : A0 → A1 → A2 → A3 → A4 → A5 → LS} {J : Nat → A0 → A1 → A2 → A3 → A4 → A5 → Prop} {n : Nat} {L' : LS} (a0 : A0) (a1 : A1) (a2 : A2) (a3 : A3) (a4 : A4) (a5 : A5) (ds rn) (h : J n a0 a1 a2 a3 a4 a5) (k : LS.to ds rn (st a0 a1 a2 a3 a4 a5) L') : Round6 st J (n + 1) L' := ⟨n, a0, a1, a2, a3, a4, a5, ds, rn, Nat.lt_succ_self n, h, k⟩
theorem Wp.loop6 {P N c Q L} {A0 A1 A2 A3 A4 A5 : Type} (st : A0 → A1 → A2 → A3 → A4 → A5 → LS) (J : Nat → A0 → A1 → A2 → A3 → A4 → A5 → Prop) (n0 : Nat) (a0 : A0) (a1 : A1) (a2 : A2) (a3 : A3) (a4 : A4) (a5 : A5) (ds rn) (h0 : J n0 a0 a1 a2 a3 a4 a5) (hl : LS.to ds rn (st a0 a1 a2 a3 a4 a5) L)
    (round : ∀ n, ∀ a0 a1 a2 a3 a4 a5, J n a0 a1 a2 a3 a4 a5 → Wp P N c (AExit.then (Round6 st J n) Q) (st a0 a1 a2 a3 a4 a5)) : Wp P N (.loop c) Q L :=
  Wp.loopS (S := A0 × A1 × A2 × A3 × A4 × A5) (fun x => st x.1 x.2.1 x.2.2.1 x.2.2.2.1 x.2.2.2.2.1 x.2.2.2.2.2) (fun n x => J n x.1 x.2.1 x.2.2.1 x.2.2.2.1 x.2.2.2.2.1 x.2.2.2.2.2) n0 ⟨a0, a1, a2, a3, a4, a5⟩ ds rn h0 hl (fun n x h => (round n _ _ _ _ _ _ h).mono fun e L' q => by
    cases e with
    | normal => obtain ⟨n', a0, a1, a2, a3, a4, a5, ds, rn, hn, h, k⟩ := q; exact ⟨n', ⟨a0, a1, a2, a3, a4, a5⟩, ds, rn, hn, h, k⟩
    | exit => exact q
    | ret => exact q)
def Joined7 {A0 A1 A2 A3 A4 A5 A6 : Type} (st : A0 → A1 → A2 → A3 → A4 → A5 → A6 → LS) (J : A0 → A1 → A2 → A3 → A4 → A5 → A6 → Prop) (L' : LS) : Prop := ∃ a0, ∃ a1, ∃ a2, ∃ a3, ∃ a4, ∃ a5, ∃ a6, ∃ ds rn, J a0 a1 a2 a3 a4 a5 a6 ∧ LS.to ds rn (st a0 a1 a2 a3 a4 a5 a6) L'
theorem Joined7.mk {A0 A1 A2 A3 A4 A5 A6 : Type} {st : A0 → A1 → A2 → A3 → A4 → A5 → A6 → LS} {J : A0 → A1 → A2 → A3 → A4 → A5 → A6 → Prop} {L' : LS} (a0 : A0) (a1 : A1) (a2 : A2) (a3 : A3) (a4 : A4) (a5 : A5) (a6 : A6) (ds rn) (h : J a0 a1 a2 a3 a4 a5 a6) (k : LS.to ds rn (st a0 a1 a2 a3 a4 a5 a6) L') : Joined7 st J L' := ⟨a0, a1, a2, a3, a4, a5, a6, ds, rn, h, k⟩
theorem Wp.join7 {P N c rest Q L} {A0 A1 A2 A3 A4 A5 A6 : Type} (st : A0 → A1 → A2 → A3 → A4 → A5 → A6 → LS) (J : A0 → A1 → A2 → A3 → A4 → A5 → A6 → Prop) (hr : ∀ a0 a1 a2 a3 a4 a5 a6, J a0 a1 a2 a3 a4 a5 a6 → Wp P N rest Q (st a0 a1 a2 a3 a4 a5 a6)) (hc : Wp P N c (AExit.then (Joined7 st J) Q) L) : Wp P N (.seq c rest) Q L :=
  Wp.join (S := A0 × A1 × A2 × A3 × A4 × A5 × A6) (fun x => st x.1 x.2.1 x.2.2.1 x.2.2.2.1 x.2.2.2.2.1 x.2.2.2.2.2.1 x.2.2.2.2.2.2) (fun x => J x.1 x.2.1 x.2.2.1 x.2.2.2.1 x.2.2.2.2.1 x.2.2.2.2.2.1 x.2.2.2.2.2.2) (fun x h => hr _ _ _ _ _ _ _ h) (hc.mono fun e L' q => by
    cases e with
    | normal => obtain ⟨a0, a1, a2, a3, a4, a5, a6, ds, rn, h, k⟩ := q; exact ⟨⟨a0, a1, a2, a3, a4, a5, a6⟩, ds, rn, h, k⟩
    | exit => exact q
    | ret => exact q)
def Round7 {A0 A1 A2 A3 A4 A5 A6 : Type} (st : A0 → A1 → A2 → A3 → A4 → A5 → A6 → LS) (J : Nat → A0 → A1 → A2 → A3 → A4 → A5 → A6 → Prop) (n : Nat) (L' : LS) : Prop := ∃ n', ∃ a0, ∃ a1, ∃ a2, ∃ a3, ∃ a4, ∃ a5, ∃ a6, ∃ ds rn, n' < n ∧ J n' a0 a1 a2 a3 a4 a5 a6 ∧ LS.to ds rn (st a0 a1 a2 a3 a4 a5 a6) L'
theorem Round7.mk {A0 A1 A2 A3 A4 A5 A6 : Type} {st : A0 → A1 → A2 → A3 → A4 → A5 → A6 → LS} {J : Nat → A0 → A1 → A2 → A3 → A4 → A5 → A6 → Prop} {n : Nat} {L' : LS} (a0 : A0) (a1 : A1) (a2 : A2) (a3 : A3) (a4 : A4) (a5 : A5) (a6 : A6) (ds rn) (h : J n a0 a1 a2 a3 a4 a5 a6) (k : LS.to ds rn (st a0 a1 a2 a3 a4 a5 a6) L') : Round7 st J (n + 1) L' := ⟨n, a0, a1, a2, a3, a4, a5, a6, ds, rn, Nat.lt_succ_self n, h, k⟩
theorem Wp.loop7 {P N c Q L} {A0 A1 A2 A3 A4 A5 A6 : Type} (st : A0 → A1 → A2 → A3 → A4 → A5 → A6 → LS) (J : Nat → A0 → A1 → A2 → A3 → A4 → A5 → A6 → Prop) (n0 : Nat) (a0 : A0) (a1 : A1) (a2 : A2) (a3 : A3) (a4 : A4) (a5 : A5) (a6 : A6) (ds rn) (h0 : J n0 a0 a1 a2 a3 a4 a5 a6) (hl : LS.to ds rn (st a0 a1 a2 a3 a4 a5 a6) L)
    (round : ∀ n, ∀ a0 a1 a2 a3 a4 a5 a6, J n a0 a1 a2 a3 a4 a5 a6 → Wp P N c (AExit.then (Round7 st J n) Q) (st a0 a1 a2 a3 a4 a5 a6)) : Wp P N (.loop c) Q L :=
  Wp.loopS (S := A0 × A1 × A2 × A3 × A4 × A5 × A6) (fun x => st x.1 x.2.1 x.2.2.1 x.2.2.2.1 x.2.2.2.2.1 x.2.2.2.2.2.1 x.2.2.2.2.2.2) (fun n x => J n x.1 x.2.1 x.2.2.1 x.2.2.2.1 x.2.2.2.2.1 x.2.2.2.2.2.1 x.2.2.2.2.2.2) n0 ⟨a0, a1, a2, a3, a4, a5, a6⟩ ds rn h0 hl (fun n x h => (round n _ _ _ _ _ _ _ h).mono fun e L' q => by
    cases e with
    | normal => obtain ⟨n', a0, a1, a2, a3, a4, a5, a6, ds, rn, hn, h, k⟩ := q; exact ⟨n', ⟨a0, a1, a2, a3, a4, a5, a6⟩, ds, rn, hn, h, k⟩
    | exit => exact q
    | ret => exact q)
def Joined8 {A0 A1 A2 A3 A4 A5 A6 A7 : Type} (st : A0 → A1 → A2 → A3 → A4 → A5 → A6 → A7 → LS) (J : A0 → A1 → A2 → A3 → A4 → A5 → A6 → A7 → Prop) (L' : LS) : Prop := ∃ a0, ∃ a1, ∃ a2, ∃ a3, ∃ a4, ∃ a5, ∃ a6, ∃ a7, ∃ ds rn, J a0 a1 a2 a3 a4 a5 a6 a7 ∧ LS.to ds rn (st a0 a1 a2 a3 a4 a5 a6 a7) L'
theorem Joined8.mk {A0 A1 A2 A3 A4 A5 A6 A7 : Type} {st : A0 → A1 → A2 → A3 → A4 → A5 → A6 → A7 → LS} {J : A0 → A1 → A2 → A3 → A4 → A5 → A6 → A7 → Prop} {L' : LS} (a0 : A0) (a1 : A1) (a2 : A2) (a3 : A3) (a4 : A4) (a5 : A5) (a6 : A6) (a7 : A7) (ds rn) (h : J a0 a1 a2 a3 a4 a5 a6 a7) (k : LS.to ds rn (st a0 a1 a2 a3 a4 a5 a6 a7) L') : Joined8 st J L' := ⟨a0, a1, a2, a3, a4, a5, a6, a7, ds, rn, h, k⟩
theorem Wp.join8 {P N c rest Q L} {A0 A1 A2 A3 A4 A5 A6 A7 : Type} (st : A0 → A1 → A2 → A3 → A4 → A5 → A6 → A7 → LS) (J : A0 → A1 → A2 → A3 → A4 → A5 → A6 → A7 → Prop) (hr : ∀ a0 a1 a2 a3 a4 a5 a6 a7, J a0 a1 a2 a3 a4 a5 a6 a7 → Wp P N rest Q (st a0 a1 a2 a3 a4 a5 a6 a7)) (hc : Wp P N c (AExit.then (Joined8 st J) Q) L) : Wp P N (.seq c rest) Q L :=
  Wp.join (S := A0 × A1 × A2 × A3 × A4 × A5 × A6 × A7) (fun x => st x.1 x.2.1 x.2.2.1 x.2.2.2.1 x.2.2.2.2.1 x.2.2.2.2.2.1 x.2.2.2.2.2.2.1 x.2.2.2.2.2.2.2) (fun x => J x.1 x.2.1 x.2.2.1 x.2.2.2.1 x.2.2.2.2.1 x.2.2.2.2.2.1 x.2.2.2.2.2.2.1 x.2.2.2.2.2.2.2) (fun x h => hr _ _ _ _ _ _ _ _ h) (hc.mono fun e L' q => by
    cases e with
    | normal => obtain ⟨a0, a1, a2, a3, a4, a5, a6, a7, ds, rn, h, k⟩ := q; exact ⟨⟨a0, a1, a2, a3, a4, a5, a6, a7⟩, ds, rn, h, k⟩
    | exit => exact q
    | ret => exact q)
def Round8 {A0 A1 A2 A3 A4 A5 A6 A7 : Type} (st : A0 → A1 → A2 → A3 → A4 → A5 → A6 → A7 → LS) (J : Nat → A0 → A1 → A2 → A3 → A4 → A5 → A6 → A7 → Prop) (n : Nat) (L' : LS) : Prop := ∃ n', ∃ a0, ∃ a1, ∃ a2, ∃ a3, ∃ a4, ∃ a5, ∃ a6, ∃ a7, ∃ ds rn, n' < n ∧ J n' a0 a1 a2 a3 a4 a5 a6 a7 ∧ LS.to ds rn (st a0 a1 a2 a3 a4 a5 a6 a7) L'
theorem Round8.mk {A0 A1 A2 A3 A4 A5 A6 A7 : Type} {st : A0 → A1 → A2 → A3 → A4 → A5 → A6 → A7 → LS} {J : Nat → A0 → A1 → A2 → A3 → A4 → A5 → A6 → A7 → Prop} {n : Nat} {L' : LS} (a0 : A0) (a1 : A1) (a2 : A2) (a3 : A3) (a4 : A4) (a5 : A5) (a6 : A6) (a7 : A7) (ds rn) (h : J n a0 a1 a2 a3 a4 a5 a6 a7) (k : LS.to ds rn (st a0 a1 a2 a3 a4 a5 a6 a7) L') : Round8 st J (n + 1) L' := ⟨n, a0, a1, a2, a3, a4, a5, a6, a7, ds, rn, Nat.lt_succ_self n, h, k⟩
theorem Wp.loop8 {P N c Q L} {A0 A1 A2 A3 A4 A5 A6 A7 : Type} (st : A0 → A1 → A2 → A3 → A4 → A5 → A6 → A7 → LS) (J : Nat → A0 → A1 → A2 → A3 → A4 → A5 → A6 → A7 → Prop) (n0 : Nat) (a0 : A0) (a1 : A1) (a2 : A2) (a3 : A3) (a4 : A4) (a5 : A5) (a6 : A6) (a7 : A7) (ds rn) (h0 : J n0 a0 a1 a2 a3 a4 a5 a6 a7) (hl : LS.to ds rn (st a0 a1 a2 a3 a4 a5 a6 a7) L)
    (round : ∀ n, ∀ a0 a1 a2 a3 a4 a5 a6 a7, J n a0 a1 a2 a3 a4 a5 a6 a7 → Wp P N c (AExit.then (Round8 st J n) Q) (st a0 a1 a2 a3 a4 a5 a6 a7)) : Wp P N (.loop c) Q L :=
  Wp.loopS (S := A0 × A1 × A2 × A3 × A4 × A5 × A6 × A7) (fun x => st x.1 x.2.1 x.2.2.1 x.2.2.2.1 x.2.2.2.2.1 x.2.2.2.2.2.1 x.2.2.2.2.2.2.1 x.2.2.2.2.2.2.2) (fun n x => J n x.1 x.2.1 x.2.2.1 x.2.2.2.1 x.2.2.2.2.1 x.2.2.2.2.2.1 x.2.2.2.2.2.2.1 x.2.2.2.2.2.2.2) n0 ⟨a0, a1, a2, a3, a4, a5, a6, a7⟩ ds rn h0 hl (fun n x h => (round n _ _ _ _ _ _ _ _ h).mono fun e L' q => by
    cases e with
    | normal => obtain ⟨n', a0, a1, a2, a3, a4, a5, a6, a7, ds, rn, hn, h, k⟩ := q; exact ⟨n', ⟨a0, a1, a2, a3, a4, a5, a6, a7⟩, ds, rn, hn, h, k⟩
    | exit => exact q
    | ret => exact q)
def Joined9 {A0 A1 A2 A3 A4 A5 A6 A7 A8 : Type} (st : A0 → A1 → A2 → A3 → A4 → A5 → A6 → A7 → A8 → LS) (J : A0 → A1 → A2 → A3 → A4 → A5 → A6 → A7 → A8 → Prop) (L' : LS) : Prop := ∃ a0, ∃ a1, ∃ a2, ∃ a3, ∃ a4, ∃ a5, ∃ a6, ∃ a7, ∃ a8, ∃ ds rn, J a0 a1 a2 a3 a4 a5 a6 a7 a8 ∧ LS.to ds rn (st a0 a1 a2 a3 a4 a5 a6 a7 a8) L'
theorem Joined9.mk {A0 A1 A2 A3 A4 A5 A6 A7 A8 : Type} {st : A0 → A1 → A2 → A3 → A4 → A5 → A6 → A7 → A8 → LS} {J : A0 → A1 → A2 → A3 → A4 → A5 → A6 → A7 → A8 → Prop} {L' : LS} (a0 : A0) (a1 : A1) (a2 : A2) (a3 : A3) (a4 : A4) (a5 : A5) (a6 : A6) (a7 : A7) (a8 : A8) (ds rn) (h : J a0 a1 a2 a3 a4 a5 a6 a7 a8) (k : LS.to ds rn (st a0 a1 a2 a3 a4 a5 a6 a7 a8) L') : Joined9 st J L' := ⟨a0, a1, a2, a3, a4, a5, a6, a7, a8, ds, rn, h, k⟩
theorem Wp.join9 {P N c rest Q L} {A0 A1 A2 A3 A4 A5 A6 A7 A8 : Type} (st : A0 → A1 → A2 → A3 → A4 → A5 → A6 → A7 → A8 → LS) (J : A0 → A1 → A2 → A3 → A4 → A5 → A6 → A7 → A8 → Prop) (hr : ∀ a0 a1 a2 a3 a4 a5 a6 a7 a8, J a0 a1 a2 a3 a4 a5 a6 a7 a8 → Wp P N rest Q (st a0 a1 a2 a3 a4 a5 a6 a7 a8)) (hc : Wp P N c (AExit.then (Joined9 st J) Q) L) : Wp P N (.seq c rest) Q L :=
  Wp.join (S := A0 × A1 × A2 × A3 × A4 × A5 × A6 × A7 × A8) (fun x => st x.1 x.2.1 x.2.2.1 x.2.2.2.1 x.2.2.2.2.1 x.2.2.2.2.2.1 x.2.2.2.2.2.2.1 x.2.2.2.2.2.2.2.1 x.2.2.2.2.2.2.2.2) (fun x => J x.1 x.2.1 x.2.2.1 x.2.2.2.1 x.2.2.2.2.1 x.2.2.2.2.2.1 x.2.2.2.2.2.2.1 x.2.2.2.2.2.2.2.1 x.2.2.2.2.2.2.2.2) (fun x h => hr _ _ _ _ _ _ _ _ _ h) (hc.mono fun e L' q => by
    cases e with
    | normal => obtain ⟨a0, a1, a2, a3, a4, a5, a6, a7, a8, ds, rn, h, k⟩ := q; exact ⟨⟨a0, a1, a2, a3, a4, a5, a6, a7, a8⟩, ds, rn, h, k⟩
    | exit => exact q
    | ret => exact q)
def Round9 {A0 A1 A2 A3 A4 A5 A6 A7 A8 : Type} (st : A0 → A1 → A2 → A3 → A4 → A5 → A6 → A7 → A8 → LS) (J : Nat → A0 → A1 → A2 → A3 → A4 → A5 → A6 → A7 → A8 → Prop) (n : Nat) (L' : LS) : Prop := ∃ n', ∃ a0, ∃ a1, ∃ a2, ∃ a3, ∃ a4, ∃ a5, ∃ a6, ∃ a7, ∃ a8, ∃ ds rn, n' < n ∧ J n' a0 a1 a2 a3 a4 a5 a6 a7 a8 ∧ LS.to ds rn (st a0 a1 a2 a3 a4 a5 a6 a7 a8) L'
theorem Round9.mk {A0 A1 A2 A3 A4 A5 A6 A7 A8 : Type} {st : A0 → A1 → A2 → A3 → A4 → A5 → A6 → A7 → A8 → LS} {J : Nat → A0 → A1 → A2 → A3 → A4 → A5 → A6 → A7 → A8 → Prop} {n : Nat} {L' : LS} (a0 : A0) (a1 : A1) (a2 : A2) (a3 : A3) (a4 : A4) (a5 : A5) (a6 : A6) (a7 : A7) (a8 : A8) (ds rn) (h : J n a0 a1 a2 a3 a4 a5 a6 a7 a8) (k : LS.to ds rn (st a0 a1 a2 a3 a4 a5 a6 a7 a8) L') : Round9 st J (n + 1) L' := ⟨n, a0, a1, a2, a3, a4, a5, a6, a7, a8, ds, rn, Nat.lt_succ_self n, h, k⟩
theorem Wp.loop9 {P N c Q L} {A0 A1 A2 A3 A4 A5 A6 A7 A8 : Type} (st : A0 → A1 → A2 → A3 → A4 → A5 → A6 → A7 → A8 → LS) (J : Nat → A0 → A1 → A2 → A3 → A4 → A5 → A6 → A7 → A8 → Prop) (n0 : Nat) (a0 : A0) (a1 : A1) (a2 : A2) (a3 : A3) (a4 : A4) (a5 : A5) (a6 : A6) (a7 : A7) (a8 : A8) (ds rn) (h0 : J n0 a0 a1 a2 a3 a4 a5 a6 a7 a8) (hl : LS.to ds rn (st a0 a1 a2 a3 a4 a5 a6 a7 a8) L)
    (round : ∀ n, ∀ a0 a1 a2 a3 a4 a5 a6 a7 a8, J n a0 a1 a2 a3 a4 a5 a6 a7 a8 → Wp P N c (AExit.then (Round9 st J n) Q) (st a0 a1 a2 a3 a4 a5 a6 a7 a8)) : Wp P N (.loop c) Q L :=
  Wp.loopS (S := A0 × A1 × A2 × A3 × A4 × A5 × A6 × A7 × A8) (fun x => st x.1 x.2.1 x.2.2.1 x.2.2.2.1 x.2.2.2.2.1 x.2.2.2.2.2.1 x.2.2.2.2.2.2.1 x.2.2.2.2.2.2.2.1 x.2.2.2.2.2.2.2.2) (fun n x => J n x.1 x.2.1 x.2.2.1 x.2.2.2.1 x.2.2.2.2.1 x.2.2.2.2.2.1 x.2.2.2.2.2.2.1 x.2.2.2.2.2.2.2.1 x.2.2.2.2.2.2.2.2) n0 ⟨a0, a1, a2, a3, a4, a5, a6, a7, a8⟩ ds rn h0 hl (fun n x h => (round n _ _ _ _ _ _ _ _ _ h).mono fun e L' q => by
    cases e with
    | normal => obtain ⟨n', a0, a1, a2, a3, a4, a5, a6, a7, a8, ds, rn, hn, h, k⟩ := q; exact ⟨n', ⟨a0, a1, a2, a3, a4, a5, a6, a7, a8⟩, ds, rn, hn, h, k⟩
    | exit => exact q
    | ret => exact q)
def Joined10 {A0 A1 A2 A3 A4 A5 A6 A7 A8 A9 : Type} (st : A0 → A1 → A2 → A3 → A4 → A5 → A6 → A7 → A8 → A9 → LS) (J : A0 → A1 → A2 → A3 → A4 → A5 → A6 → A7 → A8 → A9 → Prop) (L' : LS) : Prop := ∃ a0, ∃ a1, ∃ a2, ∃ a3, ∃ a4, ∃ a5, ∃ a6, ∃ a7, ∃ a8, ∃ a9, ∃ ds rn, J a0 a1 a2 a3 a4 a5 a6 a7 a8 a9 ∧ LS.to ds rn (st a0 a1 a2 a3 a4 a5 a6 a7 a8 a9) L'
theorem Joined10.mk {A0 A1 A2 A3 A4 A5 A6 A7 A8 A9 : Type} {st : A0 → A1 → A2 → A3 → A4 → A5 → A6 → A7 → A8 → A9 → LS} {J : A0 → A1 → A2 → A3 → A4 → A5 → A6 → A7 → A8 → A9 → Prop} {L' : LS} (a0 : A0) (a1 : A1) (a2 : A2) (a3 : A3) (a4 : A4) (a5 : A5) (a6 : A6) (a7 : A7) (a8 : A8) (a9 : A9) (ds rn) (h : J a0 a1 a2 a3 a4 a5 a6 a7 a8 a9) (k : LS.to ds rn (st a0 a1 a2 a3 a4 a5 a6 a7 a8 a9) L') : Joined10 st J L' := ⟨a0, a1, a2, a3, a4, a5, a6, a7, a8, a9, ds, rn, h, k⟩
theorem Wp.join10 {P N c rest Q L} {A0 A1 A2 A3 A4 A5 A6 A7 A8 A9 : Type} (st : A0 → A1 → A2 → A3 → A4 → A5 → A6 → A7 → A8 → A9 → LS) (J : A0 → A1 → A2 → A3 → A4 → A5 → A6 → A7 → A8 → A9 → Prop) (hr : ∀ a0 a1 a2 a3 a4 a5 a6 a7 a8 a9, J a0 a1 a2 a3 a4 a5 a6 a7 a8 a9 → Wp P N rest Q (st a0 a1 a2 a3 a4 a5 a6 a7 a8 a9)) (hc : Wp P N c (AExit.then (Joined10 st J) Q) L) : Wp P N (.seq c rest) Q L :=
  Wp.join (S := A0 × A1 × A2 × A3 × A4 × A5 × A6 × A7 × A8 × A9) (fun x => st x.1 x.2.1 x.2.2.1 x.2.2.2.1 x.2.2.2.2.1 x.2.2.2.2.2.1 x.2.2.2.2.2.2.1 x.2.2.2.2.2.2.2.1 x.2.2.2.2.2.2.2.2.1 x.2.2.2.2.2.2.2.2.2) (fun x => J x.1 x.2.1 x.2.2.1 x.2.2.2.1 x.2.2.2.2.1 x.2.2.2.2.2.1 x.2.2.2.2.2.2.1 x.2.2.2.2.2.2.2.1 x.2.2.2.2.2.2.2.2.1 x.2.2.2.2.2.2.2.2.2) (fun x h => hr _ _ _ _ _ _ _ _ _ _ h) (hc.mono fun e L' q => by
    cases e with
    | normal => obtain ⟨a0, a1, a2, a3, a4, a5, a6, a7, a8, a9, ds, rn, h, k⟩ := q; exact ⟨⟨a0, a1, a2, a3, a4, a5, a6, a7, a8, a9⟩, ds, rn, h, k⟩
    | exit => exact q
    | ret => exact q)
def Round10 {A0 A1 A2 A3 A4 A5 A6 A7 A8 A9 : Type} (st : A0 → A1 → A2 → A3 → A4 → A5 → A6 → A7 → A8 → A9 → LS) (J : Nat → A0 → A1 → A2 → A3 → A4 → A5 → A6 → A7 → A8 → A9 → Prop) (n : Nat) (L' : LS) : Prop := ∃ n', ∃ a0, ∃ a1, ∃ a2, ∃ a3, ∃ a4, ∃ a5, ∃ a6, ∃ a7, ∃ a8, ∃ a9, ∃ ds rn, n' < n ∧ J n' a0 a1 a2 a3 a4 a5 a6 a7 a8 a9 ∧ LS.to ds rn (st a0 a1 a2 a3 a4 a5 a6 a7 a8 a9) L'
theorem Round10.mk {A0 A1 A2 A3 A4 A5 A6 A7 A8 A9 : Type} {st : A0 → A1 → A2 → A3 → A4 → A5 → A6 → A7 → A8 → A9 → LS} {J : Nat → A0 → A1 → A2 → A3 → A4 → A5 → A6 → A7 → A8 → A9 → Prop} {n : Nat} {L' : LS} (a0 : A0) (a1 : A1) (a2 : A2) (a3 : A3) (a4 : A4) (a5 : A5) (a6 : A6) (a7 : A7) (a8 : A8) (a9 : A9) (ds rn) (h : J n a0 a1 a2 a3 a4 a5 a6 a7 a8 a9) (k : LS.to ds rn (st a0 a1 a2 a3 a4 a5 a6 a7 a8 a9) L') : Round10 st J (n + 1) L' := ⟨n, a0, a1, a2, a3, a4, a5, a6, a7, a8, a9, ds, rn, Nat.lt_succ_self n, h, k⟩
theorem Wp.loop10 {P N c Q L} {A0 A1 A2 A3 A4 A5 A6 A7 A8 A9 : Type} (st : A0 → A1 → A2 → A3 → A4 → A5 → A6 → A7 → A8 → A9 → LS) (J : Nat → A0 → A1 → A2 → A3 → A4 → A5 → A6 → A7 → A8 → A9 → Prop) (n0 : Nat) (a0 : A0) (a1 : A1) (a2 : A2) (a3 : A3) (a4 : A4) (a5 : A5) (a6 : A6) (a7 : A7) (a8 : A8) (a9 : A9) (ds rn) (h0 : J n0 a0 a1 a2 a3 a4 a5 a6 a7 a8 a9) (hl : LS.to ds rn (st a0 a1 a2 a3 a4 a5 a6 a7 a8 a9) L)
    (round : ∀ n, ∀ a0 a1 a2 a3 a4 a5 a6 a7 a8 a9, J n a0 a1 a2 a3 a4 a5 a6 a7 a8 a9 → Wp P N c (AExit.then (Round10 st J n) Q) (st a0 a1 a2 a3 a4 a5 a6 a7 a8 a9)) : Wp P N (.loop c) Q L :=
  Wp.loopS (S := A0 × A1 × A2 × A3 × A4 × A5 × A6 × A7 × A8 × A9) (fun x => st x.1 x.2.1 x.2.2.1 x.2.2.2.1 x.2.2.2.2.1 x.2.2.2.2.2.1 x.2.2.2.2.2.2.1 x.2.2.2.2.2.2.2.1 x.2.2.2.2.2.2.2.2.1 x.2.2.2.2.2.2.2.2.2) (fun n x => J n x.1 x.2.1 x.2.2.1 x.2.2.2.1 x.2.2.2.2.1 x.2.2.2.2.2.1 x.2.2.2.2.2.2.1 x.2.2.2.2.2.2.2.1 x.2.2.2.2.2.2.2.2.1 x.2.2.2.2.2.2.2.2.2) n0 ⟨a0, a1, a2, a3, a4, a5, a6, a7, a8, a9⟩ ds rn h0 hl (fun n x h => (round n _ _ _ _ _ _ _ _ _ _ h).mono fun e L' q => by
    cases e with
    | normal => obtain ⟨n', a0, a1, a2, a3, a4, a5, a6, a7, a8, a9, ds, rn, hn, h, k⟩ := q; exact ⟨n', ⟨a0, a1, a2, a3, a4, a5, a6, a7, a8, a9⟩, ds, rn, hn, h, k⟩
    | exit => exact q
    | ret => exact q)
def Joined11 {A0 A1 A2 A3 A4 A5 A6 A7 A8 A9 A10 : Type} (st : A0 → A1 → A2 → A3 → A4 → A5 → A6 → A7 → A8 → A9 → A10 → LS) (J : A0 → A1 → A2 → A3 → A4 → A5 → A6 → A7 → A8 → A9 → A10 → Prop) (L' : LS) : Prop := ∃ a0, ∃ a1, ∃ a2, ∃ a3, ∃ a4, ∃ a5, ∃ a6, ∃ a7, ∃ a8, ∃ a9, ∃ a10, ∃ ds rn, J a0 a1 a2 a3 a4 a5 a6 a7 a8 a9 a10 ∧ LS.to ds rn (st a0 a1 a2 a3 a4 a5 a6 a7 a8 a9 a10) L'
theorem Joined11.mk {A0 A1 A2 A3 A4 A5 A6 A7 A8 A9 A10 : Type} {st : A0 → A1 → A2 → A3 → A4 → A5 → A6 → A7 → A8 → A9 → A10 → LS} {J : A0 → A1 → A2 → A3 → A4 → A5 → A6 → A7 → A8 → A9 → A10 → Prop} {L' : LS} (a0 : A0) (a1 : A1) (a2 : A2) (a3 : A3) (a4 : A4) (a5 : A5) (a6 : A6) (a7 : A7) (a8 : A8) (a9 : A9) (a10 : A10) (ds rn) (h : J a0 a1 a2 a3 a4 a5 a6 a7 a8 a9 a10) (k : LS.to ds rn (st a0 a1 a2 a3 a4 a5 a6 a7 a8 a9 a10) L') : Joined11 st J L' := ⟨a0, a1, a2, a3, a4, a5, a6, a7, a8, a9, a10, ds, rn, h, k⟩
theorem Wp.join11 {P N c rest Q L} {A0 A1 A2 A3 A4 A5 A6 A7 A8 A9 A10 : Type} (st : A0 → A1 → A2 → A3 → A4 → A5 → A6 → A7 → A8 → A9 → A10 → LS) (J : A0 → A1 → A2 → A3 → A4 → A5 → A6 → A7 → A8 → A9 → A10 → Prop) (hr : ∀ a0 a1 a2 a3 a4 a5 a6 a7 a8 a9 a10, J a0 a1 a2 a3 a4 a5 a6 a7 a8 a9 a10 → Wp P N rest Q (st a0 a1 a2 a3 a4 a5 a6 a7 a8 a9 a10)) (hc : Wp P N c (AExit.then (Joined11 st J) Q) L) : Wp P N (.seq c rest) Q L :=
  Wp.join (S := A0 × A1 × A2 × A3 × A4 × A5 × A6 × A7 × A8 × A9 × A10) (fun x => st x.1 x.2.1 x.2.2.1 x.2.2.2.1 x.2.2.2.2.1 x.2.2.2.2.2.1 x.2.2.2.2.2.2.1 x.2.2.2.2.2.2.2.1 x.2.2.2.2.2.2.2.2.1 x.2.2.2.2.2.2.2.2.2.1 x.2.2.2.2.2.2.2.2.2.2) (fun x => J x.1 x.2.1 x.2.2.1 x.2.2.2.1 x.2.2.2.2.1 x.2.2.2.2.2.1 x.2.2.2.2.2.2.1 x.2.2.2.2.2.2.2.1 x.2.2.2.2.2.2.2.2.1 x.2.2.2.2.2.2.2.2.2.1 x.2.2.2.2.2.2.2.2.2.2) (fun x h => hr _ _ _ _ _ _ _ _ _ _ _ h) (hc.mono fun e L' q => by
    cases e with
    | normal => obtain ⟨a0, a1, a2, a3, a4, a5, a6, a7, a8, a9, a10, ds, rn, h, k⟩ := q; exact ⟨⟨a0, a1, a2, a3, a4, a5, a6, a7, a8, a9, a10⟩, ds, rn, h, k⟩
    | exit => exact q
    | ret => exact q)
def Round11 {A0 A1 A2 A3 A4 A5 A6 A7 A8 A9 A10 : Type} (st : A0 → A1 → A2 → A3 → A4 → A5 → A6 → A7 → A8 → A9 → A10 → LS) (J : Nat → A0 → A1 → A2 → A3 → A4 → A5 → A6 → A7 → A8 → A9 → A10 → Prop) (n : Nat) (L' : LS) : Prop := ∃ n', ∃ a0, ∃ a1, ∃ a2, ∃ a3, ∃ a4, ∃ a5, ∃ a6, ∃ a7, ∃ a8, ∃ a9, ∃ a10, ∃ ds rn, n' < n ∧ J n' a0 a1 a2 a3 a4 a5 a6 a7 a8 a9 a10 ∧ LS.to ds rn (st a0 a1 a2 a3 a4 a5 a6 a7 a8 a9 a10) L'
theorem Round11.mk {A0 A1 A2 A3 A4 A5 A6 A7 A8 A9 A10 : Type} {st : A0 → A1 → A2 → A3 → A4 → A5 → A6 → A7 → A8 → A9 → A10 → LS} {J : Nat → A0 → A1 → A2 → A3 → A4 → A5 → A6 → A7 → A8 → A9 → A10 → Prop} {n : Nat} {L' : LS} (a0 : A0) (a1 : A1) (a2 : A2) (a3 : A3) (a4 : A4) (a5 : A5) (a6 : A6) (a7 : A7) (a8 : A8) (a9 : A9) (a10 : A10) (ds rn) (h : J n a0 a1 a2 a3 a4 a5 a6 a7 a8 a9 a10) (k : LS.to ds rn (st a0 a1 a2 a3 a4 a5 a6 a7 a8 a9 a10) L') : Round11 st J (n + 1) L' := ⟨n, a0, a1, a2, a3, a4, a5, a6, a7, a8, a9, a10, ds, rn, Nat.lt_succ_self n, h, k⟩
theorem Wp.loop11 {P N c Q L} {A0 A1 A2 A3 A4 A5 A6 A7 A8 A9 A10 : Type} (st : A0 → A1 → A2 → A3 → A4 → A5 → A6 → A7 → A8 → A9 → A10 → LS) (J : Nat → A0 → A1 → A2 → A3 → A4 → A5 → A6 → A7 → A8 → A9 → A10 → Prop) (n0 : Nat) (a0 : A0) (a1 : A1) (a2 : A2) (a3 : A3) (a4 : A4) (a5 : A5) (a6 : A6) (a7 : A7) (a8 : A8) (a9 : A9) (a10 : A10) (ds rn) (h0 : J n0 a0 a1 a2 a3 a4 a5 a6 a7 a8 a9 a10) (hl : LS.to ds rn (st a0 a1 a2 a3 a4 a5 a6 a7 a8 a9 a10) L)
    (round : ∀ n, ∀ a0 a1 a2 a3 a4 a5 a6 a7 a8 a9 a10, J n a0 a1 a2 a3 a4 a5 a6 a7 a8 a9 a10 → Wp P N c (AExit.then (Round11 st J n) Q) (st a0 a1 a2 a3 a4 a5 a6 a7 a8 a9 a10)) : Wp P N (.loop c) Q L :=
  Wp.loopS (S := A0 × A1 × A2 × A3 × A4 × A5 × A6 × A7 × A8 × A9 × A10) (fun x => st x.1 x.2.1 x.2.2.1 x.2.2.2.1 x.2.2.2.2.1 x.2.2.2.2.2.1 x.2.2.2.2.2.2.1 x.2.2.2.2.2.2.2.1 x.2.2.2.2.2.2.2.2.1 x.2.2.2.2.2.2.2.2.2.1 x.2.2.2.2.2.2.2.2.2.2) (fun n x => J n x.1 x.2.1 x.2.2.1 x.2.2.2.1 x.2.2.2.2.1 x.2.2.2.2.2.1 x.2.2.2.2.2.2.1 x.2.2.2.2.2.2.2.1 x.2.2.2.2.2.2.2.2.1 x.2.2.2.2.2.2.2.2.2.1 x.2.2.2.2.2.2.2.2.2.2) n0 ⟨a0, a1, a2, a3, a4, a5, a6, a7, a8, a9, a10⟩ ds rn h0 hl (fun n x h => (round n _ _ _ _ _ _ _ _ _ _ _ h).mono fun e L' q => by
    cases e with
    | normal => obtain ⟨n', a0, a1, a2, a3, a4, a5, a6, a7, a8, a9, a10, ds, rn, hn, h, k⟩ := q; exact ⟨n', ⟨a0, a1, a2, a3, a4, a5, a6, a7, a8, a9, a10⟩, ds, rn, hn, h, k⟩
    | exit => exact q
    | ret => exact q)
def Joined12 {A0 A1 A2 A3 A4 A5 A6 A7 A8 A9 A10 A11 : Type} (st : A0 → A1 → A2 → A3 → A4 → A5 → A6 → A7 → A8 → A9 → A10 → A11 → LS) (J : A0 → A1 → A2 → A3 → A4 → A5 → A6 → A7 → A8 → A9 → A10 → A11 → Prop) (L' : LS) : Prop := ∃ a0, ∃ a1, ∃ a2, ∃ a3, ∃ a4, ∃ a5, ∃ a6, ∃ a7, ∃ a8, ∃ a9, ∃ a10, ∃ a11, ∃ ds rn, J a0 a1 a2 a3 a4 a5 a6 a7 a8 a9 a10 a11 ∧ LS.to ds rn (st a0 a1 a2 a3 a4 a5 a6 a7 a8 a9 a10 a11) L'
theorem Joined12.mk {A0 A1 A2 A3 A4 A5 A6 A7 A8 A9 A10 A11 : Type} {st : A0 → A1 → A2 → A3 → A4 → A5 → A6 → A7 → A8 → A9 → A10 → A11 → LS} {J : A0 → A1 → A2 → A3 → A4 → A5 → A6 → A7 → A8 → A9 → A10 → A11 → Prop} {L' : LS} (a0 : A0) (a1 : A1) (a2 : A2) (a3 : A3) (a4 : A4) (a5 : A5) (a6 : A6) (a7 : A7) (a8 : A8) (a9 : A9) (a10 : A10) (a11 : A11) (ds rn) (h : J a0 a1 a2 a3 a4 a5 a6 a7 a8 a9 a10 a11) (k : LS.to ds rn (st a0 a1 a2 a3 a4 a5 a6 a7 a8 a9 a10 a11) L') : Joined12 st J L' := ⟨a0, a1, a2, a3, a4, a5, a6, a7, a8, a9, a10, a11, ds, rn, h, k⟩
theorem Wp.join12 {P N c rest Q L} {A0 A1 A2 A3 A4 A5 A6 A7 A8 A9 A10 A11 : Type} (st : A0 → A1 → A2 → A3 → A4 → A5 → A6 → A7 → A8 → A9 → A10 → A11 → LS) (J : A0 → A1 → A2 → A3 → A4 → A5 → A6 → A7 → A8 → A9 → A10 → A11 → Prop) (hr : ∀ a0 a1 a2 a3 a4 a5 a6 a7 a8 a9 a10 a11, J a0 a1 a2 a3 a4 a5 a6 a7 a8 a9 a10 a11 → Wp P N rest Q (st a0 a1 a2 a3 a4 a5 a6 a7 a8 a9 a10 a11)) (hc : Wp P N c (AExit.then (Joined12 st J) Q) L) : Wp P N (.seq c rest) Q L :=
  Wp.join (S := A0 × A1 × A2 × A3 × A4 × A5 × A6 × A7 × A8 × A9 × A10 × A11) (fun x => st x.1 x.2.1 x.2.2.1 x.2.2.2.1 x.2.2.2.2.1 x.2.2.2.2.2.1 x.2.2.2.2.2.2.1 x.2.2.2.2.2.2.2.1 x.2.2.2.2.2.2.2.2.1 x.2.2.2.2.2.2.2.2.2.1 x.2.2.2.2.2.2.2.2.2.2.1 x.2.2.2.2.2.2.2.2.2.2.2) (fun x => J x.1 x.2.1 x.2.2.1 x.2.2.2.1 x.2.2.2.2.1 x.2.2.2.2.2.1 x.2.2.2.2.2.2.1 x.2.2.2.2.2.2.2.1 x.2.2.2.2.2.2.2.2.1 x.2.2.2.2.2.2.2.2.2.1 x.2.2.2.2.2.2.2.2.2.2.1 x.2.2.2.2.2.2.2.2.2.2.2) (fun x h => hr _ _ _ _ _ _ _ _ _ _ _ _ h) (hc.mono fun e L' q => by
    cases e with
    | normal => obtain ⟨a0, a1, a2, a3, a4, a5, a6, a7, a8, a9, a10, a11, ds, rn, h, k⟩ := q; exact ⟨⟨a0, a1, a2, a3, a4, a5, a6, a7, a8, a9, a10, a11⟩, ds, rn, h, k⟩
    | exit => exact q
    | ret => exact q)
def Round12 {A0 A1 A2 A3 A4 A5 A6 A7 A8 A9 A10 A11 : Type} (st : A0 → A1 → A2 → A3 → A4 → A5 → A6 → A7 → A8 → A9 → A10 → A11 → LS) (J : Nat → A0 → A1 → A2 → A3 → A4 → A5 → A6 → A7 → A8 → A9 → A10 → A11 → Prop) (n : Nat) (L' : LS) : Prop := ∃ n', ∃ a0, ∃ a1, ∃ a2, ∃ a3, ∃ a4, ∃ a5, ∃ a6, ∃ a7, ∃ a8, ∃ a9, ∃ a10, ∃ a11, ∃ ds rn, n' < n ∧ J n' a0 a1 a2 a3 a4 a5 a6 a7 a8 a9 a10 a11 ∧ LS.to ds rn (st a0 a1 a2 a3 a4 a5 a6 a7 a8 a9 a10 a11) L'
theorem Round12.mk {A0 A1 A2 A3 A4 A5 A6 A7 A8 A9 A10 A11 : Type} {st : A0 → A1 → A2 → A3 → A4 → A5 → A6 → A7 → A8 → A9 → A10 → A11 → LS} {J : Nat → A0 → A1 → A2 → A3 → A4 → A5 → A6 → A7 → A8 → A9 → A10 → A11 → Prop} {n : Nat} {L' : LS} (a0 : A0) (a1 : A1) (a2 : A2) (a3 : A3) (a4 : A4) (a5 : A5) (a6 : A6) (a7 : A7) (a8 : A8) (a9 : A9) (a10 : A10) (a11 : A11) (ds rn) (h : J n a0 a1 a2 a3 a4 a5 a6 a7 a8 a9 a10 a11) (k : LS.to ds rn (st a0 a1 a2 a3 a4 a5 a6 a7 a8 a9 a10 a11) L') : Round12 st J (n + 1) L' := ⟨n, a0, a1, a2, a3, a4, a5, a6, a7, a8, a9, a10, a11, ds, rn, Nat.lt_succ_self n, h, k⟩
theorem Wp.loop12 {P N c Q L} {A0 A1 A2 A3 A4 A5 A6 A7 A8 A9 A10 A11 : Type} (st : A0 → A1 → A2 → A3 → A4 → A5 → A6 → A7 → A8 → A9 → A10 → A11 → LS) (J : Nat → A0 → A1 → A2 → A3 → A4 → A5 → A6 → A7 → A8 → A9 → A10 → A11 → Prop) (n0 : Nat) (a0 : A0) (a1 : A1) (a2 : A2) (a3 : A3) (a4 : A4) (a5 : A5) (a6 : A6) (a7 : A7) (a8 : A8) (a9 : A9) (a10 : A10) (a11 : A11) (ds rn) (h0 : J n0 a0 a1 a2 a3 a4 a5 a6 a7 a8 a9 a10 a11) (hl : LS.to ds rn (st a0 a1 a2 a3 a4 a5 a6 a7 a8 a9 a10 a11) L)
    (round : ∀ n, ∀ a0 a1 a2 a3 a4 a5 a6 a7 a8 a9 a10 a11, J n a0 a1 a2 a3 a4 a5 a6 a7 a8 a9 a10 a11 → Wp P N c (AExit.then (Round12 st J n) Q) (st a0 a1 a2 a3 a4 a5 a6 a7 a8 a9 a10 a11)) : Wp P N (.loop c) Q L :=
  Wp.loopS (S := A0 × A1 × A2 × A3 × A4 × A5 × A6 × A7 × A8 × A9 × A10 × A11) (fun x => st x.1 x.2.1 x.2.2.1 x.2.2.2.1 x.2.2.2.2.1 x.2.2.2.2.2.1 x.2.2.2.2.2.2.1 x.2.2.2.2.2.2.2.1 x.2.2.2.2.2.2.2.2.1 x.2.2.2.2.2.2.2.2.2.1 x.2.2.2.2.2.2.2.2.2.2.1 x.2.2.2.2.2.2.2.2.2.2.2) (fun n x => J n x.1 x.2.1 x.2.2.1 x.2.2.2.1 x.2.2.2.2.1 x.2.2.2.2.2.1 x.2.2.2.2.2.2.1 x.2.2.2.2.2.2.2.1 x.2.2.2.2.2.2.2.2.1 x.2.2.2.2.2.2.2.2.2.1 x.2.2.2.2.2.2.2.2.2.2.1 x.2.2.2.2.2.2.2.2.2.2.2) n0 ⟨a0, a1, a2, a3, a4, a5, a6, a7, a8, a9, a10, a11⟩ ds rn h0 hl (fun n x h => (round n _ _ _ _ _ _ _ _ _ _ _ _ h).mono fun e L' q => by
    cases e with
    | normal => obtain ⟨n', a0, a1, a2, a3, a4, a5, a6, a7, a8, a9, a10, a11, ds, rn, hn, h, k⟩ := q; exact ⟨n', ⟨a0, a1, a2, a3, a4, a5, a6, a7, a8, a9, a10, a11⟩, ds, rn, hn, h, k⟩
    | exit => exact q
    | ret => exact q)
def Joined13 {A0 A1 A2 A3 A4 A5 A6 A7 A8 A9 A10 A11 A12 : Type} (st : A0 → A1 → A2 → A3 → A4 → A5 → A6 → A7 → A8 → A9 → A10 → A11 → A12 → LS) (J : A0 → A1 → A2 → A3 → A4 → A5 → A6 → A7 → A8 → A9 → A10 → A11 → A12 → Prop) (L' : LS) : Prop := ∃ a0, ∃ a1, ∃ a2, ∃ a3, ∃ a4, ∃ a5, ∃ a6, ∃ a7, ∃ a8, ∃ a9, ∃ a10, ∃ a11, ∃ a12, ∃ ds rn, J a0 a1 a2 a3 a4 a5 a6 a7 a8 a9 a10 a11 a12 ∧ LS.to ds rn (st a0 a1 a2 a3 a4 a5 a6 a7 a8 a9 a10 a11 a12) L'
theorem Joined13.mk {A0 A1 A2 A3 A4 A5 A6 A7 A8 A9 A10 A11 A12 : Type} {st : A0 → A1 → A2 → A3 → A4 → A5 → A6 → A7 → A8 → A9 → A10 → A11 → A12 → LS} {J : A0 → A1 → A2 → A3 → A4 → A5 → A6 → A7 → A8 → A9 → A10 → A11 → A12 → Prop} {L' : LS} (a0 : A0) (a1 : A1) (a2 : A2) (a3 : A3) (a4 : A4) (a5 : A5) (a6 : A6) (a7 : A7) (a8 : A8) (a9 : A9) (a10 : A10) (a11 : A11) (a12 : A12) (ds rn) (h : J a0 a1 a2 a3 a4 a5 a6 a7 a8 a9 a10 a11 a12) (k : LS.to ds rn (st a0 a1 a2 a3 a4 a5 a6 a7 a8 a9 a10 a11 a12) L') : Joined13 st J L' := ⟨a0, a1, a2, a3, a4, a5, a6, a7, a8, a9, a10, a11, a12, ds, rn, h, k⟩
theorem Wp.join13 {P N c rest Q L} {A0 A1 A2 A3 A4 A5 A6 A7 A8 A9 A10 A11 A12 : Type} (st : A0 → A1 → A2 → A3 → A4 → A5 → A6 → A7 → A8 → A9 → A10 → A11 → A12 → LS) (J : A0 → A1 → A2 → A3 → A4 → A5 → A6 → A7 → A8 → A9 → A10 → A11 → A12 → Prop) (hr : ∀ a0 a1 a2 a3 a4 a5 a6 a7 a8 a9 a10 a11 a12, J a0 a1 a2 a3 a4 a5 a6 a7 a8 a9 a10 a11 a12 → Wp P N rest Q (st a0 a1 a2 a3 a4 a5 a6 a7 a8 a9 a10 a11 a12)) (hc : Wp P N c (AExit.then (Joined13 st J) Q) L) : Wp P N (.seq c rest) Q L :=
  Wp.join (S := A0 × A1 × A2 × A3 × A4 × A5 × A6 × A7 × A8 × A9 × A10 × A11 × A12) (fun x => st x.1 x.2.1 x.2.2.1 x.2.2.2.1 x.2.2.2.2.1 x.2.2.2.2.2.1 x.2.2.2.2.2.2.1 x.2.2.2.2.2.2.2.1 x.2.2.2.2.2.2.2.2.1 x.2.2.2.2.2.2.2.2.2.1 x.2.2.2.2.2.2.2.2.2.2.1 x.2.2.2.2.2.2.2.2.2.2.2.1 x.2.2.2.2.2.2.2.2.2.2.2.2) (fun x => J x.1 x.2.1 x.2.2.1 x.2.2.2.1 x.2.2.2.2.1 x.2.2.2.2.2.1 x.2.2.2.2.2.2.1 x.2.2.2.2.2.2.2.1 x.2.2.2.2.2.2.2.2.1 x.2.2.2.2.2.2.2.2.2.1 x.2.2.2.2.2.2.2.2.2.2.1 x.2.2.2.2.2.2.2.2.2.2.2.1 x.2.2.2.2.2.2.2.2.2.2.2.2) (fun x h => hr _ _ _ _ _ _ _ _ _ _ _ _ _ h) (hc.mono fun e L' q => by
    cases e with
    | normal => obtain ⟨a0, a1, a2, a3, a4, a5, a6, a7, a8, a9, a10, a11, a12, ds, rn, h, k⟩ := q; exact ⟨⟨a0, a1, a2, a3, a4, a5, a6, a7, a8, a9, a10, a11, a12⟩, ds, rn, h, k⟩
    | exit => exact q
    | ret => exact q)
def Round13 {A0 A1 A2 A3 A4 A5 A6 A7 A8 A9 A10 A11 A12 : Type} (st : A0 → A1 → A2 → A3 → A4 → A5 → A6 → A7 → A8 → A9 → A10 → A11 → A12 → LS) (J : Nat → A0 → A1 → A2 → A3 → A4 → A5 → A6 → A7 → A8 → A9 → A10 → A11 → A12 → Prop) (n : Nat) (L' : LS) : Prop := ∃ n', ∃ a0, ∃ a1, ∃ a2, ∃ a3, ∃ a4, ∃ a5, ∃ a6, ∃ a7, ∃ a8, ∃ a9, ∃ a10, ∃ a11, ∃ a12, ∃ ds rn, n' < n ∧ J n' a0 a1 a2 a3 a4 a5 a6 a7 a8 a9 a10 a11 a12 ∧ LS.to ds rn (st a0 a1 a2 a3 a4 a5 a6 a7 a8 a9 a10 a11 a12) L'
theorem Round13.mk {A0 A1 A2 A3 A4 A5 A6 A7 A8 A9 A10 A11 A12 : Type} {st : A0 → A1 → A2 → A3 → A4 → A5 → A6 → A7 → A8 → A9 → A10 → A11 → A12 → LS} {J : Nat → A0 → A1 → A2 → A3 → A4 → A5 → A6 → A7 → A8 → A9 → A10 → A11 → A12 → Prop} {n : Nat} {L' : LS} (a0 : A0) (a1 : A1) (a2 : A2) (a3 : A3) (a4 : A4) (a5 : A5) (a6 : A6) (a7 : A7) (a8 : A8) (a9 : A9) (a10 : A10) (a11 : A11) (a12 : A12) (ds rn) (h : J n a0 a1 a2 a3 a4 a5 a6 a7 a8 a9 a10 a11 a12) (k : LS.to ds rn (st a0 a1 a2 a3 a4 a5 a6 a7 a8 a9 a10 a11 a12) L') : Round13 st J (n + 1) L' := ⟨n, a0, a1, a2, a3, a4, a5, a6, a7, a8, a9, a10, a11, a12, ds, rn, Nat.lt_succ_self n, h, k⟩
theorem Wp.loop13 {P N c Q L} {A0 A1 A2 A3 A4 A5 A6 A7 A8 A9 A10 A11 A12 : Type} (st : A0 → A1 → A2 → A3 → A4 → A5 → A6 → A7 → A8 → A9 → A10 → A11 → A12 → LS) (J : Nat → A0 → A1 → A2 → A3 → A4 → A5 → A6 → A7 → A8 → A9 → A10 → A11 → A12 → Prop) (n0 : Nat) (a0 : A0) (a1 : A1) (a2 : A2) (a3 : A3) (a4 : A4) (a5 : A5) (a6 : A6) (a7 : A7) (a8 : A8) (a9 : A9) (a10 : A10) (a11 : A11) (a12 : A12) (ds rn) (h0 : J n0 a0 a1 a2 a3 a4 a5 a6 a7 a8 a9 a10 a11 a12) (hl : LS.to ds rn (st a0 a1 a2 a3 a4 a5 a6 a7 a8 a9 a10 a11 a12) L)
    (round : ∀ n, ∀ a0 a1 a2 a3 a4 a5 a6 a7 a8 a9 a10 a11 a12, J n a0 a1 a2 a3 a4 a5 a6 a7 a8 a9 a10 a11 a12 → Wp P N c (AExit.then (Round13 st J n) Q) (st a0 a1 a2 a3 a4 a5 a6 a7 a8 a9 a10 a11 a12)) : Wp P N (.loop c) Q L :=
  Wp.loopS (S := A0 × A1 × A2 × A3 × A4 × A5 × A6 × A7 × A8 × A9 × A10 × A11 × A12) (fun x => st x.1 x.2.1 x.2.2.1 x.2.2.2.1 x.2.2.2.2.1 x.2.2.2.2.2.1 x.2.2.2.2.2.2.1 x.2.2.2.2.2.2.2.1 x.2.2.2.2.2.2.2.2.1 x.2.2.2.2.2.2.2.2.2.1 x.2.2.2.2.2.2.2.2.2.2.1 x.2.2.2.2.2.2.2.2.2.2.2.1 x.2.2.2.2.2.2.2.2.2.2.2.2) (fun n x => J n x.1 x.2.1 x.2.2.1 x.2.2.2.1 x.2.2.2.2.1 x.2.2.2.2.2.1 x.2.2.2.2.2.2.1 x.2.2.2.2.2.2.2.1 x.2.2.2.2.2.2.2.2.1 x.2.2.2.2.2.2.2.2.2.1 x.2.2.2.2.2.2.2.2.2.2.1 x.2.2.2.2.2.2.2.2.2.2.2.1 x.2.2.2.2.2.2.2.2.2.2.2.2) n0 ⟨a0, a1, a2, a3, a4, a5, a6, a7, a8, a9, a10, a11, a12⟩ ds rn h0 hl (fun n x h => (round n _ _ _ _ _ _ _ _ _ _ _ _ _ h).mono fun e L' q => by
    cases e with
    | normal => obtain ⟨n', a0, a1, a2, a3, a4, a5, a6, a7, a8, a9, a10, a11, a12, ds, rn, hn, h, k⟩ := q; exact ⟨n', ⟨a0, a1, a2, a3, a4, a5, a6, a7, a8, a9, a10, a11, a12⟩, ds, rn, hn, h, k⟩
    | exit => exact q
    | ret => exact q)
def Joined14 {A0 A1 A2 A3 A4 A5 A6 A7 A8 A9 A10 A11 A12 A13 : Type} (st : A0 → A1 → A2 → A3 → A4 → A5 → A6 → A7 → A8 → A9 → A10 → A11 → A12 → A13 → LS) (J : A0 → A1 → A2 → A3 → A4 → A5 → A6 → A7 → A8 → A9 → A10 → A11 → A12 → A13 → Prop) (L' : LS) : Prop := ∃ a0, ∃ a1, ∃ a2, ∃ a3, ∃ a4, ∃ a5, ∃ a6, ∃ a7, ∃ a8, ∃ a9, ∃ a10, ∃ a11, ∃ a12, ∃ a13, ∃ ds rn, J a0 a1 a2 a3 a4 a5 a6 a7 a8 a9 a10 a11 a12 a13 ∧ LS.to ds rn (st a0 a1 a2 a3 a4 a5 a6 a7 a8 a9 a10 a11 a12 a13) L'
theorem Joined14.mk {A0 A1 A2 A3 A4 A5 A6 A7 A8 A9 A10 A11 A12 A13 : Type} {st : A0 → A1 → A2 → A3 → A4 → A5 → A6 → A7 → A8 → A9 → A10 → A11 → A12 → A13 → LS} {J : A0 → A1 → A2 → A3 → A4 → A5 → A6 → A7 → A8 → A9 → A10 → A11 → A12 → A13 → Prop} {L' : LS} (a0 : A0) (a1 : A1) (a2 : A2) (a3 : A3) (a4 : A4) (a5 : A5) (a6 : A6) (a7 : A7) (a8 : A8) (a9 : A9) (a10 : A10) (a11 : A11) (a12 : A12) (a13 : A13) (ds rn) (h : J a0 a1 a2 a3 a4 a5 a6 a7 a8 a9 a10 a11 a12 a13) (k : LS.to ds rn (st a0 a1 a2 a3 a4 a5 a6 a7 a8 a9 a10 a11 a12 a13) L') : Joined14 st J L' := ⟨a0, a1, a2, a3, a4, a5, a6, a7, a8, a9, a10, a11, a12, a13, ds, rn, h, k⟩
theorem Wp.join14 {P N c rest Q L} {A0 A1 A2 A3 A4 A5 A6 A7 A8 A9 A10 A11 A12 A13 : Type} (st : A0 → A1 → A2 → A3 → A4 → A5 → A6 → A7 → A8 → A9 → A10 → A11 → A12 → A13 → LS) (J : A0 → A1 → A2 → A3 → A4 → A5 → A6 → A7 → A8 → A9 → A10 → A11 → A12 → A13 → Prop) (hr : ∀ a0 a1 a2 a3 a4 a5 a6 a7 a8 a9 a10 a11 a12 a13, J a0 a1 a2 a3 a4 a5 a6 a7 a8 a9 a10 a11 a12 a13 → Wp P N rest Q (st a0 a1 a2 a3 a4 a5 a6 a7 a8 a9 a10 a11 a12 a13)) (hc : Wp P N c (AExit.then (Joined14 st J) Q) L) : Wp P N (.seq c rest) Q L :=
  Wp.join (S := A0 × A1 × A2 × A3 × A4 × A5 × A6 × A7 × A8 × A9 × A10 × A11 × A12 × A13) (fun x => st x.1 x.2.1 x.2.2.1 x.2.2.2.1 x.2.2.2.2.1 x.2.2.2.2.2.1 x.2.2.2.2.2.2.1 x.2.2.2.2.2.2.2.1 x.2.2.2.2.2.2.2.2.1 x.2.2.2.2.2.2.2.2.2.1 x.2.2.2.2.2.2.2.2.2.2.1 x.2.2.2.2.2.2.2.2.2.2.2.1 x.2.2.2.2.2.2.2.2.2.2.2.2.1 x.2.2.2.2.2.2.2.2.2.2.2.2.2) (fun x => J x.1 x.2.1 x.2.2.1 x.2.2.2.1 x.2.2.2.2.1 x.2.2.2.2.2.1 x.2.2.2.2.2.2.1 x.2.2.2.2.2.2.2.1 x.2.2.2.2.2.2.2.2.1 x.2.2.2.2.2.2.2.2.2.1 x.2.2.2.2.2.2.2.2.2.2.1 x.2.2.2.2.2.2.2.2.2.2.2.1 x.2.2.2.2.2.2.2.2.2.2.2.2.1 x.2.2.2.2.2.2.2.2.2.2.2.2.2) (fun x h => hr _ _ _ _ _ _ _ _ _ _ _ _ _ _ h) (hc.mono fun e L' q => by
    cases e with
    | normal => obtain ⟨a0, a1, a2, a3, a4, a5, a6, a7, a8, a9, a10, a11, a12, a13, ds, rn, h, k⟩ := q; exact ⟨⟨a0, a1, a2, a3, a4, a5, a6, a7, a8, a9, a10, a11, a12, a13⟩, ds, rn, h, k⟩
    | exit => exact q
    | ret => exact q)
def Round14 {A0 A1 A2 A3 A4 A5 A6 A7 A8 A9 A10 A11 A12 A13 : Type} (st : A0 → A1 → A2 → A3 → A4 → A5 → A6 → A7 → A8 → A9 → A10 → A11 → A12 → A13 → LS) (J : Nat → A0 → A1 → A2 → A3 → A4 → A5 → A6 → A7 → A8 → A9 → A10 → A11 → A12 → A13 → Prop) (n : Nat) (L' : LS) : Prop := ∃ n', ∃ a0, ∃ a1, ∃ a2, ∃ a3, ∃ a4, ∃ a5, ∃ a6, ∃ a7, ∃ a8, ∃ a9, ∃ a10, ∃ a11, ∃ a12, ∃ a13, ∃ ds rn, n' < n ∧ J n' a0 a1 a2 a3 a4 a5 a6 a7 a8 a9 a10 a11 a12 a13 ∧ LS.to ds rn (st a0 a1 a2 a3 a4 a5 a6 a7 a8 a9 a10 a11 a12 a13) L'
theorem Round14.mk {A0 A1 A2 A3 A4 A5 A6 A7 A8 A9 A10 A11 A12 A13 : Type} {st : A0 → A1 → A2 → A3 → A4 → A5 → A6 → A7 → A8 → A9 → A10 → A11 → A12 → A13 → LS} {J : Nat → A0 → A1 → A2 → A3 → A4 → A5 → A6 → A7 → A8 → A9 → A10 → A11 → A12 → A13 → Prop} {n : Nat} {L' : LS} (a0 : A0) (a1 : A1) (a2 : A2) (a3 : A3) (a4 : A4) (a5 : A5) (a6 : A6) (a7 : A7) (a8 : A8) (a9 : A9) (a10 : A10) (a11 : A11) (a12 : A12) (a13 : A13) (ds rn) (h : J n a0 a1 a2 a3 a4 a5 a6 a7 a8 a9 a10 a11 a12 a13) (k : LS.to ds rn (st a0 a1 a2 a3 a4 a5 a6 a7 a8 a9 a10 a11 a12 a13) L') : Round14 st J (n + 1) L' := ⟨n, a0, a1, a2, a3, a4, a5, a6, a7, a8, a9, a10, a11, a12, a13, ds, rn, Nat.lt_succ_self n, h, k⟩
theorem Wp.loop14 {P N c Q L} {A0 A1 A2 A3 A4 A5 A6 A7 A8 A9 A10 A11 A12 A13 : Type} (st : A0 → A1 → A2 → A3 → A4 → A5 → A6 → A7 → A8 → A9 → A10 → A11 → A12 → A13 → LS) (J : Nat → A0 → A1 → A2 → A3 → A4 → A5 → A6 → A7 → A8 → A9 → A10 → A11 → A12 → A13 → Prop) (n0 : Nat) (a0 : A0) (a1 : A1) (a2 : A2) (a3 : A3) (a4 : A4) (a5 : A5) (a6 : A6) (a7 : A7) (a8 : A8) (a9 : A9) (a10 : A10) (a11 : A11) (a12 : A12) (a13 : A13) (ds rn) (h0 : J n0 a0 a1 a2 a3 a4 a5 a6 a7 a8 a9 a10 a11 a12 a13) (hl : LS.to ds rn (st a0 a1 a2 a3 a4 a5 a6 a7 a8 a9 a10 a11 a12 a13) L)
    (round : ∀ n, ∀ a0 a1 a2 a3 a4 a5 a6 a7 a8 a9 a10 a11 a12 a13, J n a0 a1 a2 a3 a4 a5 a6 a7 a8 a9 a10 a11 a12 a13 → Wp P N c (AExit.then (Round14 st J n) Q) (st a0 a1 a2 a3 a4 a5 a6 a7 a8 a9 a10 a11 a12 a13)) : Wp P N (.loop c) Q L :=
  Wp.loopS (S := A0 × A1 × A2 × A3 × A4 × A5 × A6 × A7 × A8 × A9 × A10 × A11 × A12 × A13) (fun x => st x.1 x.2.1 x.2.2.1 x.2.2.2.1 x.2.2.2.2.1 x.2.2.2.2.2.1 x.2.2.2.2.2.2.1 x.2.2.2.2.2.2.2.1 x.2.2.2.2.2.2.2.2.1 x.2.2.2.2.2.2.2.2.2.1 x.2.2.2.2.2.2.2.2.2.2.1 x.2.2.2.2.2.2.2.2.2.2.2.1 x.2.2.2.2.2.2.2.2.2.2.2.2.1 x.2.2.2.2.2.2.2.2.2.2.2.2.2) (fun n x => J n x.1 x.2.1 x.2.2.1 x.2.2.2.1 x.2.2.2.2.1 x.2.2.2.2.2.1 x.2.2.2.2.2.2.1 x.2.2.2.2.2.2.2.1 x.2.2.2.2.2.2.2.2.1 x.2.2.2.2.2.2.2.2.2.1 x.2.2.2.2.2.2.2.2.2.2.1 x.2.2.2.2.2.2.2.2.2.2.2.1 x.2.2.2.2.2.2.2.2.2.2.2.2.1 x.2.2.2.2.2.2.2.2.2.2.2.2.2) n0 ⟨a0, a1, a2, a3, a4, a5, a6, a7, a8, a9, a10, a11, a12, a13⟩ ds rn h0 hl (fun n x h => (round n _ _ _ _ _ _ _ _ _ _ _ _ _ _ h).mono fun e L' q => by
    cases e with
    | normal => obtain ⟨n', a0, a1, a2, a3, a4, a5, a6, a7, a8, a9, a10, a11, a12, a13, ds, rn, hn, h, k⟩ := q; exact ⟨n', ⟨a0, a1, a2, a3, a4, a5, a6, a7, a8, a9, a10, a11, a12, a13⟩, ds, rn, hn, h, k⟩
    | exit => exact q
    | ret => exact q)

theorem LS.to.mk {ds rn e h f e' h' f'} (he : toE ds rn e e') (hh : toH ds rn h h') (hn : namesOk ds rn f f' = true) : LS.to ds rn ⟨e', h', f'⟩ ⟨e, h, f⟩ := ⟨he, hh, hn⟩
theorem toE.n {ds rn e} : toE ds rn e [] := trivial
theorem toE.c {ds rn e t x y r} (hf : find t e = some y) (hs : SubN ds rn y x) (k : toE ds rn e r) : toE ds rn e ((t, x) :: r) := ⟨⟨y, hf, hs⟩, k⟩
theorem toE.b {ds rn e t x r} (hf : find t e = some x) (hs : x.isBare = true) (k : toE ds rn e r) : toE ds rn e ((t, x) :: r) := ⟨⟨x, hf, .b hs⟩, k⟩
theorem toE.r {ds rn e t x y r} (hf : find t e = some y) (hs : y.rn ds rn = x) (k : toE ds rn e r) : toE ds rn e ((t, x) :: r) := ⟨⟨y, hf, .r (hs ▸ .same)⟩, k⟩
/-- A slice loses its token. -/
theorem toE.d {ds rn e t k sz l r} (hf : find t e = some (.sl k sz l)) (k' : toE ds rn e r) : toE ds rn e ((t, .sl none sz l) :: r) := by
  refine ⟨⟨_, hf, .r ?_⟩, k'⟩
  cases k with
  | none => unfold AV.rn; simp only [AV.re]; exact .drop
  | some k => unfold AV.rn; simp only [AV.re]; exact .drop
theorem toH.n {ds rn e} : toH ds rn e [] := trivial
theorem rnL_bare {ds rn l} (h : allBare l = true) : rnL ds rn l = l := bareL_of_allBare h
theorem toH.b {ds rn e t l r} (h1 : (ds.contains t || rn.any fun p => p.1 == t) = false) (hf : find t e = some (.cells l)) (hb : allBare l = true) (k : toH ds rn e r) : toH ds rn e ((t, .cells l) :: r) :=
  ⟨⟨h1, _, hf, by simp only [ABlk.rn]; rw [rnL_bare hb]⟩, k⟩
theorem toH.r {ds rn e t l l' r} (h1 : (ds.contains t || rn.any fun p => p.1 == t) = false) (hf : find t e = some (.cells l)) (hb : rnL ds rn l = l') (k : toH ds rn e r) : toH ds rn e ((t, .cells l') :: r) :=
  ⟨⟨h1, _, hf, by simp only [ABlk.rn]; rw [hb]⟩, k⟩
theorem toH.it {ds rn e t s p r} (h1 : (ds.contains t || rn.any fun p => p.1 == t) = false) (hf : find t e = some (.iter s p)) (k : toH ds rn e r) : toH ds rn e ((t, .iter s p) :: r) :=
  ⟨⟨h1, _, hf, rfl⟩, k⟩

/-- What holds at a function's end. -/
def LeafQ (P : Program) (fn : Func) (r : AV) : AExit → LS → Prop := fun e L => (e = .normal ∨ e = .ret) ∧ ∃ xs ks, ks.Nodup ∧ RessOk P L fn.results.toList xs ∧ (tupleOf xs).expo ks = r
theorem LeafQ.ret {P fn r L xs} (ks : List Tok) (hn : ks.Nodup) (h : RessOk P L fn.results.toList xs) (he : (tupleOf xs).expo ks = r) : LeafQ P fn r .ret L := ⟨.inr rfl, xs, ks, hn, h, he⟩
theorem LeafQ.nor {P fn r L xs} (ks : List Tok) (hn : ks.Nodup) (h : RessOk P L fn.results.toList xs) (he : (tupleOf xs).expo ks = r) : LeafQ P fn r .normal L := ⟨.inl rfl, xs, ks, hn, h, he⟩
theorem FnR.intro' {P f fn c args r N} (hf : P.funcs[f]? = some fn) (hb : fn.body = some c) (hN : fn.ntmps = N) (hn : args.length ≤ N) (names : List Nat) (h : Wp P N c (LeafQ P fn r) ⟨envFrom 0 args, [], names⟩) : FnR P f args r :=
  FnR.intro hf hb hN hn names h
theorem some_e {α : Type} {v r : α} {C : α → Prop} (h : some v = some r) (k : C v) : C r := by cases h; exact k
theorem eq_e {α : Type} {v r : α} {C : α → Prop} (h : v = r) (k : C v) : C r := by cases h; exact k

theorem lt_b {d N : Nat} (h : Nat.ble (d + 1) N = true) : d < N := Nat.le_of_ble_eq_true h
theorem le_b {d N : Nat} (h : Nat.ble d N = true) : d ≤ N := Nat.le_of_ble_eq_true h
theorem QEx.as {P o e need cr} (x : AV) (q : QEx P o e need cr x) : QEx P o e need cr x := q
theorem gcall {X : Type} {c : Prop} [Decidable c] {A B y : X} (h : (if c then A else B) = y) (hg : c) : A = y := by rw [if_pos hg] at h; exact h
theorem FnR.bare {P f args r} (h : FnR P f args r) : FnR P f args r.bare := by
  intro w m vs hi hr
  refine (h w m vs hi hr).mono ?_
  rintro e w' ⟨v, m', hh', h1, h2, h3, h4, h5⟩
  exact ⟨v, m', hh', h1, h2, h3, h4, h5.bare⟩

theorem Wp.drawn2 {P : Program} {N id : Nat} {ops : Array Oper} {Q : AExit → LS → Prop} {e : Env} {h : Hp} {f : List Nat} {n0 : Nat} (f' : List Nat) (hm : P.follows .mixedOrders = true)
    (g : GoD P ops N (ops.toList.take n0) e h fun cs e' h' => barOk ops (ops.toList.take n0).length = true ∧ locOkFrom [] 0 (ops.toList.take n0) cs = true ∧ nodupB (namesOf cs) = true ∧ (namesOf cs).all (fun d => f.contains d) = true ∧
      f'.all (fun y => f.contains y && !(namesOf cs).contains y) = true ∧ GoT P ops N (ops.toList.drop n0) (Q .normal) ⟨e', h', f'⟩) : Wp P N (.region id ops true) Q ⟨e, h, f⟩ :=
  let ⟨_, _, _, t, a0, a, b, c, d, q⟩ := g
  Wp.draw2 hm (List.take_append_drop n0 _).symm a0 t a b c d q

/-- Comparison of structs. -/
def EqT {α : Type} (P : Program) (t : TypeId) (E : α → AV) (beq : α → α → Bool) : Prop :=
  P.eqGuardType P.depth t = false ∧ ∃ vs : α → List Value, (∀ x, E x = .agg ((vs x).map AV.v)) ∧ ∀ (w : World) x y, (Op.equalIn 10000 t (.agg (vs x).toArray) (.agg (vs y).toArray)).run P w = .ok (beq x y) w
theorem if_ok {c : Prop} [Decidable c] {p : Bool} {w : World} : (if c then Result.ok p w else Result.ok false w) = Result.ok (decide c && p) w := by split <;> simp [*]
theorem Reps.vs {m bl hh} : ∀ {l vs : List Value}, Reps m bl hh (l.map AV.v) vs → vs = l
  | [], _, .nil => rfl
  | _ :: _, _, .cons h t => by rw [t.vs, h.eq_v]
theorem Rep.aggV {m bl hh v} {l : List Value} (h : Rep m bl hh (.agg (l.map AV.v)) v) : v = .agg l.toArray := by
  generalize hz : AV.agg (l.map AV.v) = z at h
  cases h <;> cases hz
  rename_i h1 h2 h3
  rw [h3.vs]
section
variable {P : Program} {o : Oper} {e : Env}
theorem QEx.ldP {t y id off sz} (l : List AV) (x : AV) (ho : o.op = .load t y) (ha : tAg P t = some true) (hs : tSz P t = some sz) (hy : OpdOk P e 0 y (.ptr id off)) (hfit : off + sz ≤ l.length) (hx : AV.agg ((l.drop off).take sz) = x) :
    QEx P o e [(id, l)] false x := hx ▸ QEx.loadP ho ha hs hy hfit
theorem QEx.ldP1 {t y id off} (l : List AV) (x : AV) (ho : o.op = .load t y) (ha : tAg P t = some false) (hy : OpdOk P e 0 y (.ptr id off)) (hx : l[off]? = some x) : QEx P o e [(id, l)] false x := QEx.loadP1 ho ha hy hx
theorem QEx.cal {f : FuncId} {args : Array Operand} {tys : Array TypeId} {xs : List AV} {r r' : AV} (ys : List AV) (ho : o.op = .call { callee := .value (.func f), args, argTypes := tys })
    (hc : ∀ (vs : Array Value) (w : World), (callFunc f vs).run P w = .ok (.enter f vs) w) (hx : OpdsOk P e args.toList xs) (h : FnR P f ys r) (hy : bareL xs = ys) {d : Nat} (hd : o.dst = some d) (hr : r.retok d = r') :
    QEx P o e [] true r' := hr ▸ QEx.call ho hc hx hy h hd
theorem QEx.cal0 {f : FuncId} {args : Array Operand} {tys : Array TypeId} {xs : List AV} {r : AV} (ys : List AV) (ho : o.op = .call { callee := .value (.func f), args, argTypes := tys })
    (hc : ∀ (vs : Array Value) (w : World), (callFunc f vs).run P w = .ok (.enter f vs) w) (hx : OpdsOk P e args.toList xs) (h : FnR P f ys r) (hy : bareL xs = ys) (hb : r.isBare = true) :
    QEx P o e [] false r := QEx.call0 ho hc hx hy h hb
theorem QEx.fldP {t y f id off fs fd sz} (r : Nat) (ho : o.op = .fieldAddr t y f) (hT : P.underlying t = some (.struct fs)) (hf : fs[f]? = some fd) (hs : tSz P fd.type = some sz) (hpos : Nat.ble 1 sz = true)
    (hy : OpdOk P e 0 y (.ptr id off)) (hr : off + fd.offset = r) : QEx P o e [] false (.ptr id r) := hr ▸ QEx.fieldP ho hT hf hs (Nat.le_of_ble_eq_true hpos) hy
theorem QEx.fldC {t y f l fs fd sz} (r : List AV) (ho : o.op = .fieldAddr t y f) (hT : P.underlying t = some (.struct fs)) (hf : fs[f]? = some fd) (hs : tSz P fd.type = some sz) (hpos : Nat.ble 1 sz = true)
    (hy : OpdOk P e 0 y (.cptr l)) (hr : (l.drop fd.offset).take sz = r) : QEx P o e [] false (.cptr r) := hr ▸ QEx.fieldC ho hT hf hs (Nat.le_of_ble_eq_true hpos) hy
theorem QEx.eqlA {α : Type} {E : α → AV} {beq : α → α → Bool} {t y z a b} (ho : o.op = .binOp .eql t y z t) (ht : EqT P t E beq) (hy : OpdOk P e t y (E a)) (hz : OpdOk P e t z (E b)) : QEx P o e [] false (boolAV (beq a b)) :=
  .pure fun _ _ _ _ _ _ ac w _ _ hr => by
    obtain ⟨hg, vs, hE, heq⟩ := ht
    rw [hE] at hy hz
    have h1 := (hy.rep hr (by simp [ho, Op.operands])).aggV
    have h2 := (hz.rep hr (by simp [ho, Op.operands])).aggV
    refine ⟨.bool (beq a b), ?_, .v⟩
    have h3 := run_eqGuard_agg (P := P) w .eql t y z (vs a).toArray (vs b).toArray hg
    have h4 := run_eql_struct (P := P) w t (vs a).toArray (vs b).toArray
    rw [heq w a b] at h4
    simp only [Result.andThen_ok] at h4
    simp [execOp, ho, h1, h2, h3, h4]
theorem QEx.neqA {α : Type} {E : α → AV} {beq : α → α → Bool} {t y z a b} (ho : o.op = .binOp .neq t y z t) (ht : EqT P t E beq) (hy : OpdOk P e t y (E a)) (hz : OpdOk P e t z (E b)) : QEx P o e [] false (boolAV (!beq a b)) :=
  .pure fun _ _ _ _ _ _ ac w _ _ hr => by
    obtain ⟨hg, vs, hE, heq⟩ := ht
    rw [hE] at hy hz
    have h1 := (hy.rep hr (by simp [ho, Op.operands])).aggV
    have h2 := (hz.rep hr (by simp [ho, Op.operands])).aggV
    refine ⟨.bool (!beq a b), ?_, .v⟩
    have h3 := run_eqGuard_agg (P := P) w .neq t y z (vs a).toArray (vs b).toArray hg
    have h4 := run_neq_struct (P := P) w t (vs a).toArray (vs b).toArray
    rw [heq w a b] at h4
    simp only [Result.andThen_ok] at h4
    simp [execOp, ho, h1, h2, h3, h4]
end
section
variable {P : Program} {o : Oper} {L : LS}
theorem AEx.sto {t y z id off l x sz Z} (ho : o.op = .store t y z) (hdst : o.dst = none) (hs : tSz P t = some sz) (hy : OpdOk P L.e 0 y (.ptr id off)) (hh : find id L.h = some (.cells l))
    (hz : OpdOk P L.e t z x) (hx : x.solid = true) (hl : x.cells.length = sz) (hfit : off + sz ≤ l.length) (hZ : l.take off ++ x.cells ++ l.drop (off + sz) = Z) :
    AEx P o L ⟨L.e, (id, .cells Z) :: L.h, L.f⟩ := hZ ▸ AEx.store ho hdst hs hy hh hz hx hl hfit
theorem AEx.bx {E y x d f' Z} (ho : o.op = .box E y) (hy : OpdOk P L.e E y x) (hs : x.solid = true) (hd : o.dst = some d) (hf : takeOut d L.f = some f') (hZ : x.cells = Z) :
    AEx P o L ⟨(d, .ptr d 0) :: L.e, (d, .cells Z) :: L.h, f'⟩ := hZ ▸ AEx.box ho hy hs hd hf
theorem AEx.appL {α : Type} {E : α → AV} {t y z T sz by_ tk l tk2 l2 d f' x} (ho : o.op = .call { callee := .builtin .append, args := #[y, z], argTypes := #[t, t] })
    (ht : ElemT P t T sz by_) (hy : OpdOk P L.e t y (.sl tk sz (l.map E))) (hz : OpdOk P L.e t z (.sl tk2 sz (l2.map E))) (hk : tk.isSome = true)
    (hlen : (l.length + l2.length) * by_ ≤ 140737488355328) (hd : o.dst = some d) (hf : takeOut d (rootOf tk ++ L.f) = some f') (hx : l ++ l2 = x) (hby : by_ ≠ 0) :
    AEx P o L ⟨(d, slT d 0 sz E x) :: (L.purge (rootOf tk)).e, (L.purge (rootOf tk)).h, f'⟩ := by
  subst hx
  have h63 : l.length + l2.length ≤ 9223372036854775807 := by
    have : (l.length + l2.length) * 1 ≤ (l.length + l2.length) * by_ := Nat.mul_le_mul_left _ (by omega)
    omega
  have := AEx.append ho ht hy hz hk (by simpa using hlen) (by simpa using h63) hd hf
  rw [← List.map_append] at this
  exact this
end
end Go.Cx
