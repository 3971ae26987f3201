/- IsSumOfThree answers as the reference does, for every int. -/
import Derived.Test.YthmjkdkpoapchaaPFnExactIsSumOfThreex1
import Derived.Test.YthmjkdkpoapchaaNtC
import Derived.Test.YthmjkdkpoapchaaNtG
namespace Go.Proofs.Ythmjkdkpoapchaa.Pure
set_option linter.unusedVariables false
open Go Go.RowKit Go.Proofs.Ythmjkdkpoapchaa.PFnExactIsSumOfThree Go.Proofs.YthmjkdkpoapchaaW.PrintWords Go.Proofs.YthmjkdkpoapchaaW.PrintLast Go.Proofs.Ythmjkdkpoapchaa.Nt
theorem Ev.done {α : Type} {g : Nat → Option α} {r : α} (h : ∀ k, g (k + 1) = some r) : Ev g r := Ev.step (f := fun _ => some r) h (Ev.now r)
theorem Ev.const {α : Type} {g : Nat → Option α} {r : α} (h : ∀ k, g k = some r) : Ev g r := Ev.congr (f := fun _ => some r) h (Ev.now r)
theorem wr {a : Nat} (h : a < 9223372036854775808) : wrap64 (a : Int) = a := by unfold wrap64; omega
theorem wri {a : Int} (h0 : -9223372036854775808 ≤ a) (h : a < 9223372036854775808) : wrap64 a = a := by unfold wrap64; omega
theorem wr_mul {a b : Nat} (h : a * b < 9223372036854775808) : wrap64 ((a : Int) * b) = ((a * b : Nat) : Int) := by rw [← Int.natCast_mul]; exact wr h
theorem wr_succ {a : Nat} (h : a < 9223372036854775807) : wrap64 ((a : Int) + 1) = ((a + 1 : Nat) : Int) := wr (a := a + 1) (by omega)
theorem wr_tdiv {a b : Nat} (h : a < 9223372036854775808) : wrap64 (Int.tdiv (a : Int) b) = ((a / b : Nat) : Int) := wr (a := a / b) (Nat.lt_of_le_of_lt (Nat.div_le_self a b) h)
theorem tm (a b : Nat) : Int.tmod (a : Int) b = ((a % b : Nat) : Int) := rfl
theorem sq_lt {a b : Nat} (h : a ≤ 3037000499) (k : b ≤ 3037000499) : a * b < 9223372036854775808 := Nat.lt_of_le_of_lt (Nat.mul_le_mul h k) (by decide)
theorem spec_l1In_eq (a b c : Int) : spec_l1In.f a b c = some (decide (b ≤ a ∧ a ≤ c)) := by
  unfold spec_l1In.f
  by_cases h : a ≥ b
  · rw [if_pos h, decide_eq_decide.2 (show a ≤ c ↔ b ≤ a ∧ a ≤ c from ⟨fun k => ⟨h, k⟩, fun k => k.2⟩)]
  · rw [if_neg h, decide_eq_false (fun k => h k.1)]
theorem spec_sqGood_eq (a : Int) : spec_sqGood.f a = some (decide (1 ≤ a ∧ a ≤ 100000)) := by
  unfold spec_sqGood.f; rw [spec_l1In_eq]; rfl
theorem impl_isAsked_eq (a : Int) : impl_isAsked.f a = some (decide (1 ≤ a ∧ a ≤ 100000)) := by
  unfold impl_isAsked.f
  by_cases h : a ≥ 1
  · rw [if_pos h, decide_eq_decide.2 (show a ≤ 100000 ↔ 1 ≤ a ∧ a ≤ 100000 from ⟨fun k => ⟨h, k⟩, fun k => k.2⟩)]
  · rw [if_neg h, decide_eq_false (fun k => h k.1)]
def third (n : Nat) : Bool := if h : n ≠ 0 ∧ n % 4 = 0 then third (n / 4) else n % 8 != 7
termination_by n
decreasing_by omega
theorem third_div {n : Nat} (h0 : 0 < n) (h : n % 4 = 0) : third n = third (n / 4) := by rw [third, dif_pos ⟨by omega, h⟩]
theorem third_end {n : Nat} (h : n % 4 ≠ 0) : third n = (n % 8 != 7) := by rw [third, dif_neg (fun k => h k.2)]
theorem tm8 (n : Nat) : (Int.tmod (n : Int) 8 != 7) = (n % 8 != 7) := by
  have : Int.tmod (n : Int) 8 = ((n % 8 : Nat) : Int) := rfl
  rw [this, Bool.eq_iff_iff, bne_iff_ne, bne_iff_ne]; omega
theorem spec_third (n : Nat) : 0 < n → n ≤ 1000000 → Ev (fun k => spec_IsSumOfThree.l0 k n) (third n, true) := by
  induction n using Nat.strongRecOn with
  | _ n ih =>
    intro h0 hn
    have e : Int.tmod (n : Int) 4 = ((n % 4 : Nat) : Int) := rfl
    by_cases h : n % 4 = 0
    · rw [third_div h0 h]
      refine Ev.step (fun k => ?_) (ih (n / 4) (by omega) (by omega) (by omega))
      simp only [spec_IsSumOfThree.l0]
      rw [e, if_pos (by omega)]
      rw [show wrap64 (Int.tdiv (n : Int) 4) = ((n / 4 : Nat) : Int) from wr (a := n / 4) (by omega)]
    · rw [third_end h]
      refine Ev.done fun k => ?_
      simp only [spec_IsSumOfThree.l0]
      rw [e, if_neg (by omega), tm8]
theorem impl_third (n : Nat) : 0 < n → n ≤ 1000000 → Ev (fun k => impl_IsSumOfThree.l0 k n) (third n, true) := by
  induction n using Nat.strongRecOn with
  | _ n ih =>
    intro h0 hn
    have e : Int.tmod (n : Int) 4 = ((n % 4 : Nat) : Int) := rfl
    by_cases h : n % 4 = 0
    · rw [third_div h0 h]
      refine Ev.step (fun k => ?_) (ih (n / 4) (by omega) (by omega) (by omega))
      simp only [impl_IsSumOfThree.l0]
      rw [e, if_pos (by omega)]
      rw [show wrap64 (Int.tdiv (n : Int) 4) = ((n / 4 : Nat) : Int) from wr (a := n / 4) (by omega)]
    · rw [third_end h]
      refine Ev.done fun k => ?_
      simp only [impl_IsSumOfThree.l0]
      rw [e, if_neg (by omega), tm8]
theorem spec_IsSumOfThree_ev (n : Nat) (h0 : 0 < n) (hn : n ≤ 100000) : Ev (fun k => spec_IsSumOfThree.f k n) (third n, true) := by
  unfold spec_IsSumOfThree.f
  rw [spec_sqGood_eq, decide_eq_true (by omega)]
  simp only [Option.bind_some, if_true]
  exact spec_third n h0 (by omega)
theorem impl_IsSumOfThree_ev (n : Nat) (h0 : 0 < n) (hn : n ≤ 100000) : Ev (fun k => impl_IsSumOfThree.f k n) (third n, true) := by
  unfold impl_IsSumOfThree.f
  rw [impl_isAsked_eq, decide_eq_true (by omega)]
  simp only [Option.bind_some, if_true]
  exact impl_third n h0 (by omega)
theorem FnExactIsSumOfThree : laws_FnExactIsSumOfThree.Pure := by
  intro a _
  apply Ev.rounds
  unfold laws_FnExactIsSumOfThree.f
  by_cases h : 1 ≤ a ∧ a ≤ 100000
  · obtain ⟨n, rfl⟩ := Int.eq_ofNat_of_zero_le (show 0 ≤ a by omega)
    refine (spec_IsSumOfThree_ev n (by omega) (by omega)).bind ((impl_IsSumOfThree_ev n (by omega) (by omega)).bind ?_)
    simp only [bne_self_eq_false, Bool.false_eq_true, if_false]
    exact Ev.now _
  · refine Ev.const fun k => ?_
    unfold spec_IsSumOfThree.f impl_IsSumOfThree.f
    rw [spec_sqGood_eq, impl_isAsked_eq, decide_eq_false h]
    rfl
end Go.Proofs.Ythmjkdkpoapchaa.Pure
