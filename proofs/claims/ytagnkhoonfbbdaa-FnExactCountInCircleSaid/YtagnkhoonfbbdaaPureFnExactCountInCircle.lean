/- CountInCircle answers as the reference does, for every argument. -/
import Derived.Test.YtagnkhoonfbbdaaPFnExactCountInCirclex1
import Derived.Test.YtagnkhoonfbbdaaNtC
import Derived.Test.YtagnkhoonfbbdaaNtQ
namespace Go.Proofs.Ytagnkhoonfbbdaa.Pure
set_option linter.unusedVariables false
open Go Go.RowKit Go.Proofs.Ytagnkhoonfbbdaa.PFnExactCountInCircle Go.Proofs.YtagnkhoonfbbdaaW.PrintWords Go.Proofs.YtagnkhoonfbbdaaW.PrintLast Go.Proofs.Ytagnkhoonfbbdaa.Nt
theorem Ev.done {α : Type} {g : Nat → Option α} {r : α} (h : ∀ k, g (k + 1) = some r) : Ev g r := Ev.step (f := fun _ => some r) h (Ev.now r)
theorem Ev.const {α : Type} {g : Nat → Option α} {r : α} (h : ∀ k, g k = some r) : Ev g r := Ev.congr (f := fun _ => some r) h (Ev.now r)
theorem wr {a : Nat} (h : a < 9223372036854775808) : wrap64 (a : Int) = a := by unfold wrap64; omega
theorem wri {a : Int} (h0 : -9223372036854775808 ≤ a) (h : a < 9223372036854775808) : wrap64 a = a := by unfold wrap64; omega
theorem wr_mul {a b : Nat} (h : a * b < 9223372036854775808) : wrap64 ((a : Int) * b) = ((a * b : Nat) : Int) := by rw [← Int.natCast_mul]; exact wr h
theorem wr_succ {a : Nat} (h : a < 9223372036854775807) : wrap64 ((a : Int) + 1) = ((a + 1 : Nat) : Int) := wr (a := a + 1) (by omega)
theorem wr_tdiv {a b : Nat} (h : a < 9223372036854775808) : wrap64 (Int.tdiv (a : Int) b) = ((a / b : Nat) : Int) := wr (a := a / b) (Nat.lt_of_le_of_lt (Nat.div_le_self a b) h)
theorem tm (a b : Nat) : Int.tmod (a : Int) b = ((a % b : Nat) : Int) := rfl
theorem sq_lt {a b : Nat} (h : a ≤ 3037000499) (k : b ≤ 3037000499) : a * b < 9223372036854775808 := Nat.lt_of_le_of_lt (Nat.mul_le_mul h k) (by decide)
theorem spec_l1In_eq (a b c : Int) : spec_l1In.f a b c = some (decide (b ≤ a ∧ a ≤ c)) := by
  unfold spec_l1In.f
  by_cases h : a ≥ b
  · rw [if_pos h, decide_eq_decide.2 (show a ≤ c ↔ b ≤ a ∧ a ≤ c from ⟨fun k => ⟨h, k⟩, fun k => k.2⟩)]
  · rw [if_neg h, decide_eq_false (fun k => h k.1)]
theorem spec_sqGood_eq (a : Int) : spec_sqGood.f a = some (decide (1 ≤ a ∧ a ≤ 100000)) := by
  unfold spec_sqGood.f; rw [spec_l1In_eq]; rfl
theorem impl_isAsked_eq (a : Int) : impl_isAsked.f a = some (decide (1 ≤ a ∧ a ≤ 100000)) := by
  unfold impl_isAsked.f
  by_cases h : a ≥ 1
  · rw [if_pos h, decide_eq_decide.2 (show a ≤ 100000 ↔ 1 ≤ a ∧ a ≤ 100000 from ⟨fun k => ⟨h, k⟩, fun k => k.2⟩)]
  · rw [if_neg h, decide_eq_false (fun k => h k.1)]
theorem isq_le (n : Nat) : isq n ≤ n := by
  obtain ⟨h, _⟩ := isq_spec n
  rcases Nat.eq_zero_or_pos (isq n) with h0 | h0
  · omega
  · have := Nat.mul_le_mul_left (isq n) h0; omega
theorem isq_small {n : Nat} (h : n ≤ 1000000) : isq n ≤ 1000 := by
  obtain ⟨h1, _⟩ := isq_spec n
  rcases Nat.lt_or_ge 1000 (isq n) with h2 | h2
  · have := Nat.mul_le_mul (show 1001 ≤ isq n from h2) (show 1001 ≤ isq n from h2); omega
  · exact h2
theorem spec_sqRoot_l (n : Nat) (hn : n ≤ 1000000) : ∀ (j r : Nat), isq n ≤ r + j → r ≤ isq n → Ev (fun k => spec_sqRoot.l0 k n r) (isq n : Int) := by
  obtain ⟨h1, h2⟩ := isq_spec n
  have hs := isq_small hn
  have hend : Ev (fun k => spec_sqRoot.l0 k n (isq n)) (isq n : Int) := by
    refine Ev.done fun k => ?_
    simp only [spec_sqRoot.l0]
    rw [wr_succ (by omega), wr_mul (sq_lt (by omega) (by omega)), if_neg (by omega)]
  intro j
  induction j with
  | zero =>
    intro r h3 h4
    obtain rfl : r = isq n := by omega
    exact hend
  | succ j ih =>
    intro r h3 h4
    by_cases h : r < isq n
    · have h5 : (r + 1) * (r + 1) ≤ n := Nat.le_trans (Nat.mul_le_mul h h) h1
      refine Ev.step (fun k => ?_) (ih (r + 1) (by omega) (by omega))
      simp only [spec_sqRoot.l0]
      rw [wr_succ (by omega), wr_mul (sq_lt (by omega) (by omega)), if_pos (by omega)]
    · obtain rfl : r = isq n := by omega
      exact hend
theorem spec_sqRoot_ev (n : Nat) (hn : n ≤ 1000000) : Ev (fun k => spec_sqRoot.f k n) (isq n : Int) :=
  spec_sqRoot_l n hn (isq n) 0 (by omega) (by omega)
theorem impl_rootOf_eq (n : Nat) (hn : n ≤ 1000000) : impl_rootOf.f n = some (isq n : Int) := by
  unfold impl_rootOf.f
  rw [if_pos (by omega), if_pos (by omega), Int.toNat_natCast]
/-- How many points lie in the first i columns of the circle. -/
def cols (n : Nat) : Nat → Int
  | 0 => 0
  | i + 1 => cols n i + (2 * (isq (n - ((i : Int) - isq n).natAbs * ((i : Int) - isq n).natAbs) : Int) + 1)
theorem cols_bd (n : Nat) (hn : n ≤ 1000000) : ∀ i, 0 ≤ cols n i ∧ cols n i ≤ 2001 * i
  | 0 => by simp [cols]
  | i + 1 => by
    have h1 := cols_bd n hn i
    have h2 := isq_small (n := n - ((i : Int) - isq n).natAbs * ((i : Int) - isq n).natAbs) (by omega)
    simp only [cols]; omega
theorem wr_sq {x : Int} (h : x.natAbs ≤ 3037000499) : wrap64 (x * x) = ((x.natAbs * x.natAbs : Nat) : Int) := by
  rw [← Int.natAbs_mul_self (a := x)]
  exact wr (sq_lt h h)
/-- One column. -/
theorem col_step (n i : Nat) (h0 : 0 < n) (hn : n ≤ 100000) (hi : i ≤ 2 * isq n) : (((i : Int) - isq n).natAbs * ((i : Int) - isq n).natAbs) ≤ n ∧
    wrap64 ((n : Int) - wrap64 (((i : Int) - isq n) * ((i : Int) - isq n))) = ((n - ((i : Int) - isq n).natAbs * ((i : Int) - isq n).natAbs : Nat) : Int) ∧
    wrap64 (cols n i + wrap64 (wrap64 (2 * (isq (n - ((i : Int) - isq n).natAbs * ((i : Int) - isq n).natAbs) : Int)) + 1)) = cols n (i + 1) ∧ wrap64 ((i : Int) - isq n + 1) = ((i + 1 : Nat) : Int) - isq n := by
  have hs := isq_small (n := n) (by omega)
  have ha : ((i : Int) - isq n).natAbs ≤ isq n := by omega
  have h1 : ((i : Int) - isq n).natAbs * ((i : Int) - isq n).natAbs ≤ n := Nat.le_trans (Nat.mul_le_mul ha ha) (isq_spec n).1
  have hb := cols_bd n (by omega) i
  have h2 := isq_small (n := n - ((i : Int) - isq n).natAbs * ((i : Int) - isq n).natAbs) (by omega)
  refine ⟨h1, ?_, ?_, ?_⟩
  · rw [wr_sq (by omega), wri (by omega) (by omega)]; omega
  · have e1 : wrap64 (2 * (isq (n - ((i : Int) - isq n).natAbs * ((i : Int) - isq n).natAbs) : Int)) = 2 * (isq (n - ((i : Int) - isq n).natAbs * ((i : Int) - isq n).natAbs) : Int) := wri (by omega) (by omega)
    have e2 : wrap64 (2 * (isq (n - ((i : Int) - isq n).natAbs * ((i : Int) - isq n).natAbs) : Int) + 1) = 2 * (isq (n - ((i : Int) - isq n).natAbs * ((i : Int) - isq n).natAbs) : Int) + 1 := wri (by omega) (by omega)
    rw [e1, e2, wri (by omega) (by omega)]; rfl
  · rw [wri (by omega) (by omega)]; omega
theorem spec_CountInCircle_l (n : Nat) (h0 : 0 < n) (hn : n ≤ 100000) : ∀ (j i : Nat), 2 * isq n + 1 ≤ i + j → i ≤ 2 * isq n + 1 → Ev (fun k => spec_CountInCircle.l0 k n (cols n i) (isq n) ((i : Int) - isq n)) (cols n (2 * isq n + 1), true) := by
  have hs := isq_small (n := n) (by omega)
  have hend : Ev (fun k => spec_CountInCircle.l0 k n (cols n (2 * isq n + 1)) (isq n) (((2 * isq n + 1 : Nat) : Int) - isq n)) (cols n (2 * isq n + 1), true) := by
    refine Ev.done fun k => ?_
    simp only [spec_CountInCircle.l0]
    rw [if_neg (by omega)]
  intro j
  induction j with
  | zero =>
    intro i h1 h2
    obtain rfl : i = 2 * isq n + 1 := by omega
    exact hend
  | succ j ih =>
    intro i h1 h2
    by_cases h : i < 2 * isq n + 1
    · obtain ⟨hle, e1, e2, e3⟩ := col_step n i h0 hn (by omega)
      refine Ev.step (f := fun k => (spec_sqRoot.f k ((n - ((i : Int) - isq n).natAbs * ((i : Int) - isq n).natAbs : Nat) : Int)).bind fun t => spec_CountInCircle.l0 k n (wrap64 (cols n i + wrap64 (wrap64 (2 * t) + 1))) (isq n) (((i + 1 : Nat) : Int) - isq n)) (fun k => ?_) ((spec_sqRoot_ev _ (by omega)).bind ?_)
      · simp only [spec_CountInCircle.l0]
        rw [if_pos (by omega), e1, e3]
      · rw [e2]
        exact ih (i + 1) (by omega) (by omega)
    · obtain rfl : i = 2 * isq n + 1 := by omega
      exact hend
theorem impl_CountInCircle_l (n : Nat) (h0 : 0 < n) (hn : n ≤ 100000) : ∀ (j i : Nat), 2 * isq n + 1 ≤ i + j → i ≤ 2 * isq n + 1 → Ev (fun k => impl_CountInCircle.l0 k n (cols n i) ((i : Int) - isq n)) (cols n (2 * isq n + 1), true) := by
  have hs := isq_small (n := n) (by omega)
  have hend : Ev (fun k => impl_CountInCircle.l0 k n (cols n (2 * isq n + 1)) (((2 * isq n + 1 : Nat) : Int) - isq n)) (cols n (2 * isq n + 1), true) := by
    refine Ev.done fun k => ?_
    simp only [impl_CountInCircle.l0]
    have e : ((2 * isq n + 1 : Nat) : Int) - isq n = ((isq n + 1 : Nat) : Int) := by omega
    have := (isq_spec n).2
    rw [e, wr_mul (sq_lt (by omega) (by omega)), if_neg (by omega)]
  intro j
  induction j with
  | zero =>
    intro i h1 h2
    obtain rfl : i = 2 * isq n + 1 := by omega
    exact hend
  | succ j ih =>
    intro i h1 h2
    by_cases h : i < 2 * isq n + 1
    · obtain ⟨hle, e1, e2, e3⟩ := col_step n i h0 hn (by omega)
      have hr := impl_rootOf_eq (n - ((i : Int) - isq n).natAbs * ((i : Int) - isq n).natAbs) (by omega)
      refine Ev.step (fun k => ?_) (ih (i + 1) (by omega) (by omega))
      simp only [impl_CountInCircle.l0]
      rw [e1, hr, e3, Option.bind_some, e2, wr_sq (by omega), if_pos (by omega)]
    · obtain rfl : i = 2 * isq n + 1 := by omega
      exact hend
theorem spec_CountInCircle_ev (n : Nat) (h0 : 0 < n) (hn : n ≤ 100000) : Ev (fun k => spec_CountInCircle.f k n) (cols n (2 * isq n + 1), true) := by
  have hs := isq_small (n := n) (by omega)
  unfold spec_CountInCircle.f
  rw [spec_sqGood_eq, decide_eq_true (by omega)]
  simp only [Option.bind_some, if_true]
  refine (spec_sqRoot_ev n (by omega)).bind ?_
  have e : wrap64 (-(isq n : Int)) = ((0 : Nat) : Int) - isq n := by rw [wri (by omega) (by omega)]; omega
  rw [e]
  exact spec_CountInCircle_l n h0 hn (2 * isq n + 1) 0 (by omega) (by omega)
theorem impl_CountInCircle_ev (n : Nat) (h0 : 0 < n) (hn : n ≤ 100000) : Ev (fun k => impl_CountInCircle.f k n) (cols n (2 * isq n + 1), true) := by
  have hs := isq_small (n := n) (by omega)
  unfold impl_CountInCircle.f
  rw [impl_isAsked_eq, decide_eq_true (by omega), impl_rootOf_eq n (by omega)]
  simp only [Option.bind_some, if_true]
  have e : wrap64 (-(isq n : Int)) = ((0 : Nat) : Int) - isq n := by rw [wri (by omega) (by omega)]; omega
  rw [e]
  exact impl_CountInCircle_l n h0 hn (2 * isq n + 1) 0 (by omega) (by omega)
theorem FnExactCountInCircle : laws_FnExactCountInCircle.Pure := by
  intro a _
  apply Ev.rounds
  unfold laws_FnExactCountInCircle.f
  by_cases h : 1 ≤ a ∧ a ≤ 100000
  · obtain ⟨n, rfl⟩ := Int.eq_ofNat_of_zero_le (show 0 ≤ a by omega)
    refine (spec_CountInCircle_ev n (by omega) (by omega)).bind ((impl_CountInCircle_ev n (by omega) (by omega)).bind ?_)
    simp only [bne_self_eq_false, Bool.false_eq_true, if_false, if_true]
    exact Ev.now _
  · refine Ev.const fun k => ?_
    unfold spec_CountInCircle.f impl_CountInCircle.f
    rw [spec_sqGood_eq, impl_isAsked_eq, decide_eq_false h]
    rfl
end Go.Proofs.Ytagnkhoonfbbdaa.Pure
