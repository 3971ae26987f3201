/- TwoSquares answers as the reference does, for every argument. -/
import Derived.Test.YtmdepblcbngkoaaPFnExactTwoSquaresx2
import Derived.Test.YtmdepblcbngkoaaNtC
import Derived.Test.YtmdepblcbngkoaaNtQ
namespace Go.Proofs.Ytmdepblcbngkoaa.Pure
set_option linter.unusedVariables false
open Go Go.RowKit Go.Proofs.Ytmdepblcbngkoaa.PFnExactTwoSquares Go.Proofs.YtmdepblcbngkoaaW.PrintWords Go.Proofs.YtmdepblcbngkoaaW.PrintLast Go.Proofs.Ytmdepblcbngkoaa.Nt
theorem Ev.done {α : Type} {g : Nat → Option α} {r : α} (h : ∀ k, g (k + 1) = some r) : Ev g r := Ev.step (f := fun _ => some r) h (Ev.now r)
theorem Ev.const {α : Type} {g : Nat → Option α} {r : α} (h : ∀ k, g k = some r) : Ev g r := Ev.congr (f := fun _ => some r) h (Ev.now r)
theorem wr {a : Nat} (h : a < 9223372036854775808) : wrap64 (a : Int) = a := by unfold wrap64; omega
theorem wri {a : Int} (h0 : -9223372036854775808 ≤ a) (h : a < 9223372036854775808) : wrap64 a = a := by unfold wrap64; omega
theorem wr_mul {a b : Nat} (h : a * b < 9223372036854775808) : wrap64 ((a : Int) * b) = ((a * b : Nat) : Int) := by rw [← Int.natCast_mul]; exact wr h
theorem wr_succ {a : Nat} (h : a < 9223372036854775807) : wrap64 ((a : Int) + 1) = ((a + 1 : Nat) : Int) := wr (a := a + 1) (by omega)
theorem wr_tdiv {a b : Nat} (h : a < 9223372036854775808) : wrap64 (Int.tdiv (a : Int) b) = ((a / b : Nat) : Int) := wr (a := a / b) (Nat.lt_of_le_of_lt (Nat.div_le_self a b) h)
theorem tm (a b : Nat) : Int.tmod (a : Int) b = ((a % b : Nat) : Int) := rfl
theorem sq_lt {a b : Nat} (h : a ≤ 3037000499) (k : b ≤ 3037000499) : a * b < 9223372036854775808 := Nat.lt_of_le_of_lt (Nat.mul_le_mul h k) (by decide)
theorem spec_l1In_eq (a b c : Int) : spec_l1In.f a b c = some (decide (b ≤ a ∧ a ≤ c)) := by
  unfold spec_l1In.f
  by_cases h : a ≥ b
  · rw [if_pos h, decide_eq_decide.2 (show a ≤ c ↔ b ≤ a ∧ a ≤ c from ⟨fun k => ⟨h, k⟩, fun k => k.2⟩)]
  · rw [if_neg h, decide_eq_false (fun k => h k.1)]
theorem spec_sqGood_eq (a : Int) : spec_sqGood.f a = some (decide (1 ≤ a ∧ a ≤ 100000)) := by
  unfold spec_sqGood.f; rw [spec_l1In_eq]; rfl
theorem impl_isAsked_eq (a : Int) : impl_isAsked.f a = some (decide (1 ≤ a ∧ a ≤ 100000)) := by
  unfold impl_isAsked.f
  by_cases h : a ≥ 1
  · rw [if_pos h, decide_eq_decide.2 (show a ≤ 100000 ↔ 1 ≤ a ∧ a ≤ 100000 from ⟨fun k => ⟨h, k⟩, fun k => k.2⟩)]
  · rw [if_neg h, decide_eq_false (fun k => h k.1)]
theorem facs_len : ∀ (n : Nat), (facs n).length ≤ n := by
  intro n
  induction n using Nat.strongRecOn with
  | _ n ih =>
    by_cases h : n < 2
    · rw [facs_small h]; simp
    · have hn : 2 ≤ n := by omega
      have := rs_lt (lf_two_le hn) (by omega) (lf_dvd hn)
      have := ih _ this
      rw [facs_cons hn, List.length_cons]; omega
/-- A list of primes and exponents as the program's rows. -/
def rowsOf (l : List (Nat × Nat)) : List (List Int) := l.map fun f => [(f.1 : Int), (f.2 : Int)]
theorem getD_mid {α : Type} (pre : List α) (x : α) (l : List α) (d : α) : (pre ++ x :: l).getD pre.length d = x := by simp
theorem rows_get (pre : List (Nat × Nat)) (x : Nat × Nat) (l : List (Nat × Nat)) : (rowsOf (pre ++ x :: l)).getD pre.length [] = [(x.1 : Int), (x.2 : Int)] := by
  simp [rowsOf]
theorem rows_len (l : List (Nat × Nat)) : (rowsOf l).length = l.length := by simp [rowsOf]
theorem isq_le (n : Nat) : isq n ≤ n := by
  obtain ⟨h, _⟩ := isq_spec n
  rcases Nat.eq_zero_or_pos (isq n) with h0 | h0
  · omega
  · have := Nat.mul_le_mul_left (isq n) h0; omega
theorem isq_small {n : Nat} (h : n ≤ 1000000) : isq n ≤ 1000 := by
  obtain ⟨h1, _⟩ := isq_spec n
  rcases Nat.lt_or_ge 1000 (isq n) with h2 | h2
  · have := Nat.mul_le_mul (show 1001 ≤ isq n from h2) (show 1001 ≤ isq n from h2); omega
  · exact h2
theorem spec_sqRoot_l (n : Nat) (hn : n ≤ 1000000) : ∀ (j r : Nat), isq n ≤ r + j → r ≤ isq n → Ev (fun k => spec_sqRoot.l0 k n r) (isq n : Int) := by
  obtain ⟨h1, h2⟩ := isq_spec n
  have hs := isq_small hn
  have hend : Ev (fun k => spec_sqRoot.l0 k n (isq n)) (isq n : Int) := by
    refine Ev.done fun k => ?_
    simp only [spec_sqRoot.l0]
    rw [wr_succ (by omega), wr_mul (sq_lt (by omega) (by omega)), if_neg (by omega)]
  intro j
  induction j with
  | zero =>
    intro r h3 h4
    obtain rfl : r = isq n := by omega
    exact hend
  | succ j ih =>
    intro r h3 h4
    by_cases h : r < isq n
    · have h5 : (r + 1) * (r + 1) ≤ n := Nat.le_trans (Nat.mul_le_mul h h) h1
      refine Ev.step (fun k => ?_) (ih (r + 1) (by omega) (by omega))
      simp only [spec_sqRoot.l0]
      rw [wr_succ (by omega), wr_mul (sq_lt (by omega) (by omega)), if_pos (by omega)]
    · obtain rfl : r = isq n := by omega
      exact hend
theorem spec_sqRoot_ev (n : Nat) (hn : n ≤ 1000000) : Ev (fun k => spec_sqRoot.f k n) (isq n : Int) :=
  spec_sqRoot_l n hn (isq n) 0 (by omega) (by omega)
theorem impl_rootOf_eq (n : Nat) (hn : n ≤ 1000000) : impl_rootOf.f n = some (isq n : Int) := by
  unfold impl_rootOf.f
  rw [if_pos (by omega), if_pos (by omega), Int.toNat_natCast]
/-- The rows a, b with a a + b b = n for a below some number. -/
def tw (n : Nat) : Nat → List (Nat × Nat)
  | 0 => []
  | a + 1 => tw n a ++ (if isq (n - a * a) * isq (n - a * a) = n - a * a then [(a, isq (n - a * a))] else [])
theorem tw_len (n : Nat) : ∀ a, (tw n a).length ≤ a
  | 0 => Nat.le_refl 0
  | a + 1 => by
    have := tw_len n a
    simp only [tw, List.length_append]
    split
    · rw [List.length_singleton]; omega
    · rw [List.length_nil]; omega
theorem half_le {n a : Nat} : 2 * a * a ≤ n ↔ a ≤ isq (n / 2) := by
  obtain ⟨h1, h2⟩ := isq_spec (n / 2)
  have e := Nat.mul_assoc 2 a a
  constructor
  · intro h
    apply Decidable.byContradiction
    intro hc
    have := Nat.mul_le_mul (show isq (n / 2) + 1 ≤ a by omega) (show isq (n / 2) + 1 ≤ a by omega)
    omega
  · intro h
    have := Nat.mul_le_mul h h
    omega
theorem isq_half {n : Nat} (hn : n ≤ 100000) : isq (n / 2) ≤ 223 := by
  obtain ⟨h1, _⟩ := isq_spec (n / 2)
  rcases Nat.lt_or_ge 223 (isq (n / 2)) with h | h
  · have := Nat.mul_le_mul (show 224 ≤ isq (n / 2) from h) (show 224 ≤ isq (n / 2) from h); omega
  · exact h
theorem rowsOf_snoc (l : List (Nat × Nat)) (a b : Nat) : rowsOf (l ++ [(a, b)]) = rowsOf l ++ [[(a : Int), (b : Int)]] := by simp [rowsOf]
/-- The rows of two squares. -/
def twR (n : Nat) : List (Nat × Nat) := tw n (isq (n / 2) + 1)
theorem two_step {n a : Nat} (hn : n ≤ 100000) (ha : a ≤ isq (n / 2)) : wrap64 (wrap64 (2 * (a : Int)) * a) = ((2 * a * a : Nat) : Int) ∧ wrap64 ((n : Int) - wrap64 ((a : Int) * a)) = ((n - a * a : Nat) : Int) ∧ wrap64 ((isq (n - a * a) : Int) * (isq (n - a * a) : Int)) = ((isq (n - a * a) * isq (n - a * a) : Nat) : Int) ∧ n - a * a ≤ 1000000 := by
  have h1 := isq_half hn
  have h2 := half_le.2 ha
  have e := Nat.mul_assoc 2 a a
  have e1 : wrap64 (2 * (a : Int)) = ((2 * a : Nat) : Int) := by rw [wri (by omega) (by omega)]; omega
  have hs := isq_small (n := n - a * a) (by omega)
  refine ⟨by rw [e1, wr_mul (sq_lt (by omega) (by omega))], ?_, wr_mul (sq_lt (by omega) (by omega)), by omega⟩
  rw [wr_mul (sq_lt (by omega) (by omega)), wri (by omega) (by omega)]; omega
theorem two_end {n a : Nat} (hn : n ≤ 100000) (ha : a ≤ 224) (hno : ¬ 2 * a * a ≤ n) : ¬ wrap64 (wrap64 (2 * (a : Int)) * a) ≤ (n : Int) := by
  have e1 : wrap64 (2 * (a : Int)) = ((2 * a : Nat) : Int) := by rw [wri (by clear hno; omega) (by clear hno; omega)]; rfl
  rw [e1, wr_mul (sq_lt (by clear hno; omega) (by clear hno; omega))]
  exact fun h => hno (Int.ofNat_le.1 h)
theorem impl_TwoSquares_l (n : Nat) (hn : n ≤ 100000) : ∀ (j a : Nat), isq (n / 2) + 1 ≤ a + j → a ≤ isq (n / 2) + 1 → Ev (fun k => impl_TwoSquares.l0 k n (rowsOf (tw n a)) a) (rowsOf (twR n), true) := by
  have hh := isq_half hn
  have hend : Ev (fun k => impl_TwoSquares.l0 k n (rowsOf (tw n (isq (n / 2) + 1))) ((isq (n / 2) + 1 : Nat) : Int)) (rowsOf (twR n), true) := by
    have hno : ¬ 2 * (isq (n / 2) + 1) * (isq (n / 2) + 1) ≤ n := fun h => by have := half_le.1 h; omega
    have htw : twR n = tw n (isq (n / 2) + 1) := rfl
    have ha : isq (n / 2) + 1 ≤ 224 := by omega
    rw [htw]
    generalize isq (n / 2) + 1 = a at *
    refine Ev.done fun k => ?_
    simp only [impl_TwoSquares.l0]
    rw [if_neg (two_end hn ha hno)]
  intro j
  induction j with
  | zero =>
    intro a h1 h2
    obtain rfl : a = isq (n / 2) + 1 := by omega
    exact hend
  | succ j ih =>
    intro a h1 h2
    by_cases h : a ≤ isq (n / 2)
    · have key := ih (a + 1) (by omega) (by omega)
      obtain ⟨e1, e2, e3, e4⟩ := two_step hn h
      have h3 : ((2 * a * a : Nat) : Int) ≤ (n : Int) := Int.ofNat_le.2 (half_le.2 h)
      have ha : a ≤ 223 := Nat.le_trans h hh
      have hlen : (rowsOf (tw n a)).length < 5864062014805 := by
        rw [rows_len]
        exact Nat.lt_of_le_of_lt (Nat.le_trans (tw_len n a) ha) (by decide)
      have es : wrap64 ((a : Int) + 1) = ((a + 1 : Nat) : Int) := wr_succ (Nat.lt_of_le_of_lt ha (by decide))
      refine Ev.step (fun k => ?_) key
      simp only [impl_TwoSquares.l0]
      rw [e1, if_pos h3, e2, impl_rootOf_eq _ e4, Option.bind_some, e3, es]
      by_cases hq : isq (n - a * a) * isq (n - a * a) = n - a * a
      · rw [if_pos (by rw [hq]), if_pos hlen]
        simp only [tw, if_pos hq, rowsOf_snoc]
      · have hqi : ¬ ((isq (n - a * a) * isq (n - a * a) : Nat) : Int) = ((n - a * a : Nat) : Int) := fun hc => hq (Int.ofNat.inj hc)
        rw [if_neg hqi]
        simp only [tw, if_neg hq, List.append_nil]
    · obtain rfl : a = isq (n / 2) + 1 := by omega
      exact hend
theorem spec_TwoSquares_l (n : Nat) (hn : n ≤ 100000) : ∀ (j a : Nat), isq (n / 2) + 1 ≤ a + j → a ≤ isq (n / 2) + 1 → Ev (fun k => spec_TwoSquares.l0 k n (rowsOf (tw n a)) a) (rowsOf (twR n), true) := by
  have hh := isq_half hn
  have hend : Ev (fun k => spec_TwoSquares.l0 k n (rowsOf (tw n (isq (n / 2) + 1))) ((isq (n / 2) + 1 : Nat) : Int)) (rowsOf (twR n), true) := by
    have hno : ¬ 2 * (isq (n / 2) + 1) * (isq (n / 2) + 1) ≤ n := fun h => by have := half_le.1 h; omega
    have htw : twR n = tw n (isq (n / 2) + 1) := rfl
    have ha : isq (n / 2) + 1 ≤ 224 := by omega
    rw [htw]
    generalize isq (n / 2) + 1 = a at *
    refine Ev.done fun k => ?_
    simp only [spec_TwoSquares.l0]
    rw [if_neg (two_end hn ha hno)]
  intro j
  induction j with
  | zero =>
    intro a h1 h2
    obtain rfl : a = isq (n / 2) + 1 := by omega
    exact hend
  | succ j ih =>
    intro a h1 h2
    by_cases h : a ≤ isq (n / 2)
    · have key := ih (a + 1) (by omega) (by omega)
      obtain ⟨e1, e2, e3, e4⟩ := two_step hn h
      have h3 : ((2 * a * a : Nat) : Int) ≤ (n : Int) := Int.ofNat_le.2 (half_le.2 h)
      have ha : a ≤ 223 := Nat.le_trans h hh
      have hlen : (rowsOf (tw n a)).length < 5864062014805 := by
        rw [rows_len]
        exact Nat.lt_of_le_of_lt (Nat.le_trans (tw_len n a) ha) (by decide)
      have es : wrap64 ((a : Int) + 1) = ((a + 1 : Nat) : Int) := wr_succ (Nat.lt_of_le_of_lt ha (by decide))
      refine Ev.step (f := ?f0) (fun k => ?a0) ?b0
      case a0 => simp only [spec_TwoSquares.l0]; rw [e1, if_pos h3, e2, es]
      refine (spec_sqRoot_ev _ e4).bind ?_
      simp only [e3]
      by_cases hq : isq (n - a * a) * isq (n - a * a) = n - a * a
      · simp only [hq, if_true, if_pos hlen]
        simp only [tw, if_pos hq, rowsOf_snoc] at key
        exact key
      · have hqi : ¬ ((isq (n - a * a) * isq (n - a * a) : Nat) : Int) = ((n - a * a : Nat) : Int) := fun hc => hq (Int.ofNat.inj hc)
        simp only [if_neg hqi]
        simp only [tw, if_neg hq, List.append_nil] at key
        exact key
    · obtain rfl : a = isq (n / 2) + 1 := by omega
      exact hend
theorem impl_TwoSquares_ev (n : Nat) (h0 : 0 < n) (hn : n ≤ 100000) : Ev (fun k => impl_TwoSquares.f k n) (rowsOf (twR n), true) := by
  unfold impl_TwoSquares.f
  rw [impl_isAsked_eq, decide_eq_true (by omega)]
  simp only [Option.bind_some, if_true]
  exact impl_TwoSquares_l n hn (isq (n / 2) + 1) 0 (by omega) (by omega)
theorem spec_TwoSquares_ev (n : Nat) (h0 : 0 < n) (hn : n ≤ 100000) : Ev (fun k => spec_TwoSquares.f k n) (rowsOf (twR n), true) := by
  unfold spec_TwoSquares.f
  rw [spec_sqGood_eq, decide_eq_true (by omega)]
  simp only [Option.bind_some, if_true]
  exact spec_TwoSquares_l n hn (isq (n / 2) + 1) 0 (by omega) (by omega)
theorem rd_at (l : List Int) (j : Nat) : rd l (j : Int) = l.getD j 0 := by unfold rd; rw [Int.toNat_natCast]
theorem laws_eqIntS_l (l : List Int) (hl : l.length ≤ 4000000000000000000) : ∀ (j i : Nat), l.length ≤ i + j → i ≤ l.length → Ev (fun k => laws_eqIntS.l0 k l l i) true := by
  intro j
  induction j with
  | zero =>
    intro i h1 h2
    refine Ev.done fun k => ?_
    simp only [laws_eqIntS.l0]
    rw [if_neg (by omega)]
  | succ j ih =>
    intro i h1 h2
    by_cases h : i < l.length
    · refine Ev.step (fun k => ?_) (ih (i + 1) (by omega) (by omega))
      simp only [laws_eqIntS.l0]
      rw [if_pos (by omega), if_pos (by omega), if_pos (by omega), if_pos trivial, wr_succ (by omega)]
    · refine Ev.done fun k => ?_
      simp only [laws_eqIntS.l0]
      rw [if_neg (by omega)]
theorem laws_eqIntS_self (l : List Int) (hl : l.length ≤ 4000000000000000000) : Ev (fun k => laws_eqIntS.f k l l) true := by
  unfold laws_eqIntS.f
  refine Ev.congr (fun k => if_pos rfl) (laws_eqIntS_l l hl l.length 0 (by omega) (by omega))
/-- a, a + 1, .., so many. -/
def seqI (a : Int) : Nat → List Int
  | 0 => []
  | n + 1 => a :: seqI (a + 1) n
theorem seqI_len : ∀ (n : Nat) (a : Int), (seqI a n).length = n
  | 0, _ => rfl
  | n + 1, a => by simp [seqI, seqI_len n]
theorem seqI_get : ∀ (n : Nat) (a : Int) (j : Nat), j < n → (seqI a n).getD j 0 = a + j
  | 0, _, _, h => by omega
  | n + 1, a, 0, _ => by simp [seqI]
  | n + 1, a, j + 1, h => by
    have := seqI_get n (a + 1) j (by omega)
    simp only [seqI, List.getD_cons_succ]
    rw [this]; omega
theorem laws_markIntS_l : ∀ (l pre : List Int) (a : Int), (pre ++ l).length ≤ 1000000000000000000 → 0 ≤ a → a ≤ 1000000000000000000 + pre.length → Ev (fun k => laws_markIntS.l0 k (pre ++ l) a (pre.length : Int)) (a + l.length, pre ++ seqI a l.length)
  | [], pre, a, hl, h0, ha => by
    refine Ev.done fun k => ?_
    simp only [laws_markIntS.l0]
    rw [if_neg (by simp)]
    simp [seqI]
  | x :: l, pre, a, hl, h0, ha => by
    have hlen : (pre ++ x :: l).length = pre.length + 1 + l.length := by simp; omega
    have ih := laws_markIntS_l l (pre ++ [a]) (a + 1) (by simp at hl ⊢; omega) (by omega) (by simp; omega)
    have hset : (pre ++ x :: l).set pre.length a = pre ++ a :: l := by simp
    refine Ev.step (f := fun k => laws_markIntS.l0 k (pre ++ [a] ++ l) (a + 1) ((pre ++ [a]).length : Int)) (fun k => ?_) ?_
    · simp only [laws_markIntS.l0]
      rw [if_pos (by omega), if_pos (by omega), Int.toNat_natCast, hset, wri (by omega) (by omega), wr_succ (by omega)]
      simp
    · have e : (a + ((x :: l).length : Int), pre ++ seqI a (x :: l).length) = (a + 1 + (l.length : Int), pre ++ [a] ++ seqI (a + 1) l.length) := by
        simp [seqI]; omega
      rw [e]; exact ih
theorem laws_markIntS_ev (l : List Int) (a : Int) (hl : l.length ≤ 1000000000000000000) (h0 : 0 ≤ a) (h1 : a ≤ 1000000000000000000) : Ev (fun k => laws_markIntS.f k l a) (a + l.length, seqI a l.length) := by
  have := laws_markIntS_l l [] a (by simpa using hl) h0 (by simpa using h1)
  exact this
theorem laws_heldIntS_l (n : Nat) (a : Int) (hn : n ≤ 1000000000000000000) (h0 : 0 ≤ a) (h1 : a ≤ 1000000000000000000) : ∀ (j i : Nat), n ≤ i + j → i ≤ n → Ev (fun k => laws_heldIntS.l0 k (seqI a n) (a + i) i) (a + n) := by
  have hl := seqI_len n a
  intro j
  induction j with
  | zero =>
    intro i h2 h3
    obtain rfl : i = n := by omega
    refine Ev.done fun k => ?_
    simp only [laws_heldIntS.l0]
    rw [if_neg (by omega)]
  | succ j ih =>
    intro i h2 h3
    by_cases h : i < n
    · refine Ev.step (fun k => ?_) (ih (i + 1) (by omega) (by omega))
      have hg : rd (seqI a n) (i : Int) = a + i := by unfold rd; rw [Int.toNat_natCast]; exact seqI_get n a i h
      simp only [laws_heldIntS.l0]
      rw [if_pos (by omega), if_pos (by omega), if_pos hg, wri (by omega) (by omega), wr_succ (by omega)]
      rw [show a + (i : Int) + 1 = a + ((i + 1 : Nat) : Int) by omega]
    · obtain rfl : i = n := by omega
      refine Ev.done fun k => ?_
      simp only [laws_heldIntS.l0]
      rw [if_neg (by omega)]
theorem laws_heldIntS_ev (n : Nat) (a : Int) (hn : n ≤ 1000000000000000000) (h0 : 0 ≤ a) (h1 : a ≤ 1000000000000000000) : Ev (fun k => laws_heldIntS.f k (seqI a n) a) (a + n) := by
  have := laws_heldIntS_l n a hn h0 h1 n 0 (by omega) (by omega)
  unfold laws_heldIntS.f
  simpa using this
/-- How many numbers stand in the rows, in all. -/
def tot : List (List Int) → Nat
  | [] => 0
  | x :: l => x.length + tot l
/-- The rows with the numbers a, a + 1, .. in the places of theirs. -/
def mrk (a : Int) : List (List Int) → List (List Int)
  | [] => []
  | x :: l => seqI a x.length :: mrk (a + x.length) l
theorem mrk_len : ∀ (l : List (List Int)) (a : Int), (mrk a l).length = l.length
  | [], _ => rfl
  | x :: l, a => by simp [mrk, mrk_len l]
theorem rdl_mid (pre : List (List Int)) (x : List Int) (l : List (List Int)) : rd_L1 (pre ++ x :: l) (pre.length : Int) = x := by
  unfold rd_L1
  rw [Int.toNat_natCast]
  simp
theorem laws_markIntSS_l : ∀ (l pre : List (List Int)) (a : Int), (pre ++ l).length ≤ 1000000000 → 0 ≤ a → a + tot l ≤ 1000000000000 → Ev (fun k => laws_markIntSS.l0 k (pre ++ l) a (pre.length : Int)) (a + tot l, pre ++ mrk a l)
  | [], pre, a, hl, h0, ha => by
    refine Ev.done fun k => ?_
    simp only [laws_markIntSS.l0]
    rw [if_neg (by simp)]
    simp [mrk, tot]
  | x :: l, pre, a, hl, h0, ha => by
    have hlen : (pre ++ x :: l).length = pre.length + 1 + l.length := by simp; omega
    have ht : tot (x :: l) = x.length + tot l := rfl
    have ih := laws_markIntSS_l l (pre ++ [seqI a x.length]) (a + x.length) (by simp at hl ⊢; omega) (by omega) (by omega)
    have hset : (pre ++ x :: l).set pre.length (seqI a x.length) = pre ++ [seqI a x.length] ++ l := by simp
    have hm := laws_markIntS_ev x a (by omega) h0 (by omega)
    have e : (a + (tot (x :: l) : Int), pre ++ mrk a (x :: l)) = (a + (x.length : Int) + (tot l : Int), pre ++ [seqI a x.length] ++ mrk (a + x.length) l) := by
      simp only [mrk, List.append_assoc, List.cons_append, List.nil_append, Prod.mk.injEq, and_true]
      omega
    have hp : ((pre ++ [seqI a x.length]).length : Int) = (pre.length : Int) + 1 := by simp
    rw [e]
    refine Ev.step (f := fun k => (laws_markIntS.f k x a).bind fun bt => laws_markIntSS.l0 k ((pre ++ x :: l).set pre.length bt.2) bt.1 ((pre.length : Int) + 1)) (fun k => ?_) (hm.bind ?_)
    · simp only [laws_markIntSS.l0]
      rw [if_pos (by omega), if_pos (by omega), rdl_mid, Int.toNat_natCast, wri (by omega) (by omega)]
    · rw [hp] at ih
      simp only [hset]
      exact ih
theorem laws_markIntSS_ev (l : List (List Int)) (hl : l.length ≤ 1000000000) (ha : tot l ≤ 100000000000) : Ev (fun k => laws_markIntSS.f k l 1) (1 + tot l, mrk 1 l) := by
  have := laws_markIntSS_l l [] 1 (by simpa using hl) (by omega) (by omega)
  exact this
theorem laws_heldIntSS_l : ∀ (l pre : List (List Int)) (a : Int), (pre ++ l).length ≤ 1000000000 → 0 ≤ a → a + tot l ≤ 1000000000000 → Ev (fun k => laws_heldIntSS.l0 k (pre ++ mrk a l) a (pre.length : Int)) (a + tot l)
  | [], pre, a, hl, h0, ha => by
    show Ev (fun k => laws_heldIntSS.l0 k (pre ++ []) a (pre.length : Int)) (a + tot [])
    refine Ev.done fun k => ?_
    simp only [laws_heldIntSS.l0]
    rw [if_neg (by simp)]
    simp [tot]
  | x :: l, pre, a, hl, h0, ha => by
    have hlen : (pre ++ x :: l).length = pre.length + 1 + l.length := by simp; omega
    have ht : tot (x :: l) = x.length + tot l := rfl
    have ih := laws_heldIntSS_l l (pre ++ [seqI a x.length]) (a + x.length) (by simp at hl ⊢; omega) (by omega) (by omega)
    have hm := laws_heldIntS_ev x.length a (by omega) h0 (by omega)
    have e : a + (tot (x :: l) : Int) = a + (x.length : Int) + (tot l : Int) := by omega
    have hp : ((pre ++ [seqI a x.length]).length : Int) = (pre.length : Int) + 1 := by simp
    have hml : (pre ++ seqI a x.length :: mrk (a + x.length) l).length = pre.length + 1 + l.length := by
      rw [List.length_append, List.length_cons, mrk_len]; omega
    rw [e]
    show Ev (fun k => laws_heldIntSS.l0 k (pre ++ seqI a x.length :: mrk (a + x.length) l) a (pre.length : Int)) _
    refine Ev.step (f := fun k => (laws_heldIntS.f k (seqI a x.length) a).bind fun t => if t < 0 then some (-1) else laws_heldIntSS.l0 k (pre ++ seqI a x.length :: mrk (a + x.length) l) t ((pre.length : Int) + 1)) (fun k => ?_) (hm.bind ?_)
    · simp only [laws_heldIntSS.l0]
      rw [if_pos (by omega), if_pos (by omega), rdl_mid, wri (by omega) (by omega)]
    · simp only [if_neg (show ¬ a + (x.length : Int) < 0 by omega)]
      rw [hp, List.append_assoc, List.cons_append, List.nil_append] at ih
      exact ih
theorem laws_heldIntSS_ev (l : List (List Int)) (hl : l.length ≤ 1000000000) (ha : tot l ≤ 100000000000) : Ev (fun k => laws_heldIntSS.f k (mrk 1 l) 1) (1 + tot l) := by
  have := laws_heldIntSS_l l [] 1 (by simpa using hl) (by omega) (by omega)
  exact this
theorem laws_eqIntSS_l {L : List (List Int)} (hall : ∀ x ∈ L, x.length ≤ 1000000000) (hl : L.length ≤ 1000000000) : ∀ (l pre : List (List Int)), pre ++ l = L → Ev (fun k => laws_eqIntSS.l0 k L L (pre.length : Int)) true
  | [], pre, e => by
    refine Ev.done fun k => ?_
    simp only [laws_eqIntSS.l0]
    rw [if_neg (by rw [← e]; simp)]
  | x :: l, pre, e => by
    have hlen : L.length = pre.length + 1 + l.length := by rw [← e]; simp; omega
    have ih := laws_eqIntSS_l hall hl l (pre ++ [x]) (by rw [← e]; simp)
    have hx := laws_eqIntS_self x (by have := hall x (by rw [← e]; simp); omega)
    have hp : ((pre ++ [x]).length : Int) = (pre.length : Int) + 1 := by simp
    have hr : rd_L1 L (pre.length : Int) = x := by rw [← e]; exact rdl_mid pre x l
    refine Ev.step (f := fun k => (laws_eqIntS.f k x x).bind fun t => if t = true then laws_eqIntSS.l0 k L L ((pre.length : Int) + 1) else some false) (fun k => ?_) (hx.bind ?_)
    · simp only [laws_eqIntSS.l0]
      rw [if_pos (by omega), if_pos (by omega), if_pos (by omega), hr, wri (by omega) (by omega)]
    · simp only [if_true]
      rw [hp] at ih
      exact ih
theorem laws_eqIntSS_self (L : List (List Int)) (hall : ∀ x ∈ L, x.length ≤ 1000000000) (hl : L.length ≤ 1000000000) : Ev (fun k => laws_eqIntSS.f k L L) true := by
  unfold laws_eqIntSS.f
  refine Ev.congr (fun k => if_pos rfl) (laws_eqIntSS_l hall hl L [] rfl)
theorem law_tail (a : Int) (r : List (List Int)) (b : Bool) (hall : ∀ x ∈ r, x.length ≤ 1000000000) (hr : r.length ≤ 1000000000) (ht : tot r ≤ 100000000000) (h1 : Ev (fun k => spec_TwoSquares.f k a) (r, b)) (h2 : Ev (fun k => impl_TwoSquares.f k a) (r, b)) : Ev (fun k => laws_FnExactTwoSquares.f k a) true := by
  have heq := laws_eqIntSS_self r hall hr
  have hmark := laws_markIntSS_ev r hr ht
  have hheld := laws_heldIntSS_ev r hr ht
  unfold laws_FnExactTwoSquares.f
  refine h1.bind (h2.bind (heq.bind (hmark.bind (hheld.bind ?_))))
  refine Ev.congr (f := fun _ => some true) (fun k => ?_) (Ev.now _)
  exact if_pos ⟨rfl, rfl, by omega, rfl⟩
theorem tot_rows : ∀ (l : List (Nat × Nat)), tot (rowsOf l) = 2 * l.length
  | [] => rfl
  | x :: l => by
    have := tot_rows l
    have e : tot (rowsOf (x :: l)) = 2 + tot (rowsOf l) := rfl
    rw [e, this, List.length_cons]; omega
theorem rows_each (l : List (Nat × Nat)) : ∀ x ∈ rowsOf l, x.length ≤ 1000000000 := by
  intro x hx
  simp only [rowsOf, List.mem_map] at hx
  obtain ⟨p, _, rfl⟩ := hx
  exact (by decide : 2 ≤ 1000000000)
theorem FnExactTwoSquares : laws_FnExactTwoSquares.Pure := by
  intro a _
  apply Ev.rounds
  by_cases h : 1 ≤ a ∧ a ≤ 100000
  · obtain ⟨n, rfl⟩ := Int.eq_ofNat_of_zero_le (show 0 ≤ a by omega)
    have h0 : 0 < n := by omega
    have hn : n ≤ 100000 := by omega
    have hl : (twR n).length ≤ 224 := Nat.le_trans (tw_len n _) (by have := isq_half hn; omega)
    exact law_tail n _ true (rows_each _) (by rw [rows_len]; omega) (by rw [tot_rows]; omega) (spec_TwoSquares_ev n h0 hn) (impl_TwoSquares_ev n h0 hn)
  · refine law_tail a [] false (by simp) (by simp) (by simp [tot]) ?_ ?_
    · refine Ev.const fun k => ?_
      unfold spec_TwoSquares.f
      rw [spec_sqGood_eq, decide_eq_false h]
      rfl
    · refine Ev.const fun k => ?_
      unfold impl_TwoSquares.f
      rw [impl_isAsked_eq, decide_eq_false h]
      rfl
end Go.Proofs.Ytmdepblcbngkoaa.Pure
