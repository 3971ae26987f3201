namespace Go.Proofs.Ytfhfbicejddoiaa.Nt

/-- The greatest number whose square is no greater than n. -/
def isqA : Nat → Nat → Nat → Nat
  | 0, _, r => r
  | f + 1, n, r => if (r + 1) * (r + 1) ≤ n then isqA f n (r + 1) else r
def isq (n : Nat) : Nat := isqA n n 0
theorem isqA_spec : ∀ (f n r : Nat), r * r ≤ n → n < (r + f + 1) * (r + f + 1) → isqA f n r * isqA f n r ≤ n ∧ n < (isqA f n r + 1) * (isqA f n r + 1)
  | 0, n, r, h1, h2 => ⟨h1, h2⟩
  | f + 1, n, r, h1, h2 => by
    unfold isqA
    by_cases h : (r + 1) * (r + 1) ≤ n
    · rw [if_pos h]; exact isqA_spec f n (r + 1) h (by rw [show r + 1 + f + 1 = r + (f + 1) + 1 by omega]; exact h2)
    · rw [if_neg h]; exact ⟨h1, by omega⟩
theorem isq_spec (n : Nat) : isq n * isq n ≤ n ∧ n < (isq n + 1) * (isq n + 1) := by
  refine isqA_spec n n 0 (by omega) ?_
  have : (n + 1) * 1 ≤ (n + 1) * (n + 1) := Nat.mul_le_mul_left _ (by omega)
  rw [Nat.zero_add]; omega
theorem isq_eq {n m : Nat} (h1 : m * m ≤ n) (h2 : n < (m + 1) * (m + 1)) : isq n = m := by
  obtain ⟨h3, h4⟩ := isq_spec n
  rcases Nat.lt_trichotomy (isq n) m with h | h | h
  · have := Nat.mul_le_mul (show isq n + 1 ≤ m from h) (show isq n + 1 ≤ m from h); omega
  · exact h
  · have := Nat.mul_le_mul (show m + 1 ≤ isq n from h) (show m + 1 ≤ isq n from h); omega
end Go.Proofs.Ytfhfbicejddoiaa.Nt
