import Derived.Test.YtfhfbicejddoiaaNtE
namespace Go.Proofs.Ytfhfbicejddoiaa.Nt
set_option linter.unusedVariables false

/-! signs of products; the count of square-free numbers -/
theorem sgn_sq {n p : Nat} (h0 : 0 < n) (hp : Prime p) (h : p * p ∣ n) : sgn n = 0 := by
  rcases Decidable.em (sgn n = 0) with k | k
  · exact k
  · exact absurd h ((sqf_iff h0).1 ((sgn_ne n).1 k) p hp)
theorem sgn_cons {n : Nat} (hn : 2 ≤ n) : sgn n = if 1 < vl (lf n) n then 0 else -sgn (rs (lf n) n) := by
  unfold sgn
  rw [facs_cons hn]
  rfl
theorem sgn_prime_mul : ∀ (d p : Nat), Prime p → 0 < d → ¬ p ∣ d → sgn (p * d) = -sgn d := by
  intro d
  induction d using Nat.strongRecOn with
  | _ d ih =>
    intro p hp h0 hnd
    by_cases hall : ∀ q, Prime q → q ∣ d → p < q
    · have := sgn_mul p 1 d hp (Nat.le_refl 1) h0 hall
      rw [Nat.pow_one, Nat.mul_comm] at this
      rw [this, if_neg (by decide), Int.neg_one_mul]
    · have h2 : 2 ≤ d := by
        rcases Nat.lt_or_ge d 2 with h | h
        · exfalso; apply hall
          intro q hq hqd
          have : d = 1 := by omega
          subst this
          have := Nat.le_of_dvd (by decide) hqd
          have := hq.two_le
          omega
        · exact h
      have hpd0 : 0 < p * d := Nat.mul_pos hp.pos h0
      have hpd : 2 ≤ p * d := Nat.le_trans h2 (Nat.le_mul_of_pos_left d hp.pos)
      have hlfp := lf_prime h2
      have hne : lf d ≠ p := fun h => hnd (h ▸ lf_dvd h2)
      have hlt : lf d < p := by
        apply Decidable.byContradiction
        intro hge
        apply hall
        intro q hq hqd
        have := (lf_isLf h2).2.2 q hq.two_le hqd
        have : q ≠ p := fun h => hnd (h ▸ hqd)
        omega
      have hlf : lf (p * d) = lf d := by
        refine lf_eq hpd ⟨Nat.dvd_trans (lf_dvd h2) (Nat.dvd_mul_left d p), lf_two_le h2, fun m hm hmd => ?_⟩
        obtain ⟨q, hq, hqm⟩ := exists_prime hm
        have hqle := Nat.le_of_dvd (by omega) hqm
        rcases hq.dvd_mul (Nat.dvd_trans hqm hmd) with h | h
        · have := hq.eq_of_dvd hp h
          omega
        · have := (lf_isLf h2).2.2 q hq.two_le h
          omega
      have hq2 := lf_two_le h2
      have hndq : ¬ lf d ∣ p := fun h => hne (hlfp.eq_of_dvd hp h)
      have hcop : Nat.Coprime (lf d ^ (vl (lf d) d + 1)) p := Nat.Coprime.pow_left _ (hlfp.coprime_of_not_dvd hndq)
      have hvl : vl (lf d) (p * d) = vl (lf d) d := by
        refine vl_eq hq2 hpd0 (Nat.dvd_trans (pow_vl_dvd hq2 h0) (Nat.dvd_mul_left d p)) fun h => ?_
        exact not_pow_vl hq2 h0 (hcop.dvd_of_dvd_mul_left h)
      have hrs : rs (lf d) (p * d) = p * rs (lf d) d := by
        unfold rs
        rw [hvl, Nat.mul_div_assoc _ (pow_vl_dvd hq2 h0)]
      rw [sgn_cons hpd, sgn_cons h2, hlf, hvl, hrs]
      split
      · rfl
      · have hr0 := rs_pos hq2 h0
        rw [ih (rs (lf d) d) (rs_lt hq2 h0 (lf_dvd h2)) p hp hr0 (fun h => hnd (Nat.dvd_trans h (rs_dvd hq2 h0)))]
theorem prime_2 : Prime 2 := ⟨by decide, fun m h => by have := Nat.le_of_dvd (by decide) h; have : m ≠ 0 := fun e => by subst e; exact absurd h (by decide)
                                                       omega⟩
theorem prime_3 : Prime 3 := ⟨by decide, fun m h => by have := Nat.le_of_dvd (by decide) h; have : m ≠ 0 := fun e => by subst e; exact absurd h (by decide)
                                                       have : m ≠ 2 := fun e => by subst e; exact absurd h (by decide)
                                                       omega⟩
theorem prime_5 : Prime 5 := ⟨by decide, fun m h => by have := Nat.le_of_dvd (by decide) h; have : m ≠ 0 := fun e => by subst e; exact absurd h (by decide)
                                                       have : m ≠ 2 := fun e => by subst e; exact absurd h (by decide)
                                                       have : m ≠ 3 := fun e => by subst e; exact absurd h (by decide)
                                                       have : m ≠ 4 := fun e => by subst e; exact absurd h (by decide)
                                                       omega⟩
theorem not_dvd_of_gcd {n m p : Nat} (hp : 2 ≤ p) (h : Nat.gcd n m = 1) (hm : p ∣ m) : ¬ p ∣ n := fun hn => by
  have := Nat.dvd_gcd hn hm
  rw [h] at this
  have := Nat.le_of_dvd (by decide) this
  omega
/-- The sign of a small number times a number without a common divisor. -/
theorem sgn_small (n m : Nat) (h0 : 0 < n) (h1 : 1 ≤ m) (h6 : m ≤ 6) (hg : Nat.gcd n m = 1) : sgn m * sgn n = sgn (n * m) := by
  have hc : m = 1 ∨ m = 2 ∨ m = 3 ∨ m = 4 ∨ m = 5 ∨ m = 6 := by omega
  rcases hc with rfl | rfl | rfl | rfl | rfl | rfl
  · rw [show sgn 1 = 1 by decide, Int.one_mul, Nat.mul_one]
  · rw [Nat.mul_comm n, sgn_prime_mul n 2 prime_2 h0 (not_dvd_of_gcd (by decide) hg (by decide)), show sgn 2 = -1 by decide, Int.neg_one_mul]
  · rw [Nat.mul_comm n, sgn_prime_mul n 3 prime_3 h0 (not_dvd_of_gcd (by decide) hg (by decide)), show sgn 3 = -1 by decide, Int.neg_one_mul]
  · rw [sgn_sq (n := n * 4) (p := 2) (by omega) prime_2 ⟨n, Nat.mul_comm _ _⟩, show sgn 4 = 0 by decide, Int.zero_mul]
  · rw [Nat.mul_comm n, sgn_prime_mul n 5 prime_5 h0 (not_dvd_of_gcd (by decide) hg (by decide)), show sgn 5 = -1 by decide, Int.neg_one_mul]
  · have h2 := not_dvd_of_gcd (p := 2) (by decide) hg (by decide)
    have h3 := not_dvd_of_gcd (p := 3) (by decide) hg (by decide)
    have h32 : ¬ 2 ∣ 3 * n := fun h => by
      rcases prime_2.dvd_mul h with h | h
      · exact absurd h (by decide)
      · exact h2 h
    rw [show n * 6 = 2 * (3 * n) by omega, sgn_prime_mul (3 * n) 2 prime_2 (by omega) h32, sgn_prime_mul n 3 prime_3 h0 h3, show sgn 6 = 1 by decide]
    omega

/-! the count -/
def freeC : Nat → Nat
  | 0 => 0
  | n + 1 => freeC n + (if sqf (n + 1) = true then 1 else 0)
theorem freeC_le : ∀ n, freeC n ≤ n
  | 0 => Nat.le_refl 0
  | n + 1 => by have := freeC_le n; simp only [freeC]; split <;> omega
theorem sumF_add (f g : Nat → Int) : ∀ n, sumF (fun d => f d + g d) n = sumF f n + sumF g n
  | 0 => rfl
  | n + 1 => by simp only [sumF, sumF_add f g n]; omega
theorem sumF_congr {f g : Nat → Int} : ∀ n, (∀ d, 1 ≤ d → d ≤ n → f d = g d) → sumF f n = sumF g n
  | 0, _ => rfl
  | n + 1, h => by simp only [sumF]; rw [sumF_congr n (fun d h1 h2 => h d h1 (by omega)), h (n + 1) (by omega) (Nat.le_refl _)]
theorem lsum_range (f : Nat → Int) : ∀ n, lsum f (List.range (n + 1)) = f 0 + sumF f n
  | 0 => by simp [lsum, sumF, List.range_succ]
  | n + 1 => by
    rw [List.range_succ, lsum_append, lsum_range f n]
    simp only [lsum, sumF]; omega
/-- A sum over the divisors is a sum over all numbers up to a bound. -/
theorem sumF_divs (f : Nat → Int) (n : Nat) (h0 : 0 < n) : ∀ j, sumF (fun d => if d ∣ n then f d else 0) (n + j) = lsum f (divs n)
  | 0 => by
    have h := lsum_range (fun d => if dv n d = true then f d else 0) n
    unfold divs
    rw [lsum_filter, h]
    have hz : dv n 0 = false := by unfold dv; rfl
    simp only [hz, Bool.false_eq_true, if_false, Int.zero_add, Nat.add_zero]
    refine sumF_congr n fun d h1 h2 => ?_
    by_cases hd : d ∣ n
    · rw [if_pos hd, if_pos (dv_iff.2 ⟨h1, hd⟩)]
    · rw [if_neg hd, if_neg (fun h => hd (dv_iff.1 h).2)]
  | j + 1 => by
    rw [← Nat.add_assoc]
    simp only [sumF]
    rw [sumF_divs f n h0 j, if_neg (fun h => by have := Nat.le_of_dvd h0 h; omega), Int.add_zero]
theorem div_step (n q : Nat) (hq : 0 < q) : ((n + 1) / q : Nat) = n / q + (if q ∣ n + 1 then 1 else 0) := by
  rw [Nat.succ_div]
theorem sgn_sq_sum (n : Nat) (h0 : 0 < n) (D : Nat) (hD : n ≤ D) : sumF (fun d => if d * d ∣ n then sgn d else 0) D = if sqf n = true then 1 else 0 := by
  obtain ⟨r, hr⟩ := exists_sqp n h0
  have hr0 : 0 < r := Nat.pos_of_ne_zero fun h => by
    subst h
    have := Nat.eq_zero_of_zero_dvd hr.1
    omega
  have hrn : r ≤ n := by
    have h1 := Nat.le_of_dvd h0 hr.1
    have h2 := Nat.le_mul_of_pos_left r hr0
    omega
  have hiff : ∀ d, d * d ∣ n ↔ d ∣ r := fun d => ⟨hr.2 d, fun h => Nat.dvd_trans (sq_dvd_sq.2 h) hr.1⟩
  rw [sumF_congr (g := fun d => if d ∣ r then sgn d else 0) D (fun d _ _ => by simp only [hiff])]
  obtain ⟨j, rfl⟩ := Nat.exists_eq_add_of_le (Nat.le_trans hrn hD)
  rw [sumF_divs sgn r hr0 j, sgn_sum r hr0]
  by_cases h : r = 1
  · rw [if_pos h, if_pos ((hr.eq_one_iff h0).1 h)]
  · rw [if_neg h, if_neg (fun k => h ((hr.eq_one_iff h0).2 k))]
/-- Square-free numbers are counted by signs. -/
theorem count_free (D : Nat) : ∀ n, n ≤ D → sumF (fun d => sgn d * ((n / (d * d) : Nat) : Int)) D = (freeC n : Int)
  | 0, _ => by
    rw [sumF_congr (g := fun _ => 0) D (fun d _ _ => by simp)]
    have hz : ∀ m, sumF (fun _ => (0 : Int)) m = 0 := by
      intro m
      induction m with
      | zero => rfl
      | succ m ih => simp only [sumF, ih]; rfl
    rw [hz]; rfl
  | n + 1, h => by
    have ih := count_free D n (by omega)
    have h2 := sgn_sq_sum (n + 1) (by omega) D h
    have e : sumF (fun d => sgn d * (((n + 1) / (d * d) : Nat) : Int)) D = sumF (fun d => sgn d * ((n / (d * d) : Nat) : Int) + (if d * d ∣ n + 1 then sgn d else 0)) D := by
      refine sumF_congr D fun d h1 _ => ?_
      rw [div_step n (d * d) (Nat.mul_pos h1 h1)]
      split
      · rw [Int.natCast_add, Int.mul_add]; simp
      · simp
    rw [e, sumF_add, ih, h2]
    simp only [freeC]
    split <;> simp
/-- Sum of signs: no greater than the count, and of its parity. -/
theorem signs_count : ∀ n, ∃ c : Nat, sumF sgn n + 2 * (c : Int) = (freeC n : Int) ∧ c ≤ freeC n
  | 0 => ⟨0, rfl, Nat.le_refl 0⟩
  | n + 1 => by
    obtain ⟨c, h1, h2⟩ := signs_count n
    have hs := sgn_ne (n + 1)
    simp only [sumF, freeC]
    rcases sgn_range (n + 1) with h | h | h
    · have hf : ¬ sqf (n + 1) = true := fun k => hs.2 k h
      rw [if_neg hf, h]
      exact ⟨c, by omega, by omega⟩
    · have hf : sqf (n + 1) = true := hs.1 (by rw [h]; decide)
      rw [if_pos hf, h]
      exact ⟨c, by omega, by omega⟩
    · have hf : sqf (n + 1) = true := hs.1 (by rw [h]; decide)
      rw [if_pos hf, h]
      exact ⟨c + 1, by omega, by omega⟩
theorem freeC_gap (n : Nat) : ∀ j, (∀ k, n < k → k ≤ n + j → sqf k = false) → freeC (n + j) = freeC n
  | 0, _ => rfl
  | j + 1, h => by
    rw [← Nat.add_assoc]
    simp only [freeC]
    rw [freeC_gap n j (fun k h1 h2 => h k h1 (by omega)), h (n + j + 1) (by omega) (by omega)]
    simp
/-- Up to the next one, one more is counted. -/
theorem freeC_next {n m : Nat} (h1 : n < m) (hm : sqf m = true) (h : ∀ k, n < k → k < m → sqf k = false) : freeC m = freeC n + 1 := by
  obtain ⟨j, rfl⟩ : ∃ j, m = n + j + 1 := ⟨m - n - 1, by omega⟩
  simp only [freeC]
  rw [freeC_gap n j (fun k h1 h2 => h k h1 (by omega)), if_pos hm]
end Go.Proofs.Ytfhfbicejddoiaa.Nt
