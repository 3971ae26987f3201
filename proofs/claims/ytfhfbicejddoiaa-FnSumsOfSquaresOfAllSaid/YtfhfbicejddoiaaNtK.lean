import Derived.Test.YtfhfbicejddoiaaNtJ
import Derived.Test.YtfhfbicejddoiaaNtQ
namespace Go.Proofs.Ytfhfbicejddoiaa.Nt
set_option linter.unusedVariables false

/-! sums of two squares: by factors, by rows, by columns of a circle -/
def chi (d : Nat) : Int := (if d % 4 = 1 then 1 else 0) - (if d % 4 = 3 then 1 else 0)
theorem chi_mul (a b : Nat) : chi (a * b) = chi a * chi b := by
  have ha : a % 4 = 0 ∨ a % 4 = 1 ∨ a % 4 = 2 ∨ a % 4 = 3 := by omega
  have hb : b % 4 = 0 ∨ b % 4 = 1 ∨ b % 4 = 2 ∨ b % 4 = 3 := by omega
  have hm := Nat.mul_mod a b 4
  unfold chi
  rcases ha with h | h | h | h <;> rcases hb with k | k | k | k <;> rw [h, k] at hm <;> simp [hm, h, k]
theorem gs_succ (g : Nat → Int) (e : Nat) : gsum g (e + 1) = gsum g e + g (e + 1) := rfl
theorem chi_pow (p : Nat) : ∀ j, chi (p ^ j) = chi p ^ j
  | 0 => by rw [Nat.pow_zero, Int.pow_zero]; decide
  | j + 1 => by rw [Nat.pow_succ, chi_mul, chi_pow p j, Int.pow_succ]
theorem gsum_chi (p e : Nat) : 0 ≤ gsum (fun j => chi (p ^ j)) e ∧ (0 < gsum (fun j => chi (p ^ j)) e ↔ ¬ (p % 4 = 3 ∧ e % 2 = 1)) := by
  have hp : p % 4 = 0 ∨ p % 4 = 2 ∨ p % 4 = 1 ∨ p % 4 = 3 := by omega
  rcases hp with h | h | h | h
  · have hc : chi p = 0 := by unfold chi; simp [h]
    have : ∀ e, gsum (fun j => chi (p ^ j)) e = 1 := by
      intro e
      induction e with
      | zero => rfl
      | succ e ih => rw [gs_succ, ih, chi_pow, hc, Int.pow_succ, Int.mul_zero, Int.add_zero]
    rw [this e]
    exact ⟨by decide, fun _ k => by omega, fun _ => by decide⟩
  · have hc : chi p = 0 := by unfold chi; simp [h]
    have : ∀ e, gsum (fun j => chi (p ^ j)) e = 1 := by
      intro e
      induction e with
      | zero => rfl
      | succ e ih => rw [gs_succ, ih, chi_pow, hc, Int.pow_succ, Int.mul_zero, Int.add_zero]
    rw [this e]
    exact ⟨by decide, fun _ k => by omega, fun _ => by decide⟩
  · have hc : chi p = 1 := by unfold chi; simp [h]
    have : ∀ e, gsum (fun j => chi (p ^ j)) e = (e : Int) + 1 := by
      intro e
      induction e with
      | zero => rfl
      | succ e ih => rw [gs_succ, ih, chi_pow, hc, Int.one_pow]; omega
    rw [this e]
    exact ⟨by omega, fun _ k => by omega, fun _ => by omega⟩
  · have hc : chi p = -1 := by unfold chi; simp [h]
    have hpw : ∀ e, (-1 : Int) ^ e = if e % 2 = 0 then 1 else -1 := by
      intro e
      induction e with
      | zero => rfl
      | succ e ih =>
        rw [Int.pow_succ, ih]
        by_cases k : e % 2 = 0
        · rw [if_pos k, if_neg (by omega)]; rfl
        · rw [if_neg k, if_pos (by omega)]; rfl
    have : ∀ e, gsum (fun j => chi (p ^ j)) e = if e % 2 = 0 then 1 else 0 := by
      intro e
      induction e with
      | zero => rfl
      | succ e ih =>
        rw [gs_succ, ih, chi_pow, hc, hpw]
        by_cases k : e % 2 = 0
        · rw [if_pos k, if_neg (by omega), if_neg (by omega)]; rfl
        · rw [if_neg k, if_pos (by omega), if_pos (by omega)]; rfl
    rw [this e]
    by_cases k : e % 2 = 0
    · rw [if_pos k]
      exact ⟨by decide, fun _ q => by omega, fun _ => by decide⟩
    · rw [if_neg k]
      exact ⟨by decide, fun q => absurd q (by decide), fun q => absurd ⟨h, by omega⟩ q⟩
theorem prodL_pos {G : Nat → Nat → Int} : ∀ (l : List (Nat × Nat)), (∀ f ∈ l, 0 ≤ G f.1 f.2) → 0 ≤ prodL G l ∧ (0 < prodL G l ↔ ∀ f ∈ l, 0 < G f.1 f.2)
  | [], _ => by simp [prodL]
  | (p, e) :: l, h => by
    obtain ⟨h1, h2⟩ := prodL_pos l (fun f hf => h f (by simp [hf]))
    have h3 := h (p, e) (by simp)
    simp only [prodL]
    refine ⟨Int.mul_nonneg h3 h1, fun k => ?_, fun k => Int.mul_pos (k (p, e) (by simp)) (h2.2 (fun f hf => k f (by simp [hf])))⟩
    have k1 : 0 < G p e := by
      rcases Int.lt_or_eq_of_le h3 with q | q
      · exact q
      · simp only at q; rw [← q, Int.zero_mul] at k; exact absurd k (by decide)
    have k2 : 0 < prodL G l := by
      rcases Int.lt_or_eq_of_le h1 with q | q
      · exact q
      · rw [← q, Int.mul_zero] at k; exact absurd k (by decide)
    intro f hf
    rcases List.mem_cons.1 hf with rfl | hf
    · exact k1
    · exact h2.1 k2 f hf
def dchi (n : Nat) : Int := lsum chi (divs n)
/-- The divisors' balance is positive just where no prime that is 3 modulo 4 stands an odd number of times. -/
theorem dchi_pos (n : Nat) (h0 : 0 < n) : 0 ≤ dchi n ∧ (0 < dchi n ↔ ((facs n).all fun f => !(f.1 % 4 == 3 && f.2 % 2 == 1)) = true) := by
  unfold dchi
  rw [mult_sum (f := chi) (g := fun p j => chi (p ^ j)) (by decide) (fun p j d _ _ _ _ => by rw [chi_mul, Int.mul_comm]) n h0]
  obtain ⟨h1, h2⟩ := prodL_pos (G := fun p e => gsum (fun j => chi (p ^ j)) e) (facs n) (fun f _ => (gsum_chi f.1 f.2).1)
  refine ⟨h1, h2.trans ?_⟩
  rw [List.all_eq_true]
  refine ⟨fun h f hf => ?_, fun h f hf => ?_⟩
  · have := (gsum_chi f.1 f.2).2.1 (h f hf)
    have h2 : ¬ (f.1 % 4 = 3) ∨ f.2 % 2 = 0 := by omega
    simpa using h2
  · refine (gsum_chi f.1 f.2).2.2 ?_
    have := h f hf
    have h2 : ¬ (f.1 % 4 = 3) ∨ f.2 % 2 = 0 := by simpa using this
    omega

/-! rows: a, b with a a + b b = n -/
theorem cn_shift (n c : Nat) : ∀ l, cn n (l.map (fun e => c + e)) = if c ≤ n then cn (n - c) l else 0
  | [] => by simp [cn]
  | e :: l => by
    simp only [List.map_cons, cn, cn_shift n c l]
    by_cases h : c ≤ n
    · rw [if_pos h, if_pos h]
      by_cases k : e = n - c
      · rw [if_pos (by omega), if_pos k]
      · rw [if_neg (by omega), if_neg k]
    · rw [if_neg h, if_neg h, if_neg (by omega)]
theorem sq_inj {a b : Nat} (h : a * a = b * b) : a = b := by
  rcases Nat.lt_trichotomy a b with k | k | k
  · have := Nat.mul_self_lt_mul_self k; omega
  · exact k
  · have := Nat.mul_self_lt_mul_self k; omega
theorem isq_sq (b : Nat) : isq (b * b) = b := isq_eq (Nat.le_refl _) (by rw [Nat.mul_add, Nat.add_mul]; omega)
theorem sqs_succ (j : Nat) : sqs (j + 1) = sqs j ++ [(316 - j) * (316 - j)] := rfl
theorem cn_one (n e : Nat) : cn n [e] = if e = n then 1 else 0 := rfl
theorem rowsL_succ (j : Nat) : rowsL (j + 1) = rowsL j ++ ((sqs j).map (fun e => (316 - j) * (316 - j) + e) ++ (sqs j).map (fun e => (316 - j) * (316 - j) + e)) ++ [(316 - j) * (316 - j) + (316 - j) * (316 - j)] := rfl
/-- The squares are counted. -/
theorem sqs_cn (m : Nat) (hm : m < 317 * 317) : ∀ j, j ≤ 316 → cn m (sqs j) = if isq m * isq m = m ∧ 316 - j < isq m then 1 else 0
  | 0, _ => by
    have := isq_spec m
    have : ¬ 316 < isq m := fun h => by
      have := Nat.mul_le_mul (show 317 ≤ isq m from h) (show 317 ≤ isq m from h)
      omega
    rw [if_neg (fun t => this t.2)]; rfl
  | j + 1, h => by
    rw [sqs_succ, cn_append, sqs_cn m hm j (by omega), cn_one]
    by_cases k : (316 - j) * (316 - j) = m
    · have e : isq m = 316 - j := by rw [← k]; exact isq_sq _
      rw [if_pos k, e, if_neg (fun q => by omega), if_pos ⟨k, by omega⟩]
    · rw [if_neg k]
      by_cases q : isq m * isq m = m
      · have e : isq m ≠ 316 - j := fun e => k (by rw [← e]; exact q)
        by_cases r : 316 - j < isq m
        · rw [if_pos ⟨q, r⟩, if_pos ⟨q, by omega⟩]
        · rw [if_neg (fun t => r t.2), if_neg (fun t => by omega)]
      · rw [if_neg (fun t => q t.1), if_neg (fun t => q t.1)]
/-- What the row of a adds: a, b with a ≤ b, twice unless a = 0 or a = b. -/
def rowW (n a : Nat) : Nat := if a * a ≤ n ∧ isq (n - a * a) * isq (n - a * a) = n - a * a ∧ a ≤ isq (n - a * a) then (if a = 0 ∨ a = isq (n - a * a) then 1 else 2) else 0
def rowT (n : Nat) : Nat → Nat
  | 0 => 0
  | a + 1 => rowT n a + rowW n a
theorem rowT_succ (n a : Nat) : rowT n (a + 1) = rowT n a + rowW n a := rfl
theorem rowsL_cn (n : Nat) (h0 : 0 < n) (hn : n ≤ 100000) : ∀ j, j ≤ 316 → cn n (rowsL j) + rowT n (317 - j) = rowT n 317
  | 0, _ => by show 0 + rowT n (317 - 0) = _; rw [Nat.zero_add, Nat.sub_zero]
  | j + 1, h => by
    have ih := rowsL_cn n h0 hn j (by omega)
    rw [show 317 - j = (317 - (j + 1)) + 1 by omega] at ih
    rw [rowT_succ] at ih
    rw [← ih]
    rw [rowsL_succ, cn_append, cn_append, cn_append, cn_shift, cn_one]
    have e : 317 - (j + 1) = 316 - j := by omega
    rw [e]
    have hpos : 0 < 316 - j := by omega
    have hlt : 316 - j ≤ 316 := by omega
    have hj : 316 - j = 316 - j := rfl
    generalize ha : 316 - j = a at *
    suffices hs : (if a * a ≤ n then cn (n - a * a) (sqs j) else 0) + (if a * a ≤ n then cn (n - a * a) (sqs j) else 0) + (if a * a + a * a = n then 1 else 0) = rowW n a by omega
    unfold rowW
    by_cases h1 : a * a ≤ n
    · rw [if_pos h1, sqs_cn (n - a * a) (by omega) j (by omega), ha]
      by_cases h2 : isq (n - a * a) * isq (n - a * a) = n - a * a
      · by_cases h3 : a * a + a * a = n
        · have e2 : isq (n - a * a) = a := by rw [show n - a * a = a * a by omega]; exact isq_sq a
          rw [if_pos h3, e2, if_neg (fun t => by omega), if_pos ⟨h1, by omega, Nat.le_refl _⟩, if_pos (.inr rfl)]
        · have hne : a ≠ isq (n - a * a) := fun t => by rw [← t] at h2; omega
          rw [if_neg h3]
          by_cases h4 : a < isq (n - a * a)
          · rw [if_pos ⟨h2, h4⟩, if_pos ⟨h1, h2, by omega⟩, if_neg (fun t => t.elim (by omega) hne)]
          · rw [if_neg (fun t => h4 t.2), if_neg (fun t => by omega)]
      · have h3 : a * a + a * a ≠ n := fun t => h2 (by rw [show n - a * a = a * a by omega, isq_sq])
        rw [if_neg (fun t => h2 t.1), if_neg h3, if_neg (fun t => h2 t.2.1)]
    · rw [if_neg h1, if_neg (fun t => by omega), if_neg (fun t => h1 t.1)]
theorem rows_cn (n : Nat) (h0 : 0 < n) (hn : n ≤ 100000) : cn n (rowsL 316 ++ sqs 316) = rowT n 317 := by
  have h1 := rowsL_cn n h0 hn 316 (Nat.le_refl _)
  have h2 := sqs_cn n (by omega) 316 (Nat.le_refl _)
  rw [cn_append, h2, ← h1]
  suffices hs : (if isq n * isq n = n ∧ 316 - 316 < isq n then 1 else 0) = rowT n (317 - 316) by rw [hs]
  rw [show 317 - 316 = 0 + 1 by decide, show 316 - 316 = 0 by decide]
  rw [rowT_succ, show rowT n 0 = 0 from rfl, Nat.zero_add]
  unfold rowW
  have hz : n - 0 * 0 = n := by omega
  rw [hz]
  by_cases h : isq n * isq n = n
  · have : 0 < isq n := Nat.pos_of_ne_zero fun e => by rw [e] at h; omega
    rw [if_pos ⟨h, by omega⟩, if_pos ⟨by omega, h, by omega⟩, if_pos (.inl rfl)]
  · rw [if_neg (fun t => h t.1), if_neg (fun t => h t.2.1)]
/-- The rows of two squares, weighed, are the divisors' balance. -/
theorem rows_dchi (n : Nat) (h0 : 0 < n) (hn : n ≤ 100000) : (rowT n 317 : Int) = dchi n := by
  rw [← rows_cn n h0 hn]; exact jacobi n h0 hn

/-! columns of a circle -/
def fullL : Nat → List Nat
  | 0 => []
  | j + 1 => fullL j ++ (sqs 316).map (fun e => (316 - j) * (316 - j) + e)
theorem fullL_succ (j : Nat) : fullL (j + 1) = fullL j ++ (sqs 316).map (fun e => (316 - j) * (316 - j) + e) := rfl
theorem fullL_val : ∀ j, dg 1048576 (fullL j) = psi j * psi 316
  | 0 => by rw [show psi 0 = 0 from rfl, Nat.zero_mul]; rfl
  | j + 1 => by
    have e : psi (j + 1) = psi j + 1048576 ^ ((316 - j) * (316 - j)) := rfl
    rw [e, Nat.add_mul, ← fullL_val j]
    rw [fullL_succ, dg_append, dg_shift, sqs_val]
/-- The columns x of 1, .., 316: is n - x x a square of at least 1? -/
def colW (n x : Nat) : Nat := if x * x < n ∧ isq (n - x * x) * isq (n - x * x) = n - x * x then 1 else 0
def colT (n : Nat) : Nat → Nat
  | 0 => 0
  | a + 1 => colT n a + colW n (a + 1)
theorem colT_succ (n a : Nat) : colT n (a + 1) = colT n a + colW n (a + 1) := rfl
theorem fullL_cn (n : Nat) (hn : n ≤ 100000) : ∀ j, j ≤ 316 → cn n (fullL j) + colT n (316 - j) = colT n 316
  | 0, _ => by show 0 + colT n (316 - 0) = _; rw [Nat.zero_add, Nat.sub_zero]
  | j + 1, h => by
    have ih := fullL_cn n hn j (by omega)
    rw [show 316 - j = (316 - (j + 1)) + 1 by omega] at ih
    rw [colT_succ] at ih
    rw [← ih]
    rw [fullL_succ, cn_append, cn_shift]
    rw [show 316 - j = 316 - (j + 1) + 1 by omega]
    generalize 316 - (j + 1) + 1 = a at *
    suffices hs : (if a * a ≤ n then cn (n - a * a) (sqs 316) else 0) = colW n a by omega
    unfold colW
    by_cases h1 : a * a ≤ n
    · rw [if_pos h1, sqs_cn (n - a * a) (by omega) 316 (Nat.le_refl _)]
      by_cases h2 : isq (n - a * a) * isq (n - a * a) = n - a * a
      · by_cases h3 : a * a < n
        · have : 0 < isq (n - a * a) := Nat.pos_of_ne_zero fun e => by rw [e] at h2; omega
          rw [if_pos ⟨h2, by omega⟩, if_pos ⟨h3, h2⟩]
        · have e : n - a * a = 0 := by omega
          rw [e] at h2 ⊢
          rw [if_neg (fun t => by
            have : isq 0 = 0 := by decide
            omega), if_neg (fun t => h3 t.1)]
      · rw [if_neg (fun t => h2 t.1), if_neg (fun t => h2 t.2)]
    · rw [if_neg h1, if_neg (fun t => h1 (by omega))]
theorem fullL_len : ∀ j, (fullL j).length ≤ j * 316
  | 0 => Nat.le_refl 0
  | j + 1 => by
    have := fullL_len j
    have h2 := (rowsL_len 316 (Nat.le_refl _)).2
    rw [fullL_succ, List.length_append, List.length_map, h2]; omega
/-- The columns of the circle that hold n's points are the divisors' balance. -/
theorem cols_dchi (n : Nat) (h0 : 0 < n) (hn : n ≤ 100000) : ((colT n 316 + (if isq n * isq n = n then 1 else 0) : Nat) : Int) = dchi n := by
  rw [← rows_dchi n h0 hn, ← rows_cn n h0 hn]
  suffices hs : colT n 316 + (if isq n * isq n = n then 1 else 0) = cn n (rowsL 316 ++ sqs 316) by rw [hs]
  have h1 := fullL_cn n hn 316 (Nat.le_refl _)
  have h2 := sqs_cn n (by omega) 316 (Nat.le_refl _)
  have h3 := cn_eq_of_mod (B := 1048576) (N := n) (l := fullL 316) (m := rowsL 316) (by decide)
    (fun i _ => by have := cn_le i (fullL 316); have := fullL_len 316; omega)
    (fun i _ => by have := cn_le i (rowsL 316); have := (rowsL_len 316 (Nat.le_refl _)).1; omega)
    (by rw [fullL_val, rowsL_val]) n (Nat.le_refl _)
  rw [cn_append, ← h3, h2]
  have : (if isq n * isq n = n then 1 else 0) = (if isq n * isq n = n ∧ 316 - 316 < isq n then 1 else 0) := by
    by_cases h : isq n * isq n = n
    · have : 0 < isq n := Nat.pos_of_ne_zero fun e => by rw [e] at h; omega
      rw [if_pos h, if_pos ⟨h, by omega⟩]
    · rw [if_neg h, if_neg (fun t => h t.1)]
  rw [this, ← h1, show 316 - 316 = 0 by decide, show colT n 0 = 0 from rfl, Nat.add_zero]
end Go.Proofs.Ytfhfbicejddoiaa.Nt
