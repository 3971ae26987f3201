import Derived.Test.YtbdapgjgjllojaaNtB
namespace Go.Proofs.Ytbdapgjgjllojaa.Nt
set_option linter.unusedVariables false

theorem sgnL_eq : ∀ l, sgnL l = if l.all (fun f => decide (f.2 ≤ 1)) = true then (if l.length % 2 = 0 then 1 else -1) else 0
  | [] => by simp [sgnL]
  | (p, e) :: l => by
    have ih := sgnL_eq l
    simp only [sgnL, List.all_cons, Bool.and_eq_true, decide_eq_true_eq, List.length_cons]
    by_cases h : 1 < e
    · rw [if_pos h, if_neg (fun k => by omega)]
    · rw [if_neg h, ih]
      have he : e ≤ 1 := by omega
      by_cases ha : l.all (fun f => decide (f.2 ≤ 1)) = true
      · simp only [ha, he, and_true, if_true]
        by_cases hp : l.length % 2 = 0
        · rw [if_pos hp, if_neg (by omega)]
        · rw [if_neg hp, if_pos (by omega)]; rfl
      · rw [if_neg ha, if_neg (fun k => ha k.2)]; rfl

theorem sgn_eq (n : Nat) : sgn n = if sqf n = true then (if (facs n).length % 2 = 0 then 1 else -1) else 0 := sgnL_eq _

theorem radL_pos : ∀ {b : Nat} {l : List (Nat × Nat)}, IsFac b l → 0 < radL l
  | _, [], _ => by decide
  | _, (p, e) :: l, h => Nat.mul_pos h.2.1.pos (radL_pos h.2.2.2)
theorem radL_dvd : ∀ {b : Nat} {l : List (Nat × Nat)}, IsFac b l → radL l ∣ fprod l
  | _, [], _ => Nat.dvd_refl 1
  | _, (p, e) :: l, h => Nat.mul_dvd_mul (by have := Nat.pow_dvd_pow p h.2.2.1; simpa using this) (radL_dvd h.2.2.2)
theorem radL_eq_iff : ∀ {b : Nat} {l : List (Nat × Nat)}, IsFac b l → (radL l = fprod l ↔ l.all (fun f => decide (f.2 ≤ 1)) = true)
  | _, [], _ => by simp [radL, fprod]
  | b, (p, e) :: l, h => by
    have ih := radL_eq_iff h.2.2.2
    have h1 := radL_pos h.2.2.2
    have h2 := Nat.le_of_dvd (fprod_pos h.2.2.2) (radL_dvd h.2.2.2)
    have hp := h.2.1.pos
    simp only [radL, fprod, List.all_cons, Bool.and_eq_true, decide_eq_true_eq]
    constructor
    · intro he
      have h3 : e ≤ 1 := by
        rcases Nat.lt_or_ge 1 e with h4 | h4
        · exfalso
          have h5 : p ^ 2 ≤ p ^ e := Nat.pow_le_pow_right hp h4
          have h6 : p * radL l < p ^ 2 * radL l := by
            have : p * 1 < p * p := Nat.mul_lt_mul_of_pos_left (by have := h.2.1.1; omega) hp
            rw [Nat.pow_two]
            exact Nat.mul_lt_mul_of_pos_right (by omega) h1
          have h7 : p ^ 2 * radL l ≤ p ^ e * fprod l := Nat.mul_le_mul h5 h2
          omega
        · exact h4
      have h8 : e = 1 := by have := h.2.2.1; omega
      refine ⟨h3, ih.1 ?_⟩
      rw [h8, Nat.pow_one] at he
      exact Nat.eq_of_mul_eq_mul_left hp he
    · rintro ⟨h3, h4⟩
      have h8 : e = 1 := by have := h.2.2.1; omega
      rw [h8, Nat.pow_one, ih.2 h4]

theorem rad_dvd {n : Nat} (h0 : 0 < n) : rad n ∣ n := by
  have := radL_dvd (facs_fac h0); rwa [fprod_facs h0] at this
theorem rad_pos {n : Nat} (h0 : 0 < n) : 0 < rad n := radL_pos (facs_fac h0)
theorem rad_le {n : Nat} (h0 : 0 < n) : rad n ≤ n := Nat.le_of_dvd h0 (rad_dvd h0)
theorem rad_eq_iff {n : Nat} (h0 : 0 < n) : rad n = n ↔ sqf n = true := by
  have := radL_eq_iff (facs_fac h0); rwa [fprod_facs h0] at this
theorem rad_cons {n : Nat} (hn : 2 ≤ n) : rad n = lf n * rad (rs (lf n) n) := by
  unfold rad; rw [facs_cons hn]; rfl
theorem rad_one : rad 1 = 1 := by decide

theorem sqp_of_greatest {n p : Nat} (h0 : 0 < n) (h : p * p ∣ n) (hg : ∀ m, m * m ∣ n → m ≤ p) : IsSqp n p := by
  obtain ⟨r, hr⟩ := exists_sqp n h0
  have h1 := hg r hr.1
  have h2 := hr.2 p h
  have h3 : 0 < r := by
    rcases Nat.eq_zero_or_pos r with h | h
    · subst h; have := hr.1; simp at this; omega
    · exact h
  have h4 := Nat.le_of_dvd h3 h2
  have : r = p := by omega
  exact this ▸ hr

/-- The totient, as the programs go. -/
def totL : List (Nat × Nat) → Nat → Nat
  | [], s => s
  | (p, _) :: l, s => totL l (s / p * (p - 1))
def phi (n : Nat) : Nat := totL (facs n) n
theorem totL_step {s p : Nat} : s / p * (p - 1) ≤ s :=
  Nat.le_trans (Nat.mul_le_mul_left _ (by omega)) (Nat.div_mul_le_self s p)
theorem totL_le : ∀ (l : List (Nat × Nat)) (s : Nat), totL l s ≤ s
  | [], s => Nat.le_refl s
  | (p, _) :: l, s => Nat.le_trans (totL_le l _) totL_step
theorem phi_le (n : Nat) : phi n ≤ n := totL_le _ _

/-- f 1, .., f n together. -/
def sumF (f : Nat → Int) : Nat → Int
  | 0 => 0
  | n + 1 => sumF f n + f (n + 1)
theorem sumF_bd {f : Nat → Int} {b : Int} : ∀ (n : Nat), (∀ k, 1 ≤ k → k ≤ n → -b ≤ f k ∧ f k ≤ b) → -(b * n) ≤ sumF f n ∧ sumF f n ≤ b * n
  | 0, _ => by simp [sumF]
  | n + 1, h => by
    have h1 := sumF_bd n (fun k h1 h2 => h k h1 (by omega))
    have h2 := h (n + 1) (by omega) (Nat.le_refl _)
    have e : b * ((n + 1 : Nat) : Int) = b * n + b := by rw [Int.natCast_add, Int.mul_add]; simp
    rw [e]
    simp only [sumF]; omega

/-- The least square-free number of at least n, looked for f times. -/
def nxA : Nat → Nat → Nat
  | 0, n => n
  | f + 1, n => if sqf n = true then n else nxA f (n + 1)
theorem nxA_spec : ∀ (f n m : Nat), n ≤ m → m ≤ n + f → sqf m = true → sqf (nxA f n) = true ∧ n ≤ nxA f n ∧ nxA f n ≤ m ∧ ∀ k, n ≤ k → k < nxA f n → sqf k = false
  | 0, n, m, h1, h2, h3 => by
    have : m = n := by omega
    subst this
    exact ⟨h3, Nat.le_refl _, Nat.le_refl _, fun k h4 h5 => by simp only [nxA] at h5; omega⟩
  | f + 1, n, m, h1, h2, h3 => by
    unfold nxA
    by_cases h : sqf n = true
    · rw [if_pos h]; exact ⟨h, Nat.le_refl _, h1, fun k h4 h5 => by omega⟩
    · rw [if_neg h]
      have hne : n ≠ m := by rintro rfl; exact h h3
      obtain ⟨a, b, c, d⟩ := nxA_spec f (n + 1) m (by omega) (by omega) h3
      refine ⟨a, by omega, c, fun k h4 h5 => ?_⟩
      by_cases hk : k = n
      · rw [hk]; simpa using h
      · exact d k (by omega) h5

end Go.Proofs.Ytbdapgjgjllojaa.Nt
