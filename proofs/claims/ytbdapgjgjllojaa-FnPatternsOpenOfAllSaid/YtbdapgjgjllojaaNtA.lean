namespace Go.Proofs.Ytbdapgjgjllojaa.Nt
set_option linter.unusedVariables false

def Prime (p : Nat) : Prop := 2 ≤ p ∧ ∀ m, m ∣ p → m = 1 ∨ m = p

theorem Prime.two_le {p : Nat} (h : Prime p) : 2 ≤ p := h.1
theorem Prime.pos {p : Nat} (h : Prime p) : 0 < p := by have := h.1; omega

theorem Prime.coprime_of_not_dvd {p n : Nat} (hp : Prime p) (h : ¬ p ∣ n) : Nat.Coprime p n := by
  rcases hp.2 _ (Nat.gcd_dvd_left p n) with h1 | h1
  · exact h1
  · exact absurd (h1 ▸ Nat.gcd_dvd_right p n) h

theorem Prime.dvd_mul {p m n : Nat} (hp : Prime p) (h : p ∣ m * n) : p ∣ m ∨ p ∣ n := by
  by_cases hm : p ∣ m
  · exact Or.inl hm
  · exact Or.inr ((hp.coprime_of_not_dvd hm).dvd_of_dvd_mul_left h)

theorem Prime.dvd_pow {p m : Nat} (hp : Prime p) : ∀ {k : Nat}, p ∣ m ^ k → p ∣ m
  | 0, h => by have h1 := Nat.le_of_dvd (by simp) h; have := hp.1; simp at h1; omega
  | k + 1, h => by
    rw [Nat.pow_succ] at h
    rcases hp.dvd_mul h with h | h
    · exact hp.dvd_pow h
    · exact h

theorem Prime.eq_of_dvd {p q : Nat} (hp : Prime p) (hq : Prime q) (h : p ∣ q) : p = q := by
  rcases hq.2 p h with h1 | h1
  · have := hp.1; omega
  · exact h1

theorem Prime.coprime {p q : Nat} (hp : Prime p) (hq : Prime q) (h : p ≠ q) : Nat.Coprime p q :=
  hp.coprime_of_not_dvd (fun hd => h (hp.eq_of_dvd hq hd))

/-- The least divisor of at least 2. -/
def IsLf (n r : Nat) : Prop := r ∣ n ∧ 2 ≤ r ∧ ∀ m, 2 ≤ m → m ∣ n → r ≤ m

theorem IsLf.unique {n r s : Nat} (h : IsLf n r) (k : IsLf n s) : r = s :=
  Nat.le_antisymm (h.2.2 s k.2.1 k.1) (k.2.2 r h.2.1 h.1)

theorem IsLf.prime {n r : Nat} (h : IsLf n r) : Prime r := by
  refine ⟨h.2.1, fun m hm => ?_⟩
  by_cases h1 : m = 1
  · exact Or.inl h1
  · right
    have hr : 0 < r := by have := h.2.1; omega
    have hm0 : 0 < m := Nat.pos_of_dvd_of_pos hm hr
    have h2 := h.2.2 m (by omega) (Nat.dvd_trans hm h.1)
    have h3 := Nat.le_of_dvd hr hm
    omega

def lfAux : Nat → Nat → Nat → Nat
  | 0, n, _ => n
  | f + 1, n, d => if n < d * d then n else if n % d = 0 then d else lfAux f n (d + 1)
def lf (n : Nat) : Nat := lfAux n n 2

/-- No divisor below d, and n below d d: n is its own least divisor. -/
theorem isLf_self {n d : Nat} (hn : 2 ≤ n) (h : n < d * d) (hd : ∀ m, 2 ≤ m → m < d → ¬ m ∣ n) : IsLf n n := by
  refine ⟨Nat.dvd_refl n, hn, fun m hm hmn => ?_⟩
  have hle := Nat.le_of_dvd (by omega) hmn
  by_cases hlt : m < n
  · exfalso
    obtain ⟨c, hc⟩ := hmn
    by_cases hmd : m < d
    · exact hd m hm hmd ⟨c, hc⟩
    · have hc2 : 2 ≤ c := by
        rcases Nat.lt_or_ge c 2 with h2 | h2
        · have : m * c ≤ m * 1 := Nat.mul_le_mul_left m (by omega)
          omega
        · exact h2
      have hcd : c < d := by
        rcases Nat.lt_or_ge c d with h3 | h3
        · exact h3
        · have : d * d ≤ m * c := Nat.mul_le_mul (by omega) h3
          omega
      exact hd c hc2 hcd ⟨m, by rw [hc, Nat.mul_comm]⟩
  · omega

theorem lfAux_isLf : ∀ (f n d : Nat), 2 ≤ n → 2 ≤ d → n < (d + f) * (d + f) → (∀ m, 2 ≤ m → m < d → ¬ m ∣ n) → IsLf n (lfAux f n d)
  | 0, n, d, hn, _, h, hd => isLf_self hn h hd
  | f + 1, n, d, hn, h2, h, hd => by
    unfold lfAux
    by_cases h1 : n < d * d
    · rw [if_pos h1]; exact isLf_self hn h1 hd
    · rw [if_neg h1]
      by_cases h3 : n % d = 0
      · rw [if_pos h3]
        refine ⟨Nat.dvd_of_mod_eq_zero h3, h2, fun m hm hmn => ?_⟩
        rcases Nat.lt_or_ge m d with h4 | h4
        · exact absurd hmn (hd m hm h4)
        · exact h4
      · rw [if_neg h3]
        refine lfAux_isLf f n (d + 1) hn (by omega) (by rw [show d + 1 + f = d + (f + 1) by omega]; exact h) fun m hm hmd hmn => ?_
        by_cases h4 : m = d
        · subst h4; exact h3 (Nat.mod_eq_zero_of_dvd hmn)
        · exact hd m hm (by omega) hmn

theorem lf_isLf {n : Nat} (hn : 2 ≤ n) : IsLf n (lf n) := by
  refine lfAux_isLf n n 2 hn (Nat.le_refl _) ?_ (fun m h1 h2 => by omega)
  have : 1 * n ≤ (2 + n) * (2 + n) := Nat.mul_le_mul (by omega) (by omega)
  have h3 : (2 + n) * (2 + n) = 4 + 4 * n + n * n := by rw [Nat.add_mul, Nat.mul_add, Nat.mul_add]; omega
  omega

theorem lf_eq {n r : Nat} (hn : 2 ≤ n) (h : IsLf n r) : lf n = r := (lf_isLf hn).unique h
theorem lf_dvd {n : Nat} (hn : 2 ≤ n) : lf n ∣ n := (lf_isLf hn).1
theorem lf_two_le {n : Nat} (hn : 2 ≤ n) : 2 ≤ lf n := (lf_isLf hn).2.1
theorem lf_prime {n : Nat} (hn : 2 ≤ n) : Prime (lf n) := (lf_isLf hn).prime
theorem lf_le {n : Nat} (hn : 2 ≤ n) : lf n ≤ n := Nat.le_of_dvd (by omega) (lf_dvd hn)

theorem exists_prime {n : Nat} (hn : 2 ≤ n) : ∃ p, Prime p ∧ p ∣ n := ⟨lf n, lf_prime hn, lf_dvd hn⟩

/-- Without a common prime there is no common divisor. -/
theorem coprime_of_primes {m n : Nat} (h0 : 0 < m) (h : ∀ p, Prime p → p ∣ m → p ∣ n → False) : Nat.Coprime m n := by
  by_cases hg : Nat.gcd m n = 1
  · exact hg
  · have hpos : 0 < Nat.gcd m n := Nat.gcd_pos_of_pos_left n h0
    obtain ⟨p, hp, hd⟩ := exists_prime (n := Nat.gcd m n) (by omega)
    exact (h p hp (Nat.dvd_trans hd (Nat.gcd_dvd_left m n)) (Nat.dvd_trans hd (Nat.gcd_dvd_right m n))).elim

/-! exponents -/

def vlAux : Nat → Nat → Nat → Nat
  | 0, _, _ => 0
  | f + 1, p, n => if n % p = 0 then vlAux f p (n / p) + 1 else 0
/-- How often p divides n. -/
def vl (p n : Nat) : Nat := vlAux n p n

theorem vlAux_spec : ∀ (f p n : Nat), 2 ≤ p → 0 < n → n ≤ f → p ^ vlAux f p n ∣ n ∧ ¬ p ^ (vlAux f p n + 1) ∣ n
  | 0, p, n, hp, h0, h => by omega
  | f + 1, p, n, hp, h0, h => by
    unfold vlAux
    by_cases hm : n % p = 0
    · rw [if_pos hm]
      have hd : p ∣ n := Nat.dvd_of_mod_eq_zero hm
      obtain ⟨c, rfl⟩ := hd
      have hc : 0 < c := by rcases Nat.eq_zero_or_pos c with h1 | h1
                            · subst h1; simp at h0
                            · exact h1
      have hlt : c < p * c := by
        have : 2 * c ≤ p * c := Nat.mul_le_mul_right c hp
        omega
      rw [Nat.mul_div_cancel_left c (by omega)]
      obtain ⟨h1, h2⟩ := vlAux_spec f p c hp hc (by omega)
      constructor
      · rw [Nat.pow_succ, Nat.mul_comm]; exact Nat.mul_dvd_mul_left p h1
      · intro h3
        rw [Nat.pow_succ, Nat.mul_comm] at h3
        exact h2 (Nat.dvd_of_mul_dvd_mul_left (by omega) h3)
    · rw [if_neg hm]
      refine ⟨by simp, fun h1 => hm (Nat.mod_eq_zero_of_dvd (by simpa using h1))⟩

theorem pow_vl_dvd {p n : Nat} (hp : 2 ≤ p) (h0 : 0 < n) : p ^ vl p n ∣ n := (vlAux_spec n p n hp h0 (Nat.le_refl _)).1
theorem not_pow_vl {p n : Nat} (hp : 2 ≤ p) (h0 : 0 < n) : ¬ p ^ (vl p n + 1) ∣ n := (vlAux_spec n p n hp h0 (Nat.le_refl _)).2

theorem vl_eq {p n e : Nat} (hp : 2 ≤ p) (h0 : 0 < n) (h1 : p ^ e ∣ n) (h2 : ¬ p ^ (e + 1) ∣ n) : vl p n = e := by
  have h3 := pow_vl_dvd hp h0
  have h4 := not_pow_vl hp h0
  rcases Nat.lt_trichotomy (vl p n) e with h | h | h
  · exact absurd (Nat.dvd_trans (Nat.pow_dvd_pow p h) h1) h4
  · exact h
  · exact absurd (Nat.dvd_trans (Nat.pow_dvd_pow p h) h3) h2

theorem vl_pos {p n : Nat} (hp : 2 ≤ p) (h0 : 0 < n) (h : p ∣ n) : 0 < vl p n := by
  rcases Nat.eq_zero_or_pos (vl p n) with h1 | h1
  · exact absurd (by rw [h1]; simpa using h) (not_pow_vl hp h0)
  · exact h1

theorem vl_zero {p n : Nat} (hp : 2 ≤ p) (h0 : 0 < n) (h : ¬ p ∣ n) : vl p n = 0 :=
  vl_eq hp h0 (by simp) (by simpa using h)

/-- One division more. -/
theorem vl_mul_self {p n : Nat} (hp : 2 ≤ p) (h0 : 0 < n) : vl p (p * n) = vl p n + 1 := by
  refine vl_eq hp (Nat.mul_pos (by omega) h0) ?_ ?_
  · rw [Nat.pow_succ, Nat.mul_comm]; exact Nat.mul_dvd_mul_left p (pow_vl_dvd hp h0)
  · intro h
    rw [Nat.pow_succ, Nat.mul_comm] at h
    exact not_pow_vl hp h0 (Nat.dvd_of_mul_dvd_mul_left (by omega) h)

/-- What is left of n without p. -/
def rs (p n : Nat) : Nat := n / p ^ vl p n

theorem rs_mul {p n : Nat} (hp : 2 ≤ p) (h0 : 0 < n) : p ^ vl p n * rs p n = n := Nat.mul_div_cancel' (pow_vl_dvd hp h0)
theorem rs_pos {p n : Nat} (hp : 2 ≤ p) (h0 : 0 < n) : 0 < rs p n := by
  rcases Nat.eq_zero_or_pos (rs p n) with h | h
  · have := rs_mul hp h0; rw [h] at this; omega
  · exact h
theorem rs_dvd {p n : Nat} (hp : 2 ≤ p) (h0 : 0 < n) : rs p n ∣ n := ⟨p ^ vl p n, by rw [Nat.mul_comm]; exact (rs_mul hp h0).symm⟩
theorem not_dvd_rs {p n : Nat} (hp : 2 ≤ p) (h0 : 0 < n) : ¬ p ∣ rs p n := by
  intro ⟨c, hc⟩
  apply not_pow_vl hp h0
  exact ⟨c, by rw [Nat.pow_succ, Nat.mul_assoc, ← hc]; exact (rs_mul hp h0).symm⟩
theorem rs_lt {p n : Nat} (hp : 2 ≤ p) (h0 : 0 < n) (h : p ∣ n) : rs p n < n := by
  have h1 := rs_mul hp h0
  have h2 := vl_pos hp h0 h
  have h3 := rs_pos hp h0
  have h4 : 2 ≤ p ^ vl p n := by
    have : p ^ 1 ≤ p ^ vl p n := Nat.pow_le_pow_right (by omega) h2
    rw [Nat.pow_one] at this; omega
  have h5 : 2 * rs p n ≤ p ^ vl p n * rs p n := Nat.mul_le_mul_right _ h4
  omega
theorem rs_of_not_dvd {p n : Nat} (hp : 2 ≤ p) (h0 : 0 < n) (h : ¬ p ∣ n) : rs p n = n := by
  unfold rs; rw [vl_zero hp h0 h]; simp
theorem rs_mul_self {p n : Nat} (hp : 2 ≤ p) (h0 : 0 < n) : rs p (p * n) = rs p n := by
  unfold rs; rw [vl_mul_self hp h0, Nat.pow_succ, Nat.mul_comm (p ^ vl p n) p]
  exact Nat.mul_div_mul_left _ _ (by omega)

/-! the factors -/

def facsA : Nat → Nat → List (Nat × Nat)
  | 0, _ => []
  | f + 1, n => if n < 2 then [] else (lf n, vl (lf n) n) :: facsA f (rs (lf n) n)
/-- The factors of n: primes and exponents. -/
def facs (n : Nat) : List (Nat × Nat) := facsA n n

theorem facsA_eq : ∀ (f n : Nat), n ≤ f → facsA f n = facs n := by
  have key : ∀ (n f g : Nat), n ≤ f → n ≤ g → facsA f n = facsA g n := by
    intro n
    induction n using Nat.strongRecOn with
    | _ n ih =>
      intro f g hf hg
      by_cases h2 : n < 2
      · cases f with
        | zero =>
          cases g with
          | zero => rfl
          | succ g => simp [facsA, h2]
        | succ f =>
          cases g with
          | zero => simp [facsA, h2]
          | succ g => simp [facsA, h2]
      · obtain ⟨f, rfl⟩ : ∃ m, f = m + 1 := ⟨f - 1, by omega⟩
        obtain ⟨g, rfl⟩ : ∃ m, g = m + 1 := ⟨g - 1, by omega⟩
        have hn : 2 ≤ n := by omega
        have hr := rs_lt (lf_two_le hn) (by omega) (lf_dvd hn)
        simp only [facsA, if_neg h2]
        rw [ih _ hr f g (by omega) (by omega)]
  intro f n h
  exact key n f n h (Nat.le_refl _)

theorem facs_small {n : Nat} (h : n < 2) : facs n = [] := by
  unfold facs
  cases n with
  | zero => rfl
  | succ n => simp [facsA, h]
theorem facs_cons {n : Nat} (hn : 2 ≤ n) : facs n = (lf n, vl (lf n) n) :: facs (rs (lf n) n) := by
  have hr := rs_lt (lf_two_le hn) (by omega) (lf_dvd hn)
  conv => lhs; unfold facs
  obtain ⟨m, rfl⟩ : ∃ m, n = m + 1 := ⟨n - 1, by omega⟩
  simp only [facsA, if_neg (show ¬ m + 1 < 2 by omega)]
  rw [facsA_eq m _ (by omega)]

/-- The product of a list of primes and exponents. -/
def fprod : List (Nat × Nat) → Nat
  | [] => 1
  | (p, e) :: l => p ^ e * fprod l

/-- Increasing primes above a number, with exponents of at least 1. -/
def IsFac : Nat → List (Nat × Nat) → Prop
  | _, [] => True
  | b, (p, e) :: l => b < p ∧ Prime p ∧ 1 ≤ e ∧ IsFac p l

theorem IsFac.mono {b c : Nat} (h : c ≤ b) : ∀ {l : List (Nat × Nat)}, IsFac b l → IsFac c l
  | [], _ => trivial
  | (_, _) :: _, hl => ⟨by have := hl.1; omega, hl.2⟩

theorem fprod_pos : ∀ {b : Nat} {l : List (Nat × Nat)}, IsFac b l → 0 < fprod l
  | _, [], _ => by decide
  | _, (p, e) :: l, h => Nat.mul_pos (Nat.pow_pos h.2.1.pos) (fprod_pos h.2.2.2)

/-- A prime that divides the product is one of them. -/
theorem prime_of_dvd_fprod {q : Nat} (hq : Prime q) : ∀ {b : Nat} {l : List (Nat × Nat)}, IsFac b l → q ∣ fprod l → q ∈ l.map Prod.fst
  | _, [], _, h => by
    have := Nat.le_of_dvd (by decide) h; have := hq.1; simp [fprod] at *; omega
  | _, (p, e) :: l, hl, h => by
    rcases hq.dvd_mul h with h1 | h1
    · have := hq.eq_of_dvd hl.2.1 (hq.dvd_pow h1)
      simp [this]
    · simp only [List.map_cons, List.mem_cons]
      exact Or.inr (prime_of_dvd_fprod hq hl.2.2.2 h1)

theorem IsFac.lt : ∀ {b : Nat} {l : List (Nat × Nat)}, IsFac b l → ∀ q ∈ l.map Prod.fst, b < q
  | _, [], _, q, hq => by simp at hq
  | b, (p, e) :: l, h, q, hq => by
    simp only [List.map_cons, List.mem_cons] at hq
    rcases hq with rfl | hq
    · exact h.1
    · have := IsFac.lt h.2.2.2 q hq; have := h.1; omega

theorem facs_isFac : ∀ (n : Nat), 0 < n → ∀ b, (∀ p, Prime p → p ∣ n → b < p) → IsFac b (facs n) ∧ fprod (facs n) = n := by
  intro n
  induction n using Nat.strongRecOn with
  | _ n ih =>
    intro h0 b hb
    by_cases h2 : n < 2
    · rw [facs_small h2]; exact ⟨trivial, by simp [fprod]; omega⟩
    · have hn : 2 ≤ n := by omega
      have hp := lf_two_le hn
      rw [facs_cons hn]
      obtain ⟨h1, h3⟩ := ih _ (rs_lt hp h0 (lf_dvd hn)) (rs_pos hp h0) (lf n) (fun q hq hqd => by
        have h4 := (lf_isLf hn).2.2 q hq.1 (Nat.dvd_trans hqd (rs_dvd hp h0))
        have h5 : q ≠ lf n := fun he => not_dvd_rs hp h0 (he ▸ hqd)
        omega)
      exact ⟨⟨hb _ (lf_prime hn) (lf_dvd hn), lf_prime hn, vl_pos hp h0 (lf_dvd hn), h1⟩, by simp only [fprod]; rw [h3]; exact rs_mul hp h0⟩

theorem facs_fac {n : Nat} (h0 : 0 < n) : IsFac 1 (facs n) := (facs_isFac n h0 1 (fun _ hp _ => hp.1)).1
theorem fprod_facs {n : Nat} (h0 : 0 < n) : fprod (facs n) = n := (facs_isFac n h0 1 (fun _ hp _ => hp.1)).2

/-- There is no other list of factors. -/
theorem facs_fprod : ∀ {l : List (Nat × Nat)} {b : Nat}, 1 ≤ b → IsFac b l → facs (fprod l) = l
  | [], _, _, _ => facs_small (by decide)
  | (p, e) :: l, b, hb, h => by
    have hpos := fprod_pos h.2.2.2
    have hp := h.2.1
    have hndl : ¬ p ∣ fprod l := fun hd => by
      have := h.2.2.2.lt p (prime_of_dvd_fprod hp h.2.2.2 hd); omega
    have hpe : p ∣ p ^ e := by
      have := Nat.pow_dvd_pow p h.2.2.1; simpa using this
    have h2 : 2 ≤ fprod ((p, e) :: l) := by
      have h3 : p ≤ p ^ e := Nat.le_of_dvd (Nat.pow_pos hp.pos) hpe
      have h4 : p ^ e * 1 ≤ p ^ e * fprod l := Nat.mul_le_mul_left _ hpos
      have := hp.1
      simp only [fprod]; omega
    have hlf : lf (fprod ((p, e) :: l)) = p := by
      refine lf_eq h2 ⟨Nat.dvd_trans hpe ⟨fprod l, rfl⟩, hp.1, fun m hm hmd => ?_⟩
      obtain ⟨q, hq, hqm⟩ := exists_prime hm
      have h5 := prime_of_dvd_fprod hq (l := (p, e) :: l) h (Nat.dvd_trans hqm hmd)
      have h6 := Nat.le_of_dvd (by omega) hqm
      simp only [List.map_cons, List.mem_cons] at h5
      rcases h5 with rfl | h5
      · exact h6
      · have := h.2.2.2.lt q h5; omega
    have hvl : vl p (fprod ((p, e) :: l)) = e := by
      refine vl_eq hp.1 (by omega) ⟨fprod l, rfl⟩ (fun hd => ?_)
      rw [Nat.pow_succ] at hd
      exact hndl (Nat.dvd_of_mul_dvd_mul_left (Nat.pow_pos hp.pos) hd)
    have hrs : rs p (fprod ((p, e) :: l)) = fprod l := by
      unfold rs; rw [hvl]; simp only [fprod]; exact Nat.mul_div_cancel_left _ (Nat.pow_pos hp.pos)
    rw [facs_cons h2, hlf, hvl, hrs, facs_fprod (Nat.le_of_lt (by have := hp.1; omega : 1 < p)) h.2.2.2]

end Go.Proofs.Ytbdapgjgjllojaa.Nt
