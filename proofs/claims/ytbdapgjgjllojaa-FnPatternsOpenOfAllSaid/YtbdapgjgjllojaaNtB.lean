import Derived.Test.YtbdapgjgjllojaaNtA
namespace Go.Proofs.Ytbdapgjgjllojaa.Nt
set_option linter.unusedVariables false

theorem IsFac.mem : ∀ {b : Nat} {l : List (Nat × Nat)}, IsFac b l → ∀ p e, (p, e) ∈ l → Prime p ∧ 1 ≤ e ∧ p ^ e ∣ fprod l ∧ ¬ p ^ (e + 1) ∣ fprod l
  | _, [], _, p, e, h => by simp at h
  | b, (q, f) :: l, hl, p, e, h => by
    have hpos := fprod_pos hl.2.2.2
    have hq := hl.2.1
    simp only [List.mem_cons, Prod.mk.injEq] at h
    rcases h with ⟨rfl, rfl⟩ | h
    · refine ⟨hq, hl.2.2.1, ⟨fprod l, rfl⟩, fun hd => ?_⟩
      simp only [fprod] at hd
      rw [Nat.pow_succ] at hd
      have h1 := Nat.dvd_of_mul_dvd_mul_left (Nat.pow_pos hq.pos) hd
      have := hl.2.2.2.lt p (prime_of_dvd_fprod hq hl.2.2.2 h1)
      omega
    · obtain ⟨h1, h2, h3, h4⟩ := IsFac.mem hl.2.2.2 p e h
      have hlt := hl.2.2.2.lt p (List.mem_map.2 ⟨(p, e), h, rfl⟩)
      refine ⟨h1, h2, Nat.dvd_trans h3 ⟨q ^ f, by simp only [fprod]; rw [Nat.mul_comm]⟩, fun hd => h4 ?_⟩
      simp only [fprod] at hd
      have hc : Nat.Coprime (p ^ (e + 1)) (q ^ f) := (h1.coprime hq (by omega)).pow _ _
      exact hc.dvd_of_dvd_mul_left hd

theorem mem_facs {n : Nat} (h0 : 0 < n) (p e : Nat) : (p, e) ∈ facs n ↔ Prime p ∧ p ∣ n ∧ e = vl p n := by
  constructor
  · intro h
    obtain ⟨h1, h2, h3, h4⟩ := (facs_fac h0).mem p e h
    rw [fprod_facs h0] at h3 h4
    refine ⟨h1, Nat.dvd_trans ?_ h3, (vl_eq h1.1 h0 h3 h4).symm⟩
    have := Nat.pow_dvd_pow p h2; simpa using this
  · rintro ⟨hp, hd, rfl⟩
    have h1 : p ∈ (facs n).map Prod.fst := prime_of_dvd_fprod hp (facs_fac h0) (by rw [fprod_facs h0]; exact hd)
    obtain ⟨⟨q, e⟩, h2, rfl⟩ := List.mem_map.1 h1
    obtain ⟨h3, h4, h5, h6⟩ := (facs_fac h0).mem q e h2
    rw [fprod_facs h0] at h5 h6
    rw [vl_eq h3.1 h0 h5 h6]; exact h2

/-- Square-free. -/
def sqf (n : Nat) : Bool := (facs n).all (fun f => decide (f.2 ≤ 1))
/-- The sign of a list of factors, as the programs go. -/
def sgnL : List (Nat × Nat) → Int
  | [] => 1
  | (_, e) :: l => if 1 < e then 0 else -sgnL l
def sgn (n : Nat) : Int := sgnL (facs n)
/-- The kernel. -/
def radL : List (Nat × Nat) → Nat
  | [] => 1
  | (p, _) :: l => p * radL l
def rad (n : Nat) : Nat := radL (facs n)

theorem sgnL_ne : ∀ l, (sgnL l ≠ 0) ↔ l.all (fun f => decide (f.2 ≤ 1)) = true
  | [] => by simp [sgnL]
  | (p, e) :: l => by
    have ih := sgnL_ne l
    simp only [sgnL, List.all_cons, Bool.and_eq_true, decide_eq_true_eq]
    by_cases h : 1 < e
    · rw [if_pos h]
      exact ⟨fun h1 => absurd rfl h1, fun h1 => by omega⟩
    · rw [if_neg h]
      constructor
      · intro h1; exact ⟨by omega, ih.1 (by omega)⟩
      · intro h1; have := ih.2 h1.2; omega
theorem sgn_ne (n : Nat) : sgn n ≠ 0 ↔ sqf n = true := sgnL_ne _

theorem sgnL_range : ∀ l, sgnL l = 0 ∨ sgnL l = 1 ∨ sgnL l = -1
  | [] => by simp [sgnL]
  | (p, e) :: l => by
    have ih := sgnL_range l
    simp only [sgnL]
    split
    · simp
    · rcases ih with h | h | h <;> rw [h] <;> simp
theorem sgn_range (n : Nat) : sgn n = 0 ∨ sgn n = 1 ∨ sgn n = -1 := sgnL_range _

theorem sqf_iff {n : Nat} (h0 : 0 < n) : sqf n = true ↔ ∀ p, Prime p → ¬ p * p ∣ n := by
  unfold sqf
  rw [List.all_eq_true]
  constructor
  · intro h p hp hd
    have h1 : p ∣ n := Nat.dvd_trans ⟨p, rfl⟩ hd
    have h2 := h (p, vl p n) ((mem_facs h0 p _).2 ⟨hp, h1, rfl⟩)
    simp only [decide_eq_true_eq] at h2
    have h3 := not_pow_vl hp.1 h0
    apply h3
    have h4 : p ^ (vl p n + 1) ∣ p ^ 2 := Nat.pow_dvd_pow p (by omega)
    rw [Nat.pow_two] at h4
    exact Nat.dvd_trans h4 hd
  · rintro h ⟨p, e⟩ hm
    obtain ⟨h1, h2, h3⟩ := (mem_facs h0 p e).1 hm
    simp only [decide_eq_true_eq]
    rcases Nat.lt_or_ge e 2 with h4 | h4
    · omega
    · exfalso
      apply h p h1
      have h5 : p ^ 2 ∣ p ^ vl p n := Nat.pow_dvd_pow p (by omega)
      rw [Nat.pow_two] at h5
      exact Nat.dvd_trans h5 (pow_vl_dvd h1.1 h0)

/-- The square part. -/
def IsSqp (n r : Nat) : Prop := r * r ∣ n ∧ ∀ m, m * m ∣ n → m ∣ r

theorem IsSqp.unique {n r s : Nat} (h : IsSqp n r) (k : IsSqp n s) : r = s := Nat.dvd_antisymm (k.2 r h.1) (h.2 s k.1)

theorem sq_dvd_sq {a b : Nat} : a * a ∣ b * b ↔ a ∣ b := by
  have := Nat.pow_dvd_pow_iff (a := a) (b := b) (n := 2) (by decide)
  rwa [Nat.pow_two, Nat.pow_two] at this

theorem IsSqp.mul {n r d : Nat} (hd : 0 < d) (h : IsSqp n r) : IsSqp (d * d * n) (d * r) := by
  refine ⟨?_, fun m hm => ?_⟩
  · rw [show d * r * (d * r) = d * d * (r * r) by simp only [Nat.mul_assoc, Nat.mul_left_comm]]
    exact Nat.mul_dvd_mul_left _ h.1
  · obtain ⟨m', d', hc, h1, h2⟩ := Nat.exists_coprime m d
    have hg : 0 < Nat.gcd m d := Nat.gcd_pos_of_pos_right m hd
    generalize hgg : Nat.gcd m d = g at h1 h2 hg
    have h3 : m' * m' * (g * g) ∣ d' * d' * n * (g * g) := by
      have : m * m ∣ d * d * n := hm
      rw [h1, h2] at this
      have e1 : m' * g * (m' * g) = m' * m' * (g * g) := by simp only [Nat.mul_assoc, Nat.mul_left_comm]
      have e2 : d' * g * (d' * g) * n = d' * d' * n * (g * g) := by simp only [Nat.mul_left_comm, Nat.mul_comm]
      rwa [e1, e2] at this
    have h4 : m' * m' ∣ d' * d' * n := Nat.dvd_of_mul_dvd_mul_right (Nat.mul_pos hg hg) h3
    have hcc : Nat.Coprime (m' * m') (d' * d') := by
      have := hc.pow 2 2
      rwa [Nat.pow_two, Nat.pow_two] at this
    have h5 : m' * m' ∣ n := hcc.dvd_of_dvd_mul_left h4
    have h6 := h.2 m' h5
    rw [h1, h2, Nat.mul_comm m' g, Nat.mul_assoc]
    rw [show d' * (g * r) = g * (r * d') by simp only [Nat.mul_comm, Nat.mul_left_comm]]
    exact Nat.mul_dvd_mul_left g (Nat.dvd_mul_right_of_dvd h6 d')

theorem IsSqp.one {n d : Nat} (h0 : 0 < n) (h : n < d * d) (hd : ∀ m, 2 ≤ m → m < d → ¬ m * m ∣ n) : IsSqp n 1 := by
  refine ⟨by simp, fun m hm => ?_⟩
  have hle := Nat.le_of_dvd h0 hm
  have hmd : m < d := by
    rcases Nat.lt_or_ge m d with h1 | h1
    · exact h1
    · have := Nat.mul_le_mul h1 h1; omega
  by_cases h2 : 2 ≤ m
  · exact absurd hm (hd m h2 hmd)
  · have : m ≠ 0 := by rintro rfl; simp at hm; omega
    have : m = 1 := by omega
    rw [this]; exact Nat.dvd_refl 1

theorem IsSqp.eq_one_iff {n r : Nat} (h0 : 0 < n) (h : IsSqp n r) : r = 1 ↔ sqf n = true := by
  rw [sqf_iff h0]
  constructor
  · rintro rfl p hp hd
    have := Nat.le_of_dvd (by decide) (h.2 p hd)
    have := hp.1; omega
  · intro hs
    by_cases h1 : r = 1
    · exact h1
    · exfalso
      have hr : r ≠ 0 := by rintro rfl; have := h.1; simp at this; omega
      obtain ⟨p, hp, hd⟩ := exists_prime (n := r) (by omega)
      exact hs p hp (Nat.dvd_trans (Nat.mul_dvd_mul hd hd) h.1)

theorem exists_sqp : ∀ (n : Nat), 0 < n → ∃ r, IsSqp n r := by
  intro n
  induction n using Nat.strongRecOn with
  | _ n ih =>
    intro h0
    by_cases h : sqf n = true
    · refine ⟨1, by simp, fun m hm => ?_⟩
      by_cases h1 : m = 1
      · rw [h1]; exact Nat.dvd_refl 1
      · exfalso
        have hm0 : m ≠ 0 := by rintro rfl; simp at hm; omega
        obtain ⟨p, hp, hd⟩ := exists_prime (n := m) (by omega)
        exact (sqf_iff h0).1 h p hp (Nat.dvd_trans (Nat.mul_dvd_mul hd hd) hm)
    · have : ∃ p, Prime p ∧ p * p ∣ n := by
        rw [sqf_iff h0] at h
        exact Classical.byContradiction fun hc => h fun p hp hd => hc ⟨p, hp, hd⟩
      obtain ⟨p, hp, c, rfl⟩ := this
      have hc : 0 < c := by
        rcases Nat.eq_zero_or_pos c with h1 | h1
        · subst h1; simp at h0
        · exact h1
      have hlt : c < p * p * c := by
        have h1 : 2 * 2 ≤ p * p := Nat.mul_le_mul hp.1 hp.1
        have h2 : 2 * 2 * c ≤ p * p * c := Nat.mul_le_mul_right c h1
        omega
      obtain ⟨r, hr⟩ := ih c hlt hc
      exact ⟨p * r, hr.mul hp.pos⟩

/-! ### the factors of n whose factors below d are divided out: a step of trial division -/

/-- All divisors of n of at least 2 are at least d. -/
def Above (d n : Nat) : Prop := ∀ m, 2 ≤ m → m ∣ n → d ≤ m

theorem Above.two (n : Nat) : Above 2 n := fun _ h _ => h
theorem Above.succ {d n : Nat} (h : Above d n) (hd : ¬ d ∣ n) : Above (d + 1) n := fun m hm hmn => by
  have := h m hm hmn
  by_cases h1 : m = d
  · exact absurd (h1 ▸ hmn) hd
  · omega
theorem Above.isLf {d n : Nat} (h : Above d n) (h2 : 2 ≤ d) (hd : d ∣ n) : IsLf n d := ⟨hd, h2, h⟩
theorem Above.lf {d n : Nat} (h : Above d n) (h2 : 2 ≤ d) (h0 : 0 < n) (hd : d ∣ n) : 2 ≤ n ∧ lf n = d :=
  have hn : 2 ≤ n := Nat.le_trans h2 (Nat.le_of_dvd h0 hd)
  ⟨hn, lf_eq hn (h.isLf h2 hd)⟩
theorem Above.rs {d n : Nat} (h : Above d n) (h2 : 2 ≤ d) (h0 : 0 < n) : Above (d + 1) (rs d n) := fun m hm hmn => by
  have h1 := h m hm (Nat.dvd_trans hmn (rs_dvd h2 h0))
  by_cases h3 : m = d
  · subst h3; exact absurd hmn (not_dvd_rs h2 h0)
  · omega
/-- The end: what is left is 1 or a prime. -/
theorem Above.last {d n : Nat} (h : Above d n) (h0 : 0 < n) (hlt : n < d * d) : n = 1 ∨ 2 ≤ n ∧ facs n = [(n, 1)] := by
  by_cases h1 : n = 1
  · exact Or.inl h1
  · right
    have hn : 2 ≤ n := by omega
    have hl : IsLf n n := isLf_self hn hlt (fun m hm hmd hmn => by have := h m hm hmn; omega)
    have hp := hl.prime
    refine ⟨hn, ?_⟩
    have : facs (fprod [(n, 1)]) = [(n, 1)] := facs_fprod (b := 1) (Nat.le_refl _) ⟨by omega, hp, Nat.le_refl _, trivial⟩
    simpa [fprod] using this

end Go.Proofs.Ytbdapgjgjllojaa.Nt
