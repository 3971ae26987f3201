import Derived.Test.YtfhfbicejddoiaaNtD
namespace Go.Proofs.Ytfhfbicejddoiaa.Nt
set_option linter.unusedVariables false

/-! sums over divisors of functions that go with products -/
theorem facs_mul {p j d : Nat} (hp : Prime p) (hj : 1 ≤ j) (hd : 0 < d) (hq : ∀ q, Prime q → q ∣ d → p < q) : facs (d * p ^ j) = (p, j) :: facs d := by
  obtain ⟨h1, h2⟩ := facs_isFac d hd p hq
  have h3 := facs_fprod (l := (p, j) :: facs d) (b := 1) (Nat.le_refl 1) ⟨hp.1, hp, hj, h1⟩
  simp only [fprod] at h3
  rw [h2] at h3
  rw [Nat.mul_comm]
  exact h3
def gsum (g : Nat → Int) : Nat → Int
  | 0 => 1
  | e + 1 => gsum g e + g (e + 1)
def prodL (G : Nat → Nat → Int) : List (Nat × Nat) → Int
  | [] => 1
  | (p, e) :: l => G p e * prodL G l
theorem lsum_scale (f : Nat → Int) (c : Int) (h : Nat → Nat) : ∀ (D : List Nat), (∀ d ∈ D, f (h d) = c * f d) → lsum f (D.map h) = c * lsum f D
  | [], _ => by simp [lsum]
  | d :: D, hd => by
    simp only [List.map_cons, lsum]
    rw [hd d (by simp), lsum_scale f c h D (fun x hx => hd x (by simp [hx])), Int.mul_add]
theorem lsum_expand (f : Nat → Int) (g : Nat → Int) (D : List Nat) (p : Nat) (h : ∀ d ∈ D, ∀ j, 1 ≤ j → f (d * p ^ j) = g j * f d) : ∀ e, lsum f (expand D p e) = gsum g e * lsum f D
  | 0 => by simp [expand, gsum]
  | e + 1 => by
    simp only [expand, gsum]
    rw [lsum_append, lsum_expand f g D p h e, lsum_scale f (g (e + 1)) (fun d => d * p ^ (e + 1)) D (fun d hd => h d hd (e + 1) (by omega)), Int.add_mul]
theorem divs_perm {p e m : Nat} (hp : Prime p) (h0 : 0 < m) (hpm : ¬ p ∣ m) : (divs (m * p ^ e)).Perm (expand (divs m) p e) := by
  have ha : AllDivs m (divs m) := ⟨(divs_sorted m).imp fun h => Nat.ne_of_lt h, fun d => mem_divs h0⟩
  have hb := expand_all (e := e) hp h0 hpm ha
  have h1 : 0 < m * p ^ e := Nat.mul_pos h0 (Nat.pow_pos hp.pos)
  rw [List.perm_ext_iff_of_nodup ((divs_sorted _).imp fun h => Nat.ne_of_lt h) hb.1]
  intro a
  rw [hb.2, mem_divs h1]
theorem mult_sum {f : Nat → Int} {g : Nat → Nat → Int} (h1 : f 1 = 1)
    (hf : ∀ p j d, Prime p → 1 ≤ j → 0 < d → (∀ q, Prime q → q ∣ d → p < q) → f (d * p ^ j) = g p j * f d) :
    ∀ n, 0 < n → lsum f (divs n) = prodL (fun p e => gsum (g p) e) (facs n) := by
  intro n
  induction n using Nat.strongRecOn with
  | _ n ih =>
    intro h0
    by_cases h2 : n < 2
    · have : n = 1 := by omega
      subst this
      rw [facs_small (by decide), show divs 1 = [1] by decide]
      simp [lsum, prodL, h1]
    · have hn : 2 ≤ n := by omega
      have hp2 := lf_two_le hn
      have hp := lf_prime hn
      have hr0 := rs_pos hp2 h0
      have hnd := not_dvd_rs hp2 h0
      have hlt := rs_lt hp2 h0 (lf_dvd hn)
      have hq : ∀ q, Prime q → q ∣ rs (lf n) n → lf n < q := fun q hq hqd => by
        have h4 := (lf_isLf hn).2.2 q hq.1 (Nat.dvd_trans hqd (rs_dvd hp2 h0))
        have h5 : q ≠ lf n := fun he => hnd (he ▸ hqd)
        omega
      have hmul : rs (lf n) n * lf n ^ vl (lf n) n = n := by rw [Nat.mul_comm]; exact rs_mul hp2 h0
      rw [facs_cons hn]
      simp only [prodL]
      rw [← ih _ hlt hr0]
      have hperm := divs_perm (e := vl (lf n) n) hp hr0 hnd
      rw [hmul] at hperm
      rw [lsum_perm f hperm]
      refine lsum_expand f (g (lf n)) _ _ (fun d hd j hj => ?_) _
      have hdv := (mem_divs hr0).1 hd
      exact hf (lf n) j d hp hj (Nat.pos_of_dvd_of_pos hdv hr0) (fun q hq' hqd => hq q hq' (Nat.dvd_trans hqd hdv))
theorem sgn_mul (p j d : Nat) (hp : Prime p) (hj : 1 ≤ j) (hd : 0 < d) (hq : ∀ q, Prime q → q ∣ d → p < q) : sgn (d * p ^ j) = (if 1 < j then 0 else -1) * sgn d := by
  unfold sgn
  rw [facs_mul hp hj hd hq]
  simp only [sgnL]
  split
  · simp
  · rw [Int.neg_one_mul]
/-- The signs of the divisors cancel. -/
theorem sgn_sum (n : Nat) (h0 : 0 < n) : lsum sgn (divs n) = if n = 1 then 1 else 0 := by
  rw [mult_sum (f := sgn) (g := fun _ j => if 1 < j then 0 else -1) (by decide) sgn_mul n h0]
  by_cases h : n = 1
  · subst h; rfl
  · rw [if_neg h, facs_cons (by omega)]
    simp only [prodL]
    have hz : ∀ e, 1 ≤ e → gsum (fun j => if 1 < j then (0 : Int) else -1) e = 0 := by
      intro e
      induction e with
      | zero => intro h; omega
      | succ e ih =>
        intro _
        simp only [gsum]
        by_cases he : e = 0
        · subst he; rfl
        · rw [ih (by omega), if_pos (by omega)]; rfl
    rw [hz _ (vl_pos (lf_two_le (by omega)) h0 (lf_dvd (by omega))), Int.zero_mul]
/-- The totient by its factors. -/
def phL : List (Nat × Nat) → Nat
  | [] => 1
  | (p, e) :: l => p ^ (e - 1) * (p - 1) * phL l
theorem totL_phL : ∀ {b : Nat} {l : List (Nat × Nat)} (c : Nat), IsFac b l → totL l (fprod l * c) = phL l * c
  | _, [], c, _ => by simp [totL, fprod, phL]
  | _, (p, e) :: l, c, h => by
    have hp := h.2.1.pos
    have he : p ^ e = p * p ^ (e - 1) := by
      have := h.2.2.1
      rw [← Nat.pow_succ', show (e - 1).succ = e by omega]
    have h1 : fprod ((p, e) :: l) * c / p * (p - 1) = fprod l * (p ^ (e - 1) * (p - 1) * c) := by
      simp only [fprod]
      rw [he, show p * p ^ (e - 1) * fprod l * c = p * (p ^ (e - 1) * fprod l * c) by simp only [Nat.mul_assoc], Nat.mul_div_cancel_left _ hp]
      simp only [Nat.mul_assoc, Nat.mul_comm, Nat.mul_left_comm]
    simp only [totL]
    rw [h1, totL_phL _ h.2.2.2]
    simp only [phL]
    simp only [Nat.mul_assoc, Nat.mul_comm]
theorem phi_phL (n : Nat) (h0 : 0 < n) : phi n = phL (facs n) := by
  have := totL_phL 1 (facs_fac h0)
  rw [fprod_facs h0, Nat.mul_one, Nat.mul_one] at this
  exact this
theorem phi_mul (p j d : Nat) (hp : Prime p) (hj : 1 ≤ j) (hd : 0 < d) (hq : ∀ q, Prime q → q ∣ d → p < q) : (phi (d * p ^ j) : Int) = ((p ^ (j - 1) * (p - 1) : Nat) : Int) * (phi d : Int) := by
  rw [phi_phL d hd, phi_phL _ (Nat.mul_pos hd (Nat.pow_pos hp.pos)), facs_mul hp hj hd hq]
  simp only [phL, Int.natCast_mul]
theorem phi_gsum (p : Nat) (hp : 0 < p) : ∀ e, gsum (fun j => ((p ^ (j - 1) * (p - 1) : Nat) : Int)) e = ((p ^ e : Nat) : Int)
  | 0 => by simp [gsum]
  | e + 1 => by
    simp only [gsum]
    rw [phi_gsum p hp e, ← Int.natCast_add]
    congr 1
    rw [Nat.add_sub_cancel, Nat.pow_succ]
    have : p ^ e * p = p ^ e * (p - 1) + p ^ e := by rw [← Nat.mul_succ, show (p - 1).succ = p by omega]
    omega
theorem prodL_congr {G H : Nat → Nat → Int} : ∀ (l : List (Nat × Nat)), (∀ p e, (p, e) ∈ l → G p e = H p e) → prodL G l = prodL H l
  | [], _ => rfl
  | (p, e) :: l, h => by simp only [prodL]; rw [h p e (by simp), prodL_congr l (fun q f hq => h q f (by simp [hq]))]
theorem prodL_pow : ∀ (l : List (Nat × Nat)), prodL (fun p e => ((p ^ e : Nat) : Int)) l = (fprod l : Int)
  | [] => rfl
  | (p, e) :: l => by simp only [prodL, fprod, prodL_pow l, Int.natCast_mul]
/-- The totients of the divisors add up to the number. -/
theorem phi_dsum (n : Nat) (h0 : 0 < n) : lsum (fun d => (phi d : Int)) (divs n) = n := by
  rw [mult_sum (f := fun d => (phi d : Int)) (g := fun p j => ((p ^ (j - 1) * (p - 1) : Nat) : Int)) (by decide) phi_mul n h0]
  rw [prodL_congr (H := fun p e => ((p ^ e : Nat) : Int)) (facs n) (fun p e hpe => phi_gsum p ((mem_facs h0 p e).1 hpe).1.pos e), prodL_pow, fprod_facs h0]
end Go.Proofs.Ytfhfbicejddoiaa.Nt
