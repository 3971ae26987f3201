import Derived.Test.YtfhfbicejddoiaaNtC
namespace Go.Proofs.Ytfhfbicejddoiaa.Nt
set_option linter.unusedVariables false

/-! ### divisors -/
def dv (n d : Nat) : Bool := decide (1 ≤ d) && decide (n % d = 0)
theorem dv_iff {n d : Nat} : dv n d = true ↔ 1 ≤ d ∧ d ∣ n := by
  unfold dv
  rw [Bool.and_eq_true, decide_eq_true_iff, decide_eq_true_iff]
  exact ⟨fun h => ⟨h.1, Nat.dvd_of_mod_eq_zero h.2⟩, fun h => ⟨h.1, Nat.mod_eq_zero_of_dvd h.2⟩⟩
/-- The divisors of n, increasing. -/
def divs (n : Nat) : List Nat := (List.range (n + 1)).filter (dv n)
theorem mem_divs {n d : Nat} (h0 : 0 < n) : d ∈ divs n ↔ d ∣ n := by
  unfold divs
  rw [List.mem_filter, List.mem_range, dv_iff]
  constructor
  · exact fun h => h.2.2
  · intro h
    have := Nat.le_of_dvd h0 h
    have := Nat.pos_of_dvd_of_pos h h0
    exact ⟨by omega, by omega, h⟩
theorem divs_pos {n d : Nat} (h : d ∈ divs n) : 1 ≤ d ∧ d ≤ n := by
  unfold divs at h
  rw [List.mem_filter, List.mem_range, dv_iff] at h
  exact ⟨h.2.1, by omega⟩
theorem divs_sorted (n : Nat) : (divs n).Pairwise (· < ·) := by
  unfold divs
  exact List.Pairwise.filter _ List.pairwise_lt_range
/-- Increasing lists of the same numbers are one. -/
theorem sorted_unique : ∀ {l m : List Nat}, l.Pairwise (· < ·) → m.Pairwise (· < ·) → (∀ x, x ∈ l ↔ x ∈ m) → l = m
  | [], [], _, _, _ => rfl
  | [], y :: m, _, _, h => by have := (h y).2 (by simp); simp at this
  | x :: l, [], _, _, h => by have := (h x).1 (by simp); simp at this
  | x :: l, y :: m, hl, hm, h => by
    rw [List.pairwise_cons] at hl hm
    have hxy : x = y := by
      have h1 := (h x).1 (by simp)
      have h2 := (h y).2 (by simp)
      rw [List.mem_cons] at h1 h2
      rcases h1 with h1 | h1
      · exact h1
      · rcases h2 with h2 | h2
        · exact h2.symm
        · have := hm.1 x h1; have := hl.1 y h2; omega
    subst hxy
    rw [sorted_unique hl.2 hm.2 fun z => ?_]
    have := h z
    rw [List.mem_cons, List.mem_cons] at this
    constructor
    · intro hz
      rcases this.1 (Or.inr hz) with rfl | h3
      · have := hl.1 z hz; omega
      · exact h3
    · intro hz
      rcases this.2 (Or.inr hz) with rfl | h3
      · have := hm.1 z hz; omega
      · exact h3

/-! ### the programs' own lists -/
/-- The numbers of D, and p, p^2, .., p^e times them. -/
def expand (D : List Nat) (p : Nat) : Nat → List Nat
  | 0 => D
  | e + 1 => expand D p e ++ D.map (· * p ^ (e + 1))
def rawL : List (Nat × Nat) → List Nat → List Nat
  | [], D => D
  | (p, e) :: l, D => rawL l (expand D p e)
theorem expand_len (D : List Nat) (p : Nat) : ∀ e, (expand D p e).length = D.length * (e + 1)
  | 0 => by simp [expand]
  | e + 1 => by simp only [expand, List.length_append, List.length_map, expand_len D p e]; rw [Nat.mul_add D.length (e + 1) 1]; omega
theorem mem_expand (D : List Nat) (p x : Nat) : ∀ e, x ∈ expand D p e ↔ ∃ d j, d ∈ D ∧ j ≤ e ∧ x = d * p ^ j
  | 0 => by
    simp only [expand]
    constructor
    · exact fun h => ⟨x, 0, h, by omega, by simp⟩
    · rintro ⟨d, j, hd, hj, rfl⟩
      have : j = 0 := by omega
      subst this; simpa using hd
  | e + 1 => by
    simp only [expand, List.mem_append, List.mem_map, mem_expand D p x e]
    constructor
    · rintro (⟨d, j, hd, hj, rfl⟩ | ⟨d, hd, rfl⟩)
      · exact ⟨d, j, hd, by omega, rfl⟩
      · exact ⟨d, e + 1, hd, Nat.le_refl _, rfl⟩
    · rintro ⟨d, j, hd, hj, rfl⟩
      by_cases h : j ≤ e
      · exact Or.inl ⟨d, j, hd, h, rfl⟩
      · have : j = e + 1 := by omega
        subst this
        exact Or.inr ⟨d, hd, rfl⟩
theorem vl_mul_pow {p d j : Nat} (hp : Prime p) (h0 : 0 < d) (h : ¬ p ∣ d) : vl p (d * p ^ j) = j := by
  refine vl_eq hp.1 (Nat.mul_pos h0 (Nat.pow_pos hp.pos)) ⟨d, Nat.mul_comm _ _⟩ fun hd => h ?_
  rw [Nat.pow_succ, Nat.mul_comm d] at hd
  exact Nat.dvd_of_mul_dvd_mul_left (Nat.pow_pos hp.pos) hd
/-- D: each divisor of m once. -/
def AllDivs (m : Nat) (D : List Nat) : Prop := D.Nodup ∧ ∀ d, d ∈ D ↔ d ∣ m
theorem expand_nodup {D : List Nat} {p m : Nat} (hp : Prime p) (h0 : 0 < m) (hpm : ¬ p ∣ m) (h : AllDivs m D) : ∀ e, (expand D p e).Nodup
  | 0 => h.1
  | e + 1 => by
    have ih := expand_nodup hp h0 hpm h e
    have hD : ∀ d ∈ D, 0 < d ∧ ¬ p ∣ d := fun d hd => by
      have h1 := (h.2 d).1 hd
      exact ⟨Nat.pos_of_dvd_of_pos h1 h0, fun hpd => hpm (Nat.dvd_trans hpd h1)⟩
    simp only [expand]
    rw [List.nodup_append]
    refine ⟨ih, ?_, ?_⟩
    · rw [List.Nodup, List.pairwise_map]
      exact h.1.imp fun hne he => hne (Nat.eq_of_mul_eq_mul_right (Nat.pow_pos hp.pos) he)
    · intro x hx y hy hxy
      obtain ⟨d, j, hd, hj, rfl⟩ := (mem_expand D p x e).1 hx
      obtain ⟨d2, hd2, rfl⟩ := List.mem_map.1 hy
      have h1 := vl_mul_pow (j := j) hp (hD d hd).1 (hD d hd).2
      have h2 := vl_mul_pow (j := e + 1) hp (hD d2 hd2).1 (hD d2 hd2).2
      rw [hxy, h2] at h1
      omega
theorem expand_all {D : List Nat} {p m e : Nat} (hp : Prime p) (h0 : 0 < m) (hpm : ¬ p ∣ m) (h : AllDivs m D) : AllDivs (m * p ^ e) (expand D p e) := by
  refine ⟨expand_nodup hp h0 hpm h e, fun x => ?_⟩
  rw [mem_expand]
  constructor
  · rintro ⟨d, j, hd, hj, rfl⟩
    exact Nat.mul_dvd_mul ((h.2 d).1 hd) (Nat.pow_dvd_pow p hj)
  · intro hx
    have hx0 : 0 < x := Nat.pos_of_dvd_of_pos hx (Nat.mul_pos h0 (Nat.pow_pos hp.pos))
    have hr := rs_mul hp.1 hx0
    have hc : Nat.Coprime (rs p x) (p ^ e) := ((hp.coprime_of_not_dvd (not_dvd_rs hp.1 hx0)).symm).pow_right e
    have h1 : rs p x ∣ m := hc.dvd_of_dvd_mul_right (Nat.dvd_trans (rs_dvd hp.1 hx0) hx)
    have hc2 : Nat.Coprime (p ^ vl p x) m := (hp.coprime_of_not_dvd hpm).pow_left _
    have h2 : p ^ vl p x ∣ p ^ e := hc2.dvd_of_dvd_mul_left (Nat.dvd_trans (pow_vl_dvd hp.1 hx0) hx)
    have h3 : vl p x ≤ e := (Nat.pow_dvd_pow_iff_le_right hp.1).1 h2
    exact ⟨rs p x, vl p x, (h.2 _).2 h1, h3, by rw [Nat.mul_comm]; exact hr.symm⟩
theorem rawL_all : ∀ {l : List (Nat × Nat)} {b m : Nat} {D : List Nat}, IsFac b l → 0 < m → (∀ q, Prime q → q ∣ m → q ≤ b) → AllDivs m D → AllDivs (m * fprod l) (rawL l D)
  | [], b, m, D, _, _, _, h => by simpa [fprod, rawL] using h
  | (p, e) :: l, b, m, D, hf, h0, hb, h => by
    have hp := hf.2.1
    have hpm : ¬ p ∣ m := fun hd => by have := hb p hp hd; have := hf.1; omega
    have := rawL_all (m := m * p ^ e) (D := expand D p e) hf.2.2.2 (Nat.mul_pos h0 (Nat.pow_pos hp.pos)) (fun q hq hd => by
      rcases hq.dvd_mul hd with h1 | h1
      · have := hb q hq h1; have := hf.1; omega
      · have := hq.eq_of_dvd hp (hq.dvd_pow h1); omega) (expand_all hp h0 hpm h)
    simp only [fprod, rawL]
    rwa [← Nat.mul_assoc]
/-- The list that the program makes before it sorts. -/
def raw (n : Nat) : List Nat := rawL (facs n) [1]
theorem raw_all {n : Nat} (h0 : 0 < n) : AllDivs n (raw n) := by
  have := rawL_all (m := 1) (D := [1]) (facs_fac h0) (by decide) (fun q hq hd => by have := Nat.le_of_dvd (by decide) hd; omega) ⟨by simp, fun d => by simp⟩
  rwa [Nat.one_mul, fprod_facs h0] at this

/-- The list, as ints, sorted. -/
theorem sort_raw {n : Nat} (h0 : 0 < n) : ((raw n).map (fun d : Nat => (d : Int))).mergeSort (fun x y => decide (x ≤ y)) = (divs n).map (fun d : Nat => (d : Int)) := by
  have hperm : ((raw n).map (fun d : Nat => (d : Int))).Perm ((divs n).map (fun d : Nat => (d : Int))) := by
    refine List.Perm.map _ ?_
    rw [List.perm_ext_iff_of_nodup (raw_all h0).1 ((divs_sorted n).imp fun h => Nat.ne_of_lt h)]
    intro a
    rw [(raw_all h0).2, mem_divs h0]
  have htr : ∀ a b c : Int, decide (a ≤ b) = true → decide (b ≤ c) = true → decide (a ≤ c) = true := fun a b c h1 h2 => by
    rw [decide_eq_true_iff] at *; omega
  have hto : ∀ a b : Int, (decide (a ≤ b) || decide (b ≤ a)) = true := fun a b => by
    rw [Bool.or_eq_true, decide_eq_true_iff, decide_eq_true_iff]; omega
  have hs := List.pairwise_mergeSort htr hto ((raw n).map (fun d : Nat => (d : Int)))
  have hp2 := (List.mergeSort_perm ((raw n).map (fun d : Nat => (d : Int))) (fun x y => decide (x ≤ y))).trans hperm
  have hs2 : ((divs n).map (fun d : Nat => (d : Int))).Pairwise (fun a b => decide (a ≤ b) = true) := by
    rw [List.pairwise_map]
    exact (divs_sorted n).imp fun h => by rw [decide_eq_true_iff]; omega
  exact hp2.eq_of_pairwise (fun a b _ _ h1 h2 => by rw [decide_eq_true_iff] at *; omega) hs hs2

/-! lengths and sizes -/
theorem succ_le_pow {p : Nat} (hp : 2 ≤ p) : ∀ e, e + 1 ≤ p ^ e
  | 0 => by simp
  | e + 1 => by
    have := succ_le_pow hp e
    have h2 : 2 * p ^ e ≤ p * p ^ e := Nat.mul_le_mul_right _ hp
    rw [Nat.pow_succ, Nat.mul_comm]; omega
theorem rawL_len : ∀ {l : List (Nat × Nat)} {b : Nat} {D : List Nat}, IsFac b l → (rawL l D).length ≤ D.length * fprod l
  | [], _, D, _ => by simp [rawL, fprod]
  | (p, e) :: l, b, D, hf => by
    have h1 := rawL_len (D := expand D p e) hf.2.2.2
    rw [expand_len] at h1
    have h2 := succ_le_pow hf.2.1.1 e
    have h3 : D.length * (e + 1) * fprod l ≤ D.length * p ^ e * fprod l := Nat.mul_le_mul_right _ (Nat.mul_le_mul_left _ h2)
    simp only [rawL, fprod]
    rw [← Nat.mul_assoc]; omega
theorem raw_len {n : Nat} (h0 : 0 < n) : (raw n).length ≤ n := by
  have := rawL_len (D := [1]) (facs_fac h0)
  rw [fprod_facs h0] at this
  simpa [raw] using this

/-! sums over lists -/
def lsum (f : Nat → Int) : List Nat → Int
  | [] => 0
  | x :: l => f x + lsum f l
theorem lsum_append (f : Nat → Int) : ∀ (l m : List Nat), lsum f (l ++ m) = lsum f l + lsum f m
  | [], m => by simp [lsum]
  | x :: l, m => by simp only [List.cons_append, lsum, lsum_append f l m]; omega
theorem lsum_perm (f : Nat → Int) {l m : List Nat} (h : l.Perm m) : lsum f l = lsum f m := by
  induction h with
  | nil => rfl
  | cons x _ ih => simp only [lsum, ih]
  | swap x y l => simp only [lsum]; omega
  | trans _ _ ih1 ih2 => rw [ih1, ih2]
theorem lsum_bd {f : Nat → Int} {b : Int} : ∀ (l : List Nat), (∀ x ∈ l, -b ≤ f x ∧ f x ≤ b) → -(b * l.length) ≤ lsum f l ∧ lsum f l ≤ b * l.length
  | [], _ => by simp [lsum]
  | x :: l, h => by
    have h1 := lsum_bd l (fun y hy => h y (by simp [hy]))
    have h2 := h x (by simp)
    have e : b * ((x :: l).length : Int) = b * l.length + b := by rw [List.length_cons, Int.natCast_add, Int.mul_add]; simp
    rw [e]
    simp only [lsum]; omega
theorem lsum_filter (f : Nat → Int) (p : Nat → Bool) : ∀ (l : List Nat), lsum f (l.filter p) = lsum (fun x => if p x = true then f x else 0) l
  | [] => rfl
  | x :: l => by
    rw [List.filter_cons]
    by_cases h : p x = true
    · rw [if_pos h]; simp only [lsum, lsum_filter f p l, if_pos h]
    · rw [if_neg h]; simp only [lsum, lsum_filter f p l, if_neg h]; omega
theorem divs_len {n : Nat} (h0 : 0 < n) : (divs n).length ≤ n := by
  have h1 : ((divs n).map (fun d : Nat => (d : Int))).length = ((raw n).map (fun d : Nat => (d : Int))).length := by rw [← sort_raw h0, List.length_mergeSort]
  rw [List.length_map, List.length_map] at h1
  have := raw_len h0
  omega

end Go.Proofs.Ytfhfbicejddoiaa.Nt
