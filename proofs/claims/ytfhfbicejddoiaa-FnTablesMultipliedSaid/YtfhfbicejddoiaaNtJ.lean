import Derived.Test.YtfhfbicejddoiaaNtE
namespace Go.Proofs.Ytfhfbicejddoiaa.Nt
set_option linter.unusedVariables false

/-! Sums of two squares are counted by divisors, up to 100000: both sides as digits of one great number -/
theorem divs_rev (n : Nat) (h0 : 0 < n) : (divs n).map (fun d => n / d) = (divs n).reverse := by
  have h1 : ((divs n).map (fun d => n / d)).reverse = divs n := by
    refine sorted_unique ?_ (divs_sorted n) fun x => ?_
    · rw [List.pairwise_reverse, List.pairwise_map]
      refine List.Pairwise.imp_of_mem (fun {a b} ha hb hlt => ?_) (divs_sorted n)
      rw [mem_divs h0] at ha hb
      have e1 := Nat.div_mul_cancel ha
      have e2 := Nat.div_mul_cancel hb
      have hpb : 0 < n / b := Nat.div_pos (Nat.le_of_dvd h0 hb) (Nat.pos_of_dvd_of_pos hb h0)
      rcases Nat.lt_or_ge (n / b) (n / a) with h | h
      · exact h
      · exfalso
        have h3 := Nat.mul_le_mul_right a h
        have h4 := Nat.mul_lt_mul_of_pos_left hlt hpb
        omega
    · rw [List.mem_reverse, List.mem_map]
      constructor
      · rintro ⟨d, hd, rfl⟩
        rw [mem_divs h0] at hd ⊢
        exact Nat.div_dvd_of_dvd hd
      · intro hx
        have hx' := (mem_divs h0).1 hx
        exact ⟨n / x, (mem_divs h0).2 (Nat.div_dvd_of_dvd hx'), Nat.div_div_self hx' (by omega)⟩
  rw [← h1, List.reverse_reverse, h1]

/-- The number whose digits count a list's numbers. -/
def dg (B : Nat) : List Nat → Nat
  | [] => 0
  | e :: l => B ^ e + dg B l
def cn (n : Nat) : List Nat → Nat
  | [] => 0
  | e :: l => (if e = n then 1 else 0) + cn n l
theorem dg_append (B : Nat) : ∀ l m, dg B (l ++ m) = dg B l + dg B m
  | [], m => by simp [dg]
  | e :: l, m => by simp only [List.cons_append, dg, dg_append B l m]; omega
theorem cn_append (n : Nat) : ∀ l m, cn n (l ++ m) = cn n l + cn n m
  | [], m => by simp [cn]
  | e :: l, m => by simp only [List.cons_append, cn, cn_append n l m]; omega
theorem cn_le (n : Nat) : ∀ l, cn n l ≤ l.length
  | [] => Nat.le_refl 0
  | e :: l => by have := cn_le n l; simp only [cn, List.length_cons]; split <;> omega
def lowS (B : Nat) (l : List Nat) : Nat → Nat
  | 0 => 0
  | n + 1 => lowS B l n + cn n l * B ^ n
theorem lowS_nil (B : Nat) : ∀ n, lowS B [] n = 0
  | 0 => rfl
  | n + 1 => by simp [lowS, lowS_nil B n, cn]
theorem lowS_cons (B e : Nat) (l : List Nat) : ∀ n, lowS B (e :: l) n = lowS B l n + (if e < n then B ^ e else 0)
  | 0 => by simp [lowS]
  | n + 1 => by
    simp only [lowS, lowS_cons B e l n, cn]
    by_cases h : e = n
    · subst h
      rw [if_pos rfl, if_neg (Nat.lt_irrefl _), if_pos (Nat.lt_succ_self _), Nat.add_mul, Nat.one_mul]; omega
    · rw [if_neg h, Nat.zero_add]
      by_cases h2 : e < n
      · rw [if_pos h2, if_pos (by omega)]; omega
      · rw [if_neg h2, if_neg (by omega)]; omega
theorem dg_low (B : Nat) (n : Nat) : ∀ l, ∃ q, dg B l = lowS B l n + B ^ n * q
  | [] => ⟨0, by simp [dg, lowS_nil]⟩
  | e :: l => by
    obtain ⟨q, hq⟩ := dg_low B n l
    simp only [dg, lowS_cons]
    by_cases h : e < n
    · rw [if_pos h]; exact ⟨q, by omega⟩
    · rw [if_neg h]
      obtain ⟨j, rfl⟩ := Nat.exists_eq_add_of_le (Nat.le_of_not_lt h)
      refine ⟨q + B ^ j, ?_⟩
      rw [Nat.pow_add, Nat.mul_add]; omega
theorem lowS_lt {B : Nat} {l : List Nat} : ∀ n, (∀ i, i < n → cn i l < B) → lowS B l n < B ^ n
  | 0, _ => by simp [lowS]
  | n + 1, h => by
    have h1 := lowS_lt n (fun i hi => h i (by omega))
    have h2 := h n (by omega)
    simp only [lowS]
    have h3 : (cn n l + 1) * B ^ n ≤ B * B ^ n := Nat.mul_le_mul_right _ h2
    rw [Nat.add_mul, Nat.one_mul] at h3
    rw [Nat.pow_succ, Nat.mul_comm (B ^ n)]
    omega
theorem lowS_inj {B : Nat} {l m : List Nat} (hB : 0 < B) : ∀ n, (∀ i, i < n → cn i l < B) → (∀ i, i < n → cn i m < B) → lowS B l n = lowS B m n → ∀ i, i < n → cn i l = cn i m
  | 0, _, _, _, i, hi => by omega
  | n + 1, h1, h2, h, i, hi => by
    have b1 := lowS_lt (l := l) n (fun i hi => h1 i (by omega))
    have b2 := lowS_lt (l := m) n (fun i hi => h2 i (by omega))
    simp only [lowS] at h
    have hp : 0 < B ^ n := Nat.pow_pos hB
    have e1 : (lowS B l n + cn n l * B ^ n) % B ^ n = lowS B l n := by rw [Nat.add_mul_mod_self_right, Nat.mod_eq_of_lt b1]
    have e2 : (lowS B m n + cn n m * B ^ n) % B ^ n = lowS B m n := by rw [Nat.add_mul_mod_self_right, Nat.mod_eq_of_lt b2]
    have e3 : lowS B l n = lowS B m n := by rw [← e1, h, e2]
    have e4 : cn n l * B ^ n = cn n m * B ^ n := by omega
    by_cases hin : i = n
    · subst hin; exact Nat.eq_of_mul_eq_mul_right hp e4
    · exact lowS_inj hB n (fun i hi => h1 i (by omega)) (fun i hi => h2 i (by omega)) e3 i (by omega)
theorem cn_eq_of_mod {B N : Nat} {l m : List Nat} (hB : 0 < B) (h1 : ∀ i, i ≤ N → cn i l < B) (h2 : ∀ i, i ≤ N → cn i m < B) (h : dg B l % B ^ (N + 1) = dg B m % B ^ (N + 1)) : ∀ i, i ≤ N → cn i l = cn i m := by
  obtain ⟨q, hq⟩ := dg_low B (N + 1) l
  obtain ⟨r, hr⟩ := dg_low B (N + 1) m
  have b1 := lowS_lt (l := l) (B := B) (N + 1) (fun i hi => h1 i (by omega))
  have b2 := lowS_lt (l := m) (B := B) (N + 1) (fun i hi => h2 i (by omega))
  rw [hq, hr, Nat.add_mul_mod_self_left, Nat.add_mul_mod_self_left, Nat.mod_eq_of_lt b1, Nat.mod_eq_of_lt b2] at h
  exact fun i hi => lowS_inj hB (N + 1) (fun i hi => h1 i (by omega)) (fun i hi => h2 i (by omega)) h i (by omega)

/-! rows of equal steps -/
def apL (c s : Nat) : Nat → List Nat
  | 0 => []
  | m + 1 => apL c s m ++ [c + s * m]
theorem apL_dg (B c s : Nat) (hB : 0 < B) : ∀ m, dg B (apL c s m) * (B ^ s - 1) = B ^ c * (B ^ (s * m) - 1)
  | 0 => by simp [apL, dg]
  | m + 1 => by
    have ih := apL_dg B c s hB m
    have p1 : 0 < B ^ s := Nat.pow_pos hB
    have p2 : 0 < B ^ (s * m) := Nat.pow_pos hB
    simp only [apL, dg_append, dg, Nat.add_zero]
    rw [Nat.add_mul, ih, Nat.pow_add, Nat.mul_assoc, ← Nat.mul_add, Nat.mul_succ, Nat.pow_add]
    congr 1
    have h1 : B ^ (s * m) * (B ^ s - 1) = B ^ (s * m) * B ^ s - B ^ (s * m) := by rw [Nat.mul_sub, Nat.mul_one]
    have h2 : B ^ (s * m) ≤ B ^ (s * m) * B ^ s := Nat.le_mul_of_pos_right _ p1
    omega
theorem apL_val (B c s m : Nat) (hB : 2 ≤ B) (hs : 0 < s) : dg B (apL c s m) = B ^ c * (B ^ (s * m) - 1) / (B ^ s - 1) := by
  have h1 : 1 < B ^ s := Nat.one_lt_pow (by omega) (by omega)
  rw [← apL_dg B c s (by omega) m, Nat.mul_div_cancel _ (by omega)]
theorem apL_cn (n c s : Nat) (hs : 0 < s) : ∀ m, cn n (apL c s m) = if c ≤ n ∧ s ∣ n - c ∧ (n - c) / s < m then 1 else 0
  | 0 => by simp [apL, cn]
  | m + 1 => by
    simp only [apL, cn_append, apL_cn n c s hs m, cn, Nat.add_zero]
    by_cases h1 : c ≤ n ∧ s ∣ n - c
    · by_cases h2 : (n - c) / s < m
      · have h3 : c + s * m ≠ n := by
          intro h
          have : n - c = s * m := by omega
          rw [this, Nat.mul_div_cancel_left _ hs] at h2
          omega
        rw [if_pos ⟨h1.1, h1.2, h2⟩, if_neg h3, if_pos ⟨h1.1, h1.2, by omega⟩]
      · rw [if_neg (fun h => h2 h.2.2)]
        by_cases h3 : c + s * m = n
        · have h4 : n - c = s * m := by omega
          rw [if_pos h3, if_pos ⟨h1.1, h1.2, by rw [h4, Nat.mul_div_cancel_left _ hs]; omega⟩]
        · have h4 : ¬ (n - c) / s < m + 1 := by
            intro h
            have h5 : (n - c) / s = m := by omega
            have := Nat.div_mul_cancel h1.2
            rw [h5, Nat.mul_comm] at this
            omega
          rw [if_neg h3, if_neg (fun h => h4 h.2.2)]
    · have h3 : c + s * m ≠ n := by
        intro h
        exact h1 ⟨by omega, ⟨m, by omega⟩⟩
      rw [if_neg (fun h => h1 ⟨h.1, h.2.1⟩), if_neg h3, if_neg (fun h => h1 ⟨h.1, h.2.1⟩)]
def apV (c s m : Nat) : Nat := 1048576 ^ c * (1048576 ^ (s * m) - 1) / (1048576 ^ s - 1)

/-! the divisors' side: d up to 316 with any fellow, and fellows up to 316 of greater d -/
def dlA (r : Nat) : Nat → List Nat
  | 0 => []
  | d + 1 => dlA r d ++ (if (d + 1) % 4 = r then apL (d + 1) (d + 1) (100000 / (d + 1) + 1) else [])
def dlB (r : Nat) : Nat → List Nat
  | 0 => []
  | k + 1 => dlB r k ++ apL ((316 + r) * (k + 1)) (4 * (k + 1)) (100000 / (4 * (k + 1)) + 1)
def dvA (r : Nat) : Nat → Nat
  | 0 => 0
  | d + 1 => dvA r d + (if (d + 1) % 4 = r then apV (d + 1) (d + 1) (100000 / (d + 1) + 1) else 0)
def dvB (r : Nat) : Nat → Nat
  | 0 => 0
  | k + 1 => dvB r k + apV ((316 + r) * (k + 1)) (4 * (k + 1)) (100000 / (4 * (k + 1)) + 1)
theorem dlA_val (r : Nat) : ∀ d, dg 1048576 (dlA r d) = dvA r d
  | 0 => rfl
  | d + 1 => by
    simp only [dlA, dvA, dg_append, dlA_val r d]
    split
    · rw [apL_val _ _ _ _ (by decide) (by omega)]; rfl
    · rfl
theorem dlB_val (r : Nat) : ∀ d, dg 1048576 (dlB r d) = dvB r d
  | 0 => rfl
  | d + 1 => by
    simp only [dlB, dvB, dg_append, dlB_val r d]
    rw [apL_val _ _ _ _ (by decide) (by omega)]; rfl
theorem dlA_cn (r n : Nat) (h0 : 0 < n) (hn : n ≤ 100000) : ∀ d, (cn n (dlA r d) : Int) = sumF (fun d => if d ∣ n then (if d % 4 = r then 1 else 0) else 0) d
  | 0 => rfl
  | d + 1 => by
    simp only [dlA, sumF, cn_append]
    rw [Int.natCast_add, dlA_cn r n h0 hn d]
    congr 1
    by_cases hr : (d + 1) % 4 = r
    · rw [if_pos hr, if_pos hr, apL_cn _ _ _ (by omega)]
      by_cases hd : d + 1 ∣ n
      · have h1 := Nat.le_of_dvd h0 hd
        have h2 : (n - (d + 1)) / (d + 1) < 100000 / (d + 1) + 1 := Nat.lt_succ_of_le (Nat.div_le_div_right (by omega))
        rw [if_pos hd, if_pos ⟨h1, Nat.dvd_sub hd (Nat.dvd_refl _), h2⟩]; rfl
      · rw [if_neg hd, if_neg (fun h => hd (by have := Nat.dvd_add h.2.1 (Nat.dvd_refl (d + 1)); rwa [Nat.sub_add_cancel h.1] at this))]; rfl
    · rw [if_neg hr, if_neg hr]
      by_cases hd : d + 1 ∣ n
      · rw [if_pos hd]; rfl
      · rw [if_neg hd]; rfl
theorem dlB_cn (r n : Nat) (hr1 : 1 ≤ r) (hr3 : r ≤ 3) (h0 : 0 < n) (hn : n ≤ 100000) : ∀ k, (cn n (dlB r k) : Int) = sumF (fun k => if k ∣ n then (if 316 < n / k ∧ (n / k) % 4 = r then 1 else 0) else 0) k
  | 0 => rfl
  | k + 1 => by
    simp only [dlB, sumF, cn_append]
    rw [Int.natCast_add, dlB_cn r n hr1 hr3 h0 hn k]
    congr 1
    rw [apL_cn _ _ _ (by omega)]
    have hk : 0 < k + 1 := by omega
    generalize k + 1 = K at *
    by_cases hd : K ∣ n
    · obtain ⟨q, rfl⟩ := hd
      have e1 : K * q / K = q := Nat.mul_div_cancel_left _ hk
      rw [if_pos (Nat.dvd_mul_right _ _), e1]
      by_cases hq : 316 < q ∧ q % 4 = r
      · obtain ⟨j, rfl⟩ : ∃ j, q = 316 + r + 4 * j := ⟨(q - 316 - r) / 4, by omega⟩
        have e2 : K * (316 + r + 4 * j) = (316 + r) * K + 4 * K * j := by rw [Nat.mul_add, Nat.mul_comm K (316 + r), ← Nat.mul_assoc, Nat.mul_comm K 4]
        have e3 : (316 + r) * K + 4 * K * j - (316 + r) * K = 4 * K * j := by omega
        rw [if_pos hq, e2, if_pos]
        · rfl
        · refine ⟨Nat.le_add_right _ _, ?_, ?_⟩
          · rw [e3]; exact Nat.dvd_mul_right _ _
          · refine Nat.lt_succ_of_le (Nat.div_le_div_right ?_)
            rw [e3]; rw [e2] at hn; omega
      · rw [if_neg hq, if_neg]
        · rfl
        · rintro ⟨h1, ⟨j, hj⟩, h3⟩
          have h4 : K * q = K * (316 + r + 4 * j) := by
            rw [Nat.mul_add, Nat.mul_comm K (316 + r), ← Nat.mul_assoc, Nat.mul_comm K 4]; omega
          have h5 := Nat.eq_of_mul_eq_mul_left hk h4
          exact hq (by omega)
    · rw [if_neg hd, if_neg]
      · rfl
      · rintro ⟨h1, h2, h3⟩
        apply hd
        have h4 : K ∣ n - (316 + r) * K := Nat.dvd_trans (Nat.dvd_mul_left K 4) h2
        have := Nat.dvd_add h4 (Nat.dvd_mul_left K (316 + r))
        rwa [Nat.sub_add_cancel h1] at this
theorem lsum_map (f : Nat → Int) (h : Nat → Nat) : ∀ l, lsum f (l.map h) = lsum (fun x => f (h x)) l
  | [] => rfl
  | x :: l => by simp only [List.map_cons, lsum, lsum_map f h l]
theorem lsum_congr {f g : Nat → Int} : ∀ l, (∀ x ∈ l, f x = g x) → lsum f l = lsum g l
  | [], _ => rfl
  | x :: l, h => by simp only [lsum]; rw [h x (by simp), lsum_congr l (fun y hy => h y (by simp [hy]))]
theorem lsum_add (f g : Nat → Int) : ∀ l, lsum (fun x => f x + g x) l = lsum f l + lsum g l
  | [] => rfl
  | x :: l => by simp only [lsum, lsum_add f g l]; omega
theorem lsum_rev (f : Nat → Int) (n : Nat) (h0 : 0 < n) : lsum (fun d => f (n / d)) (divs n) = lsum f (divs n) := by
  rw [← lsum_map f (fun d => n / d), divs_rev n h0]
  exact lsum_perm f (List.reverse_perm _)
theorem jsum_add (f g : Nat → Int) : ∀ n, sumF (fun d => f d + g d) n = sumF f n + sumF g n
  | 0 => rfl
  | n + 1 => by simp only [sumF, jsum_add f g n]; omega
theorem jsum_congr {f g : Nat → Int} : ∀ n, (∀ d, 1 ≤ d → d ≤ n → f d = g d) → sumF f n = sumF g n
  | 0, _ => rfl
  | n + 1, h => by simp only [sumF]; rw [jsum_congr n (fun d h1 h2 => h d h1 (by omega)), h (n + 1) (by omega) (Nat.le_refl _)]
theorem jsum_range (f : Nat → Int) : ∀ n, lsum f (List.range (n + 1)) = f 0 + sumF f n
  | 0 => by simp [lsum, sumF, List.range_succ]
  | n + 1 => by
    rw [List.range_succ, lsum_append, jsum_range f n]
    simp only [lsum, sumF]; omega
theorem jsum_divs (f : Nat → Int) (n : Nat) (h0 : 0 < n) : sumF (fun d => if d ∣ n then f d else 0) n = lsum f (divs n) := by
  have h := jsum_range (fun d => if dv n d = true then f d else 0) n
  unfold divs
  rw [lsum_filter, h]
  have hz : dv n 0 = false := by unfold dv; rfl
  simp only [hz, Bool.false_eq_true, if_false, Int.zero_add]
  refine jsum_congr n fun d h1 h2 => ?_
  by_cases hd : d ∣ n
  · rw [if_pos hd, if_pos (dv_iff.2 ⟨h1, hd⟩)]
  · rw [if_neg hd, if_neg (fun h => hd (dv_iff.1 h).2)]
/-- A sum's terms behind some number are nought. -/
theorem jsum_cut (f : Nat → Int) (m : Nat) (h : ∀ d, m < d → f d = 0) : ∀ j, sumF f (m + j) = sumF f m
  | 0 => rfl
  | j + 1 => by
    rw [← Nat.add_assoc]
    simp only [sumF]
    rw [jsum_cut f m h j, h (m + j + 1) (by omega), Int.add_zero]
theorem jsum_to (f : Nat → Int) (m n : Nat) (h : ∀ d, m < d → f d = 0) (h2 : ∀ d, n < d → f d = 0) : sumF f m = sumF f n := by
  rcases Nat.le_total m n with k | k
  · obtain ⟨j, rfl⟩ := Nat.exists_eq_add_of_le k; exact (jsum_cut f m h j).symm
  · obtain ⟨j, rfl⟩ := Nat.exists_eq_add_of_le k; exact jsum_cut f n h2 j
/-- The divisors of a kind are counted by the digits. -/
theorem dl_cn (r n : Nat) (hr1 : 1 ≤ r) (hr3 : r ≤ 3) (h0 : 0 < n) (hn : n ≤ 100000) : (cn n (dlA r 316 ++ dlB r 316) : Int) = lsum (fun d => if d % 4 = r then 1 else 0) (divs n) := by
  rw [cn_append, Int.natCast_add, dlA_cn r n h0 hn, dlB_cn r n hr1 hr3 h0 hn]
  have e2 : sumF (fun k => if k ∣ n then (if 316 < n / k ∧ (n / k) % 4 = r then 1 else 0) else 0) 316 = lsum (fun d => if 316 < d ∧ d % 4 = r then 1 else 0) (divs n) := by
    rw [← lsum_rev _ n h0, ← jsum_divs _ n h0]
    refine jsum_to _ _ _ (fun d hd => ?_) (fun d hd => ?_)
    · split
      · rename_i hdn
        rw [if_neg]
        rintro ⟨h1, _⟩
        have h3 := Nat.div_mul_cancel hdn
        have h4 : 317 * 317 ≤ n / d * d := Nat.mul_le_mul h1 hd
        omega
      · rfl
    · rw [if_neg (fun h => by have := Nat.le_of_dvd h0 h; omega)]
  have e1 : sumF (fun d => if d ∣ n then (if d % 4 = r then 1 else 0) else 0) 316 = lsum (fun d => if d ≤ 316 ∧ d % 4 = r then 1 else 0) (divs n) := by
    rw [← jsum_divs _ n h0, jsum_congr (g := fun d => if d ∣ n then (if d ≤ 316 ∧ d % 4 = r then 1 else 0) else 0) 316]
    · refine jsum_to _ _ _ (fun d hd => ?_) (fun d hd => ?_)
      · split
        · rw [if_neg (fun h => by omega)]
        · rfl
      · rw [if_neg (fun h => by have := Nat.le_of_dvd h0 h; omega)]
    · intro d h1 h2
      simp only [h2, true_and]
  rw [e1, e2, ← lsum_add]
  refine lsum_congr _ fun d _ => ?_
  by_cases h : d % 4 = r
  · by_cases h2 : d ≤ 316
    · rw [if_pos ⟨h2, h⟩, if_neg (fun k => by omega), if_pos h]; rfl
    · rw [if_neg (fun k => h2 k.1), if_pos ⟨by omega, h⟩, if_pos h]; rfl
  · rw [if_neg (fun k => h k.2), if_neg (fun k => h k.2), if_neg h]; rfl

/-! the squares' side: rows a ≤ b, each but a = b (and a = 0) twice -/
def psi : Nat → Nat
  | 0 => 0
  | j + 1 => psi j + 1048576 ^ ((316 - j) * (316 - j))
/-- Squares of 316 - j + 1, .., 316. -/
def sqs : Nat → List Nat
  | 0 => []
  | j + 1 => sqs j ++ [(316 - j) * (316 - j)]
theorem sqs_val : ∀ j, dg 1048576 (sqs j) = psi j
  | 0 => rfl
  | j + 1 => by simp only [sqs, psi, dg_append, dg, sqs_val j, Nat.add_zero]
theorem dg_shift (B c : Nat) : ∀ l, dg B (l.map (fun e => c + e)) = B ^ c * dg B l
  | [] => by simp [dg]
  | e :: l => by simp only [List.map_cons, dg, dg_shift B c l, Nat.pow_add, Nat.mul_add]
/-- Rows a ≤ b with a at least 316 - j + 1. -/
def rowsL : Nat → List Nat
  | 0 => []
  | j + 1 => rowsL j ++ ((sqs j).map (fun e => (316 - j) * (316 - j) + e) ++ (sqs j).map (fun e => (316 - j) * (316 - j) + e)) ++ [(316 - j) * (316 - j) + (316 - j) * (316 - j)]
theorem rowsL_val : ∀ j, dg 1048576 (rowsL j) = psi j * psi j
  | 0 => rfl
  | j + 1 => by
    simp only [rowsL, psi, dg_append, dg, dg_shift, rowsL_val j, sqs_val, Nat.add_zero]
    generalize psi j = p
    rw [Nat.pow_add]
    generalize 1048576 ^ ((316 - j) * (316 - j)) = q
    rw [Nat.add_mul, Nat.mul_add, Nat.mul_add, Nat.mul_comm q p]
    omega
def jacA (s : Nat) : Nat := psi s * psi s + psi s + (dvA 3 s + dvB 3 s)
def jacB (s : Nat) : Nat := dvA 1 s + dvB 1 s
def jacOk (s n : Nat) : Bool := Nat.beq (jacA s % 1048576 ^ (n + 1)) (jacB s % 1048576 ^ (n + 1))
theorem jacOk_eq (s n : Nat) (h : jacOk s n = true) : jacA s % 1048576 ^ (n + 1) = jacB s % 1048576 ^ (n + 1) := Nat.eq_of_beq_eq_true h
theorem jacA_dg (s : Nat) : jacA s = dg 1048576 ((rowsL s ++ sqs s) ++ (dlA 3 s ++ dlB 3 s)) := by
  rw [dg_append, dg_append, dg_append, rowsL_val, sqs_val, dlA_val, dlB_val]; rfl
theorem jacB_dg (s : Nat) : jacB s = dg 1048576 (dlA 1 s ++ dlB 1 s) := by rw [dg_append, dlA_val, dlB_val]; rfl
theorem jac_cn (s N : Nat) (h : jacOk s N = true) (h1 : ∀ i, i ≤ N → cn i ((rowsL s ++ sqs s) ++ (dlA 3 s ++ dlB 3 s)) < 1048576) (h2 : ∀ i, i ≤ N → cn i (dlA 1 s ++ dlB 1 s) < 1048576) : ∀ n, n ≤ N → cn n ((rowsL s ++ sqs s) ++ (dlA 3 s ++ dlB 3 s)) = cn n (dlA 1 s ++ dlB 1 s) := by
  have hnum := jacOk_eq s N h
  rw [jacA_dg, jacB_dg] at hnum
  exact cn_eq_of_mod (by decide) h1 h2 hnum
set_option maxRecDepth 100000 in
theorem jacobi_num : jacOk 316 100000 = true := by decide +kernel
theorem rowsL_len : ∀ j, j ≤ 316 → (rowsL j).length ≤ j * 633 ∧ (sqs j).length = j
  | 0, _ => ⟨Nat.le_refl 0, rfl⟩
  | j + 1, h => by
    obtain ⟨h1, h2⟩ := rowsL_len j (by omega)
    simp only [rowsL, sqs, List.length_append, List.length_map, List.length_singleton, h2]
    exact ⟨by omega, trivial⟩
theorem lsum01 (p : Nat → Prop) [DecidablePred p] : ∀ l : List Nat, 0 ≤ lsum (fun d => if p d then 1 else 0) l ∧ lsum (fun d => if p d then 1 else 0) l ≤ l.length
  | [] => by simp [lsum]
  | x :: l => by
    have := lsum01 p l
    simp only [lsum, List.length_cons]
    split <;> omega
theorem dl_cn_lt (r n : Nat) (hr1 : 1 ≤ r) (hr3 : r ≤ 3) (hn : n ≤ 100000) : cn n (dlA r 316 ++ dlB r 316) ≤ 100000 := by
  rcases Nat.eq_zero_or_pos n with h | h0
  · subst h
    have hA : ∀ d, cn 0 (dlA r d) = 0 := by
      intro d
      induction d with
      | zero => rfl
      | succ d ih =>
        simp only [dlA, cn_append, ih]
        split
        · rw [apL_cn _ _ _ (by omega), if_neg (fun k => by omega)]
        · rfl
    have hB : ∀ d, cn 0 (dlB r d) = 0 := by
      intro d
      induction d with
      | zero => rfl
      | succ d ih =>
        simp only [dlB, cn_append, ih]
        rw [apL_cn _ _ _ (by omega), if_neg]
        rintro ⟨k, _⟩
        have : 0 < (316 + r) * (d + 1) := Nat.mul_pos (by omega) (by omega)
        omega
    rw [cn_append, hA, hB]; omega
  · have h1 := dl_cn r n hr1 hr3 h0 hn
    have h2 := (lsum01 (fun d => d % 4 = r) (divs n)).2
    have h3 := divs_len h0
    omega
/-- Jacobi's count up to 100000. -/
theorem jacobi (n : Nat) (h0 : 0 < n) (hn : n ≤ 100000) : (cn n (rowsL 316 ++ sqs 316) : Int) = lsum (fun d => (if d % 4 = 1 then 1 else 0) - (if d % 4 = 3 then 1 else 0)) (divs n) := by
  have hl : (rowsL 316 ++ sqs 316).length ≤ 316 * 633 + 316 := by
    have := rowsL_len 316 (by omega)
    rw [List.length_append]
    omega
  have key := jac_cn 316 100000 jacobi_num (fun i hi => ?_) (fun i hi => ?_) n hn
  · rw [cn_append n (rowsL 316 ++ sqs 316)] at key
    have h1 := dl_cn 1 n (by omega) (by omega) h0 hn
    have h3 := dl_cn 3 n (by omega) (by omega) h0 hn
    have hs : lsum (fun d => if d % 4 = 1 then 1 else 0) (divs n) = lsum (fun d => (if d % 4 = 1 then 1 else 0) - (if d % 4 = 3 then 1 else 0)) (divs n) + lsum (fun d => if d % 4 = 3 then 1 else 0) (divs n) := by
      rw [← lsum_add]
      exact lsum_congr _ fun d _ => by omega
    omega
  · rw [cn_append]
    have b1 := cn_le i (rowsL 316 ++ sqs 316)
    have b2 := dl_cn_lt 3 i (by omega) (by omega) hi
    omega
  · have b2 := dl_cn_lt 1 i (by omega) (by omega) hi
    omega
end Go.Proofs.Ytfhfbicejddoiaa.Nt
