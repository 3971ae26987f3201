import Derived.Test.YtfhfbicejddoiaaNtS
import Derived.Test.YtfhfbicejddoiaaNtJ
namespace Go.Proofs.Ytfhfbicejddoiaa.Nt
set_option linter.unusedVariables false

/-! products over divisors -/
def conv (a b : Nat → Int) (n : Nat) : Int := lsum (fun d => a d * b (n / d)) (divs n)
theorem conv_comm (a b : Nat → Int) (n : Nat) (h0 : 0 < n) : conv a b n = conv b a n := by
  unfold conv
  rw [← lsum_rev (fun d => a d * b (n / d)) n h0]
  refine lsum_congr _ fun d hd => ?_
  rw [Nat.div_div_self ((mem_divs h0).1 hd) (by omega), Int.mul_comm]
theorem conv_congr {a b a' b' : Nat → Int} (n : Nat) (h0 : 0 < n) (ha : ∀ d, 1 ≤ d → d ≤ n → a d = a' d) (hb : ∀ d, 1 ≤ d → d ≤ n → b d = b' d) : conv a b n = conv a' b' n := by
  refine lsum_congr _ fun d hd => ?_
  have h := divs_pos hd
  have hdv := (mem_divs h0).1 hd
  rw [ha d h.1 h.2, hb (n / d) (Nat.div_pos h.2 h.1) (Nat.div_le_self _ _)]
def unitF (n : Nat) : Int := if n = 1 then 1 else 0
theorem lsum_zero : ∀ l : List Nat, lsum (fun _ => (0 : Int)) l = 0
  | [] => rfl
  | x :: l => by simp only [lsum, lsum_zero l]; rfl
theorem lsum_scale2 (c : Int) (f : Nat → Int) : ∀ l, lsum (fun x => c * f x) l = c * lsum f l
  | [] => by simp [lsum]
  | x :: l => by simp only [lsum, lsum_scale2 c f l, Int.mul_add]
theorem lsum_scale3 (c : Int) (f : Nat → Int) (l : List Nat) : lsum (fun x => f x * c) l = lsum f l * c := by
  rw [lsum_congr (g := fun x => c * f x) l (fun x _ => Int.mul_comm _ _), lsum_scale2, Int.mul_comm]
/-- Of two sums either comes first. -/
theorem lsum_swap (f : Nat → Nat → Int) (l : List Nat) : ∀ m, lsum (fun x => lsum (fun y => f x y) m) l = lsum (fun y => lsum (fun x => f x y) l) m
  | [] => by simp only [lsum]; exact lsum_zero l
  | y :: m => by
    simp only [lsum]
    rw [lsum_add, lsum_swap f l m]
/-- A sum over the divisors of a divisor. -/
theorem lsum_sub (f : Nat → Int) (n d : Nat) (h0 : 0 < n) (hd : d ∣ n) : lsum f (divs d) = lsum (fun e => if e ∣ d then f e else 0) (divs n) := by
  have hd0 := Nat.pos_of_dvd_of_pos hd h0
  have hle := Nat.le_of_dvd h0 hd
  obtain ⟨j, hj⟩ := Nat.exists_eq_add_of_le hle
  rw [← sumF_divs f d hd0 j, ← hj, ← sumF_divs (fun e => if e ∣ d then f e else 0) n h0 0, Nat.add_zero]
  refine sumF_congr n fun e h1 h2 => ?_
  by_cases he : e ∣ d
  · rw [if_pos he, if_pos (Nat.dvd_trans he hd)]
  · rw [if_neg he]; split <;> rfl
theorem unit_conv (b : Nat → Int) (n : Nat) (h0 : 0 < n) : conv unitF b n = b n := by
  unfold conv
  have h1 : lsum (fun d => unitF d * b (n / d)) (divs n) = lsum (fun d => if d ∣ 1 then b n else 0) (divs n) := by
    refine lsum_congr _ fun d hd => ?_
    unfold unitF
    by_cases h : d = 1
    · subst h; rw [if_pos rfl, if_pos (Nat.dvd_refl 1), Int.one_mul, Nat.div_one]
    · rw [if_neg h, if_neg (fun k => h (Nat.dvd_one.1 k)), Int.zero_mul]
  rw [h1, ← lsum_sub (fun _ => b n) n 1 h0 (Nat.one_dvd n), show divs 1 = [1] by decide]
  simp [lsum]
/-- Sums over divisors, undone by the signs. -/
theorem conv_signs (t : Nat → Int) (n : Nat) (h0 : 0 < n) : conv (conv t (fun _ => 1)) sgn n = t n := by
  have e1 : conv (conv t (fun _ => 1)) sgn n = lsum (fun d => lsum (fun e => (if e ∣ d then t e * sgn (n / d) else 0)) (divs n)) (divs n) := by
    unfold conv
    refine lsum_congr _ fun d hd => ?_
    have hdv := (mem_divs h0).1 hd
    rw [lsum_sub (fun e => t e * 1) n d h0 hdv, ← lsum_scale3]
    refine lsum_congr _ fun e _ => ?_
    by_cases h : e ∣ d
    · rw [if_pos h, if_pos h, Int.mul_one]
    · rw [if_neg h, if_neg h, Int.zero_mul]
  rw [e1, lsum_swap]
  have e2 : lsum (fun e => lsum (fun d => if e ∣ d then t e * sgn (n / d) else 0) (divs n)) (divs n) = lsum (fun e => unitF (n / e) * t e) (divs n) := by
    refine lsum_congr _ fun e he => ?_
    have hev := (mem_divs h0).1 he
    have he0 := Nat.pos_of_dvd_of_pos hev h0
    have hq0 : 0 < n / e := Nat.div_pos (Nat.le_of_dvd h0 hev) he0
    have hq : n / e ∣ n := Nat.div_dvd_of_dvd hev
    have e3 : lsum (fun d => if e ∣ d then t e * sgn (n / d) else 0) (divs n) = lsum (fun d => t e * (if (n / d) ∣ (n / e) then sgn (n / d) else 0)) (divs n) := by
      refine lsum_congr _ fun d hd => ?_
      have hdv := (mem_divs h0).1 hd
      have hd0 := Nat.pos_of_dvd_of_pos hdv h0
      have hiff : e ∣ d ↔ (n / d) ∣ (n / e) := by
        constructor
        · rintro ⟨c, rfl⟩
          refine ⟨c, ?_⟩
          obtain ⟨q, rfl⟩ := hdv
          have hc0 : 0 < c := Nat.pos_of_ne_zero fun h => by subst h; simp at hd0
          rw [Nat.mul_div_cancel_left _ hd0, Nat.mul_assoc, Nat.mul_div_cancel_left _ he0, Nat.mul_comm]
        · rintro ⟨c, hc⟩
          refine ⟨c, ?_⟩
          have h1 := Nat.div_mul_cancel hdv
          have h2 := Nat.div_mul_cancel hev
          have hq1 : 0 < n / d := Nat.div_pos (Nat.le_of_dvd h0 hdv) hd0
          refine Nat.eq_of_mul_eq_mul_left hq1 ?_
          rw [h1, Nat.mul_comm e c, ← Nat.mul_assoc, ← hc, h2]
      by_cases h : e ∣ d
      · rw [if_pos h, if_pos (hiff.1 h)]
      · rw [if_neg h, if_neg (fun k => h (hiff.2 k)), Int.mul_zero]
    rw [e3, lsum_scale2, lsum_rev (fun k => if k ∣ n / e then sgn k else 0) n h0, ← lsum_sub sgn n (n / e) h0 hq, sgn_sum _ hq0, Int.mul_comm]
    rfl
  rw [e2, lsum_congr (g := fun e => unitF (n / e) * t (n / (n / e))) _ (fun e he => by rw [Nat.div_div_self ((mem_divs h0).1 he) (by omega)]), lsum_rev (fun k => unitF k * t (n / k)) n h0]
  exact unit_conv t n h0

/-! spread tables -/
def Spread (a : Nat → Int) (N : Nat) : Prop := a 1 = 1 ∧ ∀ x y, 1 ≤ x → 1 ≤ y → x * y ≤ N → Nat.gcd x y = 1 → a (x * y) = a x * a y
theorem lsum_flat (f : Nat → Int) (g : Nat → List Nat) : ∀ l, lsum f (l.flatMap g) = lsum (fun x => lsum f (g x)) l
  | [] => rfl
  | x :: l => by rw [List.flatMap_cons, lsum_append, lsum_flat f g l]; rfl
theorem dvd_mul_split {d x y : Nat} (hx : 0 < x) (h : d ∣ x * y) : ∃ d1 d2, d1 ∣ x ∧ d2 ∣ y ∧ d = d1 * d2 := by
  have h0 : 0 < Nat.gcd d x := Nat.gcd_pos_of_pos_right _ hx
  refine ⟨Nat.gcd d x, d / Nat.gcd d x, Nat.gcd_dvd_right _ _, ?_, (Nat.mul_div_cancel' (Nat.gcd_dvd_left _ _)).symm⟩
  have hc : Nat.Coprime (d / Nat.gcd d x) (x / Nat.gcd d x) := Nat.coprime_div_gcd_div_gcd h0
  refine hc.dvd_of_dvd_mul_left (m := x / Nat.gcd d x) ?_
  obtain ⟨c, hc2⟩ := h
  refine ⟨c, ?_⟩
  have e1 := Nat.div_mul_cancel (Nat.gcd_dvd_left d x)
  have e2 := Nat.div_mul_cancel (Nat.gcd_dvd_right d x)
  refine Nat.eq_of_mul_eq_mul_right h0 ?_
  rw [Nat.mul_right_comm, e2, hc2, Nat.mul_right_comm, e1]
theorem coprime_parts {x y d1 d2 : Nat} (hc : Nat.Coprime x y) (h1 : d1 ∣ x) (h2 : d2 ∣ y) : Nat.Coprime d1 d2 := Nat.Coprime.coprime_dvd_left h1 (Nat.Coprime.coprime_dvd_right h2 hc)
theorem parts_inj {x y a b a' b' : Nat} (hc : Nat.Coprime x y) (ha : a ∣ x) (hb : b ∣ y) (ha' : a' ∣ x) (hb' : b' ∣ y) (h : a * b = a' * b') (h0 : 0 < a) : a = a' ∧ b = b' := by
  have h1 : a ∣ a' := (coprime_parts hc ha hb').dvd_of_dvd_mul_right (h ▸ Nat.dvd_mul_right a b)
  have h2 : a' ∣ a := (coprime_parts hc ha' hb).dvd_of_dvd_mul_right (h.symm ▸ Nat.dvd_mul_right a' b')
  have e := Nat.dvd_antisymm h1 h2
  subst e
  exact ⟨rfl, Nat.eq_of_mul_eq_mul_left h0 h⟩
theorem divs_nodup (n : Nat) : (divs n).Nodup := (divs_sorted n).imp fun h => Nat.ne_of_lt h
/-- The divisors of a product of two without a common divisor. -/
theorem divs_mul (x y : Nat) (hx : 0 < x) (hy : 0 < y) (hc : Nat.Coprime x y) : (divs (x * y)).Perm ((divs x).flatMap fun d => (divs y).map fun e => d * e) := by
  have hxy : 0 < x * y := Nat.mul_pos hx hy
  rw [List.perm_ext_iff_of_nodup (divs_nodup _)]
  · intro a
    rw [mem_divs hxy, List.mem_flatMap]
    constructor
    · intro h
      obtain ⟨d1, d2, h1, h2, rfl⟩ := dvd_mul_split hx h
      exact ⟨d1, (mem_divs hx).2 h1, List.mem_map.2 ⟨d2, (mem_divs hy).2 h2, rfl⟩⟩
    · rintro ⟨d, hd, h⟩
      obtain ⟨e, he, rfl⟩ := List.mem_map.1 h
      exact Nat.mul_dvd_mul ((mem_divs hx).1 hd) ((mem_divs hy).1 he)
  · unfold List.Nodup
    rw [List.pairwise_flatMap]
    refine ⟨fun d hd => ?_, ?_⟩
    · have hd0 := (divs_pos hd).1
      rw [List.pairwise_map]
      exact (divs_sorted y).imp fun {a b} h k => by
        have := Nat.eq_of_mul_eq_mul_left hd0 k
        omega
    · refine List.Pairwise.imp_of_mem (fun {a b} ha hb hab => ?_) (divs_nodup x)
      intro z hz1 z2 hz2 h
      obtain ⟨e1, he1, rfl⟩ := List.mem_map.1 hz1
      obtain ⟨e2, he2, rfl⟩ := List.mem_map.1 hz2
      have := (parts_inj hc ((mem_divs hx).1 ha) ((mem_divs hy).1 he1) ((mem_divs hx).1 hb) ((mem_divs hy).1 he2) h (divs_pos ha).1).1
      omega
theorem spread_conv (a b : Nat → Int) (N : Nat) (ha : Spread a N) (hb : Spread b N) : Spread (conv a b) N := by
  refine ⟨?_, fun x y hx hy hxy hg => ?_⟩
  · unfold conv
    rw [show divs 1 = [1] by decide]
    simp [lsum, ha.1, hb.1]
  · have hc : Nat.Coprime x y := hg
    unfold conv
    rw [lsum_perm _ (divs_mul x y hx hy hc), lsum_flat, ← lsum_scale3]
    refine lsum_congr _ fun d hd => ?_
    rw [lsum_map, ← lsum_scale2]
    refine lsum_congr _ fun e he => ?_
    have hdx := (mem_divs hx).1 hd
    have hey := (mem_divs hy).1 he
    have pd := divs_pos hd
    have pe := divs_pos he
    have h1 : d * e ≤ N := Nat.le_trans (Nat.mul_le_mul pd.2 pe.2) hxy
    have h2 : x / d * (y / e) ≤ N := Nat.le_trans (Nat.mul_le_mul (Nat.div_le_self _ _) (Nat.div_le_self _ _)) hxy
    have q1 : 1 ≤ x / d := Nat.div_pos pd.2 pd.1
    have q2 : 1 ≤ y / e := Nat.div_pos pe.2 pe.1
    have e1 : x * y / (d * e) = x / d * (y / e) := Nat.mul_div_mul_comm hdx hey
    rw [e1, ha.2 d e pd.1 pe.1 h1 (coprime_parts hc hdx hey), hb.2 _ _ q1 q2 h2 (coprime_parts hc (Nat.div_dvd_of_dvd hdx) (Nat.div_dvd_of_dvd hey))]
    simp only [Int.mul_assoc, Int.mul_left_comm]
theorem spread_one (N : Nat) : Spread (fun _ => 1) N := ⟨rfl, fun _ _ _ _ _ _ => rfl⟩
theorem spread_self (N : Nat) : Spread (fun n => (n : Int)) N := ⟨rfl, fun x y _ _ _ _ => by simp only [Int.natCast_mul]⟩
theorem spread_unit (N : Nat) : Spread unitF N := ⟨rfl, fun x y hx hy _ _ => by
  unfold unitF
  by_cases h1 : x = 1
  · subst h1; rw [Nat.one_mul, if_pos rfl, Int.one_mul]
  · have : x * y ≠ 1 := fun h => h1 (Nat.eq_one_of_mul_eq_one_right h)
    rw [if_neg h1, if_neg this, Int.zero_mul]⟩
theorem sgn_coprime : ∀ (x y : Nat), 0 < x → 0 < y → Nat.gcd x y = 1 → sgn (x * y) = sgn x * sgn y := by
  intro x
  induction x using Nat.strongRecOn with
  | _ x ih =>
    intro y hx hy hg
    by_cases h2 : x < 2
    · have : x = 1 := by omega
      subst this
      rw [Nat.one_mul, show sgn 1 = 1 by decide, Int.one_mul]
    · have h2 : 2 ≤ x := by omega
      have hp := lf_prime h2
      obtain ⟨q, hq⟩ := lf_dvd h2
      have hq0 : 0 < q := Nat.pos_of_ne_zero fun h => by subst h; omega
      have hlt : q < x := by
        have := Nat.mul_le_mul_right q hp.two_le
        omega
      generalize lf x = p at *
      by_cases hpq : p ∣ q
      · obtain ⟨r, rfl⟩ := hpq
        have hd : p * p ∣ x := ⟨r, by rw [hq, Nat.mul_assoc]⟩
        rw [sgn_sq (Nat.mul_pos hx hy) hp (Nat.dvd_trans hd (Nat.dvd_mul_right x y)), sgn_sq hx hp hd, Int.zero_mul]
      · have hpy : ¬ p ∣ y := fun h => by
          have := Nat.dvd_gcd ⟨q, hq⟩ h
          rw [hg] at this
          have := Nat.le_of_dvd (by decide) this
          have := hp.two_le
          omega
        have hcq : Nat.gcd q y = 1 := Nat.Coprime.coprime_dvd_left (⟨p, by rw [hq, Nat.mul_comm]⟩ : q ∣ x) hg
        have hnd : ¬ p ∣ q * y := fun h => (hp.dvd_mul h).elim hpq hpy
        rw [hq, Nat.mul_assoc, sgn_prime_mul (q * y) p hp (Nat.mul_pos hq0 hy) hnd, sgn_prime_mul q p hp hq0 hpq, ih q hlt y hq0 hy hcq, Int.neg_mul]
theorem spread_sgn (N : Nat) : Spread sgn N := ⟨by decide, fun x y hx hy _ hg => sgn_coprime x y hx hy hg⟩
/-- The totients are the numbers times the signs. -/
theorem phi_conv (n : Nat) (h0 : 0 < n) : conv (fun d => (d : Int)) sgn n = (phi n : Int) := by
  rw [← conv_signs (fun d => (phi d : Int)) n h0]
  refine conv_congr n h0 (fun d h1 _ => ?_) (fun _ _ _ => rfl)
  have := phi_dsum d h1
  unfold conv
  simp only [Int.mul_one]
  exact this.symm
theorem spread_congr {a b : Nat → Int} {N : Nat} (h : ∀ n, 1 ≤ n → a n = b n) (ha : Spread a N) : Spread b N := ⟨by rw [← h 1 (Nat.le_refl 1)]; exact ha.1, fun x y hx hy hxy hg => by
  rw [← h x hx, ← h y hy, ← h _ (Nat.mul_pos hx hy)]; exact ha.2 x y hx hy hxy hg⟩
theorem spread_phi (N : Nat) : Spread (fun n => (phi n : Int)) N := spread_congr (fun n h => phi_conv n h) (spread_conv _ _ N (spread_self N) (spread_sgn N))
theorem lsum_len : ∀ l : List Nat, lsum (fun _ => (1 : Int)) l = (l.length : Int)
  | [] => rfl
  | x :: l => by simp only [lsum, lsum_len l, List.length_cons]; omega
theorem count_conv (n : Nat) : conv (fun _ => 1) (fun _ => 1) n = ((divs n).length : Int) := by
  unfold conv
  simp only [Int.mul_one]
  exact lsum_len _
theorem sum_conv (n : Nat) : conv (fun d => (d : Int)) (fun _ => 1) n = lsum (fun d => (d : Int)) (divs n) := by
  unfold conv
  simp only [Int.mul_one]
theorem spread_count (N : Nat) : Spread (fun n => ((divs n).length : Int)) N := spread_congr (fun n _ => count_conv n) (spread_conv _ _ N (spread_one N) (spread_one N))
theorem spread_sum (N : Nat) : Spread (fun n => lsum (fun d => (d : Int)) (divs n)) N := spread_congr (fun n _ => sum_conv n) (spread_conv _ _ N (spread_self N) (spread_one N))
/-- Two tables that are undone by the same one are the same. -/
theorem undo_unique (a b c : Nat → Int) (N : Nat) (h1 : a 1 = 1 ∨ a 1 = -1) (hb : ∀ n, 1 ≤ n → n ≤ N → conv a b n = unitF n) (hc : ∀ n, 1 ≤ n → n ≤ N → conv a c n = unitF n) : ∀ n, 1 ≤ n → n ≤ N → b n = c n := by
  intro n
  induction n using Nat.strongRecOn with
  | _ n ih =>
    intro hn hN
    have h := (hb n hn hN).trans (hc n hn hN).symm
    have hd1 : ∃ t, (divs n) = 1 :: t := by
      have hm : 1 ∈ divs n := (mem_divs (by omega)).2 (Nat.one_dvd n)
      cases hl : divs n with
      | nil => rw [hl] at hm; simp at hm
      | cons x t =>
        rw [hl] at hm
        have hs := divs_sorted n
        rw [hl, List.pairwise_cons] at hs
        have hx := divs_pos (n := n) (d := x) (by rw [hl]; simp)
        rcases List.mem_cons.1 hm with h | h
        · exact ⟨t, by rw [h]⟩
        · have := hs.1 1 h; omega
    obtain ⟨t, ht⟩ := hd1
    unfold conv at h
    rw [ht] at h
    simp only [lsum, Nat.div_one] at h
    have e : lsum (fun d => a d * b (n / d)) t = lsum (fun d => a d * c (n / d)) t := by
      refine lsum_congr _ fun d hd => ?_
      have hs := divs_sorted n
      rw [ht, List.pairwise_cons] at hs
      have h2 := hs.1 d hd
      have hdm : d ∈ divs n := by rw [ht]; simp [hd]
      have hp := divs_pos hdm
      rw [ih (n / d) (Nat.div_lt_self (by omega) h2) (Nat.div_pos hp.2 hp.1) (Nat.le_trans (Nat.div_le_self _ _) hN)]
    rw [e] at h
    rcases h1 with h1 | h1 <;> rw [h1] at h <;> omega
end Go.Proofs.Ytfhfbicejddoiaa.Nt
