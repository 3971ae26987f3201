/- LongestSquareful answers as the reference does, for every argument. -/
import Derived.Test.YthmjkdkpoapchaaPFnExactLongestSquarefulx2
import Derived.Test.YthmjkdkpoapchaaNtC
import Derived.Test.YthmjkdkpoapchaaNtG
namespace Go.Proofs.Ythmjkdkpoapchaa.Pure
set_option linter.unusedVariables false
open Go Go.RowKit Go.Proofs.Ythmjkdkpoapchaa.PFnExactLongestSquareful Go.Proofs.YthmjkdkpoapchaaW.PrintWords Go.Proofs.YthmjkdkpoapchaaW.PrintLast Go.Proofs.Ythmjkdkpoapchaa.Nt
theorem Ev.done {α : Type} {g : Nat → Option α} {r : α} (h : ∀ k, g (k + 1) = some r) : Ev g r := Ev.step (f := fun _ => some r) h (Ev.now r)
theorem Ev.const {α : Type} {g : Nat → Option α} {r : α} (h : ∀ k, g k = some r) : Ev g r := Ev.congr (f := fun _ => some r) h (Ev.now r)
theorem wr {a : Nat} (h : a < 9223372036854775808) : wrap64 (a : Int) = a := by unfold wrap64; omega
theorem wri {a : Int} (h0 : -9223372036854775808 ≤ a) (h : a < 9223372036854775808) : wrap64 a = a := by unfold wrap64; omega
theorem wr_mul {a b : Nat} (h : a * b < 9223372036854775808) : wrap64 ((a : Int) * b) = ((a * b : Nat) : Int) := by rw [← Int.natCast_mul]; exact wr h
theorem wr_succ {a : Nat} (h : a < 9223372036854775807) : wrap64 ((a : Int) + 1) = ((a + 1 : Nat) : Int) := wr (a := a + 1) (by omega)
theorem wr_tdiv {a b : Nat} (h : a < 9223372036854775808) : wrap64 (Int.tdiv (a : Int) b) = ((a / b : Nat) : Int) := wr (a := a / b) (Nat.lt_of_le_of_lt (Nat.div_le_self a b) h)
theorem tm (a b : Nat) : Int.tmod (a : Int) b = ((a % b : Nat) : Int) := rfl
theorem sq_lt {a b : Nat} (h : a ≤ 3037000499) (k : b ≤ 3037000499) : a * b < 9223372036854775808 := Nat.lt_of_le_of_lt (Nat.mul_le_mul h k) (by decide)
theorem spec_l1In_eq (a b c : Int) : spec_l1In.f a b c = some (decide (b ≤ a ∧ a ≤ c)) := by
  unfold spec_l1In.f
  by_cases h : a ≥ b
  · rw [if_pos h, decide_eq_decide.2 (show a ≤ c ↔ b ≤ a ∧ a ≤ c from ⟨fun k => ⟨h, k⟩, fun k => k.2⟩)]
  · rw [if_neg h, decide_eq_false (fun k => h k.1)]
theorem facs_len : ∀ (n : Nat), (facs n).length ≤ n := by
  intro n
  induction n using Nat.strongRecOn with
  | _ n ih =>
    by_cases h : n < 2
    · rw [facs_small h]; simp
    · have hn : 2 ≤ n := by omega
      have := rs_lt (lf_two_le hn) (by omega) (lf_dvd hn)
      have := ih _ this
      rw [facs_cons hn, List.length_cons]; omega
/-- A list of primes and exponents as the program's rows. -/
def rowsOf (l : List (Nat × Nat)) : List (List Int) := l.map fun f => [(f.1 : Int), (f.2 : Int)]
theorem getD_mid {α : Type} (pre : List α) (x : α) (l : List α) (d : α) : (pre ++ x :: l).getD pre.length d = x := by simp
theorem rows_get (pre : List (Nat × Nat)) (x : Nat × Nat) (l : List (Nat × Nat)) : (rowsOf (pre ++ x :: l)).getD pre.length [] = [(x.1 : Int), (x.2 : Int)] := by
  simp [rowsOf]
theorem rows_len (l : List (Nat × Nat)) : (rowsOf l).length = l.length := by simp [rowsOf]
theorem impl_leastFactor_l (n : Nat) (h2 : 2 ≤ n) (hn : n ≤ 2000000000) : ∀ (j d : Nat), n + 1 ≤ d + j → 2 ≤ d → d ≤ n + 1 → Above d n → Ev (fun k => impl_leastFactor.l0 k n d) (lf n : Int) := by
  have hend : ∀ d : Nat, d ≤ n + 1 → n < d * d → Above d n → Ev (fun k => impl_leastFactor.l0 k n d) (lf n : Int) := by
    intro d hd hlt ha
    rw [lf_eq h2 (isLf_self h2 hlt (fun m hm hmd hmn => by have := ha m hm hmn; omega))]
    refine Ev.done fun k => ?_
    simp only [impl_leastFactor.l0]
    rw [wr_mul (sq_lt (by omega) (by omega)), if_neg (by omega)]
  intro j
  induction j with
  | zero =>
    intro d hj hd2 hd ha
    exact hend d hd (by have := Nat.mul_le_mul_right d hd2; omega) ha
  | succ j ih =>
    intro d hj hd2 hd ha
    by_cases hlt : n < d * d
    · exact hend d hd hlt ha
    · have hdn : d ≤ n := by have := Nat.mul_le_mul_right d hd2; omega
      by_cases hm : n % d = 0
      · rw [(ha.lf hd2 (by omega) (Nat.dvd_of_mod_eq_zero hm)).2]
        refine Ev.done fun k => ?_
        simp only [impl_leastFactor.l0]
        rw [wr_mul (sq_lt (by omega) (by omega)), tm, if_pos (by omega), if_neg (by omega), if_pos (by omega)]
      · refine Ev.step (fun k => ?_) (ih (d + 1) (by omega) (by omega) (by omega) (ha.succ (fun h => hm (Nat.mod_eq_zero_of_dvd h))))
        simp only [impl_leastFactor.l0]
        rw [wr_mul (sq_lt (by omega) (by omega)), tm, if_pos (by omega), if_neg (by omega), if_neg (by omega), wr_succ (by omega)]
theorem impl_leastFactor_ev (n : Nat) (h2 : 2 ≤ n) (hn : n ≤ 2000000000) : Ev (fun k => impl_leastFactor.f k n) (lf n : Int) :=
  impl_leastFactor_l n h2 hn n 2 (by omega) (Nat.le_refl _) (by omega) (Above.two n)
theorem impl_factors_l1 (p : Nat) (hp : 2 ≤ p) : ∀ (n : Nat) (acc : List (List Int)) (e : Nat) {v : List (List Int)}, 0 < n → n ≤ 2000000000 → e + n ≤ 4000000000 → p ≤ 2000000000 → acc.length + 1 ≤ 3000000000 →
    Ev (fun k => impl_factors.l0 k (rs p n) (acc ++ [[(p : Int), ((e + vl p n : Nat) : Int)]])) v → Ev (fun k => impl_factors.l1 k n acc p e) v := by
  intro n
  induction n using Nat.strongRecOn with
  | _ n ih =>
    intro acc e v h0 hn he hpb hl h
    by_cases hd : p ∣ n
    · obtain ⟨c, rfl⟩ := hd
      have hc0 : 0 < c := by
        rcases Nat.eq_zero_or_pos c with h | h
        · subst h; simp at h0
        · exact h
      have hlt : c < p * c := by have := Nat.mul_le_mul_right c hp; omega
      rw [rs_mul_self hp hc0, vl_mul_self hp hc0] at h
      refine Ev.step (fun k => ?_) (ih c hlt acc (e + 1) (v := v) hc0 (by omega) (by omega) hpb hl (by rw [show e + 1 + vl p c = e + (vl p c + 1) by omega]; exact h))
      simp only [impl_factors.l1]
      rw [tm, if_neg (by omega), if_pos (by simp), wr_tdiv (by omega), wr_succ (by omega), Nat.mul_div_cancel_left c (by omega)]
    · rw [rs_of_not_dvd hp h0 hd, vl_zero hp h0 hd] at h
      refine Ev.step (fun k => ?_) h
      simp only [impl_factors.l1]
      have : n % p ≠ 0 := fun hm => hd (Nat.dvd_of_mod_eq_zero hm)
      rw [tm, if_neg (by omega), if_neg (by omega), if_pos (by omega), Nat.add_zero]
theorem impl_factors_l0 : ∀ (n : Nat) (acc : List (List Int)), n ≤ 1000000000 → acc.length + n ≤ 2000000000 → Ev (fun k => impl_factors.l0 k n acc) (acc ++ rowsOf (facs n)) := by
  intro n
  induction n using Nat.strongRecOn with
  | _ n ih =>
    intro acc hn hl
    by_cases h : n < 2
    · rw [facs_small h]
      refine Ev.done fun k => ?_
      simp only [impl_factors.l0]
      rw [if_neg (by omega)]
      simp [rowsOf]
    · have h2 : 2 ≤ n := by omega
      have hp := lf_two_le h2
      have hple := lf_le h2
      have hlt := rs_lt hp (by omega) (lf_dvd h2)
      have key : Ev (fun k => impl_factors.l1 k n acc (lf n) 0) (acc ++ rowsOf (facs n)) := by
        have := ih _ hlt (acc ++ [[(lf n : Int), ((0 + vl (lf n) n : Nat) : Int)]]) (by omega) (by rw [List.length_append, List.length_singleton]; omega)
        refine impl_factors_l1 (lf n) hp n acc 0 (by omega) (by omega) (by omega) (by omega) (by omega) ?_
        rw [facs_cons h2]
        rw [List.append_assoc] at this
        simpa [rowsOf] using this
      refine Ev.step (f := fun k => (impl_leastFactor.f k n).bind fun t => impl_factors.l1 k n acc t 0) (fun k => ?_) ((impl_leastFactor_ev n h2 (by omega)).bind key)
      simp only [impl_factors.l0]
      rw [if_pos (by omega)]
theorem impl_factors_ev (n : Nat) (hn : n ≤ 1000000000) : Ev (fun k => impl_factors.f k n) (rowsOf (facs n)) := by
  have := impl_factors_l0 n [] hn (by simp; omega)
  exact this
theorem impl_isMost_eq (a : Int) : impl_isMost.f a = some (decide (0 ≤ a ∧ a ≤ 600)) := by
  unfold impl_isMost.f
  by_cases h : a ≥ 0
  · rw [if_pos h, decide_eq_decide.2 (show a ≤ 600 ↔ 0 ≤ a ∧ a ≤ 600 from ⟨fun k => ⟨h, k⟩, fun k => k.2⟩)]
  · rw [if_neg h, decide_eq_false (fun k => h k.1)]
theorem spec_sqMost_eq (a : Int) : spec_sqMost.f a = some (decide (0 ≤ a ∧ a ≤ 600)) := by
  unfold spec_sqMost.f; rw [spec_l1In_eq]; rfl
theorem impl_signOf_l : ∀ (l pre : List (Nat × Nat)) (s : Int), s = 1 ∨ s = -1 → (pre ++ l).length ≤ 2000000000 → Ev (fun k => impl_signOf.l0 k s (rowsOf (pre ++ l)) ((pre ++ l).length : Int) (pre.length : Int)) (s * sgnL l)
  | [], pre, s, hs, hl => by
    refine Ev.done fun k => ?_
    simp only [impl_signOf.l0]
    rw [if_neg (by simp)]
    simp [sgnL]
  | (p, e) :: l, pre, s, hs, hl => by
    have hlen : (pre ++ (p, e) :: l).length = pre.length + 1 + l.length := by simp; omega
    have hlr := rows_len (pre ++ (p, e) :: l)
    have hget : rd_L1 (rowsOf (pre ++ (p, e) :: l)) (pre.length : Int) = [(p : Int), (e : Int)] := by
      unfold rd_L1; rw [Int.toNat_natCast]; exact rows_get pre (p, e) l
    by_cases he : 1 < e
    · refine Ev.done fun k => ?_
      simp only [impl_signOf.l0]
      rw [if_pos (by omega), if_pos (by omega), if_pos (by omega), hget, if_pos (by simp), if_pos (by simp [rd]; omega)]
      simp [sgnL, he]
    · have ih := impl_signOf_l l (pre ++ [(p, e)]) (-s) (by omega) (by simpa using hl)
      rw [List.append_assoc] at ih
      simp only [List.singleton_append, List.length_append, List.length_singleton] at ih
      have e1 : s * sgnL ((p, e) :: l) = -s * sgnL l := by simp only [sgnL]; rw [if_neg he, Int.mul_neg, Int.neg_mul]
      rw [e1]
      refine Ev.step (fun k => ?_) ih
      simp only [impl_signOf.l0]
      rw [if_pos (by omega), if_pos (by omega), if_pos (by omega), hget, if_pos (by simp), if_neg (by simp [rd]; omega), wri (by omega) (by omega), wr_succ (by omega), List.length_append]
theorem impl_signOf_ev (n : Nat) (hn : n ≤ 1000000000) : Ev (fun k => impl_signOf.f k n) (sgn n) := by
  have hl := facs_len n
  have h := impl_signOf_l (facs n) [] 1 (Or.inl rfl) (by simpa using (by omega : (facs n).length ≤ 2000000000))
  rw [Int.one_mul] at h
  refine (impl_factors_ev n hn).bind ?_
  rw [rows_len]
  exact h
theorem spec_sqPart_end (n p d : Nat) (h : n < d * d) (hd : d ≤ 3037000499) : Ev (fun k => spec_sqPart.l0 k n p d) (p : Int) := by
  refine Ev.done fun k => ?_
  simp only [spec_sqPart.l0]
  rw [wr_mul (sq_lt hd hd), if_neg (by omega)]
theorem spec_sqPart_div (n p d : Nat) {v : Int} (h2 : 2 ≤ d) (hd : d ≤ 1000002) (hm : n % (d * d) = 0) (hn : n ≤ 1000000) (hp : p ≤ 1000000) (h : Ev (fun k => spec_sqPart.l1 k ((n / (d * d) : Nat) : Int) ((p * d : Nat) : Int) d) v) : Ev (fun k => spec_sqPart.l1 k n p d) v := by
  refine Ev.step (fun k => ?_) h
  have h0 : 0 < d * d := Nat.mul_pos (by omega) (by omega)
  simp only [spec_sqPart.l1]
  rw [wr_mul (sq_lt (by omega) (by omega)), tm, if_neg (by omega), if_pos (by omega), wr_tdiv (by omega), wr_mul (sq_lt (by omega) (by omega))]
theorem spec_sqPart_next (n p d : Nat) {v : Int} (h2 : 2 ≤ d) (hd : d ≤ 1000002) (hm : n % (d * d) ≠ 0) (h : Ev (fun k => spec_sqPart.l0 k n p ((d + 1 : Nat) : Int)) v) : Ev (fun k => spec_sqPart.l1 k n p d) v := by
  refine Ev.step (fun k => ?_) h
  have h0 : 0 < d * d := Nat.mul_pos (by omega) (by omega)
  simp only [spec_sqPart.l1]
  rw [wr_mul (sq_lt (by omega) (by omega)), tm, if_neg (by omega), if_neg (by omega), wr_succ (by omega)]
theorem spec_sqPart_in (n p d : Nat) {v : Int} (h : d * d ≤ n) (hd : d ≤ 1000002) (k : Ev (fun k => spec_sqPart.l1 k n p d) v) : Ev (fun k => spec_sqPart.l0 k n p d) v := by
  refine Ev.step (fun k => ?_) k
  simp only [spec_sqPart.l0]
  rw [wr_mul (sq_lt (by omega) (by omega)), if_pos (by omega)]
theorem spec_sqPart_l (n : Nat) : ∀ (j d p r : Nat), n + 1 ≤ d + j → 0 < n → n ≤ 1000000 → 2 ≤ d → d ≤ 1000001 → p * r ≤ 1000000 → IsSqp n r → (∀ c, 2 ≤ c → c < d → ¬ c * c ∣ n) → Ev (fun k => spec_sqPart.l0 k n p d) ((p * r : Nat) : Int) ∧ Ev (fun k => spec_sqPart.l1 k n p d) ((p * r : Nat) : Int) := by
  induction n using Nat.strongRecOn with
  | _ n ih =>
    have hend : ∀ (d p r : Nat), 0 < n → d ≤ 1000002 → n < d * d → IsSqp n r → (∀ c, 2 ≤ c → c < d → ¬ c * c ∣ n) → Ev (fun k => spec_sqPart.l0 k n p d) ((p * r : Nat) : Int) := by
      intro d p r h0 hd hlt hr hc
      rw [hr.unique (IsSqp.one h0 hlt hc), Nat.mul_one]
      exact spec_sqPart_end n p d hlt (by omega)
    intro j
    induction j with
    | zero =>
      intro d p r hj h0 hn h2 hd hpr hr hc
      have hlt : n < d * d := by have := Nat.mul_le_mul_right d h2; omega
      have hlt2 : n < (d + 1) * (d + 1) := by have := Nat.mul_le_mul (show d ≤ d + 1 by omega) (show d ≤ d + 1 by omega); omega
      have hnd : ¬ d * d ∣ n := fun h => by have := Nat.le_of_dvd h0 h; omega
      refine ⟨hend d p r h0 (by omega) hlt hr hc, spec_sqPart_next n p d h2 (by omega) (fun h => hnd (Nat.dvd_of_mod_eq_zero h)) (hend (d + 1) p r h0 (by omega) hlt2 hr fun c hc2 hcd => ?_)⟩
      by_cases he : c = d
      · rw [he]; exact hnd
      · exact hc c hc2 (by omega)
    | succ j ihj =>
      intro d p r hj h0 hn h2 hd hpr hr hc
      have key : Ev (fun k => spec_sqPart.l1 k n p d) ((p * r : Nat) : Int) := by
        by_cases hdv : d * d ∣ n
        · obtain ⟨c, rfl⟩ := hdv
          have hdd : 2 * 2 ≤ d * d := Nat.mul_le_mul h2 h2
          have hc0 : 0 < c := by
            rcases Nat.eq_zero_or_pos c with h | h
            · subst h; simp at h0
            · exact h
          have hlt : c < d * d * c := by have := Nat.mul_le_mul_right c hdd; omega
          obtain ⟨s, hs⟩ := exists_sqp c hc0
          have hrs : r = d * s := hr.unique (hs.mul (by omega))
          have hs0 : 0 < s := by
            rcases Nat.eq_zero_or_pos s with h | h
            · subst h; have := hs.1; simp at this; omega
            · exact h
          have hp1 : p * d ≤ 1000000 := by
            have h1 : p * d * 1 ≤ p * d * s := Nat.mul_le_mul_left _ hs0
            rw [hrs, ← Nat.mul_assoc] at hpr
            omega
          have hpl : p ≤ 1000000 := by
            have : p * 1 ≤ p * d := Nat.mul_le_mul_left p (by omega)
            omega
          refine spec_sqPart_div _ p d h2 (by omega) (Nat.mul_mod_right _ _) hn hpl ?_
          rw [Nat.mul_div_cancel_left c (by omega), hrs, ← Nat.mul_assoc]
          exact (ih c hlt (c + 1) d (p * d) s (by omega) hc0 (by omega) h2 hd (by rw [hrs, ← Nat.mul_assoc] at hpr; exact hpr) hs (fun m hm hmd hmc => hc m hm hmd (Nat.dvd_mul_left_of_dvd hmc _))).2
        · have hc' : ∀ c, 2 ≤ c → c < d + 1 → ¬ c * c ∣ n := fun c hc2 hcd => by
            by_cases he : c = d
            · rw [he]; exact hdv
            · exact hc c hc2 (by omega)
          refine spec_sqPart_next n p d h2 (by omega) (fun h => hdv (Nat.dvd_of_mod_eq_zero h)) ?_
          by_cases hdl : d ≤ 1000000
          · exact (ihj (d + 1) p r (by omega) h0 hn (by omega) (by omega) hpr hr hc').1
          · refine hend (d + 1) p r h0 (by omega) ?_ hr hc'
            have := Nat.mul_le_mul (show 2 ≤ d + 1 by omega) (show 1000000 ≤ d + 1 by omega); omega
      refine ⟨?_, key⟩
      by_cases hlt : n < d * d
      · exact hend d p r h0 (by omega) hlt hr hc
      · exact spec_sqPart_in n p d (by omega) (by omega) key
theorem spec_sqPart_ev (n r : Nat) (h0 : 0 < n) (hn : n ≤ 1000000) (hr : IsSqp n r) : Ev (fun k => spec_sqPart.f k n) (r : Int) := by
  have hrn : r ≤ 1000000 := by
    have h1 := Nat.le_of_dvd h0 hr.1
    rcases Nat.lt_or_ge r 1000001 with h | h
    · omega
    · have := Nat.mul_le_mul h h; omega
  have := (spec_sqPart_l n n 2 1 r (by omega) h0 hn (Nat.le_refl _) (by omega) (by omega) hr (fun c h1 h2 => by omega)).1
  rw [Nat.one_mul] at this
  exact this
/-- The longest run, its first number, and the run that ends at n. -/
def lsq : Nat → Nat × Nat × Nat
  | 0 => (0, 0, 0)
  | n + 1 => if sqf (n + 1) = true then ((lsq n).1, (lsq n).2.1, 0) else if (lsq n).2.2 + 1 > (lsq n).1 then ((lsq n).2.2 + 1, n + 1 - ((lsq n).2.2 + 1) + 1, (lsq n).2.2 + 1) else ((lsq n).1, (lsq n).2.1, (lsq n).2.2 + 1)
theorem lsq_bd : ∀ n, (lsq n).1 ≤ n ∧ (lsq n).2.2 ≤ n
  | 0 => by simp [lsq]
  | n + 1 => by
    have := lsq_bd n
    simp only [lsq]
    split
    · exact ⟨by simp only; omega, by simp only; omega⟩
    · split
      · exact ⟨by simp only; omega, by simp only; omega⟩
      · exact ⟨by simp only; omega, by simp only; omega⟩
theorem spec_LongestSquareful_l (n : Nat) (hn : n ≤ 600) : ∀ (j i : Nat), n + 1 ≤ i + j → i ≤ n → Ev (fun k => spec_LongestSquareful.l0 k n ((lsq i).1 : Int) ((lsq i).2.1 : Int) ((lsq i).2.2 : Int) ((i + 1 : Nat) : Int)) (((lsq n).1 : Int), ((lsq n).2.1 : Int), true) := by
  intro j
  induction j with
  | zero => intro i h1 h2; omega
  | succ j ih =>
    intro i h1 h2
    by_cases he : i = n
    · subst he
      refine Ev.done fun k => ?_
      simp only [spec_LongestSquareful.l0]
      rw [if_neg (by omega)]
    · have hb := lsq_bd i
      obtain ⟨r, hr⟩ := exists_sqp (i + 1) (by omega)
      have hiff := hr.eq_one_iff (by omega)
      have hih := ih (i + 1) (by omega) (by omega)
      have e1 : wrap64 ((((lsq i).2.2 : Nat) : Int) + 1) = (((lsq i).2.2 + 1 : Nat) : Int) := wr_succ (by omega)
      have e2 : wrap64 (((i + 1 : Nat) : Int) + 1) = ((i + 1 + 1 : Nat) : Int) := wr_succ (by omega)
      have e3 : wrap64 (wrap64 (((i + 1 : Nat) : Int) - (((lsq i).2.2 + 1 : Nat) : Int)) + 1) = ((i + 1 - ((lsq i).2.2 + 1) + 1 : Nat) : Int) := by
        have : wrap64 (((i + 1 : Nat) : Int) - (((lsq i).2.2 + 1 : Nat) : Int)) = ((i + 1 - ((lsq i).2.2 + 1) : Nat) : Int) := by rw [wri (by omega) (by omega)]; omega
        rw [this, wr_succ (by omega)]
      refine Ev.step (f := fun k => (spec_sqPart.f k ((i + 1 : Nat) : Int)).bind fun t => if t = 1 then spec_LongestSquareful.l0 k n ((lsq i).1 : Int) ((lsq i).2.1 : Int) 0 ((i + 1 + 1 : Nat) : Int) else (if (((lsq i).2.2 + 1 : Nat) : Int) > ((lsq i).1 : Int) then spec_LongestSquareful.l0 k n (((lsq i).2.2 + 1 : Nat) : Int) ((i + 1 - ((lsq i).2.2 + 1) + 1 : Nat) : Int) (((lsq i).2.2 + 1 : Nat) : Int) ((i + 1 + 1 : Nat) : Int) else spec_LongestSquareful.l0 k n ((lsq i).1 : Int) ((lsq i).2.1 : Int) (((lsq i).2.2 + 1 : Nat) : Int) ((i + 1 + 1 : Nat) : Int))) (fun k => ?_) ((spec_sqPart_ev (i + 1) r (by omega) (by omega) hr).bind ?_)
      · simp only [spec_LongestSquareful.l0]
        rw [if_pos (by omega), e1, e2, e3]
      · by_cases hs : sqf (i + 1) = true
        · have h1 := hiff.2 hs
          simp only [h1, lsq, hs, if_true] at hih ⊢
          exact hih
        · have h1 : ¬ ((r : Int) = 1) := fun hc => hs (hiff.1 (by omega))
          simp only [if_neg h1]
          simp only [lsq, if_neg hs] at hih
          by_cases hg : (lsq i).2.2 + 1 > (lsq i).1
          · simp only [if_pos hg] at hih
            refine Ev.congr (fun k => if_pos (by omega)) hih
          · simp only [if_neg hg] at hih
            refine Ev.congr (fun k => if_neg (by omega)) hih
theorem impl_LongestSquareful_l (n : Nat) (hn : n ≤ 600) : ∀ (j i : Nat), n + 1 ≤ i + j → i ≤ n → Ev (fun k => impl_LongestSquareful.l0 k n ((lsq i).1 : Int) ((lsq i).2.1 : Int) ((lsq i).2.2 : Int) ((i + 1 : Nat) : Int)) (((lsq n).1 : Int), ((lsq n).2.1 : Int), true) := by
  intro j
  induction j with
  | zero => intro i h1 h2; omega
  | succ j ih =>
    intro i h1 h2
    by_cases he : i = n
    · subst he
      refine Ev.done fun k => ?_
      simp only [impl_LongestSquareful.l0]
      rw [if_neg (by omega)]
    · have hb := lsq_bd i
      have hiff := sgn_ne (i + 1)
      have hih := ih (i + 1) (by omega) (by omega)
      have e1 : wrap64 ((((lsq i).2.2 : Nat) : Int) + 1) = (((lsq i).2.2 + 1 : Nat) : Int) := wr_succ (by omega)
      have e2 : wrap64 (((i + 1 : Nat) : Int) + 1) = ((i + 1 + 1 : Nat) : Int) := wr_succ (by omega)
      have e3 : wrap64 (wrap64 (((i + 1 : Nat) : Int) - (((lsq i).2.2 + 1 : Nat) : Int)) + 1) = ((i + 1 - ((lsq i).2.2 + 1) + 1 : Nat) : Int) := by
        have : wrap64 (((i + 1 : Nat) : Int) - (((lsq i).2.2 + 1 : Nat) : Int)) = ((i + 1 - ((lsq i).2.2 + 1) : Nat) : Int) := by rw [wri (by omega) (by omega)]; omega
        rw [this, wr_succ (by omega)]
      refine Ev.step (f := fun k => (impl_signOf.f k ((i + 1 : Nat) : Int)).bind fun t => if t = 0 then (if (((lsq i).2.2 + 1 : Nat) : Int) > ((lsq i).1 : Int) then impl_LongestSquareful.l0 k n (((lsq i).2.2 + 1 : Nat) : Int) ((i + 1 - ((lsq i).2.2 + 1) + 1 : Nat) : Int) (((lsq i).2.2 + 1 : Nat) : Int) ((i + 1 + 1 : Nat) : Int) else impl_LongestSquareful.l0 k n ((lsq i).1 : Int) ((lsq i).2.1 : Int) (((lsq i).2.2 + 1 : Nat) : Int) ((i + 1 + 1 : Nat) : Int)) else impl_LongestSquareful.l0 k n ((lsq i).1 : Int) ((lsq i).2.1 : Int) 0 ((i + 1 + 1 : Nat) : Int)) (fun k => ?_) ((impl_signOf_ev (i + 1) (by omega)).bind ?_)
      · simp only [impl_LongestSquareful.l0]
        have e4 : ¬ ((0 : Int) > ((lsq i).1 : Int)) := by omega
        simp only [if_neg e4]
        rw [if_pos (by omega), e1, e2, e3]
      · by_cases hs : sqf (i + 1) = true
        · have h1 := hiff.2 hs
          simp only [if_neg h1]
          simp only [lsq, hs, if_true] at hih
          exact hih
        · have h1 : sgn (i + 1) = 0 := Classical.byContradiction fun hc => hs (hiff.1 hc)
          simp only [if_pos h1]
          simp only [lsq, if_neg hs] at hih
          by_cases hg : (lsq i).2.2 + 1 > (lsq i).1
          · simp only [if_pos hg] at hih
            refine Ev.congr (fun k => if_pos (by omega)) hih
          · simp only [if_neg hg] at hih
            refine Ev.congr (fun k => if_neg (by omega)) hih
theorem spec_LongestSquareful_ev (n : Nat) (hn : n ≤ 600) : Ev (fun k => spec_LongestSquareful.f k n) (((lsq n).1 : Int), ((lsq n).2.1 : Int), true) := by
  unfold spec_LongestSquareful.f
  rw [spec_sqMost_eq, decide_eq_true (by omega)]
  simp only [Option.bind_some, if_true]
  exact spec_LongestSquareful_l n hn (n + 1) 0 (by omega) (by omega)
theorem impl_LongestSquareful_ev (n : Nat) (hn : n ≤ 600) : Ev (fun k => impl_LongestSquareful.f k n) (((lsq n).1 : Int), ((lsq n).2.1 : Int), true) := by
  unfold impl_LongestSquareful.f
  rw [impl_isMost_eq, decide_eq_true (by omega)]
  simp only [Option.bind_some, if_true]
  exact impl_LongestSquareful_l n hn (n + 1) 0 (by omega) (by omega)
theorem FnExactLongestSquareful : laws_FnExactLongestSquareful.Pure := by
  intro a _
  apply Ev.rounds
  unfold laws_FnExactLongestSquareful.f
  by_cases h : 0 ≤ a ∧ a ≤ 600
  · obtain ⟨n, rfl⟩ := Int.eq_ofNat_of_zero_le (show 0 ≤ a by omega)
    refine (spec_LongestSquareful_ev n (by omega)).bind ((impl_LongestSquareful_ev n (by omega)).bind ?_)
    simp only [bne_self_eq_false, Bool.false_eq_true, if_false, if_true]
    exact Ev.now _
  · refine Ev.const fun k => ?_
    unfold spec_LongestSquareful.f impl_LongestSquareful.f
    rw [spec_sqMost_eq, impl_isMost_eq, decide_eq_false h]
    rfl
end Go.Proofs.Ythmjkdkpoapchaa.Pure
