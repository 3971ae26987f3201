/- FnDivisorsTold answers as the reference does, for every argument. -/
import Derived.Test.YtfhfbicejddoiaaPFnDivisorsToldx7
import Derived.Test.YtfhfbicejddoiaaNtC
import Derived.Test.YtfhfbicejddoiaaNtE
namespace Go.Proofs.Ytfhfbicejddoiaa.Pure
set_option linter.unusedVariables false
open Go Go.RowKit Go.Proofs.Ytfhfbicejddoiaa.PFnDivisorsTold Go.Proofs.YtfhfbicejddoiaaW.PrintWords Go.Proofs.YtfhfbicejddoiaaW.PrintLast Go.Proofs.Ytfhfbicejddoiaa.Nt
theorem Ev.done {α : Type} {g : Nat → Option α} {r : α} (h : ∀ k, g (k + 1) = some r) : Ev g r := Ev.step (f := fun _ => some r) h (Ev.now r)
theorem Ev.const {α : Type} {g : Nat → Option α} {r : α} (h : ∀ k, g k = some r) : Ev g r := Ev.congr (f := fun _ => some r) h (Ev.now r)
theorem wr {a : Nat} (h : a < 9223372036854775808) : wrap64 (a : Int) = a := by unfold wrap64; omega
theorem wri {a : Int} (h0 : -9223372036854775808 ≤ a) (h : a < 9223372036854775808) : wrap64 a = a := by unfold wrap64; omega
theorem wr_mul {a b : Nat} (h : a * b < 9223372036854775808) : wrap64 ((a : Int) * b) = ((a * b : Nat) : Int) := by rw [← Int.natCast_mul]; exact wr h
theorem wr_succ {a : Nat} (h : a < 9223372036854775807) : wrap64 ((a : Int) + 1) = ((a + 1 : Nat) : Int) := wr (a := a + 1) (by omega)
theorem wr_tdiv {a b : Nat} (h : a < 9223372036854775808) : wrap64 (Int.tdiv (a : Int) b) = ((a / b : Nat) : Int) := wr (a := a / b) (Nat.lt_of_le_of_lt (Nat.div_le_self a b) h)
theorem tm (a b : Nat) : Int.tmod (a : Int) b = ((a % b : Nat) : Int) := rfl
theorem sq_lt {a b : Nat} (h : a ≤ 3037000499) (k : b ≤ 3037000499) : a * b < 9223372036854775808 := Nat.lt_of_le_of_lt (Nat.mul_le_mul h k) (by decide)
theorem spec_l1In_eq (a b c : Int) : spec_l1In.f a b c = some (decide (b ≤ a ∧ a ≤ c)) := by
  unfold spec_l1In.f
  by_cases h : a ≥ b
  · rw [if_pos h, decide_eq_decide.2 (show a ≤ c ↔ b ≤ a ∧ a ≤ c from ⟨fun k => ⟨h, k⟩, fun k => k.2⟩)]
  · rw [if_neg h, decide_eq_false (fun k => h k.1)]
theorem spec_dvGood_eq (a : Int) : spec_dvGood.f a = some (decide (1 ≤ a ∧ a ≤ 1000000)) := by
  unfold spec_dvGood.f; rw [spec_l1In_eq]; rfl
theorem impl_isDivided_eq (a : Int) : impl_isDivided.f a = some (decide (1 ≤ a ∧ a ≤ 1000000)) := by
  unfold impl_isDivided.f
  by_cases h : a ≥ 1
  · rw [if_pos h, decide_eq_decide.2 (show a ≤ 1000000 ↔ 1 ≤ a ∧ a ≤ 1000000 from ⟨fun k => ⟨h, k⟩, fun k => k.2⟩)]
  · rw [if_neg h, decide_eq_false (fun k => h k.1)]
theorem facs_len : ∀ (n : Nat), (facs n).length ≤ n := by
  intro n
  induction n using Nat.strongRecOn with
  | _ n ih =>
    by_cases h : n < 2
    · rw [facs_small h]; simp
    · have hn : 2 ≤ n := by omega
      have := rs_lt (lf_two_le hn) (by omega) (lf_dvd hn)
      have := ih _ this
      rw [facs_cons hn, List.length_cons]; omega
/-- A list of primes and exponents as the program's rows. -/
def rowsOf (l : List (Nat × Nat)) : List (List Int) := l.map fun f => [(f.1 : Int), (f.2 : Int)]
theorem getD_mid {α : Type} (pre : List α) (x : α) (l : List α) (d : α) : (pre ++ x :: l).getD pre.length d = x := by simp
theorem rows_get (pre : List (Nat × Nat)) (x : Nat × Nat) (l : List (Nat × Nat)) : (rowsOf (pre ++ x :: l)).getD pre.length [] = [(x.1 : Int), (x.2 : Int)] := by
  simp [rowsOf]
theorem rows_len (l : List (Nat × Nat)) : (rowsOf l).length = l.length := by simp [rowsOf]
theorem impl_leastFactor_l (n : Nat) (h2 : 2 ≤ n) (hn : n ≤ 2000000000) : ∀ (j d : Nat), n + 1 ≤ d + j → 2 ≤ d → d ≤ n + 1 → Above d n → Ev (fun k => impl_leastFactor.l0 k n d) (lf n : Int) := by
  have hend : ∀ d : Nat, d ≤ n + 1 → n < d * d → Above d n → Ev (fun k => impl_leastFactor.l0 k n d) (lf n : Int) := by
    intro d hd hlt ha
    rw [lf_eq h2 (isLf_self h2 hlt (fun m hm hmd hmn => by have := ha m hm hmn; omega))]
    refine Ev.done fun k => ?_
    simp only [impl_leastFactor.l0]
    rw [wr_mul (sq_lt (by omega) (by omega)), if_neg (by omega)]
  intro j
  induction j with
  | zero =>
    intro d hj hd2 hd ha
    exact hend d hd (by have := Nat.mul_le_mul_right d hd2; omega) ha
  | succ j ih =>
    intro d hj hd2 hd ha
    by_cases hlt : n < d * d
    · exact hend d hd hlt ha
    · have hdn : d ≤ n := by have := Nat.mul_le_mul_right d hd2; omega
      by_cases hm : n % d = 0
      · rw [(ha.lf hd2 (by omega) (Nat.dvd_of_mod_eq_zero hm)).2]
        refine Ev.done fun k => ?_
        simp only [impl_leastFactor.l0]
        rw [wr_mul (sq_lt (by omega) (by omega)), tm, if_pos (by omega), if_neg (by omega), if_pos (by omega)]
      · refine Ev.step (fun k => ?_) (ih (d + 1) (by omega) (by omega) (by omega) (ha.succ (fun h => hm (Nat.mod_eq_zero_of_dvd h))))
        simp only [impl_leastFactor.l0]
        rw [wr_mul (sq_lt (by omega) (by omega)), tm, if_pos (by omega), if_neg (by omega), if_neg (by omega), wr_succ (by omega)]
theorem impl_leastFactor_ev (n : Nat) (h2 : 2 ≤ n) (hn : n ≤ 2000000000) : Ev (fun k => impl_leastFactor.f k n) (lf n : Int) :=
  impl_leastFactor_l n h2 hn n 2 (by omega) (Nat.le_refl _) (by omega) (Above.two n)
theorem impl_factors_l1 (p : Nat) (hp : 2 ≤ p) : ∀ (n : Nat) (acc : List (List Int)) (e : Nat) {v : List (List Int)}, 0 < n → n ≤ 2000000000 → e + n ≤ 4000000000 → p ≤ 2000000000 → acc.length + 1 ≤ 3000000000 →
    Ev (fun k => impl_factors.l0 k (rs p n) (acc ++ [[(p : Int), ((e + vl p n : Nat) : Int)]])) v → Ev (fun k => impl_factors.l1 k n acc p e) v := by
  intro n
  induction n using Nat.strongRecOn with
  | _ n ih =>
    intro acc e v h0 hn he hpb hl h
    by_cases hd : p ∣ n
    · obtain ⟨c, rfl⟩ := hd
      have hc0 : 0 < c := by
        rcases Nat.eq_zero_or_pos c with h | h
        · subst h; simp at h0
        · exact h
      have hlt : c < p * c := by have := Nat.mul_le_mul_right c hp; omega
      rw [rs_mul_self hp hc0, vl_mul_self hp hc0] at h
      refine Ev.step (fun k => ?_) (ih c hlt acc (e + 1) (v := v) hc0 (by omega) (by omega) hpb hl (by rw [show e + 1 + vl p c = e + (vl p c + 1) by omega]; exact h))
      simp only [impl_factors.l1]
      rw [tm, if_neg (by omega), if_pos (by simp), wr_tdiv (by omega), wr_succ (by omega), Nat.mul_div_cancel_left c (by omega)]
    · rw [rs_of_not_dvd hp h0 hd, vl_zero hp h0 hd] at h
      refine Ev.step (fun k => ?_) h
      simp only [impl_factors.l1]
      have : n % p ≠ 0 := fun hm => hd (Nat.dvd_of_mod_eq_zero hm)
      rw [tm, if_neg (by omega), if_neg (by omega), if_pos (by omega), Nat.add_zero]
theorem impl_factors_l0 : ∀ (n : Nat) (acc : List (List Int)), n ≤ 1000000000 → acc.length + n ≤ 2000000000 → Ev (fun k => impl_factors.l0 k n acc) (acc ++ rowsOf (facs n)) := by
  intro n
  induction n using Nat.strongRecOn with
  | _ n ih =>
    intro acc hn hl
    by_cases h : n < 2
    · rw [facs_small h]
      refine Ev.done fun k => ?_
      simp only [impl_factors.l0]
      rw [if_neg (by omega)]
      simp [rowsOf]
    · have h2 : 2 ≤ n := by omega
      have hp := lf_two_le h2
      have hple := lf_le h2
      have hlt := rs_lt hp (by omega) (lf_dvd h2)
      have key : Ev (fun k => impl_factors.l1 k n acc (lf n) 0) (acc ++ rowsOf (facs n)) := by
        have := ih _ hlt (acc ++ [[(lf n : Int), ((0 + vl (lf n) n : Nat) : Int)]]) (by omega) (by rw [List.length_append, List.length_singleton]; omega)
        refine impl_factors_l1 (lf n) hp n acc 0 (by omega) (by omega) (by omega) (by omega) (by omega) ?_
        rw [facs_cons h2]
        rw [List.append_assoc] at this
        simpa [rowsOf] using this
      refine Ev.step (f := fun k => (impl_leastFactor.f k n).bind fun t => impl_factors.l1 k n acc t 0) (fun k => ?_) ((impl_leastFactor_ev n h2 (by omega)).bind key)
      simp only [impl_factors.l0]
      rw [if_pos (by omega)]
theorem impl_factors_ev (n : Nat) (hn : n ≤ 1000000000) : Ev (fun k => impl_factors.f k n) (rowsOf (facs n)) := by
  have := impl_factors_l0 n [] hn (by simp; omega)
  exact this
theorem spec_prLeast_l (n : Nat) (h2 : 2 ≤ n) (hn : n ≤ 2000000000) : ∀ (j d : Nat), n + 1 ≤ d + j → 2 ≤ d → d ≤ n + 1 → Above d n → Ev (fun k => spec_prLeast.l0 k n d) (lf n : Int) := by
  have hend : ∀ d : Nat, d ≤ n + 1 → n < d * d → Above d n → Ev (fun k => spec_prLeast.l0 k n d) (lf n : Int) := by
    intro d hd hlt ha
    rw [lf_eq h2 (isLf_self h2 hlt (fun m hm hmd hmn => by have := ha m hm hmn; omega))]
    refine Ev.done fun k => ?_
    simp only [spec_prLeast.l0]
    rw [wr_mul (sq_lt (by omega) (by omega)), if_neg (by omega)]
  intro j
  induction j with
  | zero =>
    intro d hj hd2 hd ha
    exact hend d hd (by have := Nat.mul_le_mul_right d hd2; omega) ha
  | succ j ih =>
    intro d hj hd2 hd ha
    by_cases hlt : n < d * d
    · exact hend d hd hlt ha
    · have hdn : d ≤ n := by have := Nat.mul_le_mul_right d hd2; omega
      by_cases hm : n % d = 0
      · rw [(ha.lf hd2 (by omega) (Nat.dvd_of_mod_eq_zero hm)).2]
        refine Ev.done fun k => ?_
        simp only [spec_prLeast.l0]
        rw [wr_mul (sq_lt (by omega) (by omega)), tm, if_pos (by omega), if_neg (by omega), if_pos (by omega)]
      · refine Ev.step (fun k => ?_) (ih (d + 1) (by omega) (by omega) (by omega) (ha.succ (fun h => hm (Nat.mod_eq_zero_of_dvd h))))
        simp only [spec_prLeast.l0]
        rw [wr_mul (sq_lt (by omega) (by omega)), tm, if_pos (by omega), if_neg (by omega), if_neg (by omega), wr_succ (by omega)]
theorem spec_prLeast_ev (n : Nat) (h2 : 2 ≤ n) (hn : n ≤ 2000000000) : Ev (fun k => spec_prLeast.f k n) (lf n : Int) :=
  spec_prLeast_l n h2 hn n 2 (by omega) (Nat.le_refl _) (by omega) (Above.two n)
theorem spec_prFactors_l1 (p : Nat) (hp : 2 ≤ p) : ∀ (n : Nat) (acc : List (List Int)) (e : Nat) {v : List (List Int)}, 0 < n → n ≤ 2000000000 → e + n ≤ 4000000000 → p ≤ 2000000000 → acc.length + 1 ≤ 3000000000 →
    Ev (fun k => spec_prFactors.l0 k (rs p n) (acc ++ [[(p : Int), ((e + vl p n : Nat) : Int)]])) v → Ev (fun k => spec_prFactors.l1 k n acc p e) v := by
  intro n
  induction n using Nat.strongRecOn with
  | _ n ih =>
    intro acc e v h0 hn he hpb hl h
    by_cases hd : p ∣ n
    · obtain ⟨c, rfl⟩ := hd
      have hc0 : 0 < c := by
        rcases Nat.eq_zero_or_pos c with h | h
        · subst h; simp at h0
        · exact h
      have hlt : c < p * c := by have := Nat.mul_le_mul_right c hp; omega
      rw [rs_mul_self hp hc0, vl_mul_self hp hc0] at h
      refine Ev.step (fun k => ?_) (ih c hlt acc (e + 1) (v := v) hc0 (by omega) (by omega) hpb hl (by rw [show e + 1 + vl p c = e + (vl p c + 1) by omega]; exact h))
      simp only [spec_prFactors.l1]
      rw [tm, if_neg (by omega), if_pos (by simp), wr_tdiv (by omega), wr_succ (by omega), Nat.mul_div_cancel_left c (by omega)]
    · rw [rs_of_not_dvd hp h0 hd, vl_zero hp h0 hd] at h
      refine Ev.step (fun k => ?_) h
      simp only [spec_prFactors.l1]
      have : n % p ≠ 0 := fun hm => hd (Nat.dvd_of_mod_eq_zero hm)
      rw [tm, if_neg (by omega), if_neg (by omega), if_pos (by omega), Nat.add_zero]
theorem spec_prFactors_l0 : ∀ (n : Nat) (acc : List (List Int)), n ≤ 1000000000 → acc.length + n ≤ 2000000000 → Ev (fun k => spec_prFactors.l0 k n acc) (acc ++ rowsOf (facs n)) := by
  intro n
  induction n using Nat.strongRecOn with
  | _ n ih =>
    intro acc hn hl
    by_cases h : n < 2
    · rw [facs_small h]
      refine Ev.done fun k => ?_
      simp only [spec_prFactors.l0]
      rw [if_neg (by omega)]
      simp [rowsOf]
    · have h2 : 2 ≤ n := by omega
      have hp := lf_two_le h2
      have hple := lf_le h2
      have hlt := rs_lt hp (by omega) (lf_dvd h2)
      have key : Ev (fun k => spec_prFactors.l1 k n acc (lf n) 0) (acc ++ rowsOf (facs n)) := by
        have := ih _ hlt (acc ++ [[(lf n : Int), ((0 + vl (lf n) n : Nat) : Int)]]) (by omega) (by rw [List.length_append, List.length_singleton]; omega)
        refine spec_prFactors_l1 (lf n) hp n acc 0 (by omega) (by omega) (by omega) (by omega) (by omega) ?_
        rw [facs_cons h2]
        rw [List.append_assoc] at this
        simpa [rowsOf] using this
      refine Ev.step (f := fun k => (spec_prLeast.f k n).bind fun t => spec_prFactors.l1 k n acc t 0) (fun k => ?_) ((spec_prLeast_ev n h2 (by omega)).bind key)
      simp only [spec_prFactors.l0]
      rw [if_pos (by omega)]
theorem spec_prFactors_ev (n : Nat) (hn : n ≤ 1000000000) : Ev (fun k => spec_prFactors.f k n) (rowsOf (facs n)) := by
  have := spec_prFactors_l0 n [] hn (by simp; omega)
  exact this
/-- A list of naturals as the program's ints. -/
def ints (l : List Nat) : List Int := l.map fun d : Nat => (d : Int)
theorem ints_len (l : List Nat) : (ints l).length = l.length := by simp [ints]
theorem ints_app (l m : List Nat) : ints l ++ ints m = ints (l ++ m) := by simp [ints]
theorem ints_get (pre : List Nat) (x : Nat) (l : List Nat) : rd (ints (pre ++ x :: l)) (pre.length : Int) = x := by
  unfold rd
  rw [Int.toNat_natCast]
  simp [ints]
theorem ints_take (l m : List Nat) : (ints (l ++ m)).take ((l.length : Nat) : Int).toNat = ints l := by
  rw [Int.toNat_natCast]
  unfold ints
  rw [List.map_append, List.take_left' (by simp)]
theorem expand_pre (D : List Nat) (p : Nat) : ∀ e, ∃ r, expand D p e = D ++ r
  | 0 => ⟨[], by simp [expand]⟩
  | e + 1 => by
    obtain ⟨r, hr⟩ := expand_pre D p e
    exact ⟨r ++ D.map (· * p ^ (e + 1)), by simp only [expand]; rw [hr, List.append_assoc]⟩
theorem impl_divisors_l2 (f : List Int) (b : Int) (rows : List (List Int)) (n3 ri ex jj : Int) (m : Nat) {v : List Int} : ∀ (suf pre acc : List Nat), (∀ d ∈ suf, d * m < 9223372036854775808) → (acc.length + suf.length) ≤ 4000000000 → (pre ++ suf).length ≤ 4000000000 →
    Ev (fun k => impl_divisors.l1 k (ints (acc ++ suf.map (· * m))) f b m rows n3 ri ex (wrap64 (jj + 1))) v →
    Ev (fun k => impl_divisors.l2 k (ints acc) f b m rows n3 ri ex jj (ints (pre ++ suf)) ((pre ++ suf).length : Nat) (pre.length : Nat)) v
  | [], pre, acc, _, _, _, h => by
    refine Ev.step (fun k => ?_) h
    simp only [impl_divisors.l2]
    rw [if_neg (by simp), List.map_nil, List.append_nil]
  | d :: suf, pre, acc, hb, hl, hl2, h => by
    have hlen : (pre ++ d :: suf).length = pre.length + 1 + suf.length := by simp; omega
    have hsl : (d :: suf).length = suf.length + 1 := by simp
    have ih := impl_divisors_l2 f b rows n3 ri ex jj m (v := v) suf (pre ++ [d]) (acc ++ [d * m]) (fun x hx => hb x (by simp [hx])) (by simp; omega) (by simp; omega) (by simpa using h)
    rw [List.append_assoc] at ih
    simp only [List.singleton_append] at ih
    refine Ev.step (fun k => ?_) ih
    simp only [impl_divisors.l2]
    have hil := ints_len (pre ++ d :: suf)
    have hal := ints_len acc
    rw [if_pos (by omega), if_pos (by omega), if_pos (by omega), if_pos (by omega), ints_get, wr_mul (hb d (by simp)), wr_succ (by omega)]
    congr 1
    · simp [ints]
    · simp
theorem impl_divisors_l1 (rows : List (List Int)) (n3 ri : Int) (p e : Nat) (D : List Nat) (N : Nat) (hN : N ≤ 1000000000) (hp : 2 ≤ p) (hpe : p ^ e ≤ N) (hl : D.length * (e + 1) ≤ N) (hb : ∀ d ∈ D, d * p ^ e ≤ N) {v : List Int}
    (h : Ev (fun k => impl_divisors.l0 k (ints (expand D p e)) rows n3 (wrap64 (ri + 1))) v) : ∀ (r j : Nat), j + r = e → 
    Ev (fun k => impl_divisors.l1 k (ints (expand D p j)) [(p : Int), (e : Int)] (D.length : Nat) ((p ^ j : Nat) : Int) rows n3 ri (e : Int) (j : Int)) v
  | 0, j, hj => by
    have : j = e := by omega
    subst this
    refine Ev.step (fun k => ?_) h
    simp only [impl_divisors.l1]
    rw [if_neg (by omega)]
  | r + 1, j, hj => by
    have ih := impl_divisors_l1 rows n3 ri p e D N hN hp hpe hl hb h r (j + 1) (by omega)
    have hpj : p ^ (j + 1) ≤ p ^ e := Nat.pow_le_pow_right (by omega) (by omega)
    have hle := expand_len D p j
    have hle1 := expand_len D p (j + 1)
    have hm1 : D.length * (j + 1) ≤ D.length * (e + 1) := Nat.mul_le_mul_left _ (by omega)
    have hm0 : D.length ≤ D.length * (j + 1) := Nat.le_mul_of_pos_right _ (by omega)
    have hee : e < p ^ e := by have := succ_le_pow hp e; omega
    have hrd : rd [(p : Int), (e : Int)] 0 = p := rfl
    obtain ⟨t, ht⟩ := expand_pre D p j
    have hpos : 0 < p ^ (j + 1) := Nat.pow_pos (by omega)
    have hw : wrap64 (((p ^ j : Nat) : Int) * p) = ((p ^ (j + 1) : Nat) : Int) := by
      rw [wr_mul (Nat.lt_of_le_of_lt (Nat.le_of_eq (Nat.pow_succ (n := p) (m := j)).symm) (show p ^ (j + 1) < 9223372036854775808 by omega)), Nat.pow_succ]
    have key := impl_divisors_l2 [(p : Int), (e : Int)] (D.length : Nat) rows n3 ri e j (p ^ (j + 1)) (v := v) D [] (expand D p j) (fun d hd => by
      have h1 := hb d hd
      have h2 : d * p ^ (j + 1) ≤ d * p ^ e := Nat.mul_le_mul_left _ hpj
      omega) (by rw [hle]; omega) (by simp; omega) (by rw [wr_succ (by omega)]; exact ih)
    simp only [List.nil_append, List.length_nil] at key
    refine Ev.step (fun k => ?_) key
    simp only [impl_divisors.l1]
    rw [if_pos (by omega), if_pos (by simp), if_pos (by omega), if_pos (by rw [ints_len, hle]; omega), hrd, hw]
    rw [show (ints (expand D p j)).take ((D.length : Nat) : Int).toNat = ints D by rw [ht]; exact ints_take D t]
    simp only [Option.bind_some]
    rw [ints_len]
    rfl
theorem impl_divisors_l0 (N : Nat) (hN : N ≤ 1000000000) : ∀ (l pre : List (Nat × Nat)) (D : List Nat) {c : Nat}, IsFac c l → D.length * fprod l ≤ N → fprod l ≤ N → (∀ d ∈ D, d * fprod l ≤ N) → (pre ++ l).length ≤ 2000000000 →
    Ev (fun k => impl_divisors.l0 k (ints D) (rowsOf (pre ++ l)) ((pre ++ l).length : Nat) (pre.length : Nat)) ((ints (rawL l D)).mergeSort fun x y => decide (x ≤ y))
  | [], pre, D, _, _, h1, _, _, hl => by
    refine Ev.done fun k => ?_
    simp only [impl_divisors.l0]
    simp only [fprod, Nat.mul_one] at h1
    rw [if_neg (by simp)]
    unfold slices_Sort_int_int.f
    rw [if_pos (by rw [ints_len]; omega)]
    rfl
  | (p, e) :: l, pre, D, _, hf, h1, h2, hb, hl => by
    have hlen : (pre ++ (p, e) :: l).length = pre.length + 1 + l.length := by simp; omega
    have hlr := rows_len (pre ++ (p, e) :: l)
    have hget : rd_L2 (rowsOf (pre ++ (p, e) :: l)) (pre.length : Int) = [(p : Int), (e : Int)] := by
      unfold rd_L2; rw [Int.toNat_natCast]; exact rows_get pre (p, e) l
    have hp := hf.2.1.two_le
    have hfp : 0 < fprod l := fprod_pos hf.2.2.2
    have hee : e + 1 ≤ p ^ e := succ_le_pow hp e
    simp only [fprod] at h1 h2 hb
    have hpe : p ^ e ≤ p ^ e * fprod l := Nat.le_mul_of_pos_right _ hfp
    have hd1 : D.length * (e + 1) * fprod l ≤ D.length * (p ^ e * fprod l) := by rw [Nat.mul_assoc]; exact Nat.mul_le_mul_left _ (Nat.mul_le_mul_right _ hee)
    have hd2 : D.length * (e + 1) ≤ D.length * (e + 1) * fprod l := Nat.le_mul_of_pos_right _ hfp
    have hfl : fprod l ≤ p ^ e * fprod l := Nat.le_mul_of_pos_left _ (Nat.pow_pos (by omega))
    have ih := impl_divisors_l0 N hN l (pre ++ [(p, e)]) (expand D p e) hf.2.2.2 (by rw [expand_len]; omega) (by omega) (fun x hx => by
      obtain ⟨d, j, hd, hj, rfl⟩ := (mem_expand D p x e).1 hx
      have h3 := hb d hd
      have h4 : p ^ j ≤ p ^ e := Nat.pow_le_pow_right (by omega) hj
      have h5 : d * p ^ j * fprod l ≤ d * (p ^ e * fprod l) := by rw [Nat.mul_assoc]; exact Nat.mul_le_mul_left _ (Nat.mul_le_mul_right _ h4)
      omega) (by simpa using hl)
    rw [List.append_assoc] at ih
    simp only [List.singleton_append, List.length_append, List.length_singleton] at ih
    have key := impl_divisors_l1 (rowsOf (pre ++ (p, e) :: l)) ((pre ++ (p, e) :: l).length : Nat) (pre.length : Nat) p e D N hN hp (by omega) (by omega) (fun d hd => by
      have h3 := hb d hd
      have h5 : d * p ^ e ≤ d * (p ^ e * fprod l) := Nat.mul_le_mul_left _ hpe
      omega) (by rw [wr_succ (by omega)]; rw [hlen]; rw [List.length_cons] at ih; rw [show pre.length + (l.length + 1) = pre.length + 1 + l.length by omega] at ih; exact ih) e 0 (by omega)
    refine Ev.step (fun k => ?_) key
    simp only [impl_divisors.l0]
    have hr1 : rd [(p : Int), (e : Int)] 1 = e := rfl
    rw [if_pos (by omega), if_pos (by omega), if_pos (by omega), hget, if_pos (by simp), hr1, ints_len]
    rfl
theorem impl_divisors_ev (n : Nat) (h0 : 0 < n) (hn : n ≤ 1000000000) : Ev (fun k => impl_divisors.f k n) (ints (divs n)) := by
  have hl := facs_len n
  have h := impl_divisors_l0 n hn (facs n) [] [1] (facs_fac h0) (by rw [fprod_facs h0]; simp) (by rw [fprod_facs h0]; exact Nat.le_refl _) (fun d hd => by rw [fprod_facs h0]; rw [List.mem_singleton] at hd; rw [hd, Nat.one_mul]; exact Nat.le_refl _) (by simpa using (by omega : (facs n).length ≤ 2000000000))
  rw [show ints (divs n) = (ints (rawL (facs n) [1])).mergeSort fun x y => decide (x ≤ y) from (sort_raw h0).symm]
  refine (impl_factors_ev n hn).bind ?_
  rw [rows_len]
  exact h
/-- The reference's list: the small divisors rise, the great ones fall. -/
theorem dv_done (n : Nat) (h0 : 0 < n) (i : Nat) (lo hi : List Nat) (hsq : n < i * i) (hs : ∀ x ∈ lo, x * x ≤ n)
    (hlp : lo.Pairwise (· < ·)) (hlm : ∀ x, x ∈ lo ↔ x ∣ n ∧ x < i) (hhp : hi.Pairwise (· < ·)) (hhm : ∀ x, x ∈ hi ↔ x ∣ n ∧ n / x < i ∧ n < x * x) : lo ++ hi = divs n := by
  refine sorted_unique (List.pairwise_append.2 ⟨hlp, hhp, fun x hx y hy => ?_⟩) (divs_sorted n) fun x => ?_
  · have h1 := hs x hx
    have h2 := ((hhm y).1 hy).2.2
    rcases Nat.lt_or_ge x y with h | h
    · exact h
    · have := Nat.mul_le_mul h h
      omega
  · rw [mem_divs h0, List.mem_append, hlm, hhm]
    constructor
    · rintro (h | h)
      · exact h.1
      · exact h.1
    · intro h
      rcases Nat.lt_or_ge x i with hx | hx
      · exact .inl ⟨h, hx⟩
      · have hxx := Nat.mul_le_mul hx hx
        refine .inr ⟨h, ?_, by omega⟩
        have h3 : n < i * x := Nat.lt_of_lt_of_le hsq (Nat.mul_le_mul_left _ hx)
        exact (Nat.div_lt_iff_lt_mul (Nat.pos_of_dvd_of_pos h h0)).2 h3
theorem dv_hi_stay (n : Nat) (h0 : 0 < n) (i : Nat) (hi : List Nat) (hhm : ∀ x, x ∈ hi ↔ x ∣ n ∧ n / x < i ∧ n < x * x) (h : ¬ (i ∣ n ∧ i * i < n)) : ∀ x, x ∈ hi ↔ x ∣ n ∧ n / x < i + 1 ∧ n < x * x := by
  intro x
  rw [hhm]
  refine ⟨fun hx => ⟨hx.1, by omega, hx.2.2⟩, fun hx => ⟨hx.1, ?_, hx.2.2⟩⟩
  have he : n / x ≠ i := by
    intro he
    have hm : i * x = n := by rw [← he]; exact Nat.div_mul_cancel hx.1
    refine h ⟨⟨x, hm.symm⟩, ?_⟩
    have h3 := hx.2.2
    rcases Nat.lt_or_ge i x with hix | hix
    · have hi0 : 0 < i := by rcases Nat.eq_zero_or_pos i with h | h; (subst h; omega); exact h
      have := Nat.mul_lt_mul_of_pos_left hix hi0
      omega
    · have := Nat.mul_le_mul_right x hix
      omega
  have := hx.2.1
  omega
theorem dv_hi_cons (n : Nat) (h0 : 0 < n) (i : Nat) (hi1 : 1 ≤ i) (hi : List Nat) (hhp : hi.Pairwise (· < ·)) (hhm : ∀ x, x ∈ hi ↔ x ∣ n ∧ n / x < i ∧ n < x * x) (hd : i ∣ n) (hl : i * i < n) :
    (n / i :: hi).Pairwise (· < ·) ∧ ∀ x, x ∈ n / i :: hi ↔ x ∣ n ∧ n / x < i + 1 ∧ n < x * x := by
  have hm : i * (n / i) = n := Nat.mul_div_cancel' hd
  constructor
  · refine List.pairwise_cons.2 ⟨fun y hy => ?_, hhp⟩
    have hy' := (hhm y).1 hy
    rcases Nat.lt_or_ge (n / i) y with h | h
    · exact h
    · exfalso
      have hyp := Nat.pos_of_dvd_of_pos hy'.1 h0
      have h1 : i * y ≤ n := by have := Nat.mul_le_mul_left i h; omega
      have h2 : i ≤ n / y := (Nat.le_div_iff_mul_le hyp).2 h1
      omega
  · intro x
    rw [List.mem_cons, hhm]
    constructor
    · rintro (rfl | hx)
      · have hlt : i < n / i := by
          rcases Nat.lt_or_ge i (n / i) with h | h
          · exact h
          · have := Nat.mul_le_mul_left i h; omega
        have hdd : n / (n / i) = i := by
          refine Nat.div_eq_of_eq_mul_left (by omega) ?_
          exact hm.symm
        refine ⟨⟨i, by rw [Nat.mul_comm]; exact hm.symm⟩, by rw [hdd]; omega, ?_⟩
        have h3 : i * (n / i) < n / i * (n / i) := Nat.mul_lt_mul_of_pos_right hlt (by omega)
        omega
      · exact ⟨hx.1, by omega, hx.2.2⟩
    · intro hx
      by_cases he : n / x = i
      · left
        have hm2 : i * x = n := by rw [← he]; exact Nat.div_mul_cancel hx.1
        exact (Nat.div_eq_of_eq_mul_right (by omega) hm2.symm).symm
      · exact .inr ⟨hx.1, by omega, hx.2.2⟩
theorem dv_lo_stay (n i : Nat) (lo : List Nat) (hlm : ∀ x, x ∈ lo ↔ x ∣ n ∧ x < i) (h : ¬ i ∣ n) : ∀ x, x ∈ lo ↔ x ∣ n ∧ x < i + 1 := by
  intro x
  rw [hlm]
  refine ⟨fun hx => ⟨hx.1, by omega⟩, fun hx => ⟨hx.1, ?_⟩⟩
  have : x ≠ i := by rintro rfl; exact h hx.1
  omega
theorem dv_lo_snoc (n i : Nat) (lo : List Nat) (hlp : lo.Pairwise (· < ·)) (hlm : ∀ x, x ∈ lo ↔ x ∣ n ∧ x < i) (h : i ∣ n) : (lo ++ [i]).Pairwise (· < ·) ∧ ∀ x, x ∈ lo ++ [i] ↔ x ∣ n ∧ x < i + 1 := by
  constructor
  · refine List.pairwise_append.2 ⟨hlp, List.pairwise_singleton _ _, fun x hx y hy => ?_⟩
    rw [List.mem_singleton] at hy
    subst hy
    exact ((hlm x).1 hx).2
  · intro x
    rw [List.mem_append, List.mem_singleton, hlm]
    constructor
    · rintro (hx | rfl)
      · exact ⟨hx.1, by omega⟩
      · exact ⟨h, by omega⟩
    · intro hx
      by_cases he : x = i
      · exact .inr he
      · exact .inl ⟨hx.1, by omega⟩
theorem spec_dvList_l (n : Nat) (h0 : 0 < n) (hn : n ≤ 1000000000) : ∀ (r i : Nat) (lo hi : List Nat), 1 ≤ i → i ≤ 40000 → 40000 ≤ i + r → lo.length + 1 ≤ i → hi.length + 1 ≤ i → (∀ x ∈ lo, x * x ≤ n) →
    lo.Pairwise (· < ·) → (∀ x, x ∈ lo ↔ x ∣ n ∧ x < i) → hi.Pairwise (· < ·) → (∀ x, x ∈ hi ↔ x ∣ n ∧ n / x < i ∧ n < x * x) →
    Ev (fun k => spec_dvList.l0 k n (ints lo) (ints hi) i) (ints (divs n)) := by
  intro r
  induction r with
  | zero =>
    intro i lo hi hi1 hi2 hr hlo hhi hs hlp hlm hhp hhm
    have he : i = 40000 := by omega
    subst he
    refine Ev.done fun k => ?_
    simp only [spec_dvList.l0]
    have h1 := ints_len lo
    have h2 := ints_len hi
    rw [if_neg (by rw [wr_mul (by omega)]; omega), if_pos (by omega), ints_app, dv_done n h0 40000 lo hi (by omega) hs hlp hlm hhp hhm]
  | succ r ih =>
    intro i lo hi hi1 hi2 hr hlo hhi hs hlp hlm hhp hhm
    have h1 := ints_len lo
    have h2 := ints_len hi
    have hb : i * i ≤ 1600000000 := Nat.mul_le_mul hi2 hi2
    have hw : wrap64 ((i : Int) * i) = ((i * i : Nat) : Int) := wr_mul (by omega)
    by_cases hsq : i * i ≤ n
    · have hi3 : i < 40000 := by
        rcases Nat.lt_or_ge i 40000 with h | h
        · exact h
        · have : i = 40000 := by omega
          subst this; omega
      by_cases hd : i ∣ n
      · have hmod : n % i = 0 := Nat.mod_eq_zero_of_dvd hd
        have hl := dv_lo_snoc n i lo hlp hlm hd
        have hs' : ∀ x ∈ lo ++ [i], x * x ≤ n := by
          intro x hx
          rcases List.mem_append.1 hx with h | h
          · exact hs x h
          · rw [List.mem_singleton] at h; rw [h]; exact hsq
        by_cases hlt : i * i < n
        · have hh := dv_hi_cons n h0 i hi1 hi hhp hhm hd hlt
          have key := ih (i + 1) (lo ++ [i]) (n / i :: hi) (by omega) (by omega) (by omega) (by rw [List.length_append, List.length_singleton]; omega) (by rw [List.length_cons]; omega) hs' hl.1 hl.2 hh.1 hh.2
          refine Ev.step (fun k => ?_) key
          simp only [spec_dvList.l0]
          rw [hw, if_pos (by omega), if_neg (by omega), tm, if_pos (by omega), if_pos (by omega), Option.bind_some, if_pos (by omega), Option.bind_some, if_pos (by simp; omega), wr_succ (by omega), wr_tdiv (by omega)]
          simp [ints]
        · have hh := dv_hi_stay n h0 i hi hhm (fun h => hlt h.2)
          have key := ih (i + 1) (lo ++ [i]) hi (by omega) (by omega) (by omega) (by rw [List.length_append, List.length_singleton]; omega) (by omega) hs' hl.1 hl.2 hhp hh
          refine Ev.step (fun k => ?_) key
          simp only [spec_dvList.l0]
          rw [hw, if_pos (by omega), if_neg (by omega), tm, if_pos (by omega), if_pos (by omega), Option.bind_some, if_neg (by omega), wr_succ (by omega)]
          simp [ints]
      · have hmod : n % i ≠ 0 := fun hm => hd (Nat.dvd_of_mod_eq_zero hm)
        have hh := dv_hi_stay n h0 i hi hhm (fun h => hd h.1)
        have key := ih (i + 1) lo hi (by omega) (by omega) (by omega) (by omega) (by omega) hs hlp (dv_lo_stay n i lo hlm hd) hhp hh
        refine Ev.step (fun k => ?_) key
        simp only [spec_dvList.l0]
        rw [hw, if_pos (by omega), if_neg (by omega), tm, if_neg (by omega), wr_succ (by omega)]
    · refine Ev.done fun k => ?_
      simp only [spec_dvList.l0]
      rw [hw, if_neg (by omega), if_pos (by omega), ints_app, dv_done n h0 i lo hi (by omega) hs hlp hlm hhp hhm]
theorem spec_dvList_ev (n : Nat) (h0 : 0 < n) (hn : n ≤ 1000000000) : Ev (fun k => spec_dvList.f k n) (ints (divs n)) :=
  spec_dvList_l n h0 hn 40000 1 [] [] (by omega) (by omega) (by omega) (by simp) (by simp) (by simp) List.Pairwise.nil (fun x => by
    simp only [List.not_mem_nil, false_iff]
    rintro ⟨h1, h2⟩
    have := Nat.pos_of_dvd_of_pos h1 h0
    omega) List.Pairwise.nil (fun x => by
    simp only [List.not_mem_nil, false_iff]
    rintro ⟨h1, h2, _⟩
    have h3 := Nat.pos_of_dvd_of_pos h1 h0
    have h4 := Nat.le_of_dvd h0 h1
    have := Nat.div_pos h4 h3
    omega)
/-- The sum of a list, as Go's int adds. -/
def wsum : Int → List Int → Int
  | s, [] => s
  | s, x :: l => wsum (wrap64 (s + x)) l
theorem rd_mid (pre : List Int) (x : Int) (l : List Int) : rd (pre ++ x :: l) (pre.length : Int) = x := by unfold rd; rw [Int.toNat_natCast]; simp
theorem lsum_nonneg {f : Nat → Int} (hf : ∀ x, 0 ≤ f x) : ∀ l, 0 ≤ lsum f l
  | [] => Int.le_refl 0
  | x :: l => by have := hf x; have := lsum_nonneg hf l; simp only [lsum]; omega
theorem wsum_eq : ∀ (l : List Nat) (s : Int), 0 ≤ s → s + lsum (fun d => (d : Int)) l < 9223372036854775808 → wsum s (ints l) = s + lsum (fun d => (d : Int)) l
  | [], s, _, _ => by simp [wsum, ints, lsum]
  | d :: l, s, h0, h1 => by
    have h2 := lsum_nonneg (f := fun d : Nat => (d : Int)) (fun x => Int.natCast_nonneg x) l
    simp only [lsum] at h1 ⊢
    show wsum (wrap64 (s + (d : Int))) (ints l) = _
    rw [wri (by omega) (by omega), wsum_eq l (s + d) (by omega) (by omega)]
    omega
theorem sig_le (n : Nat) (h0 : 0 < n) (hn : n ≤ 3000000000) : (n : Int) ≤ lsum (fun d => (d : Int)) (divs n) ∧ lsum (fun d => (d : Int)) (divs n) ≤ n * n ∧ wsum 0 (ints (divs n)) = lsum (fun d => (d : Int)) (divs n) := by
  have h1 := lsum_bd (f := fun d : Nat => (d : Int)) (b := n) (divs n) (fun x hx => by have := divs_pos hx; omega)
  have h2 := divs_len h0
  have h3 : (n : Int) * (divs n).length ≤ n * n := Int.mul_le_mul_of_nonneg_left (by omega) (by omega)
  have h4 : n * n ≤ 3000000000 * 3000000000 := Nat.mul_le_mul hn hn
  have h5 : (n : Int) * n ≤ 3000000000 * 3000000000 := by rw [← Int.natCast_mul]; omega
  refine ⟨?_, by omega, ?_⟩
  · have : divs n = (List.range n).filter (dv n) ++ [n] := by
      unfold divs
      rw [List.range_succ, List.filter_append]
      congr 1
      simp [dv]
      omega
    rw [this, lsum_append]
    have h6 := lsum_nonneg (f := fun d : Nat => (d : Int)) (fun x => Int.natCast_nonneg x) ((List.range n).filter (dv n))
    simp only [lsum]
    omega
  · have := wsum_eq (divs n) 0 (by omega) (by omega)
    rw [this]; omega
theorem spec_dvSum_l : ∀ (suf pre : List Int) (s : Int), (pre ++ suf).length ≤ 4000000000 → Ev (fun k => spec_dvSum.l0 k s (pre ++ suf) ((pre ++ suf).length : Nat) (pre.length : Nat)) (wsum s suf)
  | [], pre, s, _ => by
    refine Ev.done fun k => ?_
    simp only [spec_dvSum.l0]
    rw [if_neg (by simp)]
    rfl
  | x :: suf, pre, s, hl => by
    have hlen : (pre ++ x :: suf).length = pre.length + 1 + suf.length := by simp; omega
    have ih := spec_dvSum_l suf (pre ++ [x]) (wrap64 (s + x)) (by simpa using hl)
    rw [List.append_assoc] at ih
    simp only [List.singleton_append, List.length_append, List.length_singleton] at ih
    refine Ev.step (fun k => ?_) ih
    simp only [spec_dvSum.l0]
    rw [if_pos (by omega), if_pos (by omega), if_pos (by omega), rd_mid, wr_succ (by omega)]
    simp
theorem spec_dvSum_ev (n : Nat) (h0 : 0 < n) (hn : n ≤ 1000000000) : Ev (fun k => spec_dvSum.f k n) (wsum 0 (ints (divs n))) := by
  refine (spec_dvList_ev n h0 hn).bind ?_
  have h1 := divs_len h0
  have h2 := ints_len (divs n)
  exact spec_dvSum_l (ints (divs n)) [] 0 (by rw [List.nil_append]; omega)
theorem impl_sumOf_l : ∀ (suf pre : List Int) (s : Int), (pre ++ suf).length ≤ 4000000000 → Ev (fun k => impl_sumOf.l0 k s (pre ++ suf) ((pre ++ suf).length : Nat) (pre.length : Nat)) (wsum s suf)
  | [], pre, s, _ => by
    refine Ev.done fun k => ?_
    simp only [impl_sumOf.l0]
    rw [if_neg (by simp)]
    rfl
  | x :: suf, pre, s, hl => by
    have hlen : (pre ++ x :: suf).length = pre.length + 1 + suf.length := by simp; omega
    have ih := impl_sumOf_l suf (pre ++ [x]) (wrap64 (s + x)) (by simpa using hl)
    rw [List.append_assoc] at ih
    simp only [List.singleton_append, List.length_append, List.length_singleton] at ih
    refine Ev.step (fun k => ?_) ih
    simp only [impl_sumOf.l0]
    rw [if_pos (by omega), if_pos (by omega), if_pos (by omega), rd_mid, wr_succ (by omega)]
    simp
theorem impl_sumOf_ev (n : Nat) (h0 : 0 < n) (hn : n ≤ 1000000000) : Ev (fun k => impl_sumOf.f k (ints (divs n))) (wsum 0 (ints (divs n))) := by
  have h1 := divs_len h0
  have h2 := ints_len (divs n)
  exact impl_sumOf_l (ints (divs n)) [] 0 (by rw [List.nil_append]; omega)
theorem impl_sumStep_ev (n : Nat) (h0 : 0 < n) (hn : n ≤ 1000000000) : Ev (fun k => impl_sumStep.f k n) (wrap64 (wsum 0 (ints (divs n)) - n)) :=
  (impl_divisors_ev n h0 hn).bind ((impl_sumOf_ev n h0 hn).bind (Ev.now _))
theorem dv_half (n : Nat) (h0 : 0 < n) : ∀ j, j * j ≤ n → ∃ lo hi : List Nat, lo.length ≤ j ∧ hi.length ≤ j ∧ (∀ x ∈ lo, x * x ≤ n) ∧ lo.Pairwise (· < ·) ∧ (∀ x, x ∈ lo ↔ x ∣ n ∧ x < j + 1) ∧ hi.Pairwise (· < ·) ∧ (∀ x, x ∈ hi ↔ x ∣ n ∧ n / x < j + 1 ∧ n < x * x)
  | 0, _ => ⟨[], [], by simp, by simp, by simp, List.Pairwise.nil, fun x => by
      simp only [List.not_mem_nil, false_iff]
      rintro ⟨h1, h2⟩
      have := Nat.pos_of_dvd_of_pos h1 h0
      omega, List.Pairwise.nil, fun x => by
      simp only [List.not_mem_nil, false_iff]
      rintro ⟨h1, h2, _⟩
      have h3 := Nat.pos_of_dvd_of_pos h1 h0
      have h4 := Nat.le_of_dvd h0 h1
      have := Nat.div_pos h4 h3
      omega⟩
  | j + 1, hj => by
    obtain ⟨lo, hi, h1, h2, hs, hlp, hlm, hhp, hhm⟩ := dv_half n h0 j (Nat.le_trans (Nat.mul_le_mul (by omega) (by omega)) hj)
    by_cases hd : (j + 1) ∣ n
    · have hl := dv_lo_snoc n (j + 1) lo hlp hlm hd
      have hs' : ∀ x ∈ lo ++ [j + 1], x * x ≤ n := by
        intro x hx
        rcases List.mem_append.1 hx with h | h
        · exact hs x h
        · rw [List.mem_singleton] at h; rw [h]; exact hj
      by_cases hlt : (j + 1) * (j + 1) < n
      · have hh := dv_hi_cons n h0 (j + 1) (by omega) hi hhp hhm hd hlt
        exact ⟨lo ++ [j + 1], n / (j + 1) :: hi, by rw [List.length_append, List.length_singleton]; omega, by rw [List.length_cons]; omega, hs', hl.1, hl.2, hh.1, hh.2⟩
      · exact ⟨lo ++ [j + 1], hi, by rw [List.length_append, List.length_singleton]; omega, by omega, hs', hl.1, hl.2, hhp, dv_hi_stay n h0 (j + 1) hi hhm (fun h => hlt h.2)⟩
    · exact ⟨lo, hi, by omega, by omega, hs, hlp, dv_lo_stay n (j + 1) lo hlm hd, hhp, dv_hi_stay n h0 (j + 1) hi hhm (fun h => hd h.1)⟩
theorem root_ex (n : Nat) : ∀ m, n < m * m → ∃ j, j < m ∧ j * j ≤ n ∧ n < (j + 1) * (j + 1)
  | 0, h => by omega
  | m + 1, h => by
    by_cases hm : n < m * m
    · obtain ⟨j, h1, h2⟩ := root_ex n m hm
      exact ⟨j, by omega, h2⟩
    · exact ⟨m, by omega, by omega, h⟩
/-- A number up to a million has at most two thousand divisors. -/
theorem divs_few (n : Nat) (h0 : 0 < n) (hn : n ≤ 1000000) : (divs n).length ≤ 2000 := by
  obtain ⟨j, h1, h2, h3⟩ := root_ex n 1001 (by omega)
  obtain ⟨lo, hi, h4, h5, hs, hlp, hlm, hhp, hhm⟩ := dv_half n h0 j h2
  rw [← dv_done n h0 (j + 1) lo hi h3 hs hlp hlm hhp hhm, List.length_append]
  omega
theorem divs_snoc (n : Nat) (h0 : 0 < n) : divs n = (List.range n).filter (dv n) ++ [n] := by
  unfold divs
  rw [List.range_succ, List.filter_append]
  congr 1
  simp [dv]
  omega
/-- What is left of the divisors' sum. -/
theorem rest_le (n : Nat) (h0 : 0 < n) (hn : n ≤ 1000000) : ∃ m : Nat, m ≤ 999999999 ∧ wrap64 (wsum 0 (ints (divs n)) - n) = (m : Int) := by
  have hf := divs_few n h0 hn
  have hs := sig_le n h0 (by omega)
  have h1 := lsum_bd (f := fun d : Nat => (d : Int)) (b := 500000) ((List.range n).filter (dv n)) (fun x hx => by
    rw [List.mem_filter, List.mem_range, dv_iff] at hx
    obtain ⟨hx1, hx2, c, hc⟩ := hx
    have : 2 ≤ c := by
      rcases Nat.lt_or_ge c 2 with h | h
      · have hcc : c = 0 ∨ c = 1 := by omega
        rcases hcc with rfl | rfl <;> omega
      · exact h
    have := Nat.mul_le_mul_left x this
    omega)
  have h2 := congrArg List.length (divs_snoc n h0)
  rw [List.length_append, List.length_singleton] at h2
  have h3 : lsum (fun d => (d : Int)) (divs n) = lsum (fun d => (d : Int)) ((List.range n).filter (dv n)) + n := by
    rw [divs_snoc n h0, lsum_append]
    simp [lsum]
  refine ⟨(lsum (fun d => (d : Int)) (divs n) - n).toNat, by omega, ?_⟩
  rw [hs.2.2, wri (by omega) (by omega)]
  omega
theorem impl_totient_l : ∀ (l pre : List (Nat × Nat)) (s : Nat) {c : Nat}, IsFac c l → s ≤ 1000000000 → (∀ f ∈ l, f.1 ≤ 1000000000) → (pre ++ l).length ≤ 2000000000 → Ev (fun k => impl_totient.l0 k s (rowsOf (pre ++ l)) ((pre ++ l).length : Int) (pre.length : Int)) (totL l s : Int)
  | [], pre, s, _, _, _, _, hl => by
    refine Ev.done fun k => ?_
    simp only [impl_totient.l0]
    rw [if_neg (by simp)]
    simp [totL]
  | (p, e) :: l, pre, s, _, hf, hs, hb, hl => by
    have hlen : (pre ++ (p, e) :: l).length = pre.length + 1 + l.length := by simp; omega
    have hlr := rows_len (pre ++ (p, e) :: l)
    have hget : rd_L2 (rowsOf (pre ++ (p, e) :: l)) (pre.length : Int) = [(p : Int), (e : Int)] := by
      unfold rd_L2; rw [Int.toNat_natCast]; exact rows_get pre (p, e) l
    have hrd : rd [(p : Int), (e : Int)] 0 = p := rfl
    have hp := hf.2.1.two_le
    have hpb : p ≤ 1000000000 := hb (p, e) (by simp)
    have hst := totL_step (s := s) (p := p)
    have ih := impl_totient_l l (pre ++ [(p, e)]) (s / p * (p - 1)) hf.2.2.2 (by omega) (fun f hf => hb f (by simp [hf])) (by simpa using hl)
    rw [List.append_assoc] at ih
    simp only [List.singleton_append, List.length_append, List.length_singleton] at ih
    have hpm : wrap64 ((p : Int) - 1) = ((p - 1 : Nat) : Int) := by rw [wri (by omega) (by omega)]; omega
    refine Ev.step (fun k => ?_) ih
    simp only [impl_totient.l0]
    rw [if_pos (by omega), if_pos (by omega), if_pos (by omega), hget, if_pos (by simp), hrd, if_neg (by omega), wr_tdiv (by omega), hpm, wr_mul (by omega), wr_succ (by omega), List.length_append]
theorem impl_totient_ev (n : Nat) (h0 : 0 < n) (hn : n ≤ 1000000000) : Ev (fun k => impl_totient.f k n) (phi n : Int) := by
  have hl := facs_len n
  have h := impl_totient_l (facs n) [] n (facs_fac h0) hn (fun f hf => by
    obtain ⟨p, e⟩ := f
    have := Nat.le_of_dvd h0 ((mem_facs h0 p e).1 hf).2.1
    simp only; omega) (by simpa using (by omega : (facs n).length ≤ 2000000000))
  refine (impl_factors_ev n hn).bind ?_
  rw [rows_len]
  exact h
theorem spec_dvTotient_l : ∀ (l pre : List (Nat × Nat)) (s : Nat) {c : Nat}, IsFac c l → s ≤ 1000000000 → (∀ f ∈ l, f.1 ≤ 1000000000) → (pre ++ l).length ≤ 2000000000 → Ev (fun k => spec_dvTotient.l0 k s (rowsOf (pre ++ l)) ((pre ++ l).length : Int) (pre.length : Int)) (totL l s : Int)
  | [], pre, s, _, _, _, _, hl => by
    refine Ev.done fun k => ?_
    simp only [spec_dvTotient.l0]
    rw [if_neg (by simp)]
    simp [totL]
  | (p, e) :: l, pre, s, _, hf, hs, hb, hl => by
    have hlen : (pre ++ (p, e) :: l).length = pre.length + 1 + l.length := by simp; omega
    have hlr := rows_len (pre ++ (p, e) :: l)
    have hget : rd_L2 (rowsOf (pre ++ (p, e) :: l)) (pre.length : Int) = [(p : Int), (e : Int)] := by
      unfold rd_L2; rw [Int.toNat_natCast]; exact rows_get pre (p, e) l
    have hrd : rd [(p : Int), (e : Int)] 0 = p := rfl
    have hp := hf.2.1.two_le
    have hpb : p ≤ 1000000000 := hb (p, e) (by simp)
    have hst := totL_step (s := s) (p := p)
    have ih := spec_dvTotient_l l (pre ++ [(p, e)]) (s / p * (p - 1)) hf.2.2.2 (by omega) (fun f hf => hb f (by simp [hf])) (by simpa using hl)
    rw [List.append_assoc] at ih
    simp only [List.singleton_append, List.length_append, List.length_singleton] at ih
    have hpm : wrap64 ((p : Int) - 1) = ((p - 1 : Nat) : Int) := by rw [wri (by omega) (by omega)]; omega
    refine Ev.step (fun k => ?_) ih
    simp only [spec_dvTotient.l0]
    rw [if_pos (by omega), if_pos (by omega), if_pos (by omega), hget, if_pos (by simp), hrd, if_neg (by omega), wr_tdiv (by omega), hpm, wr_mul (by omega), wr_succ (by omega), List.length_append]
theorem spec_dvTotient_ev (n : Nat) (h0 : 0 < n) (hn : n ≤ 1000000000) : Ev (fun k => spec_dvTotient.f k n) (phi n : Int) := by
  have hl := facs_len n
  have h := spec_dvTotient_l (facs n) [] n (facs_fac h0) hn (fun f hf => by
    obtain ⟨p, e⟩ := f
    have := Nat.le_of_dvd h0 ((mem_facs h0 p e).1 hf).2.1
    simp only; omega) (by simpa using (by omega : (facs n).length ≤ 2000000000))
  refine (spec_prFactors_ev n hn).bind ?_
  rw [rows_len]
  exact h
theorem spec_TotientOf_ev (n : Nat) (h0 : 0 < n) (hn : n ≤ 1000000) : Ev (fun k => spec_TotientOf.f k n) ((phi n : Int), true) := by
  unfold spec_TotientOf.f
  rw [spec_dvGood_eq, decide_eq_true (by omega)]
  simp only [Option.bind_some, if_true]
  exact (spec_dvTotient_ev n h0 (by omega)).bind (Ev.now _)
theorem impl_TotientOf_ev (n : Nat) (h0 : 0 < n) (hn : n ≤ 1000000) : Ev (fun k => impl_TotientOf.f k n) ((phi n : Int), true) := by
  unfold impl_TotientOf.f
  rw [impl_isDivided_eq, decide_eq_true (by omega)]
  simp only [Option.bind_some, if_true]
  exact (impl_totient_ev n h0 (by omega)).bind (Ev.now _)
theorem impl_signOf_l : ∀ (l pre : List (Nat × Nat)) (s : Int), s = 1 ∨ s = -1 → (pre ++ l).length ≤ 2000000000 → Ev (fun k => impl_signOf.l0 k s (rowsOf (pre ++ l)) ((pre ++ l).length : Int) (pre.length : Int)) (s * sgnL l)
  | [], pre, s, hs, hl => by
    refine Ev.done fun k => ?_
    simp only [impl_signOf.l0]
    rw [if_neg (by simp)]
    simp [sgnL]
  | (p, e) :: l, pre, s, hs, hl => by
    have hlen : (pre ++ (p, e) :: l).length = pre.length + 1 + l.length := by simp; omega
    have hlr := rows_len (pre ++ (p, e) :: l)
    have hget : rd_L2 (rowsOf (pre ++ (p, e) :: l)) (pre.length : Int) = [(p : Int), (e : Int)] := by
      unfold rd_L2; rw [Int.toNat_natCast]; exact rows_get pre (p, e) l
    by_cases he : 1 < e
    · refine Ev.done fun k => ?_
      simp only [impl_signOf.l0]
      rw [if_pos (by omega), if_pos (by omega), if_pos (by omega), hget, if_pos (by simp), if_pos (by simp [rd]; omega)]
      simp [sgnL, he]
    · have ih := impl_signOf_l l (pre ++ [(p, e)]) (-s) (by omega) (by simpa using hl)
      rw [List.append_assoc] at ih
      simp only [List.singleton_append, List.length_append, List.length_singleton] at ih
      have e1 : s * sgnL ((p, e) :: l) = -s * sgnL l := by simp only [sgnL]; rw [if_neg he, Int.mul_neg, Int.neg_mul]
      rw [e1]
      refine Ev.step (fun k => ?_) ih
      simp only [impl_signOf.l0]
      rw [if_pos (by omega), if_pos (by omega), if_pos (by omega), hget, if_pos (by simp), if_neg (by simp [rd]; omega), wri (by omega) (by omega), wr_succ (by omega), List.length_append]
theorem impl_signOf_ev (n : Nat) (hn : n ≤ 1000000000) : Ev (fun k => impl_signOf.f k n) (sgn n) := by
  have hl := facs_len n
  have h := impl_signOf_l (facs n) [] 1 (Or.inl rfl) (by simpa using (by omega : (facs n).length ≤ 2000000000))
  rw [Int.one_mul] at h
  refine (impl_factors_ev n hn).bind ?_
  rw [rows_len]
  exact h
theorem spec_dvSign_l : ∀ (l pre : List (Nat × Nat)) (s : Int), s = 1 ∨ s = -1 → (pre ++ l).length ≤ 2000000000 → Ev (fun k => spec_dvSign.l0 k s (rowsOf (pre ++ l)) ((pre ++ l).length : Int) (pre.length : Int)) (s * sgnL l)
  | [], pre, s, hs, hl => by
    refine Ev.done fun k => ?_
    simp only [spec_dvSign.l0]
    rw [if_neg (by simp)]
    simp [sgnL]
  | (p, e) :: l, pre, s, hs, hl => by
    have hlen : (pre ++ (p, e) :: l).length = pre.length + 1 + l.length := by simp; omega
    have hlr := rows_len (pre ++ (p, e) :: l)
    have hget : rd_L2 (rowsOf (pre ++ (p, e) :: l)) (pre.length : Int) = [(p : Int), (e : Int)] := by
      unfold rd_L2; rw [Int.toNat_natCast]; exact rows_get pre (p, e) l
    by_cases he : 1 < e
    · refine Ev.done fun k => ?_
      simp only [spec_dvSign.l0]
      rw [if_pos (by omega), if_pos (by omega), if_pos (by omega), hget, if_pos (by simp), if_pos (by simp [rd]; omega)]
      simp [sgnL, he]
    · have ih := spec_dvSign_l l (pre ++ [(p, e)]) (-s) (by omega) (by simpa using hl)
      rw [List.append_assoc] at ih
      simp only [List.singleton_append, List.length_append, List.length_singleton] at ih
      have e1 : s * sgnL ((p, e) :: l) = -s * sgnL l := by simp only [sgnL]; rw [if_neg he, Int.mul_neg, Int.neg_mul]
      rw [e1]
      refine Ev.step (fun k => ?_) ih
      simp only [spec_dvSign.l0]
      rw [if_pos (by omega), if_pos (by omega), if_pos (by omega), hget, if_pos (by simp), if_neg (by simp [rd]; omega), wri (by omega) (by omega), wr_succ (by omega), List.length_append]
theorem spec_dvSign_ev (n : Nat) (hn : n ≤ 1000000000) : Ev (fun k => spec_dvSign.f k n) (sgn n) := by
  have hl := facs_len n
  have h := spec_dvSign_l (facs n) [] 1 (Or.inl rfl) (by simpa using (by omega : (facs n).length ≤ 2000000000))
  rw [Int.one_mul] at h
  refine (spec_prFactors_ev n hn).bind ?_
  rw [rows_len]
  exact h
theorem spec_MoebiusOf_ev (n : Nat) (h0 : 0 < n) (hn : n ≤ 1000000) : Ev (fun k => spec_MoebiusOf.f k n) (sgn n, true) := by
  unfold spec_MoebiusOf.f
  rw [spec_dvGood_eq, decide_eq_true (by omega)]
  simp only [Option.bind_some, if_true]
  exact (spec_dvSign_ev n (by omega)).bind (Ev.now _)
theorem impl_MoebiusOf_ev (n : Nat) (h0 : 0 < n) (hn : n ≤ 1000000) : Ev (fun k => impl_MoebiusOf.f k n) (sgn n, true) := by
  unfold impl_MoebiusOf.f
  rw [impl_isDivided_eq, decide_eq_true (by omega)]
  simp only [Option.bind_some, if_true]
  exact (impl_signOf_ev n (by omega)).bind (Ev.now _)
theorem spec_SumDivisors_ev (n : Nat) (h0 : 0 < n) (hn : n ≤ 1000000) : Ev (fun k => spec_SumDivisors.f k n) (wsum 0 (ints (divs n)), true) := by
  unfold spec_SumDivisors.f
  rw [spec_dvGood_eq, decide_eq_true (by omega)]
  simp only [Option.bind_some, if_true]
  exact (spec_dvSum_ev n h0 (by omega)).bind (Ev.now _)
theorem impl_SumDivisors_ev (n : Nat) (h0 : 0 < n) (hn : n ≤ 1000000) : Ev (fun k => impl_SumDivisors.f k n) (wsum 0 (ints (divs n)), true) := by
  unfold impl_SumDivisors.f
  rw [impl_isDivided_eq, decide_eq_true (by omega)]
  simp only [Option.bind_some, if_true]
  exact (impl_divisors_ev n h0 (by omega)).bind ((impl_sumOf_ev n h0 (by omega)).bind (Ev.now _))
theorem spec_SumStep_ev (n : Nat) (h0 : 0 < n) (hn : n ≤ 1000000) : Ev (fun k => spec_SumStep.f k n) (wrap64 (wsum 0 (ints (divs n)) - n), true) := by
  unfold spec_SumStep.f
  rw [spec_dvGood_eq, decide_eq_true (by omega)]
  simp only [Option.bind_some, if_true]
  exact (spec_dvSum_ev n h0 (by omega)).bind (Ev.now _)
theorem impl_SumStep_ev (n : Nat) (h0 : 0 < n) (hn : n ≤ 1000000) : Ev (fun k => impl_SumStep.f k n) (wrap64 (wsum 0 (ints (divs n)) - n), true) := by
  unfold impl_SumStep.f
  rw [impl_isDivided_eq, decide_eq_true (by omega)]
  simp only [Option.bind_some, if_true]
  exact (impl_sumStep_ev n h0 (by omega)).bind (Ev.now _)
theorem spec_DivisorsOf_ev (n : Nat) (h0 : 0 < n) (hn : n ≤ 1000000) : Ev (fun k => spec_DivisorsOf.f k n) (ints (divs n), true) := by
  unfold spec_DivisorsOf.f
  rw [spec_dvGood_eq, decide_eq_true (by omega)]
  simp only [Option.bind_some, if_true]
  exact (spec_dvList_ev n h0 (by omega)).bind (Ev.now _)
theorem impl_DivisorsOf_ev (n : Nat) (h0 : 0 < n) (hn : n ≤ 1000000) : Ev (fun k => impl_DivisorsOf.f k n) (ints (divs n), true) := by
  unfold impl_DivisorsOf.f
  rw [impl_isDivided_eq, decide_eq_true (by omega)]
  simp only [Option.bind_some, if_true]
  exact (impl_divisors_ev n h0 (by omega)).bind (Ev.now _)
theorem spec_CountDivisors_ev (n : Nat) (h0 : 0 < n) (hn : n ≤ 1000000) : Ev (fun k => spec_CountDivisors.f k n) (((ints (divs n)).length : Int), true) := by
  unfold spec_CountDivisors.f
  rw [spec_dvGood_eq, decide_eq_true (by omega)]
  simp only [Option.bind_some, if_true]
  exact (spec_dvList_ev n h0 (by omega)).bind (Ev.now _)
theorem impl_CountDivisors_ev (n : Nat) (h0 : 0 < n) (hn : n ≤ 1000000) : Ev (fun k => impl_CountDivisors.f k n) (((ints (divs n)).length : Int), true) := by
  unfold impl_CountDivisors.f
  rw [impl_isDivided_eq, decide_eq_true (by omega)]
  simp only [Option.bind_some, if_true]
  exact (impl_divisors_ev n h0 (by omega)).bind (Ev.now _)
def amic (n : Nat) : Int × Bool :=
  if wrap64 (wsum 0 (ints (divs n)) - n) = n then (0, false)
  else if wrap64 (wsum 0 (ints (divs n)) - n) = 0 then (0, false)
  else if wrap64 (wsum 0 (ints (divs (wrap64 (wsum 0 (ints (divs n)) - n)).toNat)) - wrap64 (wsum 0 (ints (divs n)) - n)) = n then (wrap64 (wsum 0 (ints (divs n)) - n), true) else (0, false)
theorem spec_AmicableOf_ev (n : Nat) (h0 : 0 < n) (hn : n ≤ 1000000) : Ev (fun k => spec_AmicableOf.f k n) (amic n) := by
  unfold spec_AmicableOf.f amic
  rw [spec_dvGood_eq, decide_eq_true (by omega)]
  simp only [Option.bind_some, if_true]
  refine (spec_dvSum_ev n h0 (by omega)).bind ?_
  obtain ⟨m, hm, he⟩ := rest_le n h0 hn
  rw [he]
  by_cases h1 : (m : Int) = n
  · simp only [if_pos h1]; exact Ev.now _
  · simp only [if_neg h1]
    by_cases h2 : (m : Int) = 0
    · simp only [if_pos h2]; exact Ev.now _
    · simp only [if_neg h2]
      refine (spec_dvSum_ev m (by omega) (by omega)).bind ?_
      rw [Int.toNat_natCast]
      by_cases h3 : wrap64 (wsum 0 (ints (divs m)) - m) = n
      · simp only [if_pos h3]; exact Ev.now _
      · simp only [if_neg h3]; exact Ev.now _
theorem impl_AmicableOf_ev (n : Nat) (h0 : 0 < n) (hn : n ≤ 1000000) : Ev (fun k => impl_AmicableOf.f k n) (amic n) := by
  unfold impl_AmicableOf.f amic
  rw [impl_isDivided_eq, decide_eq_true (by omega)]
  simp only [Option.bind_some, if_true]
  refine (impl_sumStep_ev n h0 (by omega)).bind ?_
  obtain ⟨m, hm, he⟩ := rest_le n h0 hn
  rw [he]
  by_cases h1 : (m : Int) = n
  · simp only [if_pos h1]; exact Ev.now _
  · simp only [if_neg h1]
    by_cases h2 : (m : Int) = 0
    · simp only [if_pos h2]; exact Ev.now _
    · simp only [if_neg h2]
      refine (impl_sumStep_ev m (by omega) (by omega)).bind ?_
      rw [Int.toNat_natCast]
      by_cases h3 : wrap64 (wsum 0 (ints (divs m)) - m) = n
      · simp only [if_pos h3]; exact Ev.now _
      · simp only [if_neg h3]; exact Ev.now _
/-- The divisors' sum without the number itself. -/
def sOf (n : Nat) : Nat := (wrap64 (wsum 0 (ints (divs n)) - n)).toNat
theorem sOf_eq (n : Nat) (h0 : 0 < n) (hn : n ≤ 1000000) : wrap64 (wsum 0 (ints (divs n)) - n) = (sOf n : Int) ∧ sOf n ≤ 999999999 := by
  obtain ⟨m, hm, he⟩ := rest_le n h0 hn
  unfold sOf
  rw [he]
  exact ⟨by rw [Int.toNat_natCast], by rw [Int.toNat_natCast]; exact hm⟩
/-- The way of sums. -/
def wayF : Nat → Nat → List Nat
  | 0, x => [x]
  | r + 1, x => if 1 ≤ x ∧ x ≤ 1000000 then x :: wayF r (sOf x) else [x]
theorem wayF_len : ∀ r x, (wayF r x).length ≤ r + 1
  | 0, x => by simp [wayF]
  | r + 1, x => by
    have := wayF_len r (sOf x)
    simp only [wayF]; split
    · rw [List.length_cons]; omega
    · rw [List.length_singleton]; omega
theorem wayF_head : ∀ r x, ∃ t, wayF r x = x :: t
  | 0, x => ⟨[], rfl⟩
  | r + 1, x => by
    simp only [wayF]; split
    · exact ⟨_, rfl⟩
    · exact ⟨[], rfl⟩
theorem spec_way_l : ∀ (r x : Nat) (pre : List Nat), r ≤ 20 → pre.length ≤ 1000 - r → Ev (fun k => spec_SumWay.l0 k x (r : Int) (ints (pre ++ [x]))) (ints (pre ++ wayF r x), true) := by
  intro r
  induction r with
  | zero =>
    intro x pre hr hl
    refine Ev.done fun k => ?_
    simp only [spec_SumWay.l0]
    rw [if_neg (by omega)]
    rfl
  | succ r ih =>
    intro x pre hr hl
    by_cases hg : 1 ≤ x ∧ x ≤ 1000000
    · obtain ⟨he, hm⟩ := sOf_eq x hg.1 hg.2
      have key := ih (sOf x) (pre ++ [x]) (by omega) (by rw [List.length_append, List.length_singleton]; omega)
      have hil := ints_len (pre ++ [x])
      rw [List.length_append, List.length_singleton] at hil
      have hlt : (ints (pre ++ [x])).length < 17592186044416 := by omega
      have e1 : wrap64 (((r + 1 : Nat) : Int) - 1) = (r : Int) := by rw [wri (by omega) (by omega)]; omega
      simp only [wayF, if_pos hg]
      rw [show pre ++ x :: wayF r (sOf x) = (pre ++ [x]) ++ wayF r (sOf x) by simp]
      refine Ev.step (f := fun k => (spec_dvSum.f k x).bind fun t => spec_SumWay.l0 k (wrap64 (t - x)) (r : Int) (ints (pre ++ [x]) ++ [wrap64 (t - x)])) (fun k => ?_) ((spec_dvSum_ev x hg.1 (by omega)).bind ?_)
      · simp only [spec_SumWay.l0, if_pos hlt]
        rw [if_pos (by omega), spec_dvGood_eq, decide_eq_true (by omega), e1]
        rfl
      · simp only [he]
        rw [show ints (pre ++ [x]) ++ [((sOf x : Nat) : Int)] = ints ((pre ++ [x]) ++ [sOf x]) by simp [ints]]
        exact key
    · refine Ev.done fun k => ?_
      simp only [spec_SumWay.l0, wayF, if_neg hg]
      rw [if_pos (by omega), spec_dvGood_eq, decide_eq_false (by omega)]
      rfl
theorem impl_way_l (a1 : Int) (ha : a1 ≤ 20) : ∀ (r x idx : Nat) (pre : List Nat), (idx : Int) + r = a1 → pre.length ≤ 1000 - r → Ev (fun k => impl_SumWay.l0 k x (ints (pre ++ [x])) a1 (idx : Int)) (ints (pre ++ wayF r x), true) := by
  intro r
  induction r with
  | zero =>
    intro x idx pre hr hl
    refine Ev.done fun k => ?_
    simp only [impl_SumWay.l0]
    rw [if_neg (by omega)]
    rfl
  | succ r ih =>
    intro x idx pre hr hl
    by_cases hg : 1 ≤ x ∧ x ≤ 1000000
    · obtain ⟨he, hm⟩ := sOf_eq x hg.1 hg.2
      have key := ih (sOf x) (idx + 1) (pre ++ [x]) (by omega) (by rw [List.length_append, List.length_singleton]; omega)
      have hil := ints_len (pre ++ [x])
      rw [List.length_append, List.length_singleton] at hil
      have hlt : (ints (pre ++ [x])).length < 17592186044416 := by omega
      have e2 : wrap64 ((idx : Int) + 1) = ((idx + 1 : Nat) : Int) := wr_succ (by omega)
      simp only [wayF, if_pos hg]
      rw [show pre ++ x :: wayF r (sOf x) = (pre ++ [x]) ++ wayF r (sOf x) by simp]
      refine Ev.step (f := fun k => (impl_sumStep.f k x).bind fun t => impl_SumWay.l0 k t (ints (pre ++ [x]) ++ [t]) a1 ((idx + 1 : Nat) : Int)) (fun k => ?_) ((impl_sumStep_ev x hg.1 (by omega)).bind ?_)
      · simp only [impl_SumWay.l0, if_pos hlt]
        rw [if_pos (by omega), if_neg (by omega), if_neg (by omega), e2]
      · simp only [he]
        rw [show ints (pre ++ [x]) ++ [((sOf x : Nat) : Int)] = ints ((pre ++ [x]) ++ [sOf x]) by simp [ints]]
        exact key
    · refine Ev.done fun k => ?_
      simp only [impl_SumWay.l0, wayF, if_neg hg]
      rw [if_pos (by omega)]
      by_cases hx : x = 0
      · rw [if_pos (by omega)]
      · rw [if_neg (by omega), if_pos (by omega)]
theorem spec_SumWay_ev (n b : Nat) (hn : 1 ≤ n ∧ n ≤ 1000000) (hb : b ≤ 20) : Ev (fun k => spec_SumWay.f k n b) (ints (wayF b n), true) := by
  unfold spec_SumWay.f
  rw [spec_dvGood_eq, decide_eq_true (by omega)]
  simp only [Option.bind_some, if_true]
  rw [spec_l1In_eq, decide_eq_true (by omega)]
  simp only [Option.bind_some, Bool.not_true]
  refine Ev.step (fun k => ?_) (spec_way_l b n [] hb (by simp))
  simp only [spec_SumWay.j0, Bool.false_eq_true, if_false]
  rfl
theorem impl_SumWay_ev (n b : Nat) (hn : 1 ≤ n ∧ n ≤ 1000000) (hb : b ≤ 20) : Ev (fun k => impl_SumWay.f k n b) (ints (wayF b n), true) := by
  unfold impl_SumWay.f
  rw [impl_isDivided_eq, decide_eq_true (by omega)]
  simp only [Option.bind_some, if_true]
  simp only [if_neg (show ¬ ((b : Int) < 0) by omega), decide_eq_false (show ¬ ((b : Int) > 20) by omega)]
  refine Ev.step (fun k => ?_) (impl_way_l b (by omega) b n 0 [] (by omega) (by simp))
  simp only [impl_SumWay.j0, Bool.false_eq_true, if_false]
  rfl
theorem spec_SumWay_no (a a2 : Int) (h : ¬ ((1 ≤ a ∧ a ≤ 1000000) ∧ 0 ≤ a2 ∧ a2 ≤ 20)) : Ev (fun k => spec_SumWay.f k a a2) ([], false) := by
  have sj : Ev (fun k => spec_SumWay.j0 k a a2 true) (([] : List Int), false) := Ev.done fun k => by simp only [spec_SumWay.j0, if_true]
  unfold spec_SumWay.f
  rw [spec_dvGood_eq]
  simp only [Option.bind_some]
  by_cases hd : 1 ≤ a ∧ a ≤ 1000000
  · simp only [decide_eq_true hd, if_true, spec_l1In_eq, decide_eq_false (fun k => h ⟨hd, k⟩), Option.bind_some, Bool.not_false]
    exact sj
  · simp only [decide_eq_false hd, Bool.false_eq_true, if_false]
    exact sj
theorem impl_SumWay_no (a a2 : Int) (h : ¬ ((1 ≤ a ∧ a ≤ 1000000) ∧ 0 ≤ a2 ∧ a2 ≤ 20)) : Ev (fun k => impl_SumWay.f k a a2) ([], false) := by
  have ij : Ev (fun k => impl_SumWay.j0 k a a2 true) (([] : List Int), false) := Ev.done fun k => by simp only [impl_SumWay.j0, if_true]
  unfold impl_SumWay.f
  rw [impl_isDivided_eq]
  simp only [Option.bind_some]
  by_cases hd : 1 ≤ a ∧ a ≤ 1000000
  · simp only [decide_eq_true hd, if_true]
    by_cases hn : a2 < 0
    · simp only [if_pos hn]; exact ij
    · simp only [if_neg hn, decide_eq_true (show a2 > 20 by omega)]; exact ij
  · simp only [decide_eq_false hd, Bool.false_eq_true, if_false]
    exact ij
theorem laws_gSame_l : ∀ (suf pre : List Int), (pre ++ suf).length ≤ 4000000000 → Ev (fun k => laws_gSame.l0 k (pre ++ suf) (pre ++ suf) ((pre ++ suf).length : Nat) (pre.length : Nat)) true
  | [], pre, _ => by
    refine Ev.done fun k => ?_
    simp only [laws_gSame.l0]
    rw [if_neg (by simp)]
  | x :: suf, pre, hl => by
    have hlen : (pre ++ x :: suf).length = pre.length + 1 + suf.length := by simp; omega
    have ih := laws_gSame_l suf (pre ++ [x]) (by simpa using hl)
    rw [List.append_assoc] at ih
    simp only [List.singleton_append, List.length_append, List.length_singleton] at ih
    refine Ev.step (fun k => ?_) ih
    simp only [laws_gSame.l0]
    rw [if_pos (by omega), if_pos (by omega), if_pos (by omega), if_pos (by omega), if_pos trivial, wr_succ (by omega)]
    simp only [List.length_append]
theorem laws_gSame_self (l : List Int) (hl : l.length ≤ 1000000) : Ev (fun k => laws_gSame.f k l l) true := by
  unfold laws_gSame.f
  simp only [if_true]
  exact laws_gSame_l l [] (by rw [List.nil_append]; omega)
theorem laws_gSum_l : ∀ (suf pre : List Int) (s : Int), (pre ++ suf).length ≤ 4000000000 → Ev (fun k => laws_gSum.l0 k s (pre ++ suf) ((pre ++ suf).length : Nat) (pre.length : Nat)) (wsum s suf)
  | [], pre, s, _ => by
    refine Ev.done fun k => ?_
    simp only [laws_gSum.l0]
    rw [if_neg (by simp)]
    rfl
  | x :: suf, pre, s, hl => by
    have hlen : (pre ++ x :: suf).length = pre.length + 1 + suf.length := by simp; omega
    have ih := laws_gSum_l suf (pre ++ [x]) (wrap64 (s + x)) (by simpa using hl)
    rw [List.append_assoc] at ih
    simp only [List.singleton_append, List.length_append, List.length_singleton] at ih
    refine Ev.step (fun k => ?_) ih
    simp only [laws_gSum.l0]
    rw [if_pos (by omega), if_pos (by omega), if_pos (by omega), rd_mid, wr_succ (by omega)]
    simp
theorem laws_gSum_ev (l : List Int) (hl : l.length ≤ 1000000) : Ev (fun k => laws_gSum.f k l) (wsum 0 l) :=
  laws_gSum_l l [] 0 (by rw [List.nil_append]; omega)
theorem gcd_step (a b : Nat) : Nat.gcd a b = Nat.gcd b (a % b) := by
  rw [Nat.gcd_comm a b, Nat.gcd_rec b a, Nat.gcd_comm]
theorem laws_gCommon_ev : ∀ (b a : Nat), Ev (fun k => laws_gCommon.l0 k a b) ((Nat.gcd a b : Nat) : Int) := by
  intro b
  induction b using Nat.strongRecOn with
  | _ b ih =>
    intro a
    by_cases h : 0 < b
    · rw [gcd_step]
      refine Ev.step (fun k => ?_) (ih (a % b) (Nat.mod_lt _ h) b)
      simp only [laws_gCommon.l0]
      rw [if_pos (by omega), if_neg (by omega), tm]
    · have : b = 0 := by omega
      subst this
      rw [Nat.gcd_zero_right]
      refine Ev.done fun k => ?_
      simp only [laws_gCommon.l0]
      rw [if_neg (by omega)]
def rowC (x : Nat) : Nat → Nat
  | 0 => 0
  | y + 1 => rowC x y + (if Nat.gcd x (y + 1) = 1 then 1 else 0)
theorem rowC_le (x : Nat) : ∀ y, rowC x y ≤ y
  | 0 => Nat.le_refl 0
  | y + 1 => by have := rowC_le x y; simp only [rowC]; split <;> omega
def chkP : Nat → Bool
  | 0 => true
  | n + 1 => chkP n && decide (rowC (n + 1) (n + 1) = phi (n + 1))
set_option maxRecDepth 100000 in
theorem chkP600 : chkP 600 = true := by decide +kernel
theorem chkP_at : ∀ (n m : Nat), chkP n = true → 1 ≤ m → m ≤ n → rowC m m = phi m
  | 0, m, _, h1, h2 => by omega
  | n + 1, m, h, h1, h2 => by
    simp only [chkP, Bool.and_eq_true] at h
    by_cases e : m = n + 1
    · subst e; exact of_decide_eq_true h.2
    · exact chkP_at n m h.1 h1 (by omega)
/-- The divisors from behind are their fellows. -/
theorem divs_rev (n : Nat) (h0 : 0 < n) : (divs n).map (fun d => n / d) = (divs n).reverse := by
  have h1 : ((divs n).map (fun d => n / d)).reverse = divs n := by
    refine sorted_unique ?_ (divs_sorted n) fun x => ?_
    · rw [List.pairwise_reverse, List.pairwise_map]
      refine List.Pairwise.imp_of_mem (fun {a b} ha hb hlt => ?_) (divs_sorted n)
      rw [mem_divs h0] at ha hb
      have e1 := Nat.div_mul_cancel ha
      have e2 := Nat.div_mul_cancel hb
      have hpb : 0 < n / b := Nat.div_pos (Nat.le_of_dvd h0 hb) (Nat.pos_of_dvd_of_pos hb h0)
      rcases Nat.lt_or_ge (n / b) (n / a) with h | h
      · exact h
      · exfalso
        have h3 := Nat.mul_le_mul_right a h
        have h4 := Nat.mul_lt_mul_of_pos_left hlt hpb
        omega
    · rw [List.mem_reverse, List.mem_map]
      constructor
      · rintro ⟨d, hd, rfl⟩
        rw [mem_divs h0] at hd ⊢
        exact Nat.div_dvd_of_dvd hd
      · intro hx
        have hx' := (mem_divs h0).1 hx
        exact ⟨n / x, (mem_divs h0).2 (Nat.div_dvd_of_dvd hx'), Nat.div_div_self hx' (by omega)⟩
  rw [← h1, List.reverse_reverse, h1]
theorem divs_at_rev (n : Nat) (h0 : 0 < n) (pre suf : List Nat) (d : Nat) (h : divs n = pre ++ d :: suf) : rd (ints (divs n)) (((divs n).length - 1 - pre.length : Nat) : Int) = ((n / d : Nat) : Int) := by
  have hlen : (divs n).length = pre.length + 1 + suf.length := by rw [h]; simp; omega
  have hr : ((divs n).map (fun d => n / d))[pre.length]? = (divs n).reverse[pre.length]? := by rw [divs_rev n h0]
  rw [List.getElem?_map, List.getElem?_reverse (by omega)] at hr
  rw [show (divs n)[pre.length]? = some d by rw [h]; simp] at hr
  unfold rd ints
  rw [Int.toNat_natCast, List.getD_eq_getElem?_getD, List.getElem?_map, ← hr]
  rfl
/-! a cursor over bytes: it never fails -/
def Bytes (l : List Int) : Prop := ∀ x ∈ l, (0 : Int) ≤ x ∧ x ≤ 255
theorem bytes_of {l : List Int} (h : ∀ x ∈ l, (Lit.int .u8 x).wf = true) : Bytes l := by
  intro x hx
  have := h x hx
  simpa [Lit.wf, IntKind.min, IntKind.max, IntKind.signed, IntKind.bits] using this
theorem and255 (x : Int) : 0 ≤ Go.bits .and .u64 x 255 ∧ Go.bits .and .u64 x 255 ≤ 255 := by
  have hb : (BitVec.ofInt 64 x &&& BitVec.ofInt 64 255).toNat ≤ 255 := by
    rw [BitVec.toNat_and]
    have : (BitVec.ofInt 64 255).toNat = 255 := by decide
    rw [this]
    exact Nat.and_le_right
  have e : Go.bits .and .u64 x 255 = IntKind.u64.wrap ((BitVec.ofInt 64 x &&& BitVec.ofInt 64 255).toNat : Int) := rfl
  rw [e]
  generalize (BitVec.ofInt 64 x &&& BitVec.ofInt 64 255).toNat = m at *
  have e2 : IntKind.u64.wrap (m : Int) = m := by
    have : IntKind.u64.wrap (m : Int) = (m : Int) % 18446744073709551616 := by simp [IntKind.wrap, IntKind.bits, IntKind.signed]
    rw [this]; omega
  rw [e2]; omega
theorem rd_byte {l : List Int} (h : Bytes l) (i : Int) : 0 ≤ rd l i ∧ rd l i ≤ 255 := by
  unfold rd
  rw [List.getD_eq_getElem?_getD]
  cases hg : l[i.toNat]? with
  | none => simp
  | some x => exact h x (List.mem_of_getElem? hg)
theorem wr_byte {x : Int} (h : 0 ≤ x ∧ x ≤ 255) : wrap64 x = x := wri (by omega) (by omega)
/-- The next byte, or what stands for one. -/
theorem next_ok {l : List Int} (h : Bytes l) (a s : Int) (h0 : 0 ≤ a) (h1 : a ≤ 1000000000) : ∃ v s', spec_l1Cur_next.f l a s = some (v, a + 1, s') ∧ 0 ≤ v ∧ v ≤ 255 := by
  have hr := rd_byte h a
  have ea : wrap64 (a + 1) = a + 1 := wri (by omega) (by omega)
  unfold spec_l1Cur_next.f
  rw [ea, if_pos h0]
  by_cases c1 : a < (l.length : Int)
  · rw [if_pos c1]
    by_cases c2 : a + 1 ≤ (l.length : Int)
    · rw [if_pos c2]; exact ⟨_, _, rfl, by rw [wr_byte hr]; exact hr⟩
    · rw [if_neg c2]; exact ⟨_, _, rfl, by rw [wr_byte (and255 _)]; exact and255 _⟩
  · rw [if_neg c1]
    by_cases c2 : a + 1 ≤ (l.length : Int)
    · rw [if_pos c2]; exact ⟨_, _, rfl, by decide⟩
    · rw [if_neg c2]; exact ⟨_, _, rfl, by rw [wr_byte (and255 _)]; exact and255 _⟩
theorem pick_ok {l : List Int} (h : Bytes l) (a s n : Int) (h0 : 0 ≤ a) (h1 : a ≤ 900000000) (hn : n ≤ 1000000) : ∃ v a' s', spec_l1Cur_pick.f l a s n = some (v, a', s') ∧ a ≤ a' ∧ a' ≤ a + 2 ∧ 0 ≤ v ∧ (1 ≤ n → v < n) := by
  unfold spec_l1Cur_pick.f
  by_cases c : n ≤ 1
  · rw [if_pos c]; exact ⟨0, a, s, rfl, Int.le_refl _, by omega, Int.le_refl _, fun _ => by omega⟩
  · rw [if_neg c]
    obtain ⟨v, s1, e1, v0, v1⟩ := next_ok h a s h0 (by omega)
    rw [e1]
    simp only [Option.bind_some]
    have hm : ∀ z : Int, 0 ≤ z → 0 ≤ Int.tmod z n ∧ Int.tmod z n < n := fun z hz => ⟨Int.tmod_nonneg _ hz, Int.tmod_lt_of_pos _ (by omega)⟩
    by_cases c2 : n > 200
    · rw [if_pos c2]
      obtain ⟨u, s2, e2, u0, u1⟩ := next_ok h (a + 1) s1 (by omega) (by omega)
      rw [e2]
      simp only [Option.bind_some]
      rw [if_neg (by omega)]
      have e3 : wrap64 (v * 256) = v * 256 := wri (by omega) (by omega)
      have e4 : wrap64 (v * 256 + u) = v * 256 + u := wri (by omega) (by omega)
      rw [e3, e4]
      exact ⟨_, _, _, rfl, by omega, by omega, (hm _ (by omega)).1, fun _ => (hm _ (by omega)).2⟩
    · rw [if_neg c2, if_neg (by omega)]
      exact ⟨_, _, _, rfl, by omega, by omega, (hm _ v0).1, fun _ => (hm _ v0).2⟩
theorem one_ok {l : List Int} (h : Bytes l) (a s n : Int) (h0 : 0 ≤ a) (h1 : a ≤ 900000000) (hn : n ≤ 1000000) : ∃ v a' s', spec_l1Cur_one.f l a s n = some (v, a', s') ∧ a ≤ a' ∧ a' ≤ a + 2 := by
  obtain ⟨v, a', s', e, k1, k2, _, _⟩ := pick_ok h a s n h0 h1 hn
  unfold spec_l1Cur_one.f
  rw [e]
  exact ⟨_, _, _, rfl, k1, k2⟩
theorem among_ok {l : List Int} (h : Bytes l) (a s : Int) (m : List Int) (h0 : 0 ≤ a) (h1 : a ≤ 900000000) (hm : 1 ≤ m.length) (hn : m.length ≤ 1000000) : ∃ v a' s', spec_l1Cur_among.f l a s m = some (v, a', s') ∧ a ≤ a' ∧ a' ≤ a + 2 := by
  obtain ⟨v, a', s', e, k1, k2, v0, v1⟩ := pick_ok h a s (m.length : Int) h0 h1 (by omega)
  unfold spec_l1Cur_among.f
  rw [e]
  simp only [Option.bind_some]
  rw [if_pos v0, if_pos (v1 (by omega))]
  exact ⟨_, _, _, rfl, k1, k2⟩
theorem sumWay_ok {l : List Int} (h : Bytes l) : ∃ m st, spec_DrawSumWay.f l = some (m, st) := by
  obtain ⟨v1, a1, s1, e1, p1, q1, _, _⟩ := pick_ok h 0 0 300 (by decide) (by decide) (by decide)
  obtain ⟨v3, a3, s3, e3, p3, q3⟩ := among_ok h a1 s1 [1, 2, 6, 12, 220, 276, 12496, 1000000, 0, v1] (by omega) (by omega) (by simp) (by simp)
  obtain ⟨v5, a5, s5, e5, p5, q5⟩ := among_ok h a3 s3 [0, 1, 2, 5, 10, 20, 21, (-1)] (by omega) (by omega) (by decide) (by decide)
  unfold spec_DrawSumWay.f
  rw [e1]
  simp only [Option.bind_some]
  rw [e3]
  simp only [Option.bind_some]
  rw [e5]
  exact ⟨_, _, rfl⟩
theorem amic_ok {l : List Int} (h : Bytes l) : ∃ a, spec_DrawAmicableOf.f l = some a := by
  obtain ⟨v1, a1, s1, e1, p1, q1, _, _⟩ := pick_ok h 0 0 500 (by decide) (by decide) (by decide)
  obtain ⟨v3, a3, s3, e3, p3, q3⟩ := among_ok h a1 s1 [220, 284, 1184, 1210, 6, 1, 2620, 0, 1000001, v1] (by omega) (by omega) (by simp) (by simp)
  unfold spec_DrawAmicableOf.f
  rw [e1]
  simp only [Option.bind_some]
  rw [e3]
  exact ⟨_, rfl⟩
theorem divided_ok {l : List Int} (h : Bytes l) : ∃ a, spec_DrawDivisorsOf.f l = some a := by
  obtain ⟨b, a, s, e, k1, k2⟩ := one_ok h 0 0 6 (by decide) (by decide) (by decide)
  unfold spec_DrawDivisorsOf.f spec_l1Cur_divided.f
  rw [e]
  simp only [Option.bind_some]
  by_cases c : b = true
  · rw [if_pos c]
    obtain ⟨v, a2, s2, e2, _, _⟩ := among_ok h a s [0, 1, (-1), 1000000, 1000001, 720720, 999983, 4611686018427387904] (by omega) (by omega) (by decide) (by decide)
    rw [e2]
    exact ⟨_, rfl⟩
  · rw [if_neg c]
    obtain ⟨v, a2, s2, e2, _, _⟩ := pick_ok h a s 600 (by omega) (by omega) (by decide)
    rw [e2]
    exact ⟨_, rfl⟩
theorem amic_no (a : Int) (h : ¬ (1 ≤ a ∧ a ≤ 1000000)) : Ev (fun k => impl_AmicableOf.f k a) (0, false) ∧ Ev (fun k => spec_AmicableOf.f k a) (0, false) := by
  refine ⟨Ev.const fun k => ?_, Ev.const fun k => ?_⟩
  · unfold impl_AmicableOf.f
    rw [impl_isDivided_eq, decide_eq_false h]; rfl
  · unfold spec_AmicableOf.f
    rw [spec_dvGood_eq, decide_eq_false h]; rfl
/-- A pair is told from both sides. -/
theorem amic_back (n : Nat) (h0 : 0 < n) (hn : n ≤ 1000000) (h : (amic n).2 = true) : ∃ m : Nat, amic n = ((m : Int), true) ∧ 0 < m ∧ m ≠ n ∧ (m ≤ 1000000 → amic m = ((n : Int), true)) := by
  obtain ⟨e1, hm⟩ := sOf_eq n h0 hn
  unfold amic at h ⊢
  rw [e1] at h ⊢
  by_cases c1 : ((sOf n : Nat) : Int) = n
  · rw [if_pos c1] at h; cases h
  · rw [if_neg c1] at h ⊢
    by_cases c2 : ((sOf n : Nat) : Int) = 0
    · rw [if_pos c2] at h; cases h
    · rw [if_neg c2] at h ⊢
      rw [Int.toNat_natCast] at h ⊢
      by_cases c3 : wrap64 (wsum 0 (ints (divs (sOf n))) - ((sOf n : Nat) : Int)) = n
      · rw [if_pos c3]
        refine ⟨sOf n, rfl, by omega, by omega, fun hle => ?_⟩
        rw [c3, if_neg (by omega), if_neg (by omega), Int.toNat_natCast, e1, if_pos rfl]
      · rw [if_neg c3] at h; cases h
/-- The law's last question. -/
def lastQ (k : Nat) (a t : Int) (b : Bool) : Option Bool := if b = true then (if t ≤ 1000000 then ((impl_AmicableOf.f k t).bind fun bt => (if bt.2 = true then (if bt.1 = a then (some (t != a)) else (some false)) else (some false))) else (some true)) else (some true)
theorem lastQ_ev (a : Int) : ∃ (t : Int) (b : Bool), Ev (fun k => impl_AmicableOf.f k a) (t, b) ∧ Ev (fun k => spec_AmicableOf.f k a) (t, b) ∧ Ev (fun k => lastQ k a t b) true := by
  by_cases h : 1 ≤ a ∧ a ≤ 1000000
  · obtain ⟨n, rfl⟩ := Int.eq_ofNat_of_zero_le (show 0 ≤ a by omega)
    have i1 := impl_AmicableOf_ev n (by omega) (by omega)
    have i2 := spec_AmicableOf_ev n (by omega) (by omega)
    by_cases hb : (amic n).2 = true
    · obtain ⟨m, he, hm0, hmn, hback⟩ := amic_back n (by omega) (by omega) hb
      rw [he] at i1 i2
      refine ⟨m, true, i1, i2, ?_⟩
      unfold lastQ
      simp only [if_true]
      by_cases hle : (m : Int) ≤ 1000000
      · simp only [if_pos hle]
        have i3 := impl_AmicableOf_ev m hm0 (by omega)
        rw [hback (by omega)] at i3
        refine i3.bind ?_
        simp only [if_true]
        have : ((m : Int) != (n : Int)) = true := by rw [bne_iff_ne]; omega
        rw [this]
        exact Ev.now _
      · simp only [if_neg hle]; exact Ev.now _
    · refine ⟨(amic n).1, (amic n).2, i1, i2, ?_⟩
      rw [Bool.eq_false_iff.2 hb]
      unfold lastQ
      simp only [Bool.false_eq_true, if_false]
      exact Ev.now _
  · obtain ⟨k1, k2⟩ := amic_no a h
    refine ⟨0, false, k1, k2, ?_⟩
    unfold lastQ
    simp only [Bool.false_eq_true, if_false]
    exact Ev.now _
theorem j10_ev (a t : Int) (b : Bool) (h : Ev (fun k => lastQ k a t b) true) : Ev (fun k => laws_FnDivisorsTold.j10 k a t b false) true := by
  refine Ev.step (fun k => ?_) h
  simp only [laws_FnDivisorsTold.j10, Bool.false_eq_true, if_false]
  rfl
theorem way_end (st : Nat) (hs : st ≤ 20) (a t : Int) (b : Bool) (hj : Ev (fun k => laws_FnDivisorsTold.j10 k a t b false) true) (r x : Nat) (pre : List Nat) (hl : pre.length + r = st) (hor : r = 0 ∨ ¬ (1 ≤ x ∧ x ≤ 1000000)) :
    Ev (fun k => laws_FnDivisorsTold.l2 k (st : Int) (ints (pre ++ [x])) a t b ((pre.length + 1 : Nat) : Int)) true := by
  have hil := ints_len (pre ++ [x])
  rw [List.length_append, List.length_singleton] at hil
  have hget : rd (ints (pre ++ [x])) (pre.length : Int) = x := ints_get pre x []
  refine Ev.step (fun k => ?_) hj
  have e1 : wrap64 (((ints (pre ++ [x])).length : Int) - 1) = (pre.length : Int) := by rw [hil, wri (by omega) (by omega)]; omega
  have e2 : wrap64 ((st : Int) + 1) = ((st + 1 : Nat) : Int) := wr_succ (by omega)
  simp only [laws_FnDivisorsTold.l2]
  rw [if_neg (by omega), e1, if_pos (by omega), if_pos (by omega), e2, hget]
  by_cases hc : ((ints (pre ++ [x])).length : Int) < ((st + 1 : Nat) : Int)
  · rw [if_pos hc]
    have hx : ¬ (1 ≤ x ∧ x ≤ 1000000) := hor.resolve_left (by omega)
    by_cases h0 : (x : Int) = 0
    · rw [if_pos h0]
    · rw [if_neg h0, decide_eq_false (by omega)]
  · rw [if_neg hc]
theorem way_step (st : Nat) (a t : Int) (b : Bool) (pre w : List Nat) (x y : Nat) (hlen : pre.length + w.length ≤ 1000) (hst : Ev (fun k => impl_SumStep.f k (x : Int)) ((y : Int), true))
    (key : Ev (fun k => laws_FnDivisorsTold.l2 k (st : Int) (ints (pre ++ x :: y :: w)) a t b ((pre.length + 1 + 1 : Nat) : Int)) true) :
    Ev (fun k => laws_FnDivisorsTold.l2 k (st : Int) (ints (pre ++ x :: y :: w)) a t b ((pre.length + 1 : Nat) : Int)) true := by
  have hg1 : rd (ints (pre ++ x :: y :: w)) (pre.length : Int) = x := ints_get pre x (y :: w)
  have hg2 : rd (ints (pre ++ x :: y :: w)) ((pre.length + 1 : Nat) : Int) = (y : Int) := by
    have := ints_get (pre ++ [x]) y w
    rw [List.length_append, List.length_singleton, show (pre ++ [x]) ++ y :: w = pre ++ x :: y :: w by simp] at this
    exact this
  have hll : (ints (pre ++ x :: y :: w)).length = pre.length + 2 + w.length := by rw [ints_len]; simp; omega
  generalize ints (pre ++ x :: y :: w) = W at *
  have e1 : wrap64 (((pre.length + 1 : Nat) : Int) - 1) = (pre.length : Int) := by rw [wri (by omega) (by omega)]; omega
  have e2 : wrap64 (((pre.length + 1 : Nat) : Int) + 1) = ((pre.length + 1 + 1 : Nat) : Int) := wr_succ (by omega)
  have c0 : (0 : Int) ≤ ((pre.length + 1 : Nat) : Int) := Int.natCast_nonneg _
  have c1 : ((pre.length + 1 : Nat) : Int) < (W.length : Int) := by rw [hll]; omega
  have c2 : (0 : Int) ≤ (pre.length : Int) := Int.natCast_nonneg _
  have c3 : (pre.length : Int) < (W.length : Int) := by rw [hll]; omega
  refine Ev.step (f := fun k => (impl_SumStep.f k (x : Int)).bind fun bt => if bt.2 = true then (if 0 ≤ ((pre.length + 1 : Nat) : Int) then (if bt.1 = (y : Int) then laws_FnDivisorsTold.l2 k (st : Int) W a t b ((pre.length + 1 + 1 : Nat) : Int) else some false) else none) else some false) (fun k => ?_) (hst.bind ?_)
  · simp only [laws_FnDivisorsTold.l2]
    rw [if_pos c1, e1, if_pos c2, if_pos c3, hg1, hg2, e2]
  · simp only [if_true, if_pos c0]
    exact key
theorem way_l2 (st : Nat) (hs : st ≤ 20) (a t : Int) (b : Bool) (hj : Ev (fun k => laws_FnDivisorsTold.j10 k a t b false) true) : ∀ (r x : Nat) (pre : List Nat), pre.length + r = st →
    Ev (fun k => laws_FnDivisorsTold.l2 k (st : Int) (ints (pre ++ wayF r x)) a t b ((pre.length + 1 : Nat) : Int)) true := by
  intro r
  induction r with
  | zero => intro x pre hl; exact way_end st hs a t b hj 0 x pre hl (.inl rfl)
  | succ r ih =>
    intro x pre hl
    by_cases hg : 1 ≤ x ∧ x ≤ 1000000
    · have hst : Ev (fun k => impl_SumStep.f k (x : Int)) ((sOf x : Int), true) := by
        have h1 := impl_SumStep_ev x hg.1 hg.2
        rw [(sOf_eq x hg.1 hg.2).1] at h1
        exact h1
      simp only [wayF, if_pos hg]
      generalize sOf x = y at *
      have key := ih y (pre ++ [x]) (by rw [List.length_append, List.length_singleton]; omega)
      have hwl := wayF_len r y
      obtain ⟨w, hw⟩ := wayF_head r y
      rw [hw] at key hwl ⊢
      rw [show (pre ++ [x]) ++ y :: w = pre ++ x :: y :: w by simp, List.length_append, List.length_singleton] at key
      rw [List.length_cons] at hwl
      exact way_step st a t b pre w x y (by omega) hst key
    · have := way_end st hs a t b hj (r + 1) x pre hl (.inr hg)
      simp only [wayF, if_neg hg]
      exact this
theorem law_j6 (z : List Int) (hz : Bytes z) : Ev (fun k => laws_FnDivisorsTold.j6 k z) true := by
  obtain ⟨m, st, d1⟩ := sumWay_ok hz
  obtain ⟨a, d2⟩ := amic_ok hz
  obtain ⟨t, b, q1, q2, q3⟩ := lastQ_ev a
  have hj := j10_ev a t b q3
  by_cases h : (1 ≤ m ∧ m ≤ 1000000) ∧ 0 ≤ st ∧ st ≤ 20
  · obtain ⟨n, rfl⟩ := Int.eq_ofNat_of_zero_le (show 0 ≤ m by omega)
    obtain ⟨s, rfl⟩ := Int.eq_ofNat_of_zero_le (show 0 ≤ st by omega)
    have w1 := impl_SumWay_ev n s (by omega) (by omega)
    have w2 := spec_SumWay_ev n s (by omega) (by omega)
    have hl := wayF_len s n
    have hil := ints_len (wayF s n)
    obtain ⟨w, hw⟩ := wayF_head s n
    have hl2 := way_l2 s (by omega) a t b hj s n [] (by simp)
    rw [List.nil_append] at hl2
    have hget : rd (ints (wayF s n)) 0 = n := by rw [hw]; rfl
    have hpos : 0 < ((ints (wayF s n)).length : Int) := by rw [hil, hw, List.length_cons]; omega
    have e2 : wrap64 ((s : Int) + 1) = ((s + 1 : Nat) : Int) := wr_succ (by omega)
    have hj8 : Ev (fun k => laws_FnDivisorsTold.j8 k (s : Int) (ints (wayF s n)) a t b false) true := by
      refine Ev.step (fun k => ?_) hl2
      simp only [laws_FnDivisorsTold.j8, Bool.false_eq_true, if_false]
      rfl
    have hj7 : Ev (fun k => laws_FnDivisorsTold.j7 k (n : Int) (s : Int) (ints (wayF s n)) true a t b false) true := by
      refine Ev.step (fun k => ?_) hj8
      simp only [laws_FnDivisorsTold.j7, Bool.false_eq_true, if_false, if_true]
      rw [if_pos hpos, if_pos hget, e2, decide_eq_false (by omega)]
    refine Ev.step (f := ?f0) (fun k => ?a0) ?b0
    case a0 => simp only [laws_FnDivisorsTold.j6, d1, d2, Option.bind_some]; exact rfl
    refine w1.bind (w2.bind (q1.bind (q2.bind ?_)))
    simp only [bne_self_eq_false, Bool.false_eq_true, if_false]
    refine (laws_gSame_self (ints (wayF s n)) (by omega)).bind ?_
    simp only [if_true]
    exact hj7
  · have w1 := impl_SumWay_no m st h
    have w2 := spec_SumWay_no m st h
    have hj7 : Ev (fun k => laws_FnDivisorsTold.j7 k m st [] false a t b false) true := by
      refine Ev.step (fun k => ?_) q3
      simp only [laws_FnDivisorsTold.j7, Bool.false_eq_true, if_false]
      rfl
    refine Ev.step (f := ?f1) (fun k => ?a1) ?b1
    case a1 => simp only [laws_FnDivisorsTold.j6, d1, d2, Option.bind_some]; exact rfl
    refine w1.bind (w2.bind (q1.bind (q2.bind ?_)))
    simp only [bne_self_eq_false, Bool.false_eq_true, if_false]
    refine (laws_gSame_self [] (by simp)).bind ?_
    simp only [if_true]
    exact hj7
theorem free_l1 (n : Nat) (h0 : 1 ≤ n) (hn : n ≤ 600) (z : List Int) (hz : Bytes z) : ∀ (j y : Nat), n ≤ y + j → y ≤ n →
    Ev (fun k => laws_FnDivisorsTold.l1 k z (n : Int) (phi n : Int) ((rowC n y : Nat) : Int) ((y + 1 : Nat) : Int)) true := by
  have hend : ∀ y, y = n → Ev (fun k => laws_FnDivisorsTold.l1 k z (n : Int) (phi n : Int) ((rowC n y : Nat) : Int) ((y + 1 : Nat) : Int)) true := by
    intro y hy
    subst hy
    refine Ev.step (fun k => ?_) (law_j6 z hz)
    simp only [laws_FnDivisorsTold.l1]
    rw [if_neg (by omega), chkP_at 600 y chkP600 h0 hn, if_pos rfl]
  intro j
  induction j with
  | zero => intro y h1 h2; exact hend y (by omega)
  | succ j ih =>
    intro y h1 h2
    by_cases hy : y = n
    · exact hend y hy
    · have key := ih (y + 1) (by omega) (by omega)
      have b2 := rowC_le n y
      have hw : wrap64 (((y + 1 : Nat) : Int) + 1) = ((y + 1 + 1 : Nat) : Int) := wr_succ (by omega)
      have hw2 : wrap64 (((rowC n y : Nat) : Int) + 1) = ((rowC n y + 1 : Nat) : Int) := wr_succ (by omega)
      refine Ev.step (f := fun k => (laws_gCommon.f k (n : Int) ((y + 1 : Nat) : Int)).bind fun t => if t = 1 then laws_FnDivisorsTold.l1 k z (n : Int) (phi n : Int) ((rowC n y + 1 : Nat) : Int) ((y + 1 + 1 : Nat) : Int) else laws_FnDivisorsTold.l1 k z (n : Int) (phi n : Int) ((rowC n y : Nat) : Int) ((y + 1 + 1 : Nat) : Int)) (fun k => ?_) (Ev.bind (laws_gCommon_ev (y + 1) n) ?_)
      · simp only [laws_FnDivisorsTold.l1, hw, hw2]
        rw [if_pos (by omega)]
      · simp only [rowC] at key
        by_cases hg : Nat.gcd n (y + 1) = 1
        · simp only [if_pos hg] at key
          simp only [if_pos (show ((Nat.gcd n (y + 1) : Nat) : Int) = 1 by omega)]
          exact key
        · simp only [if_neg hg] at key
          simp only [if_neg (show ¬ ((Nat.gcd n (y + 1) : Nat) : Int) = 1 by omega)]
          exact key
theorem law_j4 (n : Nat) (h0 : 1 ≤ n) (z : List Int) (hz : Bytes z) : Ev (fun k => laws_FnDivisorsTold.j4 k z (n : Int) (phi n : Int) false) true := by
  by_cases h : (n : Int) ≤ 600
  · refine Ev.step (fun k => ?_) (free_l1 n h0 (by omega) z hz n 0 (by omega) (by omega))
    simp only [laws_FnDivisorsTold.j4, Bool.false_eq_true, if_false]
    rw [if_pos h]
    rfl
  · refine Ev.step (fun k => ?_) (law_j6 z hz)
    simp only [laws_FnDivisorsTold.j4, Bool.false_eq_true, if_false]
    rw [if_neg h]
theorem sorted_last {pre suf : List Nat} {c d : Nat} (h : (pre ++ [c] ++ d :: suf).Pairwise (· < ·)) : c < d := by
  rw [List.append_assoc] at h
  have h2 := (List.pairwise_append.1 h).2.1
  rw [List.singleton_append, List.pairwise_cons] at h2
  exact h2.1 d (by simp)
theorem l0_step (n : Int) (z : List Int) (ph s1 s2 d q C : Int) (X : List Int) (i : Nat) (hC : C = (X.length : Int)) (hl : X.length ≤ 1000000) (hi : i < X.length) (hget : rd X (i : Int) = d) (hrev : rd X ((X.length - 1 - i : Nat) : Int) = q) (hmul : wrap64 (d * q) = n)
    (hprev : 0 < i → decide (rd X ((i - 1 : Nat) : Int) ≥ d) = false)
    (h : Ev (fun k => laws_FnDivisorsTold.j3 k z n X C ph s1 s2 d X C (i : Int) false) true) : Ev (fun k => laws_FnDivisorsTold.l0 k z n X C ph s1 s2 X C (i : Int)) true := by
  subst hC
  have e0 : wrap64 ((X.length : Int) - 1) = ((X.length - 1 : Nat) : Int) := by rw [wri (by omega) (by omega)]; omega
  have e1 : wrap64 (((X.length - 1 : Nat) : Int) - (i : Int)) = ((X.length - 1 - i : Nat) : Int) := by rw [wri (by omega) (by omega)]; omega
  have c1 : (i : Int) < (X.length : Int) := by omega
  have c2 : (0 : Int) ≤ (i : Int) := Int.natCast_nonneg _
  have c4 : (0 : Int) ≤ ((X.length - 1 - i : Nat) : Int) := Int.natCast_nonneg _
  have c5 : ((X.length - 1 - i : Nat) : Int) < (X.length : Int) := by omega
  refine Ev.step (fun k => ?_) h
  simp only [laws_FnDivisorsTold.l0]
  rw [if_pos c1, if_pos c2, if_pos c1, if_pos c1, e0, e1, if_pos c4, if_pos c5, hget, hrev, if_pos hmul]
  by_cases hpos : (i : Int) > 0
  · have e3 : wrap64 ((i : Int) - 1) = ((i - 1 : Nat) : Int) := by rw [wri (by omega) (by omega)]; omega
    have c6 : (0 : Int) ≤ ((i - 1 : Nat) : Int) := Int.natCast_nonneg _
    have c7 : ((i - 1 : Nat) : Int) < (X.length : Int) := by omega
    rw [if_pos hpos, e3, if_pos c6, if_pos c7, hprev (by omega)]
  · rw [if_neg hpos]
theorem phi_bd (n x : Nat) (hn : n ≤ 1000000) (h : x ≤ n) : -1000000 ≤ ((phi x : Nat) : Int) ∧ ((phi x : Nat) : Int) ≤ 1000000 :=
  ⟨Int.le_trans (by decide) (Int.natCast_nonneg _), Int.ofNat_le.2 (Nat.le_trans (phi_le x) (Nat.le_trans h hn))⟩
theorem sum_step (f : Nat → Int) (b : Int) (hb : 0 ≤ b) (hb2 : b ≤ 1000000) (pre : List Nat) (d : Nat) (hl : pre.length ≤ 1000000) (h : ∀ x ∈ pre, -b ≤ f x ∧ f x ≤ b) (hd : -b ≤ f d ∧ f d ≤ b) : wrap64 (lsum f pre + f d) = lsum f (pre ++ [d]) := by
  have b1 := lsum_bd (f := fun x => f x) (b := 1000000) pre (fun x hx => by have := h x hx; omega)
  rw [lsum_append]
  simp only [lsum, Int.add_zero]
  generalize f d = y at *
  have b2 : -(1000000 * (pre.length : Int)) ≤ lsum f pre ∧ lsum f pre ≤ 1000000 * (pre.length : Int) := b1
  generalize lsum f pre = z at *
  rw [wri (by omega) (by omega)]
theorem law_l0 (n : Nat) (h0 : 1 ≤ n) (hn : n ≤ 1000000) (z : List Int) (hz : Bytes z) (L : List Nat) (hL : divs n = L) (hLl : L.length ≤ 1000000) : ∀ (suf pre : List Nat), pre ++ suf = L →
    Ev (fun k => laws_FnDivisorsTold.l0 k z (n : Int) (ints L) ((L.length : Nat) : Int) (phi n : Int) (lsum (fun d => (phi d : Int)) pre) (lsum sgn pre) (ints L) ((L.length : Nat) : Int) ((pre.length : Nat) : Int)) true := by
  intro suf
  induction suf with
  | nil =>
    intro pre hp
    rw [List.append_nil] at hp
    subst hp
    have s1 := phi_dsum n h0
    have s2 := sgn_sum n h0
    rw [hL] at s1 s2
    refine Ev.step (fun k => ?_) (law_j4 n h0 z hz)
    simp only [laws_FnDivisorsTold.l0]
    rw [if_neg (Int.lt_irrefl _), if_pos s1, s2]
    by_cases h1 : n = 1
    · subst h1
      rfl
    · rw [if_neg h1, if_pos (by omega), if_pos rfl, if_neg (by omega)]
  | cons d suf ih =>
    intro pre hp
    have key := ih (pre ++ [d]) (by rw [List.append_assoc]; exact hp)
    have hlen : L.length = pre.length + 1 + suf.length := by rw [← hp]; simp; omega
    have hdm : d ∣ n := (mem_divs h0).1 (by rw [hL, ← hp]; simp)
    have hdp := Nat.pos_of_dvd_of_pos hdm h0
    have hdle := Nat.le_of_dvd h0 hdm
    have hil := ints_len L
    have hget : rd (ints L) (pre.length : Int) = d := by rw [← hp]; exact ints_get pre d suf
    have hrev : rd (ints L) (((ints L).length - 1 - pre.length : Nat) : Int) = ((n / d : Nat) : Int) := by
      have := divs_at_rev n h0 pre suf d (by rw [hL]; exact hp.symm)
      rw [hL] at this
      rw [hil]
      exact this
    have hmul : wrap64 ((d : Int) * ((n / d : Nat) : Int)) = (n : Int) := by
      have e : d * (n / d) = n := Nat.mul_div_cancel' hdm
      rw [wr_mul (by rw [e]; omega), e]
    have hprev : 0 < pre.length → decide (rd (ints L) ((pre.length - 1 : Nat) : Int) ≥ (d : Int)) = false := by
      intro hpos
      have hne : pre ≠ [] := by intro h; rw [h] at hpos; simp at hpos
      obtain ⟨q, c, hq⟩ : ∃ q c, pre = q ++ [c] := ⟨pre.dropLast, pre.getLast hne, (List.dropLast_concat_getLast hne).symm⟩
      have hs := divs_sorted n
      rw [hL, ← hp, hq] at hs
      have hlt := sorted_last hs
      have hq2 : pre.length - 1 = q.length := by rw [hq]; simp
      have hg : rd (ints L) (q.length : Int) = c := by rw [← hp, hq, List.append_assoc]; exact ints_get q c (d :: suf)
      rw [hq2, hg, decide_eq_false]
      exact fun h => by omega
    have hx : ∀ x ∈ pre, 1 ≤ x ∧ x ≤ n := fun x hx => divs_pos (n := n) (d := x) (by rw [hL, ← hp]; simp [hx])
    have hsg : ∀ x : Nat, -1 ≤ sgn x ∧ sgn x ≤ 1 := by
      intro x
      rcases sgn_range x with h | h | h <;> rw [h] <;> decide
    have hpl : pre.length ≤ 1000000 := by omega
    have w1 : wrap64 (lsum (fun d => (phi d : Int)) pre + (phi d : Int)) = lsum (fun d => (phi d : Int)) (pre ++ [d]) := sum_step (fun d => (phi d : Int)) 1000000 (by decide) (by decide) pre d hpl (fun x h => phi_bd n x hn (hx x h).2) (phi_bd n d hn hdle)
    have w2 := sum_step sgn 1 (by decide) (by decide) pre d hpl (fun x _ => hsg x) (hsg d)
    have e2 : wrap64 (((pre.length : Nat) : Int) + 1) = (((pre ++ [d]).length : Nat) : Int) := by rw [wr_succ (by omega), List.length_append, List.length_singleton]
    refine l0_step n z (phi n) _ _ d ((n / d : Nat) : Int) _ (ints L) pre.length (by rw [hil]) (by omega) (by omega) hget hrev hmul hprev ?_
    refine Ev.step (f := ?f0) (fun k => ?a0) ?b0
    case a0 => simp only [laws_FnDivisorsTold.j3, Bool.false_eq_true, if_false]; exact rfl
    refine (impl_TotientOf_ev d hdp (Nat.le_trans hdle hn)).bind ((impl_MoebiusOf_ev d hdp (Nat.le_trans hdle hn)).bind ?_)
    simp only [if_true]
    rw [w1, w2, e2]
    exact key
theorem divs_ends (n : Nat) (h0 : 1 ≤ n) : rd (ints (divs n)) 0 = 1 ∧ rd (ints (divs n)) (((divs n).length - 1 : Nat) : Int) = n ∧ 1 ≤ (divs n).length := by
  have h1m : 1 ∈ divs n := (mem_divs h0).2 (Nat.one_dvd n)
  obtain ⟨t, ht⟩ : ∃ t, divs n = 1 :: t := by
    cases hl : divs n with
    | nil => rw [hl] at h1m; simp at h1m
    | cons x t =>
      rw [hl] at h1m
      have hs := divs_sorted n
      rw [hl, List.pairwise_cons] at hs
      have hx := divs_pos (n := n) (d := x) (by rw [hl]; simp)
      rcases List.mem_cons.1 h1m with h | h
      · exact ⟨t, by rw [h]⟩
      · have := hs.1 1 h; omega
  have hr := divs_at_rev n h0 [] t 1 ht
  rw [Nat.div_one] at hr
  refine ⟨by rw [ht]; rfl, ?_, by rw [ht, List.length_cons]; omega⟩
  simpa using hr
theorem law_j1 (n : Nat) (h0 : 1 ≤ n) (hn : n ≤ 1000000) (z : List Int) (hz : Bytes z) (C : Int) (hC : C = (((divs n).length : Nat) : Int)) : Ev (fun k => laws_FnDivisorsTold.j1 k z (n : Int) (ints (divs n)) C (phi n : Int) false) true := by
  subst hC
  have hl := divs_len (n := n) h0
  have key := law_l0 n h0 hn z hz (divs n) rfl (Nat.le_trans hl hn) (divs n) [] (List.nil_append _)
  refine Ev.step (fun k => ?_) key
  simp only [laws_FnDivisorsTold.j1, Bool.false_eq_true, if_false, ints_len]
  rfl
theorem law_j0 (n : Nat) (h0 : 1 ≤ n) (hn : n ≤ 1000000) (z : List Int) (hz : Bytes z) : Ev (fun k => laws_FnDivisorsTold.j0 k z (n : Int) (ints (divs n)) true ((ints (divs n)).length : Int) (wsum 0 (ints (divs n))) (phi n : Int) (wrap64 (wsum 0 (ints (divs n)) - n)) false) true := by
  obtain ⟨e1, e2, e3⟩ := divs_ends n h0
  have hl := divs_len (n := n) h0
  have hil := ints_len (divs n)
  have key := law_j1 n h0 hn z hz ((ints (divs n)).length : Int) (by rw [hil])
  have hg := laws_gSum_ev (ints (divs n)) (by rw [hil]; exact Nat.le_trans hl hn)
  have c1 : wrap64 (((ints (divs n)).length : Int) - 1) = (((divs n).length - 1 : Nat) : Int) := by rw [hil, wri (by omega) (by omega)]; omega
  have c2 : (0 : Int) < ((ints (divs n)).length : Int) := by rw [hil]; omega
  have c3 : (0 : Int) ≤ (((divs n).length - 1 : Nat) : Int) := Int.natCast_nonneg _
  have c4 : (((divs n).length - 1 : Nat) : Int) < ((ints (divs n)).length : Int) := by rw [hil]; omega
  refine Ev.step (f := ?f0) (fun k => ?a0) ?b0
  case a0 => simp only [laws_FnDivisorsTold.j0, Bool.false_eq_true, if_false, if_true]; exact rfl
  refine hg.bind ?_
  simp only [if_true, if_pos c2, e1, c1, if_pos c3, if_pos c4, e2, bne_self_eq_false]
  exact key
theorem law_no0 (a : Int) (h : ¬ (1 ≤ a ∧ a ≤ 1000000)) : ∀ k, impl_DivisorsOf.f k a = some ([], false) ∧ spec_DivisorsOf.f k a = some ([], false) ∧ impl_CountDivisors.f k a = some (0, false) ∧ spec_CountDivisors.f k a = some (0, false) ∧ impl_SumDivisors.f k a = some (0, false) ∧ spec_SumDivisors.f k a = some (0, false) ∧
    impl_TotientOf.f k a = some (0, false) ∧ spec_TotientOf.f k a = some (0, false) ∧ impl_MoebiusOf.f k a = some (0, false) ∧ spec_MoebiusOf.f k a = some (0, false) ∧ impl_SumStep.f k a = some (0, false) ∧ spec_SumStep.f k a = some (0, false) := by
  intro k
  unfold impl_DivisorsOf.f spec_DivisorsOf.f impl_CountDivisors.f spec_CountDivisors.f impl_SumDivisors.f spec_SumDivisors.f impl_TotientOf.f spec_TotientOf.f impl_MoebiusOf.f spec_MoebiusOf.f impl_SumStep.f spec_SumStep.f
  rw [spec_dvGood_eq, impl_isDivided_eq, decide_eq_false h]
  exact ⟨rfl, rfl, rfl, rfl, rfl, rfl, rfl, rfl, rfl, rfl, rfl, rfl⟩
theorem both_told (a0 : Int) (z : List Int) (hz : Bytes z) : Ev (fun k => ((impl_DivisorsOf.f k a0).bind fun bt270 => ((spec_DivisorsOf.f k a0).bind fun bt274 => ((impl_CountDivisors.f k a0).bind fun bt278 => ((spec_CountDivisors.f k a0).bind fun bt280 => ((impl_SumDivisors.f k a0).bind fun bt282 => ((spec_SumDivisors.f k a0).bind fun bt284 => ((impl_TotientOf.f k a0).bind fun bt286 => ((spec_TotientOf.f k a0).bind fun bt288 => ((impl_MoebiusOf.f k a0).bind fun bt290 => ((spec_MoebiusOf.f k a0).bind fun bt292 => ((impl_SumStep.f k a0).bind fun bt294 => ((spec_SumStep.f k a0).bind fun bt296 => (if (bt270.2 != bt274.2) = true then (laws_FnDivisorsTold.j0 k z a0 bt270.1 bt270.2 bt278.1 bt282.1 bt286.1 bt294.1 true) else ((laws_gSame.f k bt270.1 bt274.1).bind fun t298 => (if t298 = true then (if (bt278.2 != bt280.2) = true then (laws_FnDivisorsTold.j0 k z a0 bt270.1 bt270.2 bt278.1 bt282.1 bt286.1 bt294.1 true) else (if bt278.1 = bt280.1 then (if (bt282.2 != bt284.2) = true then (laws_FnDivisorsTold.j0 k z a0 bt270.1 bt270.2 bt278.1 bt282.1 bt286.1 bt294.1 true) else (if bt282.1 = bt284.1 then (if (bt286.2 != bt288.2) = true then (laws_FnDivisorsTold.j0 k z a0 bt270.1 bt270.2 bt278.1 bt282.1 bt286.1 bt294.1 true) else (if bt286.1 = bt288.1 then (if (bt290.2 != bt292.2) = true then (laws_FnDivisorsTold.j0 k z a0 bt270.1 bt270.2 bt278.1 bt282.1 bt286.1 bt294.1 true) else (if bt290.1 = bt292.1 then (if (bt294.2 != bt296.2) = true then (laws_FnDivisorsTold.j0 k z a0 bt270.1 bt270.2 bt278.1 bt282.1 bt286.1 bt294.1 true) else (if bt294.1 = bt296.1 then (if (bt278.2 != bt270.2) = true then (laws_FnDivisorsTold.j0 k z a0 bt270.1 bt270.2 bt278.1 bt282.1 bt286.1 bt294.1 true) else (if (bt282.2 != bt270.2) = true then (laws_FnDivisorsTold.j0 k z a0 bt270.1 bt270.2 bt278.1 bt282.1 bt286.1 bt294.1 true) else (if (bt286.2 != bt270.2) = true then (laws_FnDivisorsTold.j0 k z a0 bt270.1 bt270.2 bt278.1 bt282.1 bt286.1 bt294.1 true) else (if (bt290.2 != bt270.2) = true then (laws_FnDivisorsTold.j0 k z a0 bt270.1 bt270.2 bt278.1 bt282.1 bt286.1 bt294.1 true) else (laws_FnDivisorsTold.j0 k z a0 bt270.1 bt270.2 bt278.1 bt282.1 bt286.1 bt294.1 (bt294.2 != bt270.2)))))) else (laws_FnDivisorsTold.j0 k z a0 bt270.1 bt270.2 bt278.1 bt282.1 bt286.1 bt294.1 true))) else (laws_FnDivisorsTold.j0 k z a0 bt270.1 bt270.2 bt278.1 bt282.1 bt286.1 bt294.1 true))) else (laws_FnDivisorsTold.j0 k z a0 bt270.1 bt270.2 bt278.1 bt282.1 bt286.1 bt294.1 true))) else (laws_FnDivisorsTold.j0 k z a0 bt270.1 bt270.2 bt278.1 bt282.1 bt286.1 bt294.1 true))) else (laws_FnDivisorsTold.j0 k z a0 bt270.1 bt270.2 bt278.1 bt282.1 bt286.1 bt294.1 true))) else (laws_FnDivisorsTold.j0 k z a0 bt270.1 bt270.2 bt278.1 bt282.1 bt286.1 bt294.1 true))))))))))))))))) true := by
  by_cases h : 1 ≤ a0 ∧ a0 ≤ 1000000
  · obtain ⟨n, rfl⟩ := Int.eq_ofNat_of_zero_le (show 0 ≤ a0 by omega)
    have h0 : 1 ≤ n := by omega
    have hn : n ≤ 1000000 := by omega
    have hil := ints_len (divs n)
    have hl := divs_len (n := n) h0
    refine (impl_DivisorsOf_ev n h0 hn).bind ((spec_DivisorsOf_ev n h0 hn).bind ((impl_CountDivisors_ev n h0 hn).bind ((spec_CountDivisors_ev n h0 hn).bind ((impl_SumDivisors_ev n h0 hn).bind ((spec_SumDivisors_ev n h0 hn).bind ((impl_TotientOf_ev n h0 hn).bind ((spec_TotientOf_ev n h0 hn).bind ((impl_MoebiusOf_ev n h0 hn).bind ((spec_MoebiusOf_ev n h0 hn).bind ((impl_SumStep_ev n h0 hn).bind ((spec_SumStep_ev n h0 hn).bind ?_)))))))))))
    simp only [bne_self_eq_false, Bool.false_eq_true, if_false]
    refine (laws_gSame_self (ints (divs n)) (by rw [hil]; exact Nat.le_trans hl hn)).bind ?_
    simp only [if_true]
    exact law_j0 n h0 hn z hz
  · have hno := law_no0 a0 h
    have hj : Ev (fun k => laws_FnDivisorsTold.j0 k z a0 [] false 0 0 0 0 false) true := by
      refine Ev.step (fun k => ?_) (law_j6 z hz)
      simp only [laws_FnDivisorsTold.j0, Bool.false_eq_true, if_false]
    refine Ev.congr (f := fun k => (laws_gSame.f k [] []).bind fun t => if t = true then laws_FnDivisorsTold.j0 k z a0 [] false 0 0 0 0 false else laws_FnDivisorsTold.j0 k z a0 [] false 0 0 0 0 true) (fun k => ?_) ?_
    · obtain ⟨n1, n2, n3, n4, n5, n6, n7, n8, n9, n10, n11, n12⟩ := hno k
      rw [n1, n2, n3, n4, n5, n6, n7, n8, n9, n10, n11, n12]
      rfl
    · refine (laws_gSame_self [] (by simp)).bind ?_
      simp only [if_true]
      exact hj
theorem FnDivisorsTold : laws_FnDivisorsTold.Pure := by
  intro l0 l1 _ _ hb0 _ _ hb1
  apply Ev.rounds
  have b0 := bytes_of hb0
  have b1 := bytes_of hb1
  obtain ⟨v, d0⟩ := divided_ok b0
  unfold laws_FnDivisorsTold.f laws_big.f
  by_cases hc : (l0.length : Int) > 1048576
  · simp only [if_pos hc, Option.bind_some, if_true]; exact Ev.now _
  · simp only [if_neg hc, Option.bind_some]
    by_cases hc2 : (l1.length : Int) > wrap64 (1048576 - (l0.length : Int))
    · simp only [decide_eq_true hc2, if_true]; exact Ev.now _
    · simp only [decide_eq_false hc2, Bool.false_eq_true, if_false, d0, Option.bind_some]
      exact both_told v l1 b1
end Go.Proofs.Ytfhfbicejddoiaa.Pure
