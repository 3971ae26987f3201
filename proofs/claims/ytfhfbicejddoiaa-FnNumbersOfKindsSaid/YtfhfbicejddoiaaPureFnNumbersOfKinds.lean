/- FnNumbersOfKinds answers as the reference does, for every argument. -/
import Derived.Test.YtfhfbicejddoiaaPFnNumbersOfKindsx6
import Derived.Test.YtfhfbicejddoiaaNtC
import Derived.Test.YtfhfbicejddoiaaNtD
namespace Go.Proofs.Ytfhfbicejddoiaa.Pure
set_option linter.unusedVariables false
open Go Go.RowKit Go.Proofs.Ytfhfbicejddoiaa.PFnNumbersOfKinds Go.Proofs.YtfhfbicejddoiaaW.PrintWords Go.Proofs.YtfhfbicejddoiaaW.PrintLast Go.Proofs.Ytfhfbicejddoiaa.Nt
theorem Ev.done {α : Type} {g : Nat → Option α} {r : α} (h : ∀ k, g (k + 1) = some r) : Ev g r := Ev.step (f := fun _ => some r) h (Ev.now r)
theorem Ev.const {α : Type} {g : Nat → Option α} {r : α} (h : ∀ k, g k = some r) : Ev g r := Ev.congr (f := fun _ => some r) h (Ev.now r)
theorem wr {a : Nat} (h : a < 9223372036854775808) : wrap64 (a : Int) = a := by unfold wrap64; omega
theorem wri {a : Int} (h0 : -9223372036854775808 ≤ a) (h : a < 9223372036854775808) : wrap64 a = a := by unfold wrap64; omega
theorem wr_mul {a b : Nat} (h : a * b < 9223372036854775808) : wrap64 ((a : Int) * b) = ((a * b : Nat) : Int) := by rw [← Int.natCast_mul]; exact wr h
theorem wr_succ {a : Nat} (h : a < 9223372036854775807) : wrap64 ((a : Int) + 1) = ((a + 1 : Nat) : Int) := wr (a := a + 1) (by omega)
theorem wr_tdiv {a b : Nat} (h : a < 9223372036854775808) : wrap64 (Int.tdiv (a : Int) b) = ((a / b : Nat) : Int) := wr (a := a / b) (Nat.lt_of_le_of_lt (Nat.div_le_self a b) h)
theorem tm (a b : Nat) : Int.tmod (a : Int) b = ((a % b : Nat) : Int) := rfl
theorem sq_lt {a b : Nat} (h : a ≤ 3037000499) (k : b ≤ 3037000499) : a * b < 9223372036854775808 := Nat.lt_of_le_of_lt (Nat.mul_le_mul h k) (by decide)
theorem spec_l1In_eq (a b c : Int) : spec_l1In.f a b c = some (decide (b ≤ a ∧ a ≤ c)) := by
  unfold spec_l1In.f
  by_cases h : a ≥ b
  · rw [if_pos h, decide_eq_decide.2 (show a ≤ c ↔ b ≤ a ∧ a ≤ c from ⟨fun k => ⟨h, k⟩, fun k => k.2⟩)]
  · rw [if_neg h, decide_eq_false (fun k => h k.1)]
theorem facs_len : ∀ (n : Nat), (facs n).length ≤ n := by
  intro n
  induction n using Nat.strongRecOn with
  | _ n ih =>
    by_cases h : n < 2
    · rw [facs_small h]; simp
    · have hn : 2 ≤ n := by omega
      have := rs_lt (lf_two_le hn) (by omega) (lf_dvd hn)
      have := ih _ this
      rw [facs_cons hn, List.length_cons]; omega
/-- A list of primes and exponents as the program's rows. -/
def rowsOf (l : List (Nat × Nat)) : List (List Int) := l.map fun f => [(f.1 : Int), (f.2 : Int)]
theorem getD_mid {α : Type} (pre : List α) (x : α) (l : List α) (d : α) : (pre ++ x :: l).getD pre.length d = x := by simp
theorem rows_get (pre : List (Nat × Nat)) (x : Nat × Nat) (l : List (Nat × Nat)) : (rowsOf (pre ++ x :: l)).getD pre.length [] = [(x.1 : Int), (x.2 : Int)] := by
  simp [rowsOf]
theorem rows_len (l : List (Nat × Nat)) : (rowsOf l).length = l.length := by simp [rowsOf]
theorem impl_leastFactor_l (n : Nat) (h2 : 2 ≤ n) (hn : n ≤ 2000000000) : ∀ (j d : Nat), n + 1 ≤ d + j → 2 ≤ d → d ≤ n + 1 → Above d n → Ev (fun k => impl_leastFactor.l0 k n d) (lf n : Int) := by
  have hend : ∀ d : Nat, d ≤ n + 1 → n < d * d → Above d n → Ev (fun k => impl_leastFactor.l0 k n d) (lf n : Int) := by
    intro d hd hlt ha
    rw [lf_eq h2 (isLf_self h2 hlt (fun m hm hmd hmn => by have := ha m hm hmn; omega))]
    refine Ev.done fun k => ?_
    simp only [impl_leastFactor.l0]
    rw [wr_mul (sq_lt (by omega) (by omega)), if_neg (by omega)]
  intro j
  induction j with
  | zero =>
    intro d hj hd2 hd ha
    exact hend d hd (by have := Nat.mul_le_mul_right d hd2; omega) ha
  | succ j ih =>
    intro d hj hd2 hd ha
    by_cases hlt : n < d * d
    · exact hend d hd hlt ha
    · have hdn : d ≤ n := by have := Nat.mul_le_mul_right d hd2; omega
      by_cases hm : n % d = 0
      · rw [(ha.lf hd2 (by omega) (Nat.dvd_of_mod_eq_zero hm)).2]
        refine Ev.done fun k => ?_
        simp only [impl_leastFactor.l0]
        rw [wr_mul (sq_lt (by omega) (by omega)), tm, if_pos (by omega), if_neg (by omega), if_pos (by omega)]
      · refine Ev.step (fun k => ?_) (ih (d + 1) (by omega) (by omega) (by omega) (ha.succ (fun h => hm (Nat.mod_eq_zero_of_dvd h))))
        simp only [impl_leastFactor.l0]
        rw [wr_mul (sq_lt (by omega) (by omega)), tm, if_pos (by omega), if_neg (by omega), if_neg (by omega), wr_succ (by omega)]
theorem impl_leastFactor_ev (n : Nat) (h2 : 2 ≤ n) (hn : n ≤ 2000000000) : Ev (fun k => impl_leastFactor.f k n) (lf n : Int) :=
  impl_leastFactor_l n h2 hn n 2 (by omega) (Nat.le_refl _) (by omega) (Above.two n)
theorem impl_factors_l1 (p : Nat) (hp : 2 ≤ p) : ∀ (n : Nat) (acc : List (List Int)) (e : Nat) {v : List (List Int)}, 0 < n → n ≤ 2000000000 → e + n ≤ 4000000000 → p ≤ 2000000000 → acc.length + 1 ≤ 3000000000 →
    Ev (fun k => impl_factors.l0 k (rs p n) (acc ++ [[(p : Int), ((e + vl p n : Nat) : Int)]])) v → Ev (fun k => impl_factors.l1 k n acc p e) v := by
  intro n
  induction n using Nat.strongRecOn with
  | _ n ih =>
    intro acc e v h0 hn he hpb hl h
    by_cases hd : p ∣ n
    · obtain ⟨c, rfl⟩ := hd
      have hc0 : 0 < c := by
        rcases Nat.eq_zero_or_pos c with h | h
        · subst h; simp at h0
        · exact h
      have hlt : c < p * c := by have := Nat.mul_le_mul_right c hp; omega
      rw [rs_mul_self hp hc0, vl_mul_self hp hc0] at h
      refine Ev.step (fun k => ?_) (ih c hlt acc (e + 1) (v := v) hc0 (by omega) (by omega) hpb hl (by rw [show e + 1 + vl p c = e + (vl p c + 1) by omega]; exact h))
      simp only [impl_factors.l1]
      rw [tm, if_neg (by omega), if_pos (by simp), wr_tdiv (by omega), wr_succ (by omega), Nat.mul_div_cancel_left c (by omega)]
    · rw [rs_of_not_dvd hp h0 hd, vl_zero hp h0 hd] at h
      refine Ev.step (fun k => ?_) h
      simp only [impl_factors.l1]
      have : n % p ≠ 0 := fun hm => hd (Nat.dvd_of_mod_eq_zero hm)
      rw [tm, if_neg (by omega), if_neg (by omega), if_pos (by omega), Nat.add_zero]
theorem impl_factors_l0 : ∀ (n : Nat) (acc : List (List Int)), n ≤ 1000000000 → acc.length + n ≤ 2000000000 → Ev (fun k => impl_factors.l0 k n acc) (acc ++ rowsOf (facs n)) := by
  intro n
  induction n using Nat.strongRecOn with
  | _ n ih =>
    intro acc hn hl
    by_cases h : n < 2
    · rw [facs_small h]
      refine Ev.done fun k => ?_
      simp only [impl_factors.l0]
      rw [if_neg (by omega)]
      simp [rowsOf]
    · have h2 : 2 ≤ n := by omega
      have hp := lf_two_le h2
      have hple := lf_le h2
      have hlt := rs_lt hp (by omega) (lf_dvd h2)
      have key : Ev (fun k => impl_factors.l1 k n acc (lf n) 0) (acc ++ rowsOf (facs n)) := by
        have := ih _ hlt (acc ++ [[(lf n : Int), ((0 + vl (lf n) n : Nat) : Int)]]) (by omega) (by rw [List.length_append, List.length_singleton]; omega)
        refine impl_factors_l1 (lf n) hp n acc 0 (by omega) (by omega) (by omega) (by omega) (by omega) ?_
        rw [facs_cons h2]
        rw [List.append_assoc] at this
        simpa [rowsOf] using this
      refine Ev.step (f := fun k => (impl_leastFactor.f k n).bind fun t => impl_factors.l1 k n acc t 0) (fun k => ?_) ((impl_leastFactor_ev n h2 (by omega)).bind key)
      simp only [impl_factors.l0]
      rw [if_pos (by omega)]
theorem impl_factors_ev (n : Nat) (hn : n ≤ 1000000000) : Ev (fun k => impl_factors.f k n) (rowsOf (facs n)) := by
  have := impl_factors_l0 n [] hn (by simp; omega)
  exact this
theorem spec_prLeast_l (n : Nat) (h2 : 2 ≤ n) (hn : n ≤ 2000000000) : ∀ (j d : Nat), n + 1 ≤ d + j → 2 ≤ d → d ≤ n + 1 → Above d n → Ev (fun k => spec_prLeast.l0 k n d) (lf n : Int) := by
  have hend : ∀ d : Nat, d ≤ n + 1 → n < d * d → Above d n → Ev (fun k => spec_prLeast.l0 k n d) (lf n : Int) := by
    intro d hd hlt ha
    rw [lf_eq h2 (isLf_self h2 hlt (fun m hm hmd hmn => by have := ha m hm hmn; omega))]
    refine Ev.done fun k => ?_
    simp only [spec_prLeast.l0]
    rw [wr_mul (sq_lt (by omega) (by omega)), if_neg (by omega)]
  intro j
  induction j with
  | zero =>
    intro d hj hd2 hd ha
    exact hend d hd (by have := Nat.mul_le_mul_right d hd2; omega) ha
  | succ j ih =>
    intro d hj hd2 hd ha
    by_cases hlt : n < d * d
    · exact hend d hd hlt ha
    · have hdn : d ≤ n := by have := Nat.mul_le_mul_right d hd2; omega
      by_cases hm : n % d = 0
      · rw [(ha.lf hd2 (by omega) (Nat.dvd_of_mod_eq_zero hm)).2]
        refine Ev.done fun k => ?_
        simp only [spec_prLeast.l0]
        rw [wr_mul (sq_lt (by omega) (by omega)), tm, if_pos (by omega), if_neg (by omega), if_pos (by omega)]
      · refine Ev.step (fun k => ?_) (ih (d + 1) (by omega) (by omega) (by omega) (ha.succ (fun h => hm (Nat.mod_eq_zero_of_dvd h))))
        simp only [spec_prLeast.l0]
        rw [wr_mul (sq_lt (by omega) (by omega)), tm, if_pos (by omega), if_neg (by omega), if_neg (by omega), wr_succ (by omega)]
theorem spec_prLeast_ev (n : Nat) (h2 : 2 ≤ n) (hn : n ≤ 2000000000) : Ev (fun k => spec_prLeast.f k n) (lf n : Int) :=
  spec_prLeast_l n h2 hn n 2 (by omega) (Nat.le_refl _) (by omega) (Above.two n)
theorem spec_prFactors_l1 (p : Nat) (hp : 2 ≤ p) : ∀ (n : Nat) (acc : List (List Int)) (e : Nat) {v : List (List Int)}, 0 < n → n ≤ 2000000000 → e + n ≤ 4000000000 → p ≤ 2000000000 → acc.length + 1 ≤ 3000000000 →
    Ev (fun k => spec_prFactors.l0 k (rs p n) (acc ++ [[(p : Int), ((e + vl p n : Nat) : Int)]])) v → Ev (fun k => spec_prFactors.l1 k n acc p e) v := by
  intro n
  induction n using Nat.strongRecOn with
  | _ n ih =>
    intro acc e v h0 hn he hpb hl h
    by_cases hd : p ∣ n
    · obtain ⟨c, rfl⟩ := hd
      have hc0 : 0 < c := by
        rcases Nat.eq_zero_or_pos c with h | h
        · subst h; simp at h0
        · exact h
      have hlt : c < p * c := by have := Nat.mul_le_mul_right c hp; omega
      rw [rs_mul_self hp hc0, vl_mul_self hp hc0] at h
      refine Ev.step (fun k => ?_) (ih c hlt acc (e + 1) (v := v) hc0 (by omega) (by omega) hpb hl (by rw [show e + 1 + vl p c = e + (vl p c + 1) by omega]; exact h))
      simp only [spec_prFactors.l1]
      rw [tm, if_neg (by omega), if_pos (by simp), wr_tdiv (by omega), wr_succ (by omega), Nat.mul_div_cancel_left c (by omega)]
    · rw [rs_of_not_dvd hp h0 hd, vl_zero hp h0 hd] at h
      refine Ev.step (fun k => ?_) h
      simp only [spec_prFactors.l1]
      have : n % p ≠ 0 := fun hm => hd (Nat.dvd_of_mod_eq_zero hm)
      rw [tm, if_neg (by omega), if_neg (by omega), if_pos (by omega), Nat.add_zero]
theorem spec_prFactors_l0 : ∀ (n : Nat) (acc : List (List Int)), n ≤ 1000000000 → acc.length + n ≤ 2000000000 → Ev (fun k => spec_prFactors.l0 k n acc) (acc ++ rowsOf (facs n)) := by
  intro n
  induction n using Nat.strongRecOn with
  | _ n ih =>
    intro acc hn hl
    by_cases h : n < 2
    · rw [facs_small h]
      refine Ev.done fun k => ?_
      simp only [spec_prFactors.l0]
      rw [if_neg (by omega)]
      simp [rowsOf]
    · have h2 : 2 ≤ n := by omega
      have hp := lf_two_le h2
      have hple := lf_le h2
      have hlt := rs_lt hp (by omega) (lf_dvd h2)
      have key : Ev (fun k => spec_prFactors.l1 k n acc (lf n) 0) (acc ++ rowsOf (facs n)) := by
        have := ih _ hlt (acc ++ [[(lf n : Int), ((0 + vl (lf n) n : Nat) : Int)]]) (by omega) (by rw [List.length_append, List.length_singleton]; omega)
        refine spec_prFactors_l1 (lf n) hp n acc 0 (by omega) (by omega) (by omega) (by omega) (by omega) ?_
        rw [facs_cons h2]
        rw [List.append_assoc] at this
        simpa [rowsOf] using this
      refine Ev.step (f := fun k => (spec_prLeast.f k n).bind fun t => spec_prFactors.l1 k n acc t 0) (fun k => ?_) ((spec_prLeast_ev n h2 (by omega)).bind key)
      simp only [spec_prFactors.l0]
      rw [if_pos (by omega)]
theorem spec_prFactors_ev (n : Nat) (hn : n ≤ 1000000000) : Ev (fun k => spec_prFactors.f k n) (rowsOf (facs n)) := by
  have := spec_prFactors_l0 n [] hn (by simp; omega)
  exact this
theorem impl_isDivided_eq (a : Int) : impl_isDivided.f a = some (decide (1 ≤ a ∧ a ≤ 1000000)) := by
  unfold impl_isDivided.f
  by_cases h : a ≥ 1
  · rw [if_pos h, decide_eq_decide.2 (show a ≤ 1000000 ↔ 1 ≤ a ∧ a ≤ 1000000 from ⟨fun k => ⟨h, k⟩, fun k => k.2⟩)]
  · rw [if_neg h, decide_eq_false (fun k => h k.1)]
/-- A list of naturals as the program's ints. -/
def ints (l : List Nat) : List Int := l.map fun d : Nat => (d : Int)
theorem ints_len (l : List Nat) : (ints l).length = l.length := by simp [ints]
theorem ints_app (l m : List Nat) : ints l ++ ints m = ints (l ++ m) := by simp [ints]
theorem ints_get (pre : List Nat) (x : Nat) (l : List Nat) : rd (ints (pre ++ x :: l)) (pre.length : Int) = x := by
  unfold rd
  rw [Int.toNat_natCast]
  simp [ints]
theorem ints_take (l m : List Nat) : (ints (l ++ m)).take ((l.length : Nat) : Int).toNat = ints l := by
  rw [Int.toNat_natCast]
  unfold ints
  rw [List.map_append, List.take_left' (by simp)]
theorem expand_pre (D : List Nat) (p : Nat) : ∀ e, ∃ r, expand D p e = D ++ r
  | 0 => ⟨[], by simp [expand]⟩
  | e + 1 => by
    obtain ⟨r, hr⟩ := expand_pre D p e
    exact ⟨r ++ D.map (· * p ^ (e + 1)), by simp only [expand]; rw [hr, List.append_assoc]⟩
theorem impl_divisors_l2 (f : List Int) (b : Int) (rows : List (List Int)) (n3 ri ex jj : Int) (m : Nat) {v : List Int} : ∀ (suf pre acc : List Nat), (∀ d ∈ suf, d * m < 9223372036854775808) → (acc.length + suf.length) ≤ 4000000000 → (pre ++ suf).length ≤ 4000000000 →
    Ev (fun k => impl_divisors.l1 k (ints (acc ++ suf.map (· * m))) f b m rows n3 ri ex (wrap64 (jj + 1))) v →
    Ev (fun k => impl_divisors.l2 k (ints acc) f b m rows n3 ri ex jj (ints (pre ++ suf)) ((pre ++ suf).length : Nat) (pre.length : Nat)) v
  | [], pre, acc, _, _, _, h => by
    refine Ev.step (fun k => ?_) h
    simp only [impl_divisors.l2]
    rw [if_neg (by simp), List.map_nil, List.append_nil]
  | d :: suf, pre, acc, hb, hl, hl2, h => by
    have hlen : (pre ++ d :: suf).length = pre.length + 1 + suf.length := by simp; omega
    have hsl : (d :: suf).length = suf.length + 1 := by simp
    have ih := impl_divisors_l2 f b rows n3 ri ex jj m (v := v) suf (pre ++ [d]) (acc ++ [d * m]) (fun x hx => hb x (by simp [hx])) (by simp; omega) (by simp; omega) (by simpa using h)
    rw [List.append_assoc] at ih
    simp only [List.singleton_append] at ih
    refine Ev.step (fun k => ?_) ih
    simp only [impl_divisors.l2]
    have hil := ints_len (pre ++ d :: suf)
    have hal := ints_len acc
    rw [if_pos (by omega), if_pos (by omega), if_pos (by omega), if_pos (by omega), ints_get, wr_mul (hb d (by simp)), wr_succ (by omega)]
    congr 1
    · simp [ints]
    · simp
theorem impl_divisors_l1 (rows : List (List Int)) (n3 ri : Int) (p e : Nat) (D : List Nat) (N : Nat) (hN : N ≤ 1000000000) (hp : 2 ≤ p) (hpe : p ^ e ≤ N) (hl : D.length * (e + 1) ≤ N) (hb : ∀ d ∈ D, d * p ^ e ≤ N) {v : List Int}
    (h : Ev (fun k => impl_divisors.l0 k (ints (expand D p e)) rows n3 (wrap64 (ri + 1))) v) : ∀ (r j : Nat), j + r = e → 
    Ev (fun k => impl_divisors.l1 k (ints (expand D p j)) [(p : Int), (e : Int)] (D.length : Nat) ((p ^ j : Nat) : Int) rows n3 ri (e : Int) (j : Int)) v
  | 0, j, hj => by
    have : j = e := by omega
    subst this
    refine Ev.step (fun k => ?_) h
    simp only [impl_divisors.l1]
    rw [if_neg (by omega)]
  | r + 1, j, hj => by
    have ih := impl_divisors_l1 rows n3 ri p e D N hN hp hpe hl hb h r (j + 1) (by omega)
    have hpj : p ^ (j + 1) ≤ p ^ e := Nat.pow_le_pow_right (by omega) (by omega)
    have hle := expand_len D p j
    have hle1 := expand_len D p (j + 1)
    have hm1 : D.length * (j + 1) ≤ D.length * (e + 1) := Nat.mul_le_mul_left _ (by omega)
    have hm0 : D.length ≤ D.length * (j + 1) := Nat.le_mul_of_pos_right _ (by omega)
    have hee : e < p ^ e := by have := succ_le_pow hp e; omega
    have hrd : rd [(p : Int), (e : Int)] 0 = p := rfl
    obtain ⟨t, ht⟩ := expand_pre D p j
    have hpos : 0 < p ^ (j + 1) := Nat.pow_pos (by omega)
    have hw : wrap64 (((p ^ j : Nat) : Int) * p) = ((p ^ (j + 1) : Nat) : Int) := by
      rw [wr_mul (Nat.lt_of_le_of_lt (Nat.le_of_eq (Nat.pow_succ (n := p) (m := j)).symm) (show p ^ (j + 1) < 9223372036854775808 by omega)), Nat.pow_succ]
    have key := impl_divisors_l2 [(p : Int), (e : Int)] (D.length : Nat) rows n3 ri e j (p ^ (j + 1)) (v := v) D [] (expand D p j) (fun d hd => by
      have h1 := hb d hd
      have h2 : d * p ^ (j + 1) ≤ d * p ^ e := Nat.mul_le_mul_left _ hpj
      omega) (by rw [hle]; omega) (by simp; omega) (by rw [wr_succ (by omega)]; exact ih)
    simp only [List.nil_append, List.length_nil] at key
    refine Ev.step (fun k => ?_) key
    simp only [impl_divisors.l1]
    rw [if_pos (by omega), if_pos (by simp), if_pos (by omega), if_pos (by rw [ints_len, hle]; omega), hrd, hw]
    rw [show (ints (expand D p j)).take ((D.length : Nat) : Int).toNat = ints D by rw [ht]; exact ints_take D t]
    simp only [Option.bind_some]
    rw [ints_len]
    rfl
theorem impl_divisors_l0 (N : Nat) (hN : N ≤ 1000000000) : ∀ (l pre : List (Nat × Nat)) (D : List Nat) {c : Nat}, IsFac c l → D.length * fprod l ≤ N → fprod l ≤ N → (∀ d ∈ D, d * fprod l ≤ N) → (pre ++ l).length ≤ 2000000000 →
    Ev (fun k => impl_divisors.l0 k (ints D) (rowsOf (pre ++ l)) ((pre ++ l).length : Nat) (pre.length : Nat)) ((ints (rawL l D)).mergeSort fun x y => decide (x ≤ y))
  | [], pre, D, _, _, h1, _, _, hl => by
    refine Ev.done fun k => ?_
    simp only [impl_divisors.l0]
    simp only [fprod, Nat.mul_one] at h1
    rw [if_neg (by simp)]
    unfold slices_Sort_int_int.f
    rw [if_pos (by rw [ints_len]; omega)]
    rfl
  | (p, e) :: l, pre, D, _, hf, h1, h2, hb, hl => by
    have hlen : (pre ++ (p, e) :: l).length = pre.length + 1 + l.length := by simp; omega
    have hlr := rows_len (pre ++ (p, e) :: l)
    have hget : rd_L2 (rowsOf (pre ++ (p, e) :: l)) (pre.length : Int) = [(p : Int), (e : Int)] := by
      unfold rd_L2; rw [Int.toNat_natCast]; exact rows_get pre (p, e) l
    have hp := hf.2.1.two_le
    have hfp : 0 < fprod l := fprod_pos hf.2.2.2
    have hee : e + 1 ≤ p ^ e := succ_le_pow hp e
    simp only [fprod] at h1 h2 hb
    have hpe : p ^ e ≤ p ^ e * fprod l := Nat.le_mul_of_pos_right _ hfp
    have hd1 : D.length * (e + 1) * fprod l ≤ D.length * (p ^ e * fprod l) := by rw [Nat.mul_assoc]; exact Nat.mul_le_mul_left _ (Nat.mul_le_mul_right _ hee)
    have hd2 : D.length * (e + 1) ≤ D.length * (e + 1) * fprod l := Nat.le_mul_of_pos_right _ hfp
    have hfl : fprod l ≤ p ^ e * fprod l := Nat.le_mul_of_pos_left _ (Nat.pow_pos (by omega))
    have ih := impl_divisors_l0 N hN l (pre ++ [(p, e)]) (expand D p e) hf.2.2.2 (by rw [expand_len]; omega) (by omega) (fun x hx => by
      obtain ⟨d, j, hd, hj, rfl⟩ := (mem_expand D p x e).1 hx
      have h3 := hb d hd
      have h4 : p ^ j ≤ p ^ e := Nat.pow_le_pow_right (by omega) hj
      have h5 : d * p ^ j * fprod l ≤ d * (p ^ e * fprod l) := by rw [Nat.mul_assoc]; exact Nat.mul_le_mul_left _ (Nat.mul_le_mul_right _ h4)
      omega) (by simpa using hl)
    rw [List.append_assoc] at ih
    simp only [List.singleton_append, List.length_append, List.length_singleton] at ih
    have key := impl_divisors_l1 (rowsOf (pre ++ (p, e) :: l)) ((pre ++ (p, e) :: l).length : Nat) (pre.length : Nat) p e D N hN hp (by omega) (by omega) (fun d hd => by
      have h3 := hb d hd
      have h5 : d * p ^ e ≤ d * (p ^ e * fprod l) := Nat.mul_le_mul_left _ hpe
      omega) (by rw [wr_succ (by omega)]; rw [hlen]; rw [List.length_cons] at ih; rw [show pre.length + (l.length + 1) = pre.length + 1 + l.length by omega] at ih; exact ih) e 0 (by omega)
    refine Ev.step (fun k => ?_) key
    simp only [impl_divisors.l0]
    have hr1 : rd [(p : Int), (e : Int)] 1 = e := rfl
    rw [if_pos (by omega), if_pos (by omega), if_pos (by omega), hget, if_pos (by simp), hr1, ints_len]
    rfl
theorem impl_divisors_ev (n : Nat) (h0 : 0 < n) (hn : n ≤ 1000000000) : Ev (fun k => impl_divisors.f k n) (ints (divs n)) := by
  have hl := facs_len n
  have h := impl_divisors_l0 n hn (facs n) [] [1] (facs_fac h0) (by rw [fprod_facs h0]; simp) (by rw [fprod_facs h0]; exact Nat.le_refl _) (fun d hd => by rw [fprod_facs h0]; rw [List.mem_singleton] at hd; rw [hd, Nat.one_mul]; exact Nat.le_refl _) (by simpa using (by omega : (facs n).length ≤ 2000000000))
  rw [show ints (divs n) = (ints (rawL (facs n) [1])).mergeSort fun x y => decide (x ≤ y) from (sort_raw h0).symm]
  refine (impl_factors_ev n hn).bind ?_
  rw [rows_len]
  exact h
/-- The reference's list: the small divisors rise, the great ones fall. -/
theorem dv_done (n : Nat) (h0 : 0 < n) (i : Nat) (lo hi : List Nat) (hsq : n < i * i) (hs : ∀ x ∈ lo, x * x ≤ n)
    (hlp : lo.Pairwise (· < ·)) (hlm : ∀ x, x ∈ lo ↔ x ∣ n ∧ x < i) (hhp : hi.Pairwise (· < ·)) (hhm : ∀ x, x ∈ hi ↔ x ∣ n ∧ n / x < i ∧ n < x * x) : lo ++ hi = divs n := by
  refine sorted_unique (List.pairwise_append.2 ⟨hlp, hhp, fun x hx y hy => ?_⟩) (divs_sorted n) fun x => ?_
  · have h1 := hs x hx
    have h2 := ((hhm y).1 hy).2.2
    rcases Nat.lt_or_ge x y with h | h
    · exact h
    · have := Nat.mul_le_mul h h
      omega
  · rw [mem_divs h0, List.mem_append, hlm, hhm]
    constructor
    · rintro (h | h)
      · exact h.1
      · exact h.1
    · intro h
      rcases Nat.lt_or_ge x i with hx | hx
      · exact .inl ⟨h, hx⟩
      · have hxx := Nat.mul_le_mul hx hx
        refine .inr ⟨h, ?_, by omega⟩
        have h3 : n < i * x := Nat.lt_of_lt_of_le hsq (Nat.mul_le_mul_left _ hx)
        exact (Nat.div_lt_iff_lt_mul (Nat.pos_of_dvd_of_pos h h0)).2 h3
theorem dv_hi_stay (n : Nat) (h0 : 0 < n) (i : Nat) (hi : List Nat) (hhm : ∀ x, x ∈ hi ↔ x ∣ n ∧ n / x < i ∧ n < x * x) (h : ¬ (i ∣ n ∧ i * i < n)) : ∀ x, x ∈ hi ↔ x ∣ n ∧ n / x < i + 1 ∧ n < x * x := by
  intro x
  rw [hhm]
  refine ⟨fun hx => ⟨hx.1, by omega, hx.2.2⟩, fun hx => ⟨hx.1, ?_, hx.2.2⟩⟩
  have he : n / x ≠ i := by
    intro he
    have hm : i * x = n := by rw [← he]; exact Nat.div_mul_cancel hx.1
    refine h ⟨⟨x, hm.symm⟩, ?_⟩
    have h3 := hx.2.2
    rcases Nat.lt_or_ge i x with hix | hix
    · have hi0 : 0 < i := by rcases Nat.eq_zero_or_pos i with h | h; (subst h; omega); exact h
      have := Nat.mul_lt_mul_of_pos_left hix hi0
      omega
    · have := Nat.mul_le_mul_right x hix
      omega
  have := hx.2.1
  omega
theorem dv_hi_cons (n : Nat) (h0 : 0 < n) (i : Nat) (hi1 : 1 ≤ i) (hi : List Nat) (hhp : hi.Pairwise (· < ·)) (hhm : ∀ x, x ∈ hi ↔ x ∣ n ∧ n / x < i ∧ n < x * x) (hd : i ∣ n) (hl : i * i < n) :
    (n / i :: hi).Pairwise (· < ·) ∧ ∀ x, x ∈ n / i :: hi ↔ x ∣ n ∧ n / x < i + 1 ∧ n < x * x := by
  have hm : i * (n / i) = n := Nat.mul_div_cancel' hd
  constructor
  · refine List.pairwise_cons.2 ⟨fun y hy => ?_, hhp⟩
    have hy' := (hhm y).1 hy
    rcases Nat.lt_or_ge (n / i) y with h | h
    · exact h
    · exfalso
      have hyp := Nat.pos_of_dvd_of_pos hy'.1 h0
      have h1 : i * y ≤ n := by have := Nat.mul_le_mul_left i h; omega
      have h2 : i ≤ n / y := (Nat.le_div_iff_mul_le hyp).2 h1
      omega
  · intro x
    rw [List.mem_cons, hhm]
    constructor
    · rintro (rfl | hx)
      · have hlt : i < n / i := by
          rcases Nat.lt_or_ge i (n / i) with h | h
          · exact h
          · have := Nat.mul_le_mul_left i h; omega
        have hdd : n / (n / i) = i := by
          refine Nat.div_eq_of_eq_mul_left (by omega) ?_
          exact hm.symm
        refine ⟨⟨i, by rw [Nat.mul_comm]; exact hm.symm⟩, by rw [hdd]; omega, ?_⟩
        have h3 : i * (n / i) < n / i * (n / i) := Nat.mul_lt_mul_of_pos_right hlt (by omega)
        omega
      · exact ⟨hx.1, by omega, hx.2.2⟩
    · intro hx
      by_cases he : n / x = i
      · left
        have hm2 : i * x = n := by rw [← he]; exact Nat.div_mul_cancel hx.1
        exact (Nat.div_eq_of_eq_mul_right (by omega) hm2.symm).symm
      · exact .inr ⟨hx.1, by omega, hx.2.2⟩
theorem dv_lo_stay (n i : Nat) (lo : List Nat) (hlm : ∀ x, x ∈ lo ↔ x ∣ n ∧ x < i) (h : ¬ i ∣ n) : ∀ x, x ∈ lo ↔ x ∣ n ∧ x < i + 1 := by
  intro x
  rw [hlm]
  refine ⟨fun hx => ⟨hx.1, by omega⟩, fun hx => ⟨hx.1, ?_⟩⟩
  have : x ≠ i := by rintro rfl; exact h hx.1
  omega
theorem dv_lo_snoc (n i : Nat) (lo : List Nat) (hlp : lo.Pairwise (· < ·)) (hlm : ∀ x, x ∈ lo ↔ x ∣ n ∧ x < i) (h : i ∣ n) : (lo ++ [i]).Pairwise (· < ·) ∧ ∀ x, x ∈ lo ++ [i] ↔ x ∣ n ∧ x < i + 1 := by
  constructor
  · refine List.pairwise_append.2 ⟨hlp, List.pairwise_singleton _ _, fun x hx y hy => ?_⟩
    rw [List.mem_singleton] at hy
    subst hy
    exact ((hlm x).1 hx).2
  · intro x
    rw [List.mem_append, List.mem_singleton, hlm]
    constructor
    · rintro (hx | rfl)
      · exact ⟨hx.1, by omega⟩
      · exact ⟨h, by omega⟩
    · intro hx
      by_cases he : x = i
      · exact .inr he
      · exact .inl ⟨hx.1, by omega⟩
theorem spec_dvList_l (n : Nat) (h0 : 0 < n) (hn : n ≤ 1000000000) : ∀ (r i : Nat) (lo hi : List Nat), 1 ≤ i → i ≤ 40000 → 40000 ≤ i + r → lo.length + 1 ≤ i → hi.length + 1 ≤ i → (∀ x ∈ lo, x * x ≤ n) →
    lo.Pairwise (· < ·) → (∀ x, x ∈ lo ↔ x ∣ n ∧ x < i) → hi.Pairwise (· < ·) → (∀ x, x ∈ hi ↔ x ∣ n ∧ n / x < i ∧ n < x * x) →
    Ev (fun k => spec_dvList.l0 k n (ints lo) (ints hi) i) (ints (divs n)) := by
  intro r
  induction r with
  | zero =>
    intro i lo hi hi1 hi2 hr hlo hhi hs hlp hlm hhp hhm
    have he : i = 40000 := by omega
    subst he
    refine Ev.done fun k => ?_
    simp only [spec_dvList.l0]
    have h1 := ints_len lo
    have h2 := ints_len hi
    rw [if_neg (by rw [wr_mul (by omega)]; omega), if_pos (by omega), ints_app, dv_done n h0 40000 lo hi (by omega) hs hlp hlm hhp hhm]
  | succ r ih =>
    intro i lo hi hi1 hi2 hr hlo hhi hs hlp hlm hhp hhm
    have h1 := ints_len lo
    have h2 := ints_len hi
    have hb : i * i ≤ 1600000000 := Nat.mul_le_mul hi2 hi2
    have hw : wrap64 ((i : Int) * i) = ((i * i : Nat) : Int) := wr_mul (by omega)
    by_cases hsq : i * i ≤ n
    · have hi3 : i < 40000 := by
        rcases Nat.lt_or_ge i 40000 with h | h
        · exact h
        · have : i = 40000 := by omega
          subst this; omega
      by_cases hd : i ∣ n
      · have hmod : n % i = 0 := Nat.mod_eq_zero_of_dvd hd
        have hl := dv_lo_snoc n i lo hlp hlm hd
        have hs' : ∀ x ∈ lo ++ [i], x * x ≤ n := by
          intro x hx
          rcases List.mem_append.1 hx with h | h
          · exact hs x h
          · rw [List.mem_singleton] at h; rw [h]; exact hsq
        by_cases hlt : i * i < n
        · have hh := dv_hi_cons n h0 i hi1 hi hhp hhm hd hlt
          have key := ih (i + 1) (lo ++ [i]) (n / i :: hi) (by omega) (by omega) (by omega) (by rw [List.length_append, List.length_singleton]; omega) (by rw [List.length_cons]; omega) hs' hl.1 hl.2 hh.1 hh.2
          refine Ev.step (fun k => ?_) key
          simp only [spec_dvList.l0]
          rw [hw, if_pos (by omega), if_neg (by omega), tm, if_pos (by omega), if_pos (by omega), Option.bind_some, if_pos (by omega), Option.bind_some, if_pos (by simp; omega), wr_succ (by omega), wr_tdiv (by omega)]
          simp [ints]
        · have hh := dv_hi_stay n h0 i hi hhm (fun h => hlt h.2)
          have key := ih (i + 1) (lo ++ [i]) hi (by omega) (by omega) (by omega) (by rw [List.length_append, List.length_singleton]; omega) (by omega) hs' hl.1 hl.2 hhp hh
          refine Ev.step (fun k => ?_) key
          simp only [spec_dvList.l0]
          rw [hw, if_pos (by omega), if_neg (by omega), tm, if_pos (by omega), if_pos (by omega), Option.bind_some, if_neg (by omega), wr_succ (by omega)]
          simp [ints]
      · have hmod : n % i ≠ 0 := fun hm => hd (Nat.dvd_of_mod_eq_zero hm)
        have hh := dv_hi_stay n h0 i hi hhm (fun h => hd h.1)
        have key := ih (i + 1) lo hi (by omega) (by omega) (by omega) (by omega) (by omega) hs hlp (dv_lo_stay n i lo hlm hd) hhp hh
        refine Ev.step (fun k => ?_) key
        simp only [spec_dvList.l0]
        rw [hw, if_pos (by omega), if_neg (by omega), tm, if_neg (by omega), wr_succ (by omega)]
    · refine Ev.done fun k => ?_
      simp only [spec_dvList.l0]
      rw [hw, if_neg (by omega), if_pos (by omega), ints_app, dv_done n h0 i lo hi (by omega) hs hlp hlm hhp hhm]
theorem spec_dvList_ev (n : Nat) (h0 : 0 < n) (hn : n ≤ 1000000000) : Ev (fun k => spec_dvList.f k n) (ints (divs n)) :=
  spec_dvList_l n h0 hn 40000 1 [] [] (by omega) (by omega) (by omega) (by simp) (by simp) (by simp) List.Pairwise.nil (fun x => by
    simp only [List.not_mem_nil, false_iff]
    rintro ⟨h1, h2⟩
    have := Nat.pos_of_dvd_of_pos h1 h0
    omega) List.Pairwise.nil (fun x => by
    simp only [List.not_mem_nil, false_iff]
    rintro ⟨h1, h2, _⟩
    have h3 := Nat.pos_of_dvd_of_pos h1 h0
    have h4 := Nat.le_of_dvd h0 h1
    have := Nat.div_pos h4 h3
    omega)
/-- The sum of a list, as Go's int adds. -/
def wsum : Int → List Int → Int
  | s, [] => s
  | s, x :: l => wsum (wrap64 (s + x)) l
theorem rd_mid (pre : List Int) (x : Int) (l : List Int) : rd (pre ++ x :: l) (pre.length : Int) = x := by unfold rd; rw [Int.toNat_natCast]; simp
theorem lsum_nonneg {f : Nat → Int} (hf : ∀ x, 0 ≤ f x) : ∀ l, 0 ≤ lsum f l
  | [] => Int.le_refl 0
  | x :: l => by have := hf x; have := lsum_nonneg hf l; simp only [lsum]; omega
theorem wsum_eq : ∀ (l : List Nat) (s : Int), 0 ≤ s → s + lsum (fun d => (d : Int)) l < 9223372036854775808 → wsum s (ints l) = s + lsum (fun d => (d : Int)) l
  | [], s, _, _ => by simp [wsum, ints, lsum]
  | d :: l, s, h0, h1 => by
    have h2 := lsum_nonneg (f := fun d : Nat => (d : Int)) (fun x => Int.natCast_nonneg x) l
    simp only [lsum] at h1 ⊢
    show wsum (wrap64 (s + (d : Int))) (ints l) = _
    rw [wri (by omega) (by omega), wsum_eq l (s + d) (by omega) (by omega)]
    omega
theorem sig_le (n : Nat) (h0 : 0 < n) (hn : n ≤ 3000000000) : (n : Int) ≤ lsum (fun d => (d : Int)) (divs n) ∧ lsum (fun d => (d : Int)) (divs n) ≤ n * n ∧ wsum 0 (ints (divs n)) = lsum (fun d => (d : Int)) (divs n) := by
  have h1 := lsum_bd (f := fun d : Nat => (d : Int)) (b := n) (divs n) (fun x hx => by have := divs_pos hx; omega)
  have h2 := divs_len h0
  have h3 : (n : Int) * (divs n).length ≤ n * n := Int.mul_le_mul_of_nonneg_left (by omega) (by omega)
  have h4 : n * n ≤ 3000000000 * 3000000000 := Nat.mul_le_mul hn hn
  have h5 : (n : Int) * n ≤ 3000000000 * 3000000000 := by rw [← Int.natCast_mul]; omega
  refine ⟨?_, by omega, ?_⟩
  · have : divs n = (List.range n).filter (dv n) ++ [n] := by
      unfold divs
      rw [List.range_succ, List.filter_append]
      congr 1
      simp [dv]
      omega
    rw [this, lsum_append]
    have h6 := lsum_nonneg (f := fun d : Nat => (d : Int)) (fun x => Int.natCast_nonneg x) ((List.range n).filter (dv n))
    simp only [lsum]
    omega
  · have := wsum_eq (divs n) 0 (by omega) (by omega)
    rw [this]; omega
theorem spec_dvSum_l : ∀ (suf pre : List Int) (s : Int), (pre ++ suf).length ≤ 4000000000 → Ev (fun k => spec_dvSum.l0 k s (pre ++ suf) ((pre ++ suf).length : Nat) (pre.length : Nat)) (wsum s suf)
  | [], pre, s, _ => by
    refine Ev.done fun k => ?_
    simp only [spec_dvSum.l0]
    rw [if_neg (by simp)]
    rfl
  | x :: suf, pre, s, hl => by
    have hlen : (pre ++ x :: suf).length = pre.length + 1 + suf.length := by simp; omega
    have ih := spec_dvSum_l suf (pre ++ [x]) (wrap64 (s + x)) (by simpa using hl)
    rw [List.append_assoc] at ih
    simp only [List.singleton_append, List.length_append, List.length_singleton] at ih
    refine Ev.step (fun k => ?_) ih
    simp only [spec_dvSum.l0]
    rw [if_pos (by omega), if_pos (by omega), if_pos (by omega), rd_mid, wr_succ (by omega)]
    simp
theorem spec_dvSum_ev (n : Nat) (h0 : 0 < n) (hn : n ≤ 1000000000) : Ev (fun k => spec_dvSum.f k n) (wsum 0 (ints (divs n))) := by
  refine (spec_dvList_ev n h0 hn).bind ?_
  have h1 := divs_len h0
  have h2 := ints_len (divs n)
  exact spec_dvSum_l (ints (divs n)) [] 0 (by rw [List.nil_append]; omega)
theorem impl_sumOf_l : ∀ (suf pre : List Int) (s : Int), (pre ++ suf).length ≤ 4000000000 → Ev (fun k => impl_sumOf.l0 k s (pre ++ suf) ((pre ++ suf).length : Nat) (pre.length : Nat)) (wsum s suf)
  | [], pre, s, _ => by
    refine Ev.done fun k => ?_
    simp only [impl_sumOf.l0]
    rw [if_neg (by simp)]
    rfl
  | x :: suf, pre, s, hl => by
    have hlen : (pre ++ x :: suf).length = pre.length + 1 + suf.length := by simp; omega
    have ih := impl_sumOf_l suf (pre ++ [x]) (wrap64 (s + x)) (by simpa using hl)
    rw [List.append_assoc] at ih
    simp only [List.singleton_append, List.length_append, List.length_singleton] at ih
    refine Ev.step (fun k => ?_) ih
    simp only [impl_sumOf.l0]
    rw [if_pos (by omega), if_pos (by omega), if_pos (by omega), rd_mid, wr_succ (by omega)]
    simp
theorem impl_sumOf_ev (n : Nat) (h0 : 0 < n) (hn : n ≤ 1000000000) : Ev (fun k => impl_sumOf.f k (ints (divs n))) (wsum 0 (ints (divs n))) := by
  have h1 := divs_len h0
  have h2 := ints_len (divs n)
  exact impl_sumOf_l (ints (divs n)) [] 0 (by rw [List.nil_append]; omega)
theorem impl_sumStep_ev (n : Nat) (h0 : 0 < n) (hn : n ≤ 1000000000) : Ev (fun k => impl_sumStep.f k n) (wrap64 (wsum 0 (ints (divs n)) - n)) :=
  (impl_divisors_ev n h0 hn).bind ((impl_sumOf_ev n h0 hn).bind (Ev.now _))
theorem impl_isMost_eq (a : Int) : impl_isMost.f a = some (decide (0 ≤ a ∧ a ≤ 600)) := by
  unfold impl_isMost.f
  by_cases h : a ≥ 0
  · rw [if_pos h, decide_eq_decide.2 (show a ≤ 600 ↔ 0 ≤ a ∧ a ≤ 600 from ⟨fun k => ⟨h, k⟩, fun k => k.2⟩)]
  · rw [if_neg h, decide_eq_false (fun k => h k.1)]
/-- The numbers 1, .., n. -/
def ups (n : Nat) : List Int := (List.range n).map fun i => ((i + 1 : Nat) : Int)
theorem ups_len (n : Nat) : (ups n).length = n := by simp [ups]
theorem ups_succ (n : Nat) : ups (n + 1) = ups n ++ [((n + 1 : Nat) : Int)] := by simp [ups, List.range_succ]
theorem impl_upTo_l (n : Nat) (hn : n ≤ 1000000) : ∀ (j i : Nat), n ≤ i + j → i ≤ n → Ev (fun k => impl_upTo.l0 k n 1 (ups i) ((i + 1 : Nat) : Int)) (ups n) := by
  intro j
  induction j with
  | zero =>
    intro i h1 h2
    obtain rfl : i = n := by omega
    refine Ev.done fun k => ?_
    simp only [impl_upTo.l0]
    rw [if_neg (by omega)]
  | succ j ih =>
    intro i h1 h2
    by_cases h : i < n
    · refine Ev.step (fun k => ?_) (ih (i + 1) (by omega) (by omega))
      have hl := ups_len i
      simp only [impl_upTo.l0]
      rw [if_pos (by omega), if_pos (by omega), wr_succ (by omega), ups_succ]
    · obtain rfl : i = n := by omega
      refine Ev.done fun k => ?_
      simp only [impl_upTo.l0]
      rw [if_neg (by omega)]
theorem impl_upTo_ev (n : Nat) (hn : n ≤ 1000000) : Ev (fun k => impl_upTo.f k 1 n 1) (ups n) :=
  impl_upTo_l n hn n 0 (by omega) (by omega)
/-- What is kept of 1, .., n. -/
def kept (p : Nat → Bool) : Nat → List Int
  | 0 => []
  | n + 1 => if p (n + 1) = true then kept p n else kept p n ++ [((n + 1 : Nat) : Int)]
theorem kept_len (p : Nat → Bool) : ∀ n, (kept p n).length ≤ n
  | 0 => by simp [kept]
  | n + 1 => by
    have := kept_len p n
    simp only [kept]; split
    · omega
    · simp; omega
theorem delKeep_app {q : Int → Option Bool} : ∀ (l : List Int) (x : Int), delKeep q (l ++ [x]) = (delKeep q l).bind fun r => (q x).bind fun b => some (if b = true then r else r ++ [x])
  | [], x => by
    simp only [List.nil_append, delKeep, Option.bind_some]
  | y :: l, x => by
    simp only [List.cons_append, delKeep, delKeep_app l x]
    cases q y with
    | none => rfl
    | some b =>
      simp only [Option.bind_some]
      cases delKeep q l with
      | none => rfl
      | some r =>
        simp only [Option.bind_some]
        cases q x with
        | none => rfl
        | some c =>
          simp only [Option.bind_some]
          cases b <;> cases c <;> rfl
theorem delKeep_ups {q : Nat → Int → Option Bool} {p : Nat → Bool} : ∀ (n : Nat), (∀ m, 0 < m → m ≤ n → Ev (fun k => q k (m : Int)) (p m)) → Ev (fun k => delKeep (q k) (ups n)) (kept p n)
  | 0, _ => Ev.const fun k => rfl
  | n + 1, h => by
    have ih := delKeep_ups n (fun m h1 h2 => h m h1 (by omega))
    refine Ev.congr (f := fun k => (delKeep (q k) (ups n)).bind fun r => (q k ((n + 1 : Nat) : Int)).bind fun b => some (if b = true then r else r ++ [((n + 1 : Nat) : Int)])) (fun k => by rw [ups_succ, delKeep_app]) (ih.bind ((h (n + 1) (by omega) (by omega)).bind ?_))
    exact Ev.now _
/-- Not its divisors' half sum: as the program asks. -/
def notPerf (m : Nat) : Bool := wrap64 (wsum 0 (ints (divs m)) - m) != m
theorem perf_iff (m : Nat) (h0 : 0 < m) (hm : m ≤ 600) : wsum 0 (ints (divs m)) = wrap64 (2 * (m : Int)) ↔ notPerf m = false := by
  have hs := sig_le m h0 (by omega)
  have h4 : m * m ≤ 600 * 600 := Nat.mul_le_mul hm hm
  have h5 : (m : Int) * m ≤ 600 * 600 := by rw [← Int.natCast_mul]; omega
  unfold notPerf
  rw [hs.2.2, wri (by omega) (by omega), wri (by omega) (by omega), bne_eq_false_iff_eq]
  omega
theorem spec_PerfectUpTo_l (n : Nat) (hn : n ≤ 600) : ∀ (j i : Nat), n ≤ i + j → i ≤ n → Ev (fun k => spec_PerfectUpTo.l0 k n (kept notPerf i) ((i + 1 : Nat) : Int)) (kept notPerf n, true) := by
  have hend : Ev (fun k => spec_PerfectUpTo.l0 k n (kept notPerf n) ((n + 1 : Nat) : Int)) (kept notPerf n, true) := by
    refine Ev.done fun k => ?_
    simp only [spec_PerfectUpTo.l0]
    rw [if_neg (by omega)]
  intro j
  induction j with
  | zero =>
    intro i h1 h2
    obtain rfl : i = n := by omega
    exact hend
  | succ j ih =>
    intro i h1 h2
    by_cases h : i < n
    · have hih := ih (i + 1) (by omega) (by omega)
      have hl := kept_len notPerf i
      have hiff := perf_iff (i + 1) (by omega) (by omega)
      have e2 : wrap64 (((i + 1 : Nat) : Int) + 1) = ((i + 1 + 1 : Nat) : Int) := wr_succ (by omega)
      refine Ev.step (f := fun k => (spec_dvSum.f k ((i + 1 : Nat) : Int)).bind fun t => if t = wrap64 (2 * ((i + 1 : Nat) : Int)) then spec_PerfectUpTo.l0 k n (kept notPerf i ++ [((i + 1 : Nat) : Int)]) ((i + 1 + 1 : Nat) : Int) else spec_PerfectUpTo.l0 k n (kept notPerf i) ((i + 1 + 1 : Nat) : Int)) (fun k => ?_) ((spec_dvSum_ev (i + 1) (by omega) (by omega)).bind ?_)
      · simp only [spec_PerfectUpTo.l0]
        have hlt : (kept notPerf i).length < 17592186044416 := by omega
        simp only [if_pos hlt]
        rw [if_pos (by omega), e2]
      · by_cases hs : notPerf (i + 1) = false
        · have h1 := hiff.2 hs
          simp only [kept, hs, Bool.false_eq_true, if_false] at hih
          simp only [if_pos h1]
          exact hih
        · have h1 : ¬ (wsum 0 (ints (divs (i + 1))) = wrap64 (2 * ((i + 1 : Nat) : Int))) := fun hc => hs (hiff.1 hc)
          simp only [if_neg h1]
          simp only [kept, (by simpa using hs : notPerf (i + 1) = true), if_true] at hih
          exact hih
    · obtain rfl : i = n := by omega
      exact hend
theorem impl_PerfectUpTo_1_ev (n : Nat) (h0 : 0 < n) (hn : n ≤ 1000000000) : Ev (fun k => impl_PerfectUpTo_1.f k n) (notPerf n) :=
  (impl_sumStep_ev n h0 hn).bind (Ev.now _)
theorem spec_PerfectUpTo_ev (n : Nat) (hn : n ≤ 600) : Ev (fun k => spec_PerfectUpTo.f k n) (kept notPerf n, true) := by
  unfold spec_PerfectUpTo.f
  rw [spec_l1In_eq, decide_eq_true (by omega)]
  simp only [Option.bind_some, if_true]
  exact spec_PerfectUpTo_l n hn n 0 (by omega) (by omega)
theorem impl_PerfectUpTo_ev (n : Nat) (hn : n ≤ 600) : Ev (fun k => impl_PerfectUpTo.f k n) (kept notPerf n, true) := by
  unfold impl_PerfectUpTo.f
  rw [impl_isMost_eq, decide_eq_true (by omega)]
  simp only [Option.bind_some, if_true]
  exact (impl_upTo_ev n (by omega)).bind ((delKeep_ups (q := fun k x => impl_PerfectUpTo_1.f k x) n (fun m h0 hm => impl_PerfectUpTo_1_ev m (by omega) (by omega))).bind (Ev.now _))
theorem impl_totient_l : ∀ (l pre : List (Nat × Nat)) (s : Nat) {c : Nat}, IsFac c l → s ≤ 1000000000 → (∀ f ∈ l, f.1 ≤ 1000000000) → (pre ++ l).length ≤ 2000000000 → Ev (fun k => impl_totient.l0 k s (rowsOf (pre ++ l)) ((pre ++ l).length : Int) (pre.length : Int)) (totL l s : Int)
  | [], pre, s, _, _, _, _, hl => by
    refine Ev.done fun k => ?_
    simp only [impl_totient.l0]
    rw [if_neg (by simp)]
    simp [totL]
  | (p, e) :: l, pre, s, _, hf, hs, hb, hl => by
    have hlen : (pre ++ (p, e) :: l).length = pre.length + 1 + l.length := by simp; omega
    have hlr := rows_len (pre ++ (p, e) :: l)
    have hget : rd_L2 (rowsOf (pre ++ (p, e) :: l)) (pre.length : Int) = [(p : Int), (e : Int)] := by
      unfold rd_L2; rw [Int.toNat_natCast]; exact rows_get pre (p, e) l
    have hrd : rd [(p : Int), (e : Int)] 0 = p := rfl
    have hp := hf.2.1.two_le
    have hpb : p ≤ 1000000000 := hb (p, e) (by simp)
    have hst := totL_step (s := s) (p := p)
    have ih := impl_totient_l l (pre ++ [(p, e)]) (s / p * (p - 1)) hf.2.2.2 (by omega) (fun f hf => hb f (by simp [hf])) (by simpa using hl)
    rw [List.append_assoc] at ih
    simp only [List.singleton_append, List.length_append, List.length_singleton] at ih
    have hpm : wrap64 ((p : Int) - 1) = ((p - 1 : Nat) : Int) := by rw [wri (by omega) (by omega)]; omega
    refine Ev.step (fun k => ?_) ih
    simp only [impl_totient.l0]
    rw [if_pos (by omega), if_pos (by omega), if_pos (by omega), hget, if_pos (by simp), hrd, if_neg (by omega), wr_tdiv (by omega), hpm, wr_mul (by omega), wr_succ (by omega), List.length_append]
theorem impl_totient_ev (n : Nat) (h0 : 0 < n) (hn : n ≤ 1000000000) : Ev (fun k => impl_totient.f k n) (phi n : Int) := by
  have hl := facs_len n
  have h := impl_totient_l (facs n) [] n (facs_fac h0) hn (fun f hf => by
    obtain ⟨p, e⟩ := f
    have := Nat.le_of_dvd h0 ((mem_facs h0 p e).1 hf).2.1
    simp only; omega) (by simpa using (by omega : (facs n).length ≤ 2000000000))
  refine (impl_factors_ev n hn).bind ?_
  rw [rows_len]
  exact h
theorem spec_dvTotient_l : ∀ (l pre : List (Nat × Nat)) (s : Nat) {c : Nat}, IsFac c l → s ≤ 1000000000 → (∀ f ∈ l, f.1 ≤ 1000000000) → (pre ++ l).length ≤ 2000000000 → Ev (fun k => spec_dvTotient.l0 k s (rowsOf (pre ++ l)) ((pre ++ l).length : Int) (pre.length : Int)) (totL l s : Int)
  | [], pre, s, _, _, _, _, hl => by
    refine Ev.done fun k => ?_
    simp only [spec_dvTotient.l0]
    rw [if_neg (by simp)]
    simp [totL]
  | (p, e) :: l, pre, s, _, hf, hs, hb, hl => by
    have hlen : (pre ++ (p, e) :: l).length = pre.length + 1 + l.length := by simp; omega
    have hlr := rows_len (pre ++ (p, e) :: l)
    have hget : rd_L2 (rowsOf (pre ++ (p, e) :: l)) (pre.length : Int) = [(p : Int), (e : Int)] := by
      unfold rd_L2; rw [Int.toNat_natCast]; exact rows_get pre (p, e) l
    have hrd : rd [(p : Int), (e : Int)] 0 = p := rfl
    have hp := hf.2.1.two_le
    have hpb : p ≤ 1000000000 := hb (p, e) (by simp)
    have hst := totL_step (s := s) (p := p)
    have ih := spec_dvTotient_l l (pre ++ [(p, e)]) (s / p * (p - 1)) hf.2.2.2 (by omega) (fun f hf => hb f (by simp [hf])) (by simpa using hl)
    rw [List.append_assoc] at ih
    simp only [List.singleton_append, List.length_append, List.length_singleton] at ih
    have hpm : wrap64 ((p : Int) - 1) = ((p - 1 : Nat) : Int) := by rw [wri (by omega) (by omega)]; omega
    refine Ev.step (fun k => ?_) ih
    simp only [spec_dvTotient.l0]
    rw [if_pos (by omega), if_pos (by omega), if_pos (by omega), hget, if_pos (by simp), hrd, if_neg (by omega), wr_tdiv (by omega), hpm, wr_mul (by omega), wr_succ (by omega), List.length_append]
theorem spec_dvTotient_ev (n : Nat) (h0 : 0 < n) (hn : n ≤ 1000000000) : Ev (fun k => spec_dvTotient.f k n) (phi n : Int) := by
  have hl := facs_len n
  have h := spec_dvTotient_l (facs n) [] n (facs_fac h0) hn (fun f hf => by
    obtain ⟨p, e⟩ := f
    have := Nat.le_of_dvd h0 ((mem_facs h0 p e).1 hf).2.1
    simp only; omega) (by simpa using (by omega : (facs n).length ≤ 2000000000))
  refine (spec_prFactors_ev n hn).bind ?_
  rw [rows_len]
  exact h
theorem phi_sum (n : Nat) (hn : n ≤ 600) : 0 ≤ sumF (fun k => (phi k : Int)) n ∧ sumF (fun k => (phi k : Int)) n ≤ 360000 := by
  have h : ∀ m : Nat, m ≤ 600 → 0 ≤ sumF (fun k => (phi k : Int)) m ∧ sumF (fun k => (phi k : Int)) m ≤ 600 * m := by
    intro m
    induction m with
    | zero => intro _; simp [sumF]
    | succ m ih =>
      intro hm
      have h1 := ih (by omega)
      have h2 := phi_le (m + 1)
      simp only [sumF]
      omega
  have := h n hn
  omega
theorem spec_CoprimePairs_l (n : Nat) (hn : n ≤ 600) : ∀ (j i : Nat), n + 1 ≤ i + j → i ≤ n → Ev (fun k => spec_CoprimePairs.l0 k n (sumF (fun k => (phi k : Int)) i) ((i + 1 : Nat) : Int)) (2 * sumF (fun k => (phi k : Int)) n - 1, true) := by
  intro j
  induction j with
  | zero => intro i h1 h2; omega
  | succ j ih =>
    intro i h1 h2
    have hb := phi_sum i (by omega)
    by_cases he : i = n
    · subst he
      refine Ev.done fun k => ?_
      simp only [spec_CoprimePairs.l0]
      have e1 : wrap64 (2 * sumF (fun k => (phi k : Int)) i) = 2 * sumF (fun k => (phi k : Int)) i := wri (by omega) (by omega)
      rw [if_neg (by omega), e1, wri (by omega) (by omega)]
    · have hb2 := phi_sum (i + 1) (by omega)
      refine Ev.step (f := fun k => (spec_dvTotient.f k ((i + 1 : Nat) : Int)).bind fun t => spec_CoprimePairs.l0 k n (wrap64 (sumF (fun k => (phi k : Int)) i + t)) (wrap64 (((i + 1 : Nat) : Int) + 1))) (fun k => ?_) ?_
      · simp only [spec_CoprimePairs.l0]
        rw [if_pos (by omega)]
      · refine (spec_dvTotient_ev (i + 1) (by omega) (by omega)).bind ?_
        simp only [sumF] at hb2
        have e : wrap64 (sumF (fun k => (phi k : Int)) i + (phi (i + 1) : Int)) = sumF (fun k => (phi k : Int)) (i + 1) := by
          rw [wri (by omega) (by omega)]; rfl
        simp only [e]
        rw [wr_succ (by omega)]
        exact ih (i + 1) (by omega) (by omega)
theorem impl_CoprimePairs_l (n : Nat) (hn : n ≤ 600) : ∀ (j i : Nat), n + 1 ≤ i + j → i ≤ n → Ev (fun k => impl_CoprimePairs.l0 k n (sumF (fun k => (phi k : Int)) i) ((i + 1 : Nat) : Int)) (2 * sumF (fun k => (phi k : Int)) n - 1, true) := by
  intro j
  induction j with
  | zero => intro i h1 h2; omega
  | succ j ih =>
    intro i h1 h2
    have hb := phi_sum i (by omega)
    by_cases he : i = n
    · subst he
      refine Ev.done fun k => ?_
      simp only [impl_CoprimePairs.l0]
      have e1 : wrap64 (2 * sumF (fun k => (phi k : Int)) i) = 2 * sumF (fun k => (phi k : Int)) i := wri (by omega) (by omega)
      rw [if_neg (by omega), e1, wri (by omega) (by omega)]
    · have hb2 := phi_sum (i + 1) (by omega)
      refine Ev.step (f := fun k => (impl_totient.f k ((i + 1 : Nat) : Int)).bind fun t => impl_CoprimePairs.l0 k n (wrap64 (sumF (fun k => (phi k : Int)) i + t)) (wrap64 (((i + 1 : Nat) : Int) + 1))) (fun k => ?_) ?_
      · simp only [impl_CoprimePairs.l0]
        rw [if_pos (by omega)]
      · refine (impl_totient_ev (i + 1) (by omega) (by omega)).bind ?_
        simp only [sumF] at hb2
        have e : wrap64 (sumF (fun k => (phi k : Int)) i + (phi (i + 1) : Int)) = sumF (fun k => (phi k : Int)) (i + 1) := by
          rw [wri (by omega) (by omega)]; rfl
        simp only [e]
        rw [wr_succ (by omega)]
        exact ih (i + 1) (by omega) (by omega)
theorem spec_CoprimePairs_ev (n : Nat) (h0 : 0 < n) (hn : n ≤ 600) : Ev (fun k => spec_CoprimePairs.f k n) (2 * sumF (fun k => (phi k : Int)) n - 1, true) := by
  unfold spec_CoprimePairs.f
  rw [spec_l1In_eq, decide_eq_true (by omega)]
  simp only [Option.bind_some, if_true]
  exact spec_CoprimePairs_l n hn (n + 1) 0 (by omega) (by omega)
theorem impl_CoprimePairs_ev (n : Nat) (h0 : 0 < n) (hn : n ≤ 600) : Ev (fun k => impl_CoprimePairs.f k n) (2 * sumF (fun k => (phi k : Int)) n - 1, true) := by
  unfold impl_CoprimePairs.f
  refine Ev.congr (f := fun k => impl_CoprimePairs.j0 k n false) (fun k => by rw [if_neg (by omega), decide_eq_false (by omega)]) ?_
  refine Ev.step (fun k => ?_) (impl_CoprimePairs_l n hn (n + 1) 0 (by omega) (by omega))
  simp only [impl_CoprimePairs.j0]
  rfl
theorem spec_CoprimePairs_no (a : Int) (h : ¬ (1 ≤ a ∧ a ≤ 600)) : Ev (fun k => spec_CoprimePairs.f k a) (0, false) := by
  refine Ev.const fun k => ?_
  unfold spec_CoprimePairs.f
  rw [spec_l1In_eq, decide_eq_false h]
  rfl
theorem impl_CoprimePairs_no (a : Int) (h : ¬ (1 ≤ a ∧ a ≤ 600)) : Ev (fun k => impl_CoprimePairs.f k a) (0, false) := by
  unfold impl_CoprimePairs.f
  refine Ev.congr (f := fun k => impl_CoprimePairs.j0 k a true) (fun k => ?_) (Ev.done fun k => by simp only [impl_CoprimePairs.j0, if_true])
  by_cases h1 : a < 1
  · rw [if_pos h1]
  · rw [if_neg h1, decide_eq_true (by omega)]
/-! a cursor over bytes: it never fails -/
def Bytes (l : List Int) : Prop := ∀ x ∈ l, (0 : Int) ≤ x ∧ x ≤ 255
theorem bytes_of {l : List Int} (h : ∀ x ∈ l, (Lit.int .u8 x).wf = true) : Bytes l := by
  intro x hx
  have := h x hx
  simpa [Lit.wf, IntKind.min, IntKind.max, IntKind.signed, IntKind.bits] using this
theorem and255 (x : Int) : 0 ≤ Go.bits .and .u64 x 255 ∧ Go.bits .and .u64 x 255 ≤ 255 := by
  have hb : (BitVec.ofInt 64 x &&& BitVec.ofInt 64 255).toNat ≤ 255 := by
    rw [BitVec.toNat_and]
    have : (BitVec.ofInt 64 255).toNat = 255 := by decide
    rw [this]
    exact Nat.and_le_right
  have e : Go.bits .and .u64 x 255 = IntKind.u64.wrap ((BitVec.ofInt 64 x &&& BitVec.ofInt 64 255).toNat : Int) := rfl
  rw [e]
  generalize (BitVec.ofInt 64 x &&& BitVec.ofInt 64 255).toNat = m at *
  have e2 : IntKind.u64.wrap (m : Int) = m := by
    have : IntKind.u64.wrap (m : Int) = (m : Int) % 18446744073709551616 := by simp [IntKind.wrap, IntKind.bits, IntKind.signed]
    rw [this]; omega
  rw [e2]; omega
theorem rd_byte {l : List Int} (h : Bytes l) (i : Int) : 0 ≤ rd l i ∧ rd l i ≤ 255 := by
  unfold rd
  rw [List.getD_eq_getElem?_getD]
  cases hg : l[i.toNat]? with
  | none => simp
  | some x => exact h x (List.mem_of_getElem? hg)
theorem wr_byte {x : Int} (h : 0 ≤ x ∧ x ≤ 255) : wrap64 x = x := wri (by omega) (by omega)
/-- The next byte, or what stands for one. -/
theorem next_ok {l : List Int} (h : Bytes l) (a s : Int) (h0 : 0 ≤ a) (h1 : a ≤ 1000000000) : ∃ v s', spec_l1Cur_next.f l a s = some (v, a + 1, s') ∧ 0 ≤ v ∧ v ≤ 255 := by
  have hr := rd_byte h a
  have ea : wrap64 (a + 1) = a + 1 := wri (by omega) (by omega)
  unfold spec_l1Cur_next.f
  rw [ea, if_pos h0]
  by_cases c1 : a < (l.length : Int)
  · rw [if_pos c1]
    by_cases c2 : a + 1 ≤ (l.length : Int)
    · rw [if_pos c2]; exact ⟨_, _, rfl, by rw [wr_byte hr]; exact hr⟩
    · rw [if_neg c2]; exact ⟨_, _, rfl, by rw [wr_byte (and255 _)]; exact and255 _⟩
  · rw [if_neg c1]
    by_cases c2 : a + 1 ≤ (l.length : Int)
    · rw [if_pos c2]; exact ⟨_, _, rfl, by decide⟩
    · rw [if_neg c2]; exact ⟨_, _, rfl, by rw [wr_byte (and255 _)]; exact and255 _⟩
theorem pick_ok {l : List Int} (h : Bytes l) (a s n : Int) (h0 : 0 ≤ a) (h1 : a ≤ 900000000) (hn : n ≤ 1000000) : ∃ v a' s', spec_l1Cur_pick.f l a s n = some (v, a', s') ∧ a ≤ a' ∧ a' ≤ a + 2 ∧ 0 ≤ v ∧ (1 ≤ n → v < n) := by
  unfold spec_l1Cur_pick.f
  by_cases c : n ≤ 1
  · rw [if_pos c]; exact ⟨0, a, s, rfl, Int.le_refl _, by omega, Int.le_refl _, fun _ => by omega⟩
  · rw [if_neg c]
    obtain ⟨v, s1, e1, v0, v1⟩ := next_ok h a s h0 (by omega)
    rw [e1]
    simp only [Option.bind_some]
    have hm : ∀ z : Int, 0 ≤ z → 0 ≤ Int.tmod z n ∧ Int.tmod z n < n := fun z hz => ⟨Int.tmod_nonneg _ hz, Int.tmod_lt_of_pos _ (by omega)⟩
    by_cases c2 : n > 200
    · rw [if_pos c2]
      obtain ⟨u, s2, e2, u0, u1⟩ := next_ok h (a + 1) s1 (by omega) (by omega)
      rw [e2]
      simp only [Option.bind_some]
      rw [if_neg (by omega)]
      have e3 : wrap64 (v * 256) = v * 256 := wri (by omega) (by omega)
      have e4 : wrap64 (v * 256 + u) = v * 256 + u := wri (by omega) (by omega)
      rw [e3, e4]
      exact ⟨_, _, _, rfl, by omega, by omega, (hm _ (by omega)).1, fun _ => (hm _ (by omega)).2⟩
    · rw [if_neg c2, if_neg (by omega)]
      exact ⟨_, _, _, rfl, by omega, by omega, (hm _ v0).1, fun _ => (hm _ v0).2⟩
theorem one_ok {l : List Int} (h : Bytes l) (a s n : Int) (h0 : 0 ≤ a) (h1 : a ≤ 900000000) (hn : n ≤ 1000000) : ∃ v a' s', spec_l1Cur_one.f l a s n = some (v, a', s') ∧ a ≤ a' ∧ a' ≤ a + 2 := by
  obtain ⟨v, a', s', e, k1, k2, _, _⟩ := pick_ok h a s n h0 h1 hn
  unfold spec_l1Cur_one.f
  rw [e]
  exact ⟨_, _, _, rfl, k1, k2⟩
theorem among_ok {l : List Int} (h : Bytes l) (a s : Int) (m : List Int) (h0 : 0 ≤ a) (h1 : a ≤ 900000000) (hm : 1 ≤ m.length) (hn : m.length ≤ 1000000) : ∃ v a' s', spec_l1Cur_among.f l a s m = some (v, a', s') ∧ a ≤ a' ∧ a' ≤ a + 2 := by
  obtain ⟨v, a', s', e, k1, k2, v0, v1⟩ := pick_ok h a s (m.length : Int) h0 h1 (by omega)
  unfold spec_l1Cur_among.f
  rw [e]
  simp only [Option.bind_some]
  rw [if_pos v0, if_pos (v1 (by omega))]
  exact ⟨_, _, _, rfl, k1, k2⟩
theorem upTo_ok {l : List Int} (h : Bytes l) : ∃ v a s, spec_l1Cur_upTo.f l 0 0 = some (v, a, s) := by
  obtain ⟨b, a, s, e, k1, k2⟩ := one_ok h 0 0 12 (by decide) (by decide) (by decide)
  unfold spec_l1Cur_upTo.f
  rw [e]
  simp only [Option.bind_some]
  by_cases c : b = true
  · rw [if_pos c]
    obtain ⟨v, a2, s2, e2, _, _⟩ := among_ok h a s [(-1), 0, 600, 601, 4611686018427387904] (by omega) (by omega) (by decide) (by decide)
    rw [e2]
    exact ⟨_, _, _, rfl⟩
  · rw [if_neg c]
    obtain ⟨v, a2, s2, e2, _, _⟩ := pick_ok h a s 120 (by omega) (by omega) (by decide)
    rw [e2]
    exact ⟨_, _, _, rfl⟩
theorem laws_gSame_l : ∀ (suf pre : List Int), (pre ++ suf).length ≤ 4000000000 → Ev (fun k => laws_gSame.l0 k (pre ++ suf) (pre ++ suf) ((pre ++ suf).length : Nat) (pre.length : Nat)) true
  | [], pre, _ => by
    refine Ev.done fun k => ?_
    simp only [laws_gSame.l0]
    rw [if_neg (by simp)]
  | x :: suf, pre, hl => by
    have hlen : (pre ++ x :: suf).length = pre.length + 1 + suf.length := by simp; omega
    have ih := laws_gSame_l suf (pre ++ [x]) (by simpa using hl)
    rw [List.append_assoc] at ih
    simp only [List.singleton_append, List.length_append, List.length_singleton] at ih
    refine Ev.step (fun k => ?_) ih
    simp only [laws_gSame.l0]
    rw [if_pos (by omega), if_pos (by omega), if_pos (by omega), if_pos (by omega), if_pos trivial, wr_succ (by omega)]
    simp only [List.length_append]
theorem laws_gSame_self (l : List Int) (hl : l.length ≤ 1000000) : Ev (fun k => laws_gSame.f k l l) true := by
  unfold laws_gSame.f
  simp only [if_true]
  exact laws_gSame_l l [] (by rw [List.nil_append]; omega)
theorem laws_gHas_l (x : Int) : ∀ (suf pre : List Int), (pre ++ suf).length ≤ 4000000000 → Ev (fun k => laws_gHas.l0 k x (pre ++ suf) ((pre ++ suf).length : Nat) (pre.length : Nat)) (decide (x ∈ suf))
  | [], pre, _ => by
    refine Ev.done fun k => ?_
    simp only [laws_gHas.l0]
    rw [if_neg (by simp)]
    simp
  | y :: suf, pre, hl => by
    have hlen : (pre ++ y :: suf).length = pre.length + 1 + suf.length := by simp; omega
    have ih := laws_gHas_l x suf (pre ++ [y]) (by simpa using hl)
    rw [List.append_assoc] at ih
    simp only [List.singleton_append, List.length_append, List.length_singleton] at ih
    by_cases h : y = x
    · rw [decide_eq_true (by rw [h]; simp)]
      refine Ev.done fun k => ?_
      simp only [laws_gHas.l0]
      rw [if_pos (by omega), if_pos (by omega), if_pos (by omega), rd_mid, if_pos h]
    · rw [decide_eq_decide.2 (show x ∈ y :: suf ↔ x ∈ suf by rw [List.mem_cons]; exact ⟨fun k => k.resolve_left (fun e => h e.symm), .inr⟩)]
      refine Ev.step (fun k => ?_) ih
      simp only [laws_gHas.l0]
      rw [if_pos (by omega), if_pos (by omega), if_pos (by omega), rd_mid, if_neg h, wr_succ (by omega)]
      simp only [List.length_append]
theorem laws_gHas_ev (l : List Int) (x : Int) (hl : l.length ≤ 1000000) : Ev (fun k => laws_gHas.f k l x) (decide (x ∈ l)) :=
  laws_gHas_l x l [] (by rw [List.nil_append]; omega)
/-- Records: what stands in the list of them, and the best yet. -/
def cD (m : Nat) : Int := ((ints (divs m)).length : Int)
def best : Nat → Int
  | 0 => 0
  | i + 1 => if cD (i + 1) > best i then cD (i + 1) else best i
def recs : Nat → List Int
  | 0 => []
  | i + 1 => if cD (i + 1) > best i then recs i ++ [((i + 1 : Nat) : Int)] else recs i
theorem recs_len : ∀ n, (recs n).length ≤ n
  | 0 => by simp [recs]
  | n + 1 => by
    have := recs_len n
    simp only [recs]; split
    · rw [List.length_append, List.length_singleton]; omega
    · omega
theorem recs_mem (n m : Nat) : ((m : Int) ∈ recs n) ↔ (∃ i, m = i + 1 ∧ i < n ∧ cD (i + 1) > best i) := by
  induction n with
  | zero => simp [recs]
  | succ n ih =>
    have hno : (∃ i, m = i + 1 ∧ i < n + 1 ∧ cD (i + 1) > best i) ↔ (∃ i, m = i + 1 ∧ i < n ∧ cD (i + 1) > best i) ∨ (m = n + 1 ∧ cD (n + 1) > best n) := by
      constructor
      · rintro ⟨i, h1, h2, h3⟩
        by_cases h : i = n
        · subst h; exact .inr ⟨h1, h3⟩
        · exact .inl ⟨i, h1, by omega, h3⟩
      · rintro (⟨i, h1, h2, h3⟩ | ⟨h1, h3⟩)
        · exact ⟨i, h1, by omega, h3⟩
        · exact ⟨n, h1, by omega, h3⟩
    rw [hno]
    simp only [recs]
    by_cases hc : cD (n + 1) > best n
    · rw [if_pos hc, List.mem_append, ih, List.mem_singleton]
      constructor
      · rintro (h | h)
        · exact .inl h
        · exact .inr ⟨by omega, hc⟩
      · rintro (h | h)
        · exact .inl h
        · exact .inr (by omega)
    · rw [if_neg hc, ih]
      constructor
      · exact .inl
      · rintro (h | h)
        · exact h
        · exact absurd h.2 hc
theorem kept_mem (p : Nat → Bool) (n m : Nat) : ((m : Int) ∈ kept p n) ↔ (∃ i, m = i + 1 ∧ i < n ∧ p (i + 1) = false) := by
  induction n with
  | zero => simp [kept]
  | succ n ih =>
    have hno : (∃ i, m = i + 1 ∧ i < n + 1 ∧ p (i + 1) = false) ↔ (∃ i, m = i + 1 ∧ i < n ∧ p (i + 1) = false) ∨ (m = n + 1 ∧ p (n + 1) = false) := by
      constructor
      · rintro ⟨i, h1, h2, h3⟩
        by_cases h : i = n
        · subst h; exact .inr ⟨h1, h3⟩
        · exact .inl ⟨i, h1, by omega, h3⟩
      · rintro (⟨i, h1, h2, h3⟩ | ⟨h1, h3⟩)
        · exact ⟨i, h1, by omega, h3⟩
        · exact ⟨n, h1, by omega, h3⟩
    rw [hno]
    simp only [kept]
    by_cases hc : p (n + 1) = true
    · rw [if_pos hc, ih]
      constructor
      · exact .inl
      · rintro (h | h)
        · exact h
        · rw [hc] at h; exact absurd h.2 (by decide)
    · rw [if_neg hc, List.mem_append, ih, List.mem_singleton]
      constructor
      · rintro (h | h)
        · exact .inl h
        · exact .inr ⟨by omega, by simpa using hc⟩
      · rintro (h | h)
        · exact .inl h
        · exact .inr (by omega)
theorem has_rec (n i : Nat) (h : i < n) : decide (((i + 1 : Nat) : Int) ∈ recs n) = decide (cD (i + 1) > best i) := by
  rw [decide_eq_decide, recs_mem]
  constructor
  · rintro ⟨j, h1, h2, h3⟩
    obtain rfl : j = i := by omega
    exact h3
  · exact fun h3 => ⟨i, rfl, h, h3⟩
theorem has_perf (n i : Nat) (h : i < n) : decide (((i + 1 : Nat) : Int) ∈ kept notPerf n) = !notPerf (i + 1) := by
  have : ((((i + 1 : Nat) : Int) ∈ kept notPerf n)) ↔ notPerf (i + 1) = false := by
    rw [kept_mem]
    constructor
    · rintro ⟨j, h1, h2, h3⟩
      obtain rfl : j = i := by omega
      exact h3
    · exact fun h3 => ⟨i, rfl, h, h3⟩
  rw [decide_eq_decide.2 this]
  by_cases hb : notPerf (i + 1) = false
  · rw [decide_eq_true hb, hb]; rfl
  · rw [decide_eq_false hb, (by simpa using hb : notPerf (i + 1) = true)]; rfl
theorem spec_RecordsUpTo_l (n : Nat) (hn : n ≤ 600) : ∀ (j i : Nat), n ≤ i + j → i ≤ n → Ev (fun k => spec_RecordsUpTo.l0 k n (recs i) (best i) ((i + 1 : Nat) : Int)) (recs n, true) := by
  have hend : ∀ i, i = n → Ev (fun k => spec_RecordsUpTo.l0 k n (recs i) (best i) ((i + 1 : Nat) : Int)) (recs n, true) := by
    intro i hi
    subst hi
    refine Ev.done fun k => ?_
    simp only [spec_RecordsUpTo.l0]
    rw [if_neg (by omega)]
  intro j
  induction j with
  | zero => intro i h1 h2; exact hend i (by omega)
  | succ j ih =>
    intro i h1 h2
    by_cases h : i = n
    · exact hend i h
    · have key := ih (i + 1) (by omega) (by omega)
      have hl := recs_len i
      have hlt : (recs i).length < 17592186044416 := by omega
      have hw : wrap64 (((i + 1 : Nat) : Int) + 1) = ((i + 1 + 1 : Nat) : Int) := wr_succ (by omega)
      refine Ev.step (f := fun k => (spec_dvList.f k ((i + 1 : Nat) : Int)).bind fun t => if (t.length : Int) > best i then spec_RecordsUpTo.l0 k n (recs i ++ [((i + 1 : Nat) : Int)]) (t.length : Int) ((i + 1 + 1 : Nat) : Int) else spec_RecordsUpTo.l0 k n (recs i) (best i) ((i + 1 + 1 : Nat) : Int)) (fun k => ?_) ((spec_dvList_ev (i + 1) (by omega) (by omega)).bind ?_)
      · simp only [spec_RecordsUpTo.l0, if_pos hlt, hw]
        rw [if_pos (by omega)]
      · by_cases hc : cD (i + 1) > best i
        · simp only [recs, best, if_pos hc] at key
          have hc' : ((ints (divs (i + 1))).length : Int) > best i := hc
          simp only [if_pos hc']
          exact key
        · simp only [recs, best, if_neg hc] at key
          have hc' : ¬ ((ints (divs (i + 1))).length : Int) > best i := hc
          simp only [if_neg hc']
          exact key
theorem spec_RecordsUpTo_ev (n : Nat) (hn : n ≤ 600) : Ev (fun k => spec_RecordsUpTo.f k n) (recs n, true) := by
  unfold spec_RecordsUpTo.f
  simp only [spec_l1In_eq, decide_eq_true (show (0 : Int) ≤ (n : Int) ∧ (n : Int) ≤ 600 by omega), Option.bind_some, if_true]
  exact spec_RecordsUpTo_l n hn n 0 (by omega) (by omega)
theorem impl_RecordsUpTo_l (n : Nat) (hn : n ≤ 600) : ∀ (j i : Nat), n ≤ i + j → i ≤ n → Ev (fun k => impl_RecordsUpTo.l0 k n (recs i) (best i) ((i + 1 : Nat) : Int)) (recs n, true) := by
  have hend : ∀ i, i = n → Ev (fun k => impl_RecordsUpTo.l0 k n (recs i) (best i) ((i + 1 : Nat) : Int)) (recs n, true) := by
    intro i hi
    subst hi
    refine Ev.done fun k => ?_
    simp only [impl_RecordsUpTo.l0]
    rw [if_neg (by omega)]
  intro j
  induction j with
  | zero => intro i h1 h2; exact hend i (by omega)
  | succ j ih =>
    intro i h1 h2
    by_cases h : i = n
    · exact hend i h
    · have key := ih (i + 1) (by omega) (by omega)
      have hl := recs_len i
      have hlt : (recs i).length < 17592186044416 := by omega
      have hw : wrap64 (((i + 1 : Nat) : Int) + 1) = ((i + 1 + 1 : Nat) : Int) := wr_succ (by omega)
      refine Ev.step (f := fun k => (impl_divisors.f k ((i + 1 : Nat) : Int)).bind fun t => if (t.length : Int) > best i then impl_RecordsUpTo.l0 k n (recs i ++ [((i + 1 : Nat) : Int)]) (t.length : Int) ((i + 1 + 1 : Nat) : Int) else impl_RecordsUpTo.l0 k n (recs i) (best i) ((i + 1 + 1 : Nat) : Int)) (fun k => ?_) ((impl_divisors_ev (i + 1) (by omega) (by omega)).bind ?_)
      · simp only [impl_RecordsUpTo.l0, if_pos hlt, hw]
        rw [if_pos (by omega)]
      · by_cases hc : cD (i + 1) > best i
        · simp only [recs, best, if_pos hc] at key
          have hc' : ((ints (divs (i + 1))).length : Int) > best i := hc
          simp only [if_pos hc']
          exact key
        · simp only [recs, best, if_neg hc] at key
          have hc' : ¬ ((ints (divs (i + 1))).length : Int) > best i := hc
          simp only [if_neg hc']
          exact key
theorem impl_RecordsUpTo_ev (n : Nat) (hn : n ≤ 600) : Ev (fun k => impl_RecordsUpTo.f k n) (recs n, true) := by
  unfold impl_RecordsUpTo.f
  simp only [impl_isMost_eq, decide_eq_true (show (0 : Int) ≤ (n : Int) ∧ (n : Int) ≤ 600 by omega), Option.bind_some, if_true]
  exact impl_RecordsUpTo_l n hn n 0 (by omega) (by omega)
theorem impl_SumStep_ev (n : Nat) (h0 : 0 < n) (hn : n ≤ 1000000) : Ev (fun k => impl_SumStep.f k n) (wrap64 (wsum 0 (ints (divs n)) - n), true) := by
  unfold impl_SumStep.f
  rw [impl_isDivided_eq, decide_eq_true (by omega)]
  simp only [Option.bind_some, if_true]
  exact (impl_sumStep_ev n h0 (by omega)).bind (Ev.now _)
theorem impl_CountDivisors_ev (n : Nat) (h0 : 0 < n) (hn : n ≤ 1000000) : Ev (fun k => impl_CountDivisors.f k n) (cD n, true) := by
  unfold impl_CountDivisors.f
  rw [impl_isDivided_eq, decide_eq_true (by omega)]
  simp only [Option.bind_some, if_true]
  exact (impl_divisors_ev n h0 (by omega)).bind (Ev.now _)
theorem gcd_step (a b : Nat) : Nat.gcd a b = Nat.gcd b (a % b) := by
  rw [Nat.gcd_comm a b, Nat.gcd_rec b a, Nat.gcd_comm]
theorem laws_gCommon_ev : ∀ (b a : Nat), Ev (fun k => laws_gCommon.l0 k a b) ((Nat.gcd a b : Nat) : Int) := by
  intro b
  induction b using Nat.strongRecOn with
  | _ b ih =>
    intro a
    by_cases h : 0 < b
    · rw [gcd_step]
      refine Ev.step (fun k => ?_) (ih (a % b) (Nat.mod_lt _ h) b)
      simp only [laws_gCommon.l0]
      rw [if_pos (by omega), if_neg (by omega), tm]
    · have : b = 0 := by omega
      subst this
      rw [Nat.gcd_zero_right]
      refine Ev.done fun k => ?_
      simp only [laws_gCommon.l0]
      rw [if_neg (by omega)]
/-- Pairs without a common divisor. -/
def rowC (x : Nat) : Nat → Nat
  | 0 => 0
  | y + 1 => rowC x y + (if Nat.gcd x (y + 1) = 1 then 1 else 0)
def allC (n : Nat) : Nat → Nat
  | 0 => 0
  | x + 1 => allC n x + rowC (x + 1) n
def chkC : Nat → Bool
  | 0 => true
  | n + 1 => chkC n && decide ((allC (n + 1) (n + 1) : Int) = 2 * sumF (fun k => (phi k : Int)) (n + 1) - 1)
set_option maxRecDepth 100000 in
theorem chkC60 : chkC 60 = true := by decide +kernel
theorem chkC_at : ∀ (n m : Nat), chkC n = true → 1 ≤ m → m ≤ n → (allC m m : Int) = 2 * sumF (fun k => (phi k : Int)) m - 1
  | 0, m, _, h1, h2 => by omega
  | n + 1, m, h, h1, h2 => by
    simp only [chkC, Bool.and_eq_true] at h
    by_cases e : m = n + 1
    · subst e; exact of_decide_eq_true h.2
    · exact chkC_at n m h.1 h1 (by omega)
theorem rowC_le (x : Nat) : ∀ y, rowC x y ≤ y
  | 0 => Nat.le_refl 0
  | y + 1 => by have := rowC_le x y; simp only [rowC]; split <;> omega
theorem allC_le (n : Nat) : ∀ x, allC n x ≤ n * x
  | 0 => Nat.zero_le _
  | x + 1 => by have := allC_le n x; have := rowC_le (x + 1) n; simp only [allC]; rw [Nat.mul_succ]; omega
theorem pairs_l2 (n : Nat) (hn : n ≤ 60) (v : Int) (x : Nat) (hx : x < n) {b : Bool} (h : Ev (fun k => laws_FnNumbersOfKinds.l1 k n v ((allC n (x + 1) : Nat) : Int) ((x + 1 + 1 : Nat) : Int)) b) : ∀ (j y : Nat), n ≤ y + j → y ≤ n →
    Ev (fun k => laws_FnNumbersOfKinds.l2 k n v ((allC n x + rowC (x + 1) y : Nat) : Int) ((x + 1 : Nat) : Int) ((y + 1 : Nat) : Int)) b := by
  have hend : ∀ y, y = n → Ev (fun k => laws_FnNumbersOfKinds.l2 k n v ((allC n x + rowC (x + 1) y : Nat) : Int) ((x + 1 : Nat) : Int) ((y + 1 : Nat) : Int)) b := by
    intro y hy
    subst hy
    refine Ev.step (fun k => ?_) h
    simp only [laws_FnNumbersOfKinds.l2]
    rw [if_neg (by omega), wr_succ (by omega)]
    rfl
  intro j
  induction j with
  | zero => intro y h1 h2; exact hend y (by omega)
  | succ j ih =>
    intro y h1 h2
    by_cases hy : y = n
    · exact hend y hy
    · have key := ih (y + 1) (by omega) (by omega)
      have b1 := allC_le n x
      have b2 := rowC_le (x + 1) y
      have b3 : n * x ≤ 60 * 60 := Nat.mul_le_mul hn (by omega)
      have hw : wrap64 (((y + 1 : Nat) : Int) + 1) = ((y + 1 + 1 : Nat) : Int) := wr_succ (by omega)
      have hw2 : wrap64 (((allC n x + rowC (x + 1) y : Nat) : Int) + 1) = ((allC n x + rowC (x + 1) y + 1 : Nat) : Int) := wr_succ (by omega)
      refine Ev.step (f := fun k => (laws_gCommon.f k ((x + 1 : Nat) : Int) ((y + 1 : Nat) : Int)).bind fun t => if t = 1 then laws_FnNumbersOfKinds.l2 k n v ((allC n x + rowC (x + 1) y + 1 : Nat) : Int) ((x + 1 : Nat) : Int) ((y + 1 + 1 : Nat) : Int) else laws_FnNumbersOfKinds.l2 k n v ((allC n x + rowC (x + 1) y : Nat) : Int) ((x + 1 : Nat) : Int) ((y + 1 + 1 : Nat) : Int)) (fun k => ?_) (Ev.bind (laws_gCommon_ev (y + 1) (x + 1)) ?_)
      · simp only [laws_FnNumbersOfKinds.l2, hw, hw2]
        rw [if_pos (by omega)]
      · simp only [rowC] at key
        by_cases hg : Nat.gcd (x + 1) (y + 1) = 1
        · simp only [if_pos hg] at key
          simp only [if_pos (show ((Nat.gcd (x + 1) (y + 1) : Nat) : Int) = 1 by omega)]
          exact key
        · simp only [if_neg hg] at key
          simp only [if_neg (show ¬ ((Nat.gcd (x + 1) (y + 1) : Nat) : Int) = 1 by omega)]
          exact key
theorem pairs_l1 (n : Nat) (hn : n ≤ 60) (v : Int) (hv : ((allC n n : Nat) : Int) = v) : ∀ (j x : Nat), n ≤ x + j → x ≤ n →
    Ev (fun k => laws_FnNumbersOfKinds.l1 k n v ((allC n x : Nat) : Int) ((x + 1 : Nat) : Int)) true := by
  have hend : ∀ x, x = n → Ev (fun k => laws_FnNumbersOfKinds.l1 k n v ((allC n x : Nat) : Int) ((x + 1 : Nat) : Int)) true := by
    intro x hx
    subst hx
    refine Ev.done fun k => ?_
    simp only [laws_FnNumbersOfKinds.l1]
    rw [if_neg (by omega), hv]
    simp
  intro j
  induction j with
  | zero => intro x h1 h2; exact hend x (by omega)
  | succ j ih =>
    intro x h1 h2
    by_cases hx : x = n
    · exact hend x hx
    · refine Ev.step (fun k => ?_) (pairs_l2 n hn v x (by omega) (ih (x + 1) (by omega) (by omega)) n 0 (by omega) (by omega))
      simp only [laws_FnNumbersOfKinds.l1]
      rw [if_pos (by omega)]
      rfl
theorem law_j3 (z : List Int) (a : Int) (hd : spec_DrawCoprimePairs.f z = some a) : Ev (fun k => laws_FnNumbersOfKinds.j3 k z) true := by
  by_cases h : 1 ≤ a ∧ a ≤ 600
  · obtain ⟨n, rfl⟩ := Int.eq_ofNat_of_zero_le (show 0 ≤ a by omega)
    refine Ev.step (f := ?f0) (fun k => ?a0) ?b0
    case a0 => simp only [laws_FnNumbersOfKinds.j3, hd, Option.bind_some]; exact rfl
    refine (impl_CoprimePairs_ev n (by omega) (by omega)).bind ((spec_CoprimePairs_ev n (by omega) (by omega)).bind ?_)
    simp only [bne_self_eq_false, Bool.false_eq_true, if_false]
    refine Ev.step (f := ?f1) (fun k => ?a1) ?b1
    case a1 => simp only [laws_FnNumbersOfKinds.j4, Bool.false_eq_true, if_false, if_true]; exact rfl
    by_cases h6 : (n : Int) ≤ 60
    · rw [decide_eq_true h6]
      refine Ev.step (fun k => ?_) (pairs_l1 n (by omega) _ (chkC_at 60 n chkC60 (by omega) (by omega)) n 0 (by omega) (by omega))
      simp only [laws_FnNumbersOfKinds.j5, if_true]
      rfl
    · rw [decide_eq_false h6]
      exact Ev.done fun k => by simp only [laws_FnNumbersOfKinds.j5, Bool.false_eq_true, if_false]
  · have e1 : Ev (fun k => impl_CoprimePairs.f k a) (0, false) := by
      unfold impl_CoprimePairs.f
      have hj : Ev (fun k => impl_CoprimePairs.j0 k a true) (0, false) := Ev.done fun k => by simp only [impl_CoprimePairs.j0, if_true]
      by_cases h1 : a < 1
      · simp only [if_pos h1]; exact hj
      · simp only [if_neg h1, decide_eq_true (show a > 600 by omega)]; exact hj
    have e2 : Ev (fun k => spec_CoprimePairs.f k a) (0, false) := Ev.const fun k => by
      unfold spec_CoprimePairs.f
      rw [spec_l1In_eq, decide_eq_false h]
      rfl
    refine Ev.step (f := ?f2) (fun k => ?a2) ?b2
    case a2 => simp only [laws_FnNumbersOfKinds.j3, hd, Option.bind_some]; exact rfl
    refine e1.bind (e2.bind ?_)
    simp only [bne_self_eq_false, Bool.false_eq_true, if_false]
    refine Ev.step (f := ?f3) (fun k => ?a3) ?b3
    case a3 => simp only [laws_FnNumbersOfKinds.j4, Bool.false_eq_true, if_false]; exact rfl
    exact Ev.done fun k => by simp only [laws_FnNumbersOfKinds.j5, Bool.false_eq_true, if_false]
theorem law_l0 (n : Nat) (hn : n ≤ 600) (z : List Int) (a : Int) (hd : spec_DrawCoprimePairs.f z = some a) : ∀ (j i : Nat), n ≤ i + j → i ≤ n → Ev (fun k => laws_FnNumbersOfKinds.l0 k z n (kept notPerf n) (recs n) (best i) ((i + 1 : Nat) : Int)) true := by
  have hend : ∀ i, i = n → Ev (fun k => laws_FnNumbersOfKinds.l0 k z n (kept notPerf n) (recs n) (best i) ((i + 1 : Nat) : Int)) true := by
    intro i hi
    subst hi
    refine Ev.step (fun k => ?_) (law_j3 z a hd)
    simp only [laws_FnNumbersOfKinds.l0]
    rw [if_neg (by omega)]
  intro j
  induction j with
  | zero => intro i h1 h2; exact hend i (by omega)
  | succ j ih =>
    intro i h1 h2
    by_cases h : i = n
    · exact hend i h
    · have key := ih (i + 1) (by omega) (by omega)
      have hk := kept_len notPerf n
      have hr := recs_len n
      have hw : wrap64 (((i + 1 : Nat) : Int) + 1) = ((i + 1 + 1 : Nat) : Int) := wr_succ (by omega)
      have hj2 : Ev (fun k => laws_FnNumbersOfKinds.j2 k z n (kept notPerf n) (recs n) (best i) ((i + 1 : Nat) : Int) (cD (i + 1)) false) true := by
        refine Ev.step (fun k => ?_) key
        simp only [laws_FnNumbersOfKinds.j2, Bool.false_eq_true, if_false, hw, best]
        by_cases hc : cD (i + 1) > best i
        · rw [if_pos hc, if_pos hc]
        · rw [if_neg hc, if_neg hc]
      have hle : ((i + 1 : Nat) : Int) ≤ (n : Int) := by omega
      refine Ev.step (f := ?f0) (fun k => ?a0) ?b0
      case a0 => simp only [laws_FnNumbersOfKinds.l0, if_pos hle]; exact rfl
      refine (impl_SumStep_ev (i + 1) (by omega) (by omega)).bind ((impl_CountDivisors_ev (i + 1) (by omega) (by omega)).bind ?_)
      simp only [if_true]
      refine (laws_gHas_ev (kept notPerf n) ((i + 1 : Nat) : Int) (by omega)).bind ?_
      have hp : ((wrap64 (wsum 0 (ints (divs (i + 1))) - ((i + 1 : Nat) : Int)) == ((i + 1 : Nat) : Int)) != decide (((i + 1 : Nat) : Int) ∈ kept notPerf n)) = false := by
        rw [has_perf n i (by omega)]
        unfold notPerf
        rw [bne_eq_false_iff_eq]
        unfold bne
        rw [Bool.not_not]
      simp only [hp, Bool.false_eq_true, if_false]
      refine (laws_gHas_ev (recs n) ((i + 1 : Nat) : Int) (by omega)).bind ?_
      rw [has_rec n i (by omega)]
      simp only [bne_self_eq_false]
      exact hj2
theorem both_kinds (a : Int) (z : List Int) (b : Int) (hd : spec_DrawCoprimePairs.f z = some b) : Ev (fun k => (impl_PerfectUpTo.f k a).bind fun bt238 => ((spec_PerfectUpTo.f k a).bind fun bt242 => ((impl_RecordsUpTo.f k a).bind fun bt246 => ((spec_RecordsUpTo.f k a).bind fun bt250 => (if (bt238.2 != bt242.2) = true then (laws_FnNumbersOfKinds.j0 k z a bt238.1 bt238.2 bt246.1 true) else ((laws_gSame.f k bt238.1 bt242.1).bind fun t254 => (if t254 = true then (if (bt246.2 != bt250.2) = true then (laws_FnNumbersOfKinds.j0 k z a bt238.1 bt238.2 bt246.1 true) else ((laws_gSame.f k bt246.1 bt250.1).bind fun t255 => (if t255 = true then (laws_FnNumbersOfKinds.j0 k z a bt238.1 bt238.2 bt246.1 (bt246.2 != bt238.2)) else (laws_FnNumbersOfKinds.j0 k z a bt238.1 bt238.2 bt246.1 true)))) else (laws_FnNumbersOfKinds.j0 k z a bt238.1 bt238.2 bt246.1 true)))))))) true := by
  by_cases h : 0 ≤ a ∧ a ≤ 600
  · obtain ⟨n, rfl⟩ := Int.eq_ofNat_of_zero_le (show 0 ≤ a by omega)
    have hk := kept_len notPerf n
    have hr := recs_len n
    refine (impl_PerfectUpTo_ev n (by omega)).bind ((spec_PerfectUpTo_ev n (by omega)).bind ((impl_RecordsUpTo_ev n (by omega)).bind ((spec_RecordsUpTo_ev n (by omega)).bind ?_)))
    simp only [bne_self_eq_false, Bool.false_eq_true, if_false]
    refine (laws_gSame_self (kept notPerf n) (by omega)).bind ?_
    simp only [if_true]
    refine (laws_gSame_self (recs n) (by omega)).bind ?_
    simp only [if_true]
    refine Ev.step (fun k => ?_) (law_l0 n (by omega) z b hd n 0 (by omega) (by omega))
    simp only [laws_FnNumbersOfKinds.j0, Bool.false_eq_true, if_false, if_true]
    rfl
  · have e1 : Ev (fun k => impl_PerfectUpTo.f k a) ([], false) := Ev.const fun k => by
      unfold impl_PerfectUpTo.f
      rw [impl_isMost_eq, decide_eq_false h]; rfl
    have e2 : Ev (fun k => spec_PerfectUpTo.f k a) ([], false) := Ev.const fun k => by
      unfold spec_PerfectUpTo.f
      rw [spec_l1In_eq, decide_eq_false h]; rfl
    have e3 : Ev (fun k => impl_RecordsUpTo.f k a) ([], false) := Ev.const fun k => by
      unfold impl_RecordsUpTo.f
      rw [impl_isMost_eq, decide_eq_false h]; rfl
    have e4 : Ev (fun k => spec_RecordsUpTo.f k a) ([], false) := Ev.const fun k => by
      unfold spec_RecordsUpTo.f
      rw [spec_l1In_eq, decide_eq_false h]; rfl
    refine e1.bind (e2.bind (e3.bind (e4.bind ?_)))
    simp only [bne_self_eq_false, Bool.false_eq_true, if_false]
    refine (laws_gSame_self [] (by simp)).bind ?_
    simp only [if_true]
    refine (laws_gSame_self [] (by simp)).bind ?_
    simp only [if_true]
    refine Ev.step (fun k => ?_) (law_j3 z b hd)
    simp only [laws_FnNumbersOfKinds.j0, Bool.false_eq_true, if_false]
theorem FnNumbersOfKinds : laws_FnNumbersOfKinds.Pure := by
  intro l0 l1 _ _ hb0 _ _ hb1
  apply Ev.rounds
  have b0 := bytes_of hb0
  have b1 := bytes_of hb1
  obtain ⟨v, p, s, e⟩ := upTo_ok b0
  obtain ⟨v2, p2, s2, e2, _, _⟩ := among_ok b1 0 0 [1, 2, 3, 10, 60, 600, 601, 0, (-1)] (by decide) (by decide) (by decide) (by decide)
  have d0 : spec_DrawPerfectUpTo.f l0 = some v := by unfold spec_DrawPerfectUpTo.f; rw [e]; rfl
  have d1 : spec_DrawCoprimePairs.f l1 = some v2 := by unfold spec_DrawCoprimePairs.f; rw [e2]; rfl
  unfold laws_FnNumbersOfKinds.f laws_big.f
  by_cases hc : (l0.length : Int) > 1048576
  · simp only [if_pos hc, Option.bind_some, if_true]; exact Ev.now _
  · simp only [if_neg hc, Option.bind_some]
    by_cases hc2 : (l1.length : Int) > wrap64 (1048576 - (l0.length : Int))
    · simp only [decide_eq_true hc2, if_true]; exact Ev.now _
    · simp only [decide_eq_false hc2, Bool.false_eq_true, if_false, d0, Option.bind_some]
      exact both_kinds v l1 v2 d1
end Go.Proofs.Ytfhfbicejddoiaa.Pure
