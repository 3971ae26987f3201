/- FnTablesMultiplied answers as the reference does, for every argument. -/
import Derived.Test.YtfhfbicejddoiaaPFnTablesMultipliedx10
import Derived.Test.YtfhfbicejddoiaaNtC
import Derived.Test.YtfhfbicejddoiaaNtT
namespace Go.Proofs.Ytfhfbicejddoiaa.Pure
set_option linter.unusedVariables false
open Go Go.RowKit Go.Proofs.Ytfhfbicejddoiaa.PFnTablesMultiplied Go.Proofs.YtfhfbicejddoiaaW.PrintWords Go.Proofs.YtfhfbicejddoiaaW.PrintLast Go.Proofs.Ytfhfbicejddoiaa.Nt
theorem Ev.done {α : Type} {g : Nat → Option α} {r : α} (h : ∀ k, g (k + 1) = some r) : Ev g r := Ev.step (f := fun _ => some r) h (Ev.now r)
theorem Ev.const {α : Type} {g : Nat → Option α} {r : α} (h : ∀ k, g k = some r) : Ev g r := Ev.congr (f := fun _ => some r) h (Ev.now r)
theorem wr {a : Nat} (h : a < 9223372036854775808) : wrap64 (a : Int) = a := by unfold wrap64; omega
theorem wri {a : Int} (h0 : -9223372036854775808 ≤ a) (h : a < 9223372036854775808) : wrap64 a = a := by unfold wrap64; omega
theorem wr_mul {a b : Nat} (h : a * b < 9223372036854775808) : wrap64 ((a : Int) * b) = ((a * b : Nat) : Int) := by rw [← Int.natCast_mul]; exact wr h
theorem wr_succ {a : Nat} (h : a < 9223372036854775807) : wrap64 ((a : Int) + 1) = ((a + 1 : Nat) : Int) := wr (a := a + 1) (by omega)
theorem wr_tdiv {a b : Nat} (h : a < 9223372036854775808) : wrap64 (Int.tdiv (a : Int) b) = ((a / b : Nat) : Int) := wr (a := a / b) (Nat.lt_of_le_of_lt (Nat.div_le_self a b) h)
theorem tm (a b : Nat) : Int.tmod (a : Int) b = ((a % b : Nat) : Int) := rfl
theorem sq_lt {a b : Nat} (h : a ≤ 3037000499) (k : b ≤ 3037000499) : a * b < 9223372036854775808 := Nat.lt_of_le_of_lt (Nat.mul_le_mul h k) (by decide)
theorem spec_l1In_eq (a b c : Int) : spec_l1In.f a b c = some (decide (b ≤ a ∧ a ≤ c)) := by
  unfold spec_l1In.f
  by_cases h : a ≥ b
  · rw [if_pos h, decide_eq_decide.2 (show a ≤ c ↔ b ≤ a ∧ a ≤ c from ⟨fun k => ⟨h, k⟩, fun k => k.2⟩)]
  · rw [if_neg h, decide_eq_false (fun k => h k.1)]
theorem facs_len : ∀ (n : Nat), (facs n).length ≤ n := by
  intro n
  induction n using Nat.strongRecOn with
  | _ n ih =>
    by_cases h : n < 2
    · rw [facs_small h]; simp
    · have hn : 2 ≤ n := by omega
      have := rs_lt (lf_two_le hn) (by omega) (lf_dvd hn)
      have := ih _ this
      rw [facs_cons hn, List.length_cons]; omega
/-- A list of primes and exponents as the program's rows. -/
def rowsOf (l : List (Nat × Nat)) : List (List Int) := l.map fun f => [(f.1 : Int), (f.2 : Int)]
theorem getD_mid {α : Type} (pre : List α) (x : α) (l : List α) (d : α) : (pre ++ x :: l).getD pre.length d = x := by simp
theorem rows_get (pre : List (Nat × Nat)) (x : Nat × Nat) (l : List (Nat × Nat)) : (rowsOf (pre ++ x :: l)).getD pre.length [] = [(x.1 : Int), (x.2 : Int)] := by
  simp [rowsOf]
theorem rows_len (l : List (Nat × Nat)) : (rowsOf l).length = l.length := by simp [rowsOf]
theorem impl_leastFactor_l (n : Nat) (h2 : 2 ≤ n) (hn : n ≤ 2000000000) : ∀ (j d : Nat), n + 1 ≤ d + j → 2 ≤ d → d ≤ n + 1 → Above d n → Ev (fun k => impl_leastFactor.l0 k n d) (lf n : Int) := by
  have hend : ∀ d : Nat, d ≤ n + 1 → n < d * d → Above d n → Ev (fun k => impl_leastFactor.l0 k n d) (lf n : Int) := by
    intro d hd hlt ha
    rw [lf_eq h2 (isLf_self h2 hlt (fun m hm hmd hmn => by have := ha m hm hmn; omega))]
    refine Ev.done fun k => ?_
    simp only [impl_leastFactor.l0]
    rw [wr_mul (sq_lt (by omega) (by omega)), if_neg (by omega)]
  intro j
  induction j with
  | zero =>
    intro d hj hd2 hd ha
    exact hend d hd (by have := Nat.mul_le_mul_right d hd2; omega) ha
  | succ j ih =>
    intro d hj hd2 hd ha
    by_cases hlt : n < d * d
    · exact hend d hd hlt ha
    · have hdn : d ≤ n := by have := Nat.mul_le_mul_right d hd2; omega
      by_cases hm : n % d = 0
      · rw [(ha.lf hd2 (by omega) (Nat.dvd_of_mod_eq_zero hm)).2]
        refine Ev.done fun k => ?_
        simp only [impl_leastFactor.l0]
        rw [wr_mul (sq_lt (by omega) (by omega)), tm, if_pos (by omega), if_neg (by omega), if_pos (by omega)]
      · refine Ev.step (fun k => ?_) (ih (d + 1) (by omega) (by omega) (by omega) (ha.succ (fun h => hm (Nat.mod_eq_zero_of_dvd h))))
        simp only [impl_leastFactor.l0]
        rw [wr_mul (sq_lt (by omega) (by omega)), tm, if_pos (by omega), if_neg (by omega), if_neg (by omega), wr_succ (by omega)]
theorem impl_leastFactor_ev (n : Nat) (h2 : 2 ≤ n) (hn : n ≤ 2000000000) : Ev (fun k => impl_leastFactor.f k n) (lf n : Int) :=
  impl_leastFactor_l n h2 hn n 2 (by omega) (Nat.le_refl _) (by omega) (Above.two n)
theorem impl_factors_l1 (p : Nat) (hp : 2 ≤ p) : ∀ (n : Nat) (acc : List (List Int)) (e : Nat) {v : List (List Int)}, 0 < n → n ≤ 2000000000 → e + n ≤ 4000000000 → p ≤ 2000000000 → acc.length + 1 ≤ 3000000000 →
    Ev (fun k => impl_factors.l0 k (rs p n) (acc ++ [[(p : Int), ((e + vl p n : Nat) : Int)]])) v → Ev (fun k => impl_factors.l1 k n acc p e) v := by
  intro n
  induction n using Nat.strongRecOn with
  | _ n ih =>
    intro acc e v h0 hn he hpb hl h
    by_cases hd : p ∣ n
    · obtain ⟨c, rfl⟩ := hd
      have hc0 : 0 < c := by
        rcases Nat.eq_zero_or_pos c with h | h
        · subst h; simp at h0
        · exact h
      have hlt : c < p * c := by have := Nat.mul_le_mul_right c hp; omega
      rw [rs_mul_self hp hc0, vl_mul_self hp hc0] at h
      refine Ev.step (fun k => ?_) (ih c hlt acc (e + 1) (v := v) hc0 (by omega) (by omega) hpb hl (by rw [show e + 1 + vl p c = e + (vl p c + 1) by omega]; exact h))
      simp only [impl_factors.l1]
      rw [tm, if_neg (by omega), if_pos (by simp), wr_tdiv (by omega), wr_succ (by omega), Nat.mul_div_cancel_left c (by omega)]
    · rw [rs_of_not_dvd hp h0 hd, vl_zero hp h0 hd] at h
      refine Ev.step (fun k => ?_) h
      simp only [impl_factors.l1]
      have : n % p ≠ 0 := fun hm => hd (Nat.dvd_of_mod_eq_zero hm)
      rw [tm, if_neg (by omega), if_neg (by omega), if_pos (by omega), Nat.add_zero]
theorem impl_factors_l0 : ∀ (n : Nat) (acc : List (List Int)), n ≤ 1000000000 → acc.length + n ≤ 2000000000 → Ev (fun k => impl_factors.l0 k n acc) (acc ++ rowsOf (facs n)) := by
  intro n
  induction n using Nat.strongRecOn with
  | _ n ih =>
    intro acc hn hl
    by_cases h : n < 2
    · rw [facs_small h]
      refine Ev.done fun k => ?_
      simp only [impl_factors.l0]
      rw [if_neg (by omega)]
      simp [rowsOf]
    · have h2 : 2 ≤ n := by omega
      have hp := lf_two_le h2
      have hple := lf_le h2
      have hlt := rs_lt hp (by omega) (lf_dvd h2)
      have key : Ev (fun k => impl_factors.l1 k n acc (lf n) 0) (acc ++ rowsOf (facs n)) := by
        have := ih _ hlt (acc ++ [[(lf n : Int), ((0 + vl (lf n) n : Nat) : Int)]]) (by omega) (by rw [List.length_append, List.length_singleton]; omega)
        refine impl_factors_l1 (lf n) hp n acc 0 (by omega) (by omega) (by omega) (by omega) (by omega) ?_
        rw [facs_cons h2]
        rw [List.append_assoc] at this
        simpa [rowsOf] using this
      refine Ev.step (f := fun k => (impl_leastFactor.f k n).bind fun t => impl_factors.l1 k n acc t 0) (fun k => ?_) ((impl_leastFactor_ev n h2 (by omega)).bind key)
      simp only [impl_factors.l0]
      rw [if_pos (by omega)]
theorem impl_factors_ev (n : Nat) (hn : n ≤ 1000000000) : Ev (fun k => impl_factors.f k n) (rowsOf (facs n)) := by
  have := impl_factors_l0 n [] hn (by simp; omega)
  exact this
theorem spec_prLeast_l (n : Nat) (h2 : 2 ≤ n) (hn : n ≤ 2000000000) : ∀ (j d : Nat), n + 1 ≤ d + j → 2 ≤ d → d ≤ n + 1 → Above d n → Ev (fun k => spec_prLeast.l0 k n d) (lf n : Int) := by
  have hend : ∀ d : Nat, d ≤ n + 1 → n < d * d → Above d n → Ev (fun k => spec_prLeast.l0 k n d) (lf n : Int) := by
    intro d hd hlt ha
    rw [lf_eq h2 (isLf_self h2 hlt (fun m hm hmd hmn => by have := ha m hm hmn; omega))]
    refine Ev.done fun k => ?_
    simp only [spec_prLeast.l0]
    rw [wr_mul (sq_lt (by omega) (by omega)), if_neg (by omega)]
  intro j
  induction j with
  | zero =>
    intro d hj hd2 hd ha
    exact hend d hd (by have := Nat.mul_le_mul_right d hd2; omega) ha
  | succ j ih =>
    intro d hj hd2 hd ha
    by_cases hlt : n < d * d
    · exact hend d hd hlt ha
    · have hdn : d ≤ n := by have := Nat.mul_le_mul_right d hd2; omega
      by_cases hm : n % d = 0
      · rw [(ha.lf hd2 (by omega) (Nat.dvd_of_mod_eq_zero hm)).2]
        refine Ev.done fun k => ?_
        simp only [spec_prLeast.l0]
        rw [wr_mul (sq_lt (by omega) (by omega)), tm, if_pos (by omega), if_neg (by omega), if_pos (by omega)]
      · refine Ev.step (fun k => ?_) (ih (d + 1) (by omega) (by omega) (by omega) (ha.succ (fun h => hm (Nat.mod_eq_zero_of_dvd h))))
        simp only [spec_prLeast.l0]
        rw [wr_mul (sq_lt (by omega) (by omega)), tm, if_pos (by omega), if_neg (by omega), if_neg (by omega), wr_succ (by omega)]
theorem spec_prLeast_ev (n : Nat) (h2 : 2 ≤ n) (hn : n ≤ 2000000000) : Ev (fun k => spec_prLeast.f k n) (lf n : Int) :=
  spec_prLeast_l n h2 hn n 2 (by omega) (Nat.le_refl _) (by omega) (Above.two n)
theorem spec_prFactors_l1 (p : Nat) (hp : 2 ≤ p) : ∀ (n : Nat) (acc : List (List Int)) (e : Nat) {v : List (List Int)}, 0 < n → n ≤ 2000000000 → e + n ≤ 4000000000 → p ≤ 2000000000 → acc.length + 1 ≤ 3000000000 →
    Ev (fun k => spec_prFactors.l0 k (rs p n) (acc ++ [[(p : Int), ((e + vl p n : Nat) : Int)]])) v → Ev (fun k => spec_prFactors.l1 k n acc p e) v := by
  intro n
  induction n using Nat.strongRecOn with
  | _ n ih =>
    intro acc e v h0 hn he hpb hl h
    by_cases hd : p ∣ n
    · obtain ⟨c, rfl⟩ := hd
      have hc0 : 0 < c := by
        rcases Nat.eq_zero_or_pos c with h | h
        · subst h; simp at h0
        · exact h
      have hlt : c < p * c := by have := Nat.mul_le_mul_right c hp; omega
      rw [rs_mul_self hp hc0, vl_mul_self hp hc0] at h
      refine Ev.step (fun k => ?_) (ih c hlt acc (e + 1) (v := v) hc0 (by omega) (by omega) hpb hl (by rw [show e + 1 + vl p c = e + (vl p c + 1) by omega]; exact h))
      simp only [spec_prFactors.l1]
      rw [tm, if_neg (by omega), if_pos (by simp), wr_tdiv (by omega), wr_succ (by omega), Nat.mul_div_cancel_left c (by omega)]
    · rw [rs_of_not_dvd hp h0 hd, vl_zero hp h0 hd] at h
      refine Ev.step (fun k => ?_) h
      simp only [spec_prFactors.l1]
      have : n % p ≠ 0 := fun hm => hd (Nat.dvd_of_mod_eq_zero hm)
      rw [tm, if_neg (by omega), if_neg (by omega), if_pos (by omega), Nat.add_zero]
theorem spec_prFactors_l0 : ∀ (n : Nat) (acc : List (List Int)), n ≤ 1000000000 → acc.length + n ≤ 2000000000 → Ev (fun k => spec_prFactors.l0 k n acc) (acc ++ rowsOf (facs n)) := by
  intro n
  induction n using Nat.strongRecOn with
  | _ n ih =>
    intro acc hn hl
    by_cases h : n < 2
    · rw [facs_small h]
      refine Ev.done fun k => ?_
      simp only [spec_prFactors.l0]
      rw [if_neg (by omega)]
      simp [rowsOf]
    · have h2 : 2 ≤ n := by omega
      have hp := lf_two_le h2
      have hple := lf_le h2
      have hlt := rs_lt hp (by omega) (lf_dvd h2)
      have key : Ev (fun k => spec_prFactors.l1 k n acc (lf n) 0) (acc ++ rowsOf (facs n)) := by
        have := ih _ hlt (acc ++ [[(lf n : Int), ((0 + vl (lf n) n : Nat) : Int)]]) (by omega) (by rw [List.length_append, List.length_singleton]; omega)
        refine spec_prFactors_l1 (lf n) hp n acc 0 (by omega) (by omega) (by omega) (by omega) (by omega) ?_
        rw [facs_cons h2]
        rw [List.append_assoc] at this
        simpa [rowsOf] using this
      refine Ev.step (f := fun k => (spec_prLeast.f k n).bind fun t => spec_prFactors.l1 k n acc t 0) (fun k => ?_) ((spec_prLeast_ev n h2 (by omega)).bind key)
      simp only [spec_prFactors.l0]
      rw [if_pos (by omega)]
theorem spec_prFactors_ev (n : Nat) (hn : n ≤ 1000000000) : Ev (fun k => spec_prFactors.f k n) (rowsOf (facs n)) := by
  have := spec_prFactors_l0 n [] hn (by simp; omega)
  exact this
/-- A list of naturals as the program's ints. -/
def ints (l : List Nat) : List Int := l.map fun d : Nat => (d : Int)
theorem ints_len (l : List Nat) : (ints l).length = l.length := by simp [ints]
theorem ints_app (l m : List Nat) : ints l ++ ints m = ints (l ++ m) := by simp [ints]
theorem ints_get (pre : List Nat) (x : Nat) (l : List Nat) : rd (ints (pre ++ x :: l)) (pre.length : Int) = x := by
  unfold rd
  rw [Int.toNat_natCast]
  simp [ints]
theorem ints_take (l m : List Nat) : (ints (l ++ m)).take ((l.length : Nat) : Int).toNat = ints l := by
  rw [Int.toNat_natCast]
  unfold ints
  rw [List.map_append, List.take_left' (by simp)]
theorem expand_pre (D : List Nat) (p : Nat) : ∀ e, ∃ r, expand D p e = D ++ r
  | 0 => ⟨[], by simp [expand]⟩
  | e + 1 => by
    obtain ⟨r, hr⟩ := expand_pre D p e
    exact ⟨r ++ D.map (· * p ^ (e + 1)), by simp only [expand]; rw [hr, List.append_assoc]⟩
theorem impl_divisors_l2 (f : List Int) (b : Int) (rows : List (List Int)) (n3 ri ex jj : Int) (m : Nat) {v : List Int} : ∀ (suf pre acc : List Nat), (∀ d ∈ suf, d * m < 9223372036854775808) → (acc.length + suf.length) ≤ 4000000000 → (pre ++ suf).length ≤ 4000000000 →
    Ev (fun k => impl_divisors.l1 k (ints (acc ++ suf.map (· * m))) f b m rows n3 ri ex (wrap64 (jj + 1))) v →
    Ev (fun k => impl_divisors.l2 k (ints acc) f b m rows n3 ri ex jj (ints (pre ++ suf)) ((pre ++ suf).length : Nat) (pre.length : Nat)) v
  | [], pre, acc, _, _, _, h => by
    refine Ev.step (fun k => ?_) h
    simp only [impl_divisors.l2]
    rw [if_neg (by simp), List.map_nil, List.append_nil]
  | d :: suf, pre, acc, hb, hl, hl2, h => by
    have hlen : (pre ++ d :: suf).length = pre.length + 1 + suf.length := by simp; omega
    have hsl : (d :: suf).length = suf.length + 1 := by simp
    have ih := impl_divisors_l2 f b rows n3 ri ex jj m (v := v) suf (pre ++ [d]) (acc ++ [d * m]) (fun x hx => hb x (by simp [hx])) (by simp; omega) (by simp; omega) (by simpa using h)
    rw [List.append_assoc] at ih
    simp only [List.singleton_append] at ih
    refine Ev.step (fun k => ?_) ih
    simp only [impl_divisors.l2]
    have hil := ints_len (pre ++ d :: suf)
    have hal := ints_len acc
    rw [if_pos (by omega), if_pos (by omega), if_pos (by omega), if_pos (by omega), ints_get, wr_mul (hb d (by simp)), wr_succ (by omega)]
    congr 1
    · simp [ints]
    · simp
theorem impl_divisors_l1 (rows : List (List Int)) (n3 ri : Int) (p e : Nat) (D : List Nat) (N : Nat) (hN : N ≤ 1000000000) (hp : 2 ≤ p) (hpe : p ^ e ≤ N) (hl : D.length * (e + 1) ≤ N) (hb : ∀ d ∈ D, d * p ^ e ≤ N) {v : List Int}
    (h : Ev (fun k => impl_divisors.l0 k (ints (expand D p e)) rows n3 (wrap64 (ri + 1))) v) : ∀ (r j : Nat), j + r = e → 
    Ev (fun k => impl_divisors.l1 k (ints (expand D p j)) [(p : Int), (e : Int)] (D.length : Nat) ((p ^ j : Nat) : Int) rows n3 ri (e : Int) (j : Int)) v
  | 0, j, hj => by
    have : j = e := by omega
    subst this
    refine Ev.step (fun k => ?_) h
    simp only [impl_divisors.l1]
    rw [if_neg (by omega)]
  | r + 1, j, hj => by
    have ih := impl_divisors_l1 rows n3 ri p e D N hN hp hpe hl hb h r (j + 1) (by omega)
    have hpj : p ^ (j + 1) ≤ p ^ e := Nat.pow_le_pow_right (by omega) (by omega)
    have hle := expand_len D p j
    have hle1 := expand_len D p (j + 1)
    have hm1 : D.length * (j + 1) ≤ D.length * (e + 1) := Nat.mul_le_mul_left _ (by omega)
    have hm0 : D.length ≤ D.length * (j + 1) := Nat.le_mul_of_pos_right _ (by omega)
    have hee : e < p ^ e := by have := succ_le_pow hp e; omega
    have hrd : rd [(p : Int), (e : Int)] 0 = p := rfl
    obtain ⟨t, ht⟩ := expand_pre D p j
    have hpos : 0 < p ^ (j + 1) := Nat.pow_pos (by omega)
    have hw : wrap64 (((p ^ j : Nat) : Int) * p) = ((p ^ (j + 1) : Nat) : Int) := by
      rw [wr_mul (Nat.lt_of_le_of_lt (Nat.le_of_eq (Nat.pow_succ (n := p) (m := j)).symm) (show p ^ (j + 1) < 9223372036854775808 by omega)), Nat.pow_succ]
    have key := impl_divisors_l2 [(p : Int), (e : Int)] (D.length : Nat) rows n3 ri e j (p ^ (j + 1)) (v := v) D [] (expand D p j) (fun d hd => by
      have h1 := hb d hd
      have h2 : d * p ^ (j + 1) ≤ d * p ^ e := Nat.mul_le_mul_left _ hpj
      omega) (by rw [hle]; omega) (by simp; omega) (by rw [wr_succ (by omega)]; exact ih)
    simp only [List.nil_append, List.length_nil] at key
    refine Ev.step (fun k => ?_) key
    simp only [impl_divisors.l1]
    rw [if_pos (by omega), if_pos (by simp), if_pos (by omega), if_pos (by rw [ints_len, hle]; omega), hrd, hw]
    rw [show (ints (expand D p j)).take ((D.length : Nat) : Int).toNat = ints D by rw [ht]; exact ints_take D t]
    simp only [Option.bind_some]
    rw [ints_len]
    rfl
theorem impl_divisors_l0 (N : Nat) (hN : N ≤ 1000000000) : ∀ (l pre : List (Nat × Nat)) (D : List Nat) {c : Nat}, IsFac c l → D.length * fprod l ≤ N → fprod l ≤ N → (∀ d ∈ D, d * fprod l ≤ N) → (pre ++ l).length ≤ 2000000000 →
    Ev (fun k => impl_divisors.l0 k (ints D) (rowsOf (pre ++ l)) ((pre ++ l).length : Nat) (pre.length : Nat)) ((ints (rawL l D)).mergeSort fun x y => decide (x ≤ y))
  | [], pre, D, _, _, h1, _, _, hl => by
    refine Ev.done fun k => ?_
    simp only [impl_divisors.l0]
    simp only [fprod, Nat.mul_one] at h1
    rw [if_neg (by simp)]
    unfold slices_Sort_int_int.f
    rw [if_pos (by rw [ints_len]; omega)]
    rfl
  | (p, e) :: l, pre, D, _, hf, h1, h2, hb, hl => by
    have hlen : (pre ++ (p, e) :: l).length = pre.length + 1 + l.length := by simp; omega
    have hlr := rows_len (pre ++ (p, e) :: l)
    have hget : rd_L2 (rowsOf (pre ++ (p, e) :: l)) (pre.length : Int) = [(p : Int), (e : Int)] := by
      unfold rd_L2; rw [Int.toNat_natCast]; exact rows_get pre (p, e) l
    have hp := hf.2.1.two_le
    have hfp : 0 < fprod l := fprod_pos hf.2.2.2
    have hee : e + 1 ≤ p ^ e := succ_le_pow hp e
    simp only [fprod] at h1 h2 hb
    have hpe : p ^ e ≤ p ^ e * fprod l := Nat.le_mul_of_pos_right _ hfp
    have hd1 : D.length * (e + 1) * fprod l ≤ D.length * (p ^ e * fprod l) := by rw [Nat.mul_assoc]; exact Nat.mul_le_mul_left _ (Nat.mul_le_mul_right _ hee)
    have hd2 : D.length * (e + 1) ≤ D.length * (e + 1) * fprod l := Nat.le_mul_of_pos_right _ hfp
    have hfl : fprod l ≤ p ^ e * fprod l := Nat.le_mul_of_pos_left _ (Nat.pow_pos (by omega))
    have ih := impl_divisors_l0 N hN l (pre ++ [(p, e)]) (expand D p e) hf.2.2.2 (by rw [expand_len]; omega) (by omega) (fun x hx => by
      obtain ⟨d, j, hd, hj, rfl⟩ := (mem_expand D p x e).1 hx
      have h3 := hb d hd
      have h4 : p ^ j ≤ p ^ e := Nat.pow_le_pow_right (by omega) hj
      have h5 : d * p ^ j * fprod l ≤ d * (p ^ e * fprod l) := by rw [Nat.mul_assoc]; exact Nat.mul_le_mul_left _ (Nat.mul_le_mul_right _ h4)
      omega) (by simpa using hl)
    rw [List.append_assoc] at ih
    simp only [List.singleton_append, List.length_append, List.length_singleton] at ih
    have key := impl_divisors_l1 (rowsOf (pre ++ (p, e) :: l)) ((pre ++ (p, e) :: l).length : Nat) (pre.length : Nat) p e D N hN hp (by omega) (by omega) (fun d hd => by
      have h3 := hb d hd
      have h5 : d * p ^ e ≤ d * (p ^ e * fprod l) := Nat.mul_le_mul_left _ hpe
      omega) (by rw [wr_succ (by omega)]; rw [hlen]; rw [List.length_cons] at ih; rw [show pre.length + (l.length + 1) = pre.length + 1 + l.length by omega] at ih; exact ih) e 0 (by omega)
    refine Ev.step (fun k => ?_) key
    simp only [impl_divisors.l0]
    have hr1 : rd [(p : Int), (e : Int)] 1 = e := rfl
    rw [if_pos (by omega), if_pos (by omega), if_pos (by omega), hget, if_pos (by simp), hr1, ints_len]
    rfl
theorem impl_divisors_ev (n : Nat) (h0 : 0 < n) (hn : n ≤ 1000000000) : Ev (fun k => impl_divisors.f k n) (ints (divs n)) := by
  have hl := facs_len n
  have h := impl_divisors_l0 n hn (facs n) [] [1] (facs_fac h0) (by rw [fprod_facs h0]; simp) (by rw [fprod_facs h0]; exact Nat.le_refl _) (fun d hd => by rw [fprod_facs h0]; rw [List.mem_singleton] at hd; rw [hd, Nat.one_mul]; exact Nat.le_refl _) (by simpa using (by omega : (facs n).length ≤ 2000000000))
  rw [show ints (divs n) = (ints (rawL (facs n) [1])).mergeSort fun x y => decide (x ≤ y) from (sort_raw h0).symm]
  refine (impl_factors_ev n hn).bind ?_
  rw [rows_len]
  exact h
/-- The reference's list: the small divisors rise, the great ones fall. -/
theorem dv_done (n : Nat) (h0 : 0 < n) (i : Nat) (lo hi : List Nat) (hsq : n < i * i) (hs : ∀ x ∈ lo, x * x ≤ n)
    (hlp : lo.Pairwise (· < ·)) (hlm : ∀ x, x ∈ lo ↔ x ∣ n ∧ x < i) (hhp : hi.Pairwise (· < ·)) (hhm : ∀ x, x ∈ hi ↔ x ∣ n ∧ n / x < i ∧ n < x * x) : lo ++ hi = divs n := by
  refine sorted_unique (List.pairwise_append.2 ⟨hlp, hhp, fun x hx y hy => ?_⟩) (divs_sorted n) fun x => ?_
  · have h1 := hs x hx
    have h2 := ((hhm y).1 hy).2.2
    rcases Nat.lt_or_ge x y with h | h
    · exact h
    · have := Nat.mul_le_mul h h
      omega
  · rw [mem_divs h0, List.mem_append, hlm, hhm]
    constructor
    · rintro (h | h)
      · exact h.1
      · exact h.1
    · intro h
      rcases Nat.lt_or_ge x i with hx | hx
      · exact .inl ⟨h, hx⟩
      · have hxx := Nat.mul_le_mul hx hx
        refine .inr ⟨h, ?_, by omega⟩
        have h3 : n < i * x := Nat.lt_of_lt_of_le hsq (Nat.mul_le_mul_left _ hx)
        exact (Nat.div_lt_iff_lt_mul (Nat.pos_of_dvd_of_pos h h0)).2 h3
theorem dv_hi_stay (n : Nat) (h0 : 0 < n) (i : Nat) (hi : List Nat) (hhm : ∀ x, x ∈ hi ↔ x ∣ n ∧ n / x < i ∧ n < x * x) (h : ¬ (i ∣ n ∧ i * i < n)) : ∀ x, x ∈ hi ↔ x ∣ n ∧ n / x < i + 1 ∧ n < x * x := by
  intro x
  rw [hhm]
  refine ⟨fun hx => ⟨hx.1, by omega, hx.2.2⟩, fun hx => ⟨hx.1, ?_, hx.2.2⟩⟩
  have he : n / x ≠ i := by
    intro he
    have hm : i * x = n := by rw [← he]; exact Nat.div_mul_cancel hx.1
    refine h ⟨⟨x, hm.symm⟩, ?_⟩
    have h3 := hx.2.2
    rcases Nat.lt_or_ge i x with hix | hix
    · have hi0 : 0 < i := by rcases Nat.eq_zero_or_pos i with h | h; (subst h; omega); exact h
      have := Nat.mul_lt_mul_of_pos_left hix hi0
      omega
    · have := Nat.mul_le_mul_right x hix
      omega
  have := hx.2.1
  omega
theorem dv_hi_cons (n : Nat) (h0 : 0 < n) (i : Nat) (hi1 : 1 ≤ i) (hi : List Nat) (hhp : hi.Pairwise (· < ·)) (hhm : ∀ x, x ∈ hi ↔ x ∣ n ∧ n / x < i ∧ n < x * x) (hd : i ∣ n) (hl : i * i < n) :
    (n / i :: hi).Pairwise (· < ·) ∧ ∀ x, x ∈ n / i :: hi ↔ x ∣ n ∧ n / x < i + 1 ∧ n < x * x := by
  have hm : i * (n / i) = n := Nat.mul_div_cancel' hd
  constructor
  · refine List.pairwise_cons.2 ⟨fun y hy => ?_, hhp⟩
    have hy' := (hhm y).1 hy
    rcases Nat.lt_or_ge (n / i) y with h | h
    · exact h
    · exfalso
      have hyp := Nat.pos_of_dvd_of_pos hy'.1 h0
      have h1 : i * y ≤ n := by have := Nat.mul_le_mul_left i h; omega
      have h2 : i ≤ n / y := (Nat.le_div_iff_mul_le hyp).2 h1
      omega
  · intro x
    rw [List.mem_cons, hhm]
    constructor
    · rintro (rfl | hx)
      · have hlt : i < n / i := by
          rcases Nat.lt_or_ge i (n / i) with h | h
          · exact h
          · have := Nat.mul_le_mul_left i h; omega
        have hdd : n / (n / i) = i := by
          refine Nat.div_eq_of_eq_mul_left (by omega) ?_
          exact hm.symm
        refine ⟨⟨i, by rw [Nat.mul_comm]; exact hm.symm⟩, by rw [hdd]; omega, ?_⟩
        have h3 : i * (n / i) < n / i * (n / i) := Nat.mul_lt_mul_of_pos_right hlt (by omega)
        omega
      · exact ⟨hx.1, by omega, hx.2.2⟩
    · intro hx
      by_cases he : n / x = i
      · left
        have hm2 : i * x = n := by rw [← he]; exact Nat.div_mul_cancel hx.1
        exact (Nat.div_eq_of_eq_mul_right (by omega) hm2.symm).symm
      · exact .inr ⟨hx.1, by omega, hx.2.2⟩
theorem dv_lo_stay (n i : Nat) (lo : List Nat) (hlm : ∀ x, x ∈ lo ↔ x ∣ n ∧ x < i) (h : ¬ i ∣ n) : ∀ x, x ∈ lo ↔ x ∣ n ∧ x < i + 1 := by
  intro x
  rw [hlm]
  refine ⟨fun hx => ⟨hx.1, by omega⟩, fun hx => ⟨hx.1, ?_⟩⟩
  have : x ≠ i := by rintro rfl; exact h hx.1
  omega
theorem dv_lo_snoc (n i : Nat) (lo : List Nat) (hlp : lo.Pairwise (· < ·)) (hlm : ∀ x, x ∈ lo ↔ x ∣ n ∧ x < i) (h : i ∣ n) : (lo ++ [i]).Pairwise (· < ·) ∧ ∀ x, x ∈ lo ++ [i] ↔ x ∣ n ∧ x < i + 1 := by
  constructor
  · refine List.pairwise_append.2 ⟨hlp, List.pairwise_singleton _ _, fun x hx y hy => ?_⟩
    rw [List.mem_singleton] at hy
    subst hy
    exact ((hlm x).1 hx).2
  · intro x
    rw [List.mem_append, List.mem_singleton, hlm]
    constructor
    · rintro (hx | rfl)
      · exact ⟨hx.1, by omega⟩
      · exact ⟨h, by omega⟩
    · intro hx
      by_cases he : x = i
      · exact .inr he
      · exact .inl ⟨hx.1, by omega⟩
theorem spec_dvList_l (n : Nat) (h0 : 0 < n) (hn : n ≤ 1000000000) : ∀ (r i : Nat) (lo hi : List Nat), 1 ≤ i → i ≤ 40000 → 40000 ≤ i + r → lo.length + 1 ≤ i → hi.length + 1 ≤ i → (∀ x ∈ lo, x * x ≤ n) →
    lo.Pairwise (· < ·) → (∀ x, x ∈ lo ↔ x ∣ n ∧ x < i) → hi.Pairwise (· < ·) → (∀ x, x ∈ hi ↔ x ∣ n ∧ n / x < i ∧ n < x * x) →
    Ev (fun k => spec_dvList.l0 k n (ints lo) (ints hi) i) (ints (divs n)) := by
  intro r
  induction r with
  | zero =>
    intro i lo hi hi1 hi2 hr hlo hhi hs hlp hlm hhp hhm
    have he : i = 40000 := by omega
    subst he
    refine Ev.done fun k => ?_
    simp only [spec_dvList.l0]
    have h1 := ints_len lo
    have h2 := ints_len hi
    rw [if_neg (by rw [wr_mul (by omega)]; omega), if_pos (by omega), ints_app, dv_done n h0 40000 lo hi (by omega) hs hlp hlm hhp hhm]
  | succ r ih =>
    intro i lo hi hi1 hi2 hr hlo hhi hs hlp hlm hhp hhm
    have h1 := ints_len lo
    have h2 := ints_len hi
    have hb : i * i ≤ 1600000000 := Nat.mul_le_mul hi2 hi2
    have hw : wrap64 ((i : Int) * i) = ((i * i : Nat) : Int) := wr_mul (by omega)
    by_cases hsq : i * i ≤ n
    · have hi3 : i < 40000 := by
        rcases Nat.lt_or_ge i 40000 with h | h
        · exact h
        · have : i = 40000 := by omega
          subst this; omega
      by_cases hd : i ∣ n
      · have hmod : n % i = 0 := Nat.mod_eq_zero_of_dvd hd
        have hl := dv_lo_snoc n i lo hlp hlm hd
        have hs' : ∀ x ∈ lo ++ [i], x * x ≤ n := by
          intro x hx
          rcases List.mem_append.1 hx with h | h
          · exact hs x h
          · rw [List.mem_singleton] at h; rw [h]; exact hsq
        by_cases hlt : i * i < n
        · have hh := dv_hi_cons n h0 i hi1 hi hhp hhm hd hlt
          have key := ih (i + 1) (lo ++ [i]) (n / i :: hi) (by omega) (by omega) (by omega) (by rw [List.length_append, List.length_singleton]; omega) (by rw [List.length_cons]; omega) hs' hl.1 hl.2 hh.1 hh.2
          refine Ev.step (fun k => ?_) key
          simp only [spec_dvList.l0]
          rw [hw, if_pos (by omega), if_neg (by omega), tm, if_pos (by omega), if_pos (by omega), Option.bind_some, if_pos (by omega), Option.bind_some, if_pos (by simp; omega), wr_succ (by omega), wr_tdiv (by omega)]
          simp [ints]
        · have hh := dv_hi_stay n h0 i hi hhm (fun h => hlt h.2)
          have key := ih (i + 1) (lo ++ [i]) hi (by omega) (by omega) (by omega) (by rw [List.length_append, List.length_singleton]; omega) (by omega) hs' hl.1 hl.2 hhp hh
          refine Ev.step (fun k => ?_) key
          simp only [spec_dvList.l0]
          rw [hw, if_pos (by omega), if_neg (by omega), tm, if_pos (by omega), if_pos (by omega), Option.bind_some, if_neg (by omega), wr_succ (by omega)]
          simp [ints]
      · have hmod : n % i ≠ 0 := fun hm => hd (Nat.dvd_of_mod_eq_zero hm)
        have hh := dv_hi_stay n h0 i hi hhm (fun h => hd h.1)
        have key := ih (i + 1) lo hi (by omega) (by omega) (by omega) (by omega) (by omega) hs hlp (dv_lo_stay n i lo hlm hd) hhp hh
        refine Ev.step (fun k => ?_) key
        simp only [spec_dvList.l0]
        rw [hw, if_pos (by omega), if_neg (by omega), tm, if_neg (by omega), wr_succ (by omega)]
    · refine Ev.done fun k => ?_
      simp only [spec_dvList.l0]
      rw [hw, if_neg (by omega), if_pos (by omega), ints_app, dv_done n h0 i lo hi (by omega) hs hlp hlm hhp hhm]
theorem spec_dvList_ev (n : Nat) (h0 : 0 < n) (hn : n ≤ 1000000000) : Ev (fun k => spec_dvList.f k n) (ints (divs n)) :=
  spec_dvList_l n h0 hn 40000 1 [] [] (by omega) (by omega) (by omega) (by simp) (by simp) (by simp) List.Pairwise.nil (fun x => by
    simp only [List.not_mem_nil, false_iff]
    rintro ⟨h1, h2⟩
    have := Nat.pos_of_dvd_of_pos h1 h0
    omega) List.Pairwise.nil (fun x => by
    simp only [List.not_mem_nil, false_iff]
    rintro ⟨h1, h2, _⟩
    have h3 := Nat.pos_of_dvd_of_pos h1 h0
    have h4 := Nat.le_of_dvd h0 h1
    have := Nat.div_pos h4 h3
    omega)
/-- The sum of a list, as Go's int adds. -/
def wsum : Int → List Int → Int
  | s, [] => s
  | s, x :: l => wsum (wrap64 (s + x)) l
theorem rd_mid (pre : List Int) (x : Int) (l : List Int) : rd (pre ++ x :: l) (pre.length : Int) = x := by unfold rd; rw [Int.toNat_natCast]; simp
theorem lsum_nonneg {f : Nat → Int} (hf : ∀ x, 0 ≤ f x) : ∀ l, 0 ≤ lsum f l
  | [] => Int.le_refl 0
  | x :: l => by have := hf x; have := lsum_nonneg hf l; simp only [lsum]; omega
theorem wsum_eq : ∀ (l : List Nat) (s : Int), 0 ≤ s → s + lsum (fun d => (d : Int)) l < 9223372036854775808 → wsum s (ints l) = s + lsum (fun d => (d : Int)) l
  | [], s, _, _ => by simp [wsum, ints, lsum]
  | d :: l, s, h0, h1 => by
    have h2 := lsum_nonneg (f := fun d : Nat => (d : Int)) (fun x => Int.natCast_nonneg x) l
    simp only [lsum] at h1 ⊢
    show wsum (wrap64 (s + (d : Int))) (ints l) = _
    rw [wri (by omega) (by omega), wsum_eq l (s + d) (by omega) (by omega)]
    omega
theorem sig_le (n : Nat) (h0 : 0 < n) (hn : n ≤ 3000000000) : (n : Int) ≤ lsum (fun d => (d : Int)) (divs n) ∧ lsum (fun d => (d : Int)) (divs n) ≤ n * n ∧ wsum 0 (ints (divs n)) = lsum (fun d => (d : Int)) (divs n) := by
  have h1 := lsum_bd (f := fun d : Nat => (d : Int)) (b := n) (divs n) (fun x hx => by have := divs_pos hx; omega)
  have h2 := divs_len h0
  have h3 : (n : Int) * (divs n).length ≤ n * n := Int.mul_le_mul_of_nonneg_left (by omega) (by omega)
  have h4 : n * n ≤ 3000000000 * 3000000000 := Nat.mul_le_mul hn hn
  have h5 : (n : Int) * n ≤ 3000000000 * 3000000000 := by rw [← Int.natCast_mul]; omega
  refine ⟨?_, by omega, ?_⟩
  · have : divs n = (List.range n).filter (dv n) ++ [n] := by
      unfold divs
      rw [List.range_succ, List.filter_append]
      congr 1
      simp [dv]
      omega
    rw [this, lsum_append]
    have h6 := lsum_nonneg (f := fun d : Nat => (d : Int)) (fun x => Int.natCast_nonneg x) ((List.range n).filter (dv n))
    simp only [lsum]
    omega
  · have := wsum_eq (divs n) 0 (by omega) (by omega)
    rw [this]; omega
theorem spec_dvSum_l : ∀ (suf pre : List Int) (s : Int), (pre ++ suf).length ≤ 4000000000 → Ev (fun k => spec_dvSum.l0 k s (pre ++ suf) ((pre ++ suf).length : Nat) (pre.length : Nat)) (wsum s suf)
  | [], pre, s, _ => by
    refine Ev.done fun k => ?_
    simp only [spec_dvSum.l0]
    rw [if_neg (by simp)]
    rfl
  | x :: suf, pre, s, hl => by
    have hlen : (pre ++ x :: suf).length = pre.length + 1 + suf.length := by simp; omega
    have ih := spec_dvSum_l suf (pre ++ [x]) (wrap64 (s + x)) (by simpa using hl)
    rw [List.append_assoc] at ih
    simp only [List.singleton_append, List.length_append, List.length_singleton] at ih
    refine Ev.step (fun k => ?_) ih
    simp only [spec_dvSum.l0]
    rw [if_pos (by omega), if_pos (by omega), if_pos (by omega), rd_mid, wr_succ (by omega)]
    simp
theorem spec_dvSum_ev (n : Nat) (h0 : 0 < n) (hn : n ≤ 1000000000) : Ev (fun k => spec_dvSum.f k n) (wsum 0 (ints (divs n))) := by
  refine (spec_dvList_ev n h0 hn).bind ?_
  have h1 := divs_len h0
  have h2 := ints_len (divs n)
  exact spec_dvSum_l (ints (divs n)) [] 0 (by rw [List.nil_append]; omega)
theorem impl_sumOf_l : ∀ (suf pre : List Int) (s : Int), (pre ++ suf).length ≤ 4000000000 → Ev (fun k => impl_sumOf.l0 k s (pre ++ suf) ((pre ++ suf).length : Nat) (pre.length : Nat)) (wsum s suf)
  | [], pre, s, _ => by
    refine Ev.done fun k => ?_
    simp only [impl_sumOf.l0]
    rw [if_neg (by simp)]
    rfl
  | x :: suf, pre, s, hl => by
    have hlen : (pre ++ x :: suf).length = pre.length + 1 + suf.length := by simp; omega
    have ih := impl_sumOf_l suf (pre ++ [x]) (wrap64 (s + x)) (by simpa using hl)
    rw [List.append_assoc] at ih
    simp only [List.singleton_append, List.length_append, List.length_singleton] at ih
    refine Ev.step (fun k => ?_) ih
    simp only [impl_sumOf.l0]
    rw [if_pos (by omega), if_pos (by omega), if_pos (by omega), rd_mid, wr_succ (by omega)]
    simp
theorem impl_sumOf_ev (n : Nat) (h0 : 0 < n) (hn : n ≤ 1000000000) : Ev (fun k => impl_sumOf.f k (ints (divs n))) (wsum 0 (ints (divs n))) := by
  have h1 := divs_len h0
  have h2 := ints_len (divs n)
  exact impl_sumOf_l (ints (divs n)) [] 0 (by rw [List.nil_append]; omega)
theorem impl_totient_l : ∀ (l pre : List (Nat × Nat)) (s : Nat) {c : Nat}, IsFac c l → s ≤ 1000000000 → (∀ f ∈ l, f.1 ≤ 1000000000) → (pre ++ l).length ≤ 2000000000 → Ev (fun k => impl_totient.l0 k s (rowsOf (pre ++ l)) ((pre ++ l).length : Int) (pre.length : Int)) (totL l s : Int)
  | [], pre, s, _, _, _, _, hl => by
    refine Ev.done fun k => ?_
    simp only [impl_totient.l0]
    rw [if_neg (by simp)]
    simp [totL]
  | (p, e) :: l, pre, s, _, hf, hs, hb, hl => by
    have hlen : (pre ++ (p, e) :: l).length = pre.length + 1 + l.length := by simp; omega
    have hlr := rows_len (pre ++ (p, e) :: l)
    have hget : rd_L2 (rowsOf (pre ++ (p, e) :: l)) (pre.length : Int) = [(p : Int), (e : Int)] := by
      unfold rd_L2; rw [Int.toNat_natCast]; exact rows_get pre (p, e) l
    have hrd : rd [(p : Int), (e : Int)] 0 = p := rfl
    have hp := hf.2.1.two_le
    have hpb : p ≤ 1000000000 := hb (p, e) (by simp)
    have hst := totL_step (s := s) (p := p)
    have ih := impl_totient_l l (pre ++ [(p, e)]) (s / p * (p - 1)) hf.2.2.2 (by omega) (fun f hf => hb f (by simp [hf])) (by simpa using hl)
    rw [List.append_assoc] at ih
    simp only [List.singleton_append, List.length_append, List.length_singleton] at ih
    have hpm : wrap64 ((p : Int) - 1) = ((p - 1 : Nat) : Int) := by rw [wri (by omega) (by omega)]; omega
    refine Ev.step (fun k => ?_) ih
    simp only [impl_totient.l0]
    rw [if_pos (by omega), if_pos (by omega), if_pos (by omega), hget, if_pos (by simp), hrd, if_neg (by omega), wr_tdiv (by omega), hpm, wr_mul (by omega), wr_succ (by omega), List.length_append]
theorem impl_totient_ev (n : Nat) (h0 : 0 < n) (hn : n ≤ 1000000000) : Ev (fun k => impl_totient.f k n) (phi n : Int) := by
  have hl := facs_len n
  have h := impl_totient_l (facs n) [] n (facs_fac h0) hn (fun f hf => by
    obtain ⟨p, e⟩ := f
    have := Nat.le_of_dvd h0 ((mem_facs h0 p e).1 hf).2.1
    simp only; omega) (by simpa using (by omega : (facs n).length ≤ 2000000000))
  refine (impl_factors_ev n hn).bind ?_
  rw [rows_len]
  exact h
theorem spec_dvTotient_l : ∀ (l pre : List (Nat × Nat)) (s : Nat) {c : Nat}, IsFac c l → s ≤ 1000000000 → (∀ f ∈ l, f.1 ≤ 1000000000) → (pre ++ l).length ≤ 2000000000 → Ev (fun k => spec_dvTotient.l0 k s (rowsOf (pre ++ l)) ((pre ++ l).length : Int) (pre.length : Int)) (totL l s : Int)
  | [], pre, s, _, _, _, _, hl => by
    refine Ev.done fun k => ?_
    simp only [spec_dvTotient.l0]
    rw [if_neg (by simp)]
    simp [totL]
  | (p, e) :: l, pre, s, _, hf, hs, hb, hl => by
    have hlen : (pre ++ (p, e) :: l).length = pre.length + 1 + l.length := by simp; omega
    have hlr := rows_len (pre ++ (p, e) :: l)
    have hget : rd_L2 (rowsOf (pre ++ (p, e) :: l)) (pre.length : Int) = [(p : Int), (e : Int)] := by
      unfold rd_L2; rw [Int.toNat_natCast]; exact rows_get pre (p, e) l
    have hrd : rd [(p : Int), (e : Int)] 0 = p := rfl
    have hp := hf.2.1.two_le
    have hpb : p ≤ 1000000000 := hb (p, e) (by simp)
    have hst := totL_step (s := s) (p := p)
    have ih := spec_dvTotient_l l (pre ++ [(p, e)]) (s / p * (p - 1)) hf.2.2.2 (by omega) (fun f hf => hb f (by simp [hf])) (by simpa using hl)
    rw [List.append_assoc] at ih
    simp only [List.singleton_append, List.length_append, List.length_singleton] at ih
    have hpm : wrap64 ((p : Int) - 1) = ((p - 1 : Nat) : Int) := by rw [wri (by omega) (by omega)]; omega
    refine Ev.step (fun k => ?_) ih
    simp only [spec_dvTotient.l0]
    rw [if_pos (by omega), if_pos (by omega), if_pos (by omega), hget, if_pos (by simp), hrd, if_neg (by omega), wr_tdiv (by omega), hpm, wr_mul (by omega), wr_succ (by omega), List.length_append]
theorem spec_dvTotient_ev (n : Nat) (h0 : 0 < n) (hn : n ≤ 1000000000) : Ev (fun k => spec_dvTotient.f k n) (phi n : Int) := by
  have hl := facs_len n
  have h := spec_dvTotient_l (facs n) [] n (facs_fac h0) hn (fun f hf => by
    obtain ⟨p, e⟩ := f
    have := Nat.le_of_dvd h0 ((mem_facs h0 p e).1 hf).2.1
    simp only; omega) (by simpa using (by omega : (facs n).length ≤ 2000000000))
  refine (spec_prFactors_ev n hn).bind ?_
  rw [rows_len]
  exact h
theorem impl_signOf_l : ∀ (l pre : List (Nat × Nat)) (s : Int), s = 1 ∨ s = -1 → (pre ++ l).length ≤ 2000000000 → Ev (fun k => impl_signOf.l0 k s (rowsOf (pre ++ l)) ((pre ++ l).length : Int) (pre.length : Int)) (s * sgnL l)
  | [], pre, s, hs, hl => by
    refine Ev.done fun k => ?_
    simp only [impl_signOf.l0]
    rw [if_neg (by simp)]
    simp [sgnL]
  | (p, e) :: l, pre, s, hs, hl => by
    have hlen : (pre ++ (p, e) :: l).length = pre.length + 1 + l.length := by simp; omega
    have hlr := rows_len (pre ++ (p, e) :: l)
    have hget : rd_L2 (rowsOf (pre ++ (p, e) :: l)) (pre.length : Int) = [(p : Int), (e : Int)] := by
      unfold rd_L2; rw [Int.toNat_natCast]; exact rows_get pre (p, e) l
    by_cases he : 1 < e
    · refine Ev.done fun k => ?_
      simp only [impl_signOf.l0]
      rw [if_pos (by omega), if_pos (by omega), if_pos (by omega), hget, if_pos (by simp), if_pos (by simp [rd]; omega)]
      simp [sgnL, he]
    · have ih := impl_signOf_l l (pre ++ [(p, e)]) (-s) (by omega) (by simpa using hl)
      rw [List.append_assoc] at ih
      simp only [List.singleton_append, List.length_append, List.length_singleton] at ih
      have e1 : s * sgnL ((p, e) :: l) = -s * sgnL l := by simp only [sgnL]; rw [if_neg he, Int.mul_neg, Int.neg_mul]
      rw [e1]
      refine Ev.step (fun k => ?_) ih
      simp only [impl_signOf.l0]
      rw [if_pos (by omega), if_pos (by omega), if_pos (by omega), hget, if_pos (by simp), if_neg (by simp [rd]; omega), wri (by omega) (by omega), wr_succ (by omega), List.length_append]
theorem impl_signOf_ev (n : Nat) (hn : n ≤ 1000000000) : Ev (fun k => impl_signOf.f k n) (sgn n) := by
  have hl := facs_len n
  have h := impl_signOf_l (facs n) [] 1 (Or.inl rfl) (by simpa using (by omega : (facs n).length ≤ 2000000000))
  rw [Int.one_mul] at h
  refine (impl_factors_ev n hn).bind ?_
  rw [rows_len]
  exact h
theorem spec_dvSign_l : ∀ (l pre : List (Nat × Nat)) (s : Int), s = 1 ∨ s = -1 → (pre ++ l).length ≤ 2000000000 → Ev (fun k => spec_dvSign.l0 k s (rowsOf (pre ++ l)) ((pre ++ l).length : Int) (pre.length : Int)) (s * sgnL l)
  | [], pre, s, hs, hl => by
    refine Ev.done fun k => ?_
    simp only [spec_dvSign.l0]
    rw [if_neg (by simp)]
    simp [sgnL]
  | (p, e) :: l, pre, s, hs, hl => by
    have hlen : (pre ++ (p, e) :: l).length = pre.length + 1 + l.length := by simp; omega
    have hlr := rows_len (pre ++ (p, e) :: l)
    have hget : rd_L2 (rowsOf (pre ++ (p, e) :: l)) (pre.length : Int) = [(p : Int), (e : Int)] := by
      unfold rd_L2; rw [Int.toNat_natCast]; exact rows_get pre (p, e) l
    by_cases he : 1 < e
    · refine Ev.done fun k => ?_
      simp only [spec_dvSign.l0]
      rw [if_pos (by omega), if_pos (by omega), if_pos (by omega), hget, if_pos (by simp), if_pos (by simp [rd]; omega)]
      simp [sgnL, he]
    · have ih := spec_dvSign_l l (pre ++ [(p, e)]) (-s) (by omega) (by simpa using hl)
      rw [List.append_assoc] at ih
      simp only [List.singleton_append, List.length_append, List.length_singleton] at ih
      have e1 : s * sgnL ((p, e) :: l) = -s * sgnL l := by simp only [sgnL]; rw [if_neg he, Int.mul_neg, Int.neg_mul]
      rw [e1]
      refine Ev.step (fun k => ?_) ih
      simp only [spec_dvSign.l0]
      rw [if_pos (by omega), if_pos (by omega), if_pos (by omega), hget, if_pos (by simp), if_neg (by simp [rd]; omega), wri (by omega) (by omega), wr_succ (by omega), List.length_append]
theorem spec_dvSign_ev (n : Nat) (hn : n ≤ 1000000000) : Ev (fun k => spec_dvSign.f k n) (sgn n) := by
  have hl := facs_len n
  have h := spec_dvSign_l (facs n) [] 1 (Or.inl rfl) (by simpa using (by omega : (facs n).length ≤ 2000000000))
  rw [Int.one_mul] at h
  refine (spec_prFactors_ev n hn).bind ?_
  rw [rows_len]
  exact h
def tb (a : Int) (m : Nat) : Int := if a = 1 then (m : Int) else if a = 2 then ((ints (divs m)).length : Int) else if a = 3 then wsum 0 (ints (divs m)) else if a = 4 then (phi m : Int) else if a = 5 then sgn m else if a = 6 then (if m = 1 then 1 else 0) else 1
/-- The table of a kind. -/
def tbl (a : Int) (n : Nat) : List Int := (List.range n).map fun i => tb a (i + 1)
theorem tbl_succ (a : Int) (n : Nat) : tbl a (n + 1) = tbl a n ++ [tb a (n + 1)] := by simp [tbl, List.range_succ]
theorem tbl_len (a : Int) (n : Nat) : (tbl a n).length = n := by simp [tbl]
theorem spec_dvTable_l (a : Int) (n : Nat) (hn : n ≤ 200) : ∀ (r i : Nat), i ≤ n → n ≤ i + r → Ev (fun k => spec_dvTable.l0 k a n (tbl a i) ((i + 1 : Nat) : Int)) (tbl a n) := by
  have hend : ∀ i, i = n → Ev (fun k => spec_dvTable.l0 k a n (tbl a i) ((i + 1 : Nat) : Int)) (tbl a n) := by
    intro i hi
    subst hi
    refine Ev.done fun k => ?_
    simp only [spec_dvTable.l0]
    rw [if_neg (by omega)]
  intro r
  induction r with
  | zero => intro i h1 h2; exact hend i (by omega)
  | succ r ih =>
    intro i h1 h2
    by_cases h : i = n
    · exact hend i h
    · have key := ih (i + 1) (by omega) (by omega)
      rw [tbl_succ] at key
      have hl := tbl_len a i
      have hlt : (tbl a i).length < 17592186044416 := by omega
      have hw : wrap64 (((i + 1 : Nat) : Int) + 1) = ((i + 1 + 1 : Nat) : Int) := wr_succ (by omega)
      have hle : ((i + 1 : Nat) : Int) ≤ n := by omega
      by_cases a1 : a = 1
      · refine Ev.step (fun k => ?_) key
        simp only [spec_dvTable.l0, if_pos hle, if_pos hlt, hw]
        rw [if_pos a1]; unfold tb; rw [if_pos a1]
      by_cases a2 : a = 2
      · refine Ev.step (f := fun k => (spec_dvList.f k ((i + 1 : Nat) : Int)).bind fun t => spec_dvTable.l0 k a n (tbl a i ++ [(t.length : Int)]) ((i + 1 + 1 : Nat) : Int)) (fun k => ?_) ((spec_dvList_ev (i + 1) (by omega) (by omega)).bind ?_)
        · simp only [spec_dvTable.l0, if_pos hle, if_pos hlt, hw]
          rw [if_neg a1, if_pos a2]
        · unfold tb at key; simp only [if_neg a1, if_pos a2] at key; exact key
      by_cases a3 : a = 3
      · refine Ev.step (f := fun k => (spec_dvSum.f k ((i + 1 : Nat) : Int)).bind fun t => spec_dvTable.l0 k a n (tbl a i ++ [t]) ((i + 1 + 1 : Nat) : Int)) (fun k => ?_) ((spec_dvSum_ev (i + 1) (by omega) (by omega)).bind ?_)
        · simp only [spec_dvTable.l0, if_pos hle, if_pos hlt, hw]
          rw [if_neg a1, if_neg a2, if_pos a3]
        · unfold tb at key; simp only [if_neg a1, if_neg a2, if_pos a3] at key; exact key
      by_cases a4 : a = 4
      · refine Ev.step (f := fun k => (spec_dvTotient.f k ((i + 1 : Nat) : Int)).bind fun t => spec_dvTable.l0 k a n (tbl a i ++ [t]) ((i + 1 + 1 : Nat) : Int)) (fun k => ?_) ((spec_dvTotient_ev (i + 1) (by omega) (by omega)).bind ?_)
        · simp only [spec_dvTable.l0, if_pos hle, if_pos hlt, hw]
          rw [if_neg a1, if_neg a2, if_neg a3, if_pos a4]
        · unfold tb at key; simp only [if_neg a1, if_neg a2, if_neg a3, if_pos a4] at key; exact key
      by_cases a5 : a = 5
      · refine Ev.step (f := fun k => (spec_dvSign.f k ((i + 1 : Nat) : Int)).bind fun t => spec_dvTable.l0 k a n (tbl a i ++ [t]) ((i + 1 + 1 : Nat) : Int)) (fun k => ?_) ((spec_dvSign_ev (i + 1) (by omega)).bind ?_)
        · simp only [spec_dvTable.l0, if_pos hle, if_pos hlt, hw]
          rw [if_neg a1, if_neg a2, if_neg a3, if_neg a4, if_pos a5]
        · unfold tb at key; simp only [if_neg a1, if_neg a2, if_neg a3, if_neg a4, if_pos a5] at key; exact key
      by_cases a6 : a = 6
      · refine Ev.step (fun k => ?_) key
        simp only [spec_dvTable.l0, if_pos hle, if_pos hlt, hw]
        rw [if_neg a1, if_neg a2, if_neg a3, if_neg a4, if_neg a5, if_pos a6]
        unfold tb
        simp only [if_neg a1, if_neg a2, if_neg a3, if_neg a4, if_neg a5, if_pos a6]
        by_cases h1 : i + 1 = 1
        · rw [if_pos (by omega), if_pos h1]
        · rw [if_neg (by omega), if_neg h1]
      · refine Ev.step (fun k => ?_) key
        simp only [spec_dvTable.l0, if_pos hle, if_pos hlt, hw]
        rw [if_neg a1, if_neg a2, if_neg a3, if_neg a4, if_neg a5, if_neg a6]
        unfold tb
        simp only [if_neg a1, if_neg a2, if_neg a3, if_neg a4, if_neg a5, if_neg a6]
theorem spec_dvTable_ev (a : Int) (n : Nat) (hn : n ≤ 200) : Ev (fun k => spec_dvTable.f k a n) (tbl a n) := spec_dvTable_l a n hn n 0 (by omega) (by omega)
theorem impl_tableOf_l (a : Int) (n : Nat) (hn : n ≤ 200) : ∀ (r i : Nat), i ≤ n → n ≤ i + r → Ev (fun k => impl_tableOf.l0 k a n (tbl a i) ((i + 1 : Nat) : Int)) (tbl a n) := by
  have hend : ∀ i, i = n → Ev (fun k => impl_tableOf.l0 k a n (tbl a i) ((i + 1 : Nat) : Int)) (tbl a n) := by
    intro i hi
    subst hi
    refine Ev.done fun k => ?_
    simp only [impl_tableOf.l0]
    rw [if_neg (by omega)]
  intro r
  induction r with
  | zero => intro i h1 h2; exact hend i (by omega)
  | succ r ih =>
    intro i h1 h2
    by_cases h : i = n
    · exact hend i h
    · have key := ih (i + 1) (by omega) (by omega)
      rw [tbl_succ] at key
      have hl := tbl_len a i
      have hlt : (tbl a i).length < 17592186044416 := by omega
      have hw : wrap64 (((i + 1 : Nat) : Int) + 1) = ((i + 1 + 1 : Nat) : Int) := wr_succ (by omega)
      have hle : ((i + 1 : Nat) : Int) ≤ n := by omega
      by_cases a1 : a = 1
      · refine Ev.step (fun k => ?_) key
        simp only [impl_tableOf.l0, if_pos hle, if_pos hlt, hw]
        rw [if_pos a1]; unfold tb; rw [if_pos a1]
      by_cases a2 : a = 2
      · refine Ev.step (f := fun k => (impl_divisors.f k ((i + 1 : Nat) : Int)).bind fun t => impl_tableOf.l0 k a n (tbl a i ++ [(t.length : Int)]) ((i + 1 + 1 : Nat) : Int)) (fun k => ?_) ((impl_divisors_ev (i + 1) (by omega) (by omega)).bind ?_)
        · simp only [impl_tableOf.l0, if_pos hle, if_pos hlt, hw]
          rw [if_neg a1, if_pos a2]
        · unfold tb at key; simp only [if_neg a1, if_pos a2] at key; exact key
      by_cases a3 : a = 3
      · refine Ev.step (f := fun k => (impl_divisors.f k ((i + 1 : Nat) : Int)).bind fun t0 => (impl_sumOf.f k t0).bind fun t => impl_tableOf.l0 k a n (tbl a i ++ [t]) ((i + 1 + 1 : Nat) : Int)) (fun k => ?_) ((impl_divisors_ev (i + 1) (by omega) (by omega)).bind ((impl_sumOf_ev (i + 1) (by omega) (by omega)).bind ?_))
        · simp only [impl_tableOf.l0, if_pos hle, if_pos hlt, hw]
          rw [if_neg a1, if_neg a2, if_pos a3]
        · unfold tb at key; simp only [if_neg a1, if_neg a2, if_pos a3] at key; exact key
      by_cases a4 : a = 4
      · refine Ev.step (f := fun k => (impl_totient.f k ((i + 1 : Nat) : Int)).bind fun t => impl_tableOf.l0 k a n (tbl a i ++ [t]) ((i + 1 + 1 : Nat) : Int)) (fun k => ?_) ((impl_totient_ev (i + 1) (by omega) (by omega)).bind ?_)
        · simp only [impl_tableOf.l0, if_pos hle, if_pos hlt, hw]
          rw [if_neg a1, if_neg a2, if_neg a3, if_pos a4]
        · unfold tb at key; simp only [if_neg a1, if_neg a2, if_neg a3, if_pos a4] at key; exact key
      by_cases a5 : a = 5
      · refine Ev.step (f := fun k => (impl_signOf.f k ((i + 1 : Nat) : Int)).bind fun t => impl_tableOf.l0 k a n (tbl a i ++ [t]) ((i + 1 + 1 : Nat) : Int)) (fun k => ?_) ((impl_signOf_ev (i + 1) (by omega)).bind ?_)
        · simp only [impl_tableOf.l0, if_pos hle, if_pos hlt, hw]
          rw [if_neg a1, if_neg a2, if_neg a3, if_neg a4, if_pos a5]
        · unfold tb at key; simp only [if_neg a1, if_neg a2, if_neg a3, if_neg a4, if_pos a5] at key; exact key
      by_cases a6 : a = 6
      · refine Ev.step (fun k => ?_) key
        simp only [impl_tableOf.l0, if_pos hle, if_pos hlt, hw]
        rw [if_neg a1, if_neg a2, if_neg a3, if_neg a4, if_neg a5, if_pos a6]
        unfold tb
        simp only [if_neg a1, if_neg a2, if_neg a3, if_neg a4, if_neg a5, if_pos a6]
        rw [if_neg (by omega)]
        by_cases h1 : i + 1 = 1
        · rw [if_pos h1, h1, show Int.tdiv 1 ((1 : Nat) : Int) = 1 from rfl, wri (by omega) (by omega)]
        · rw [if_neg h1]
          have h9 : Int.tdiv 1 ((i + 1 : Nat) : Int) = 0 := by
            show ((1 / (i + 1) : Nat) : Int) = 0
            rw [Nat.div_eq_of_lt (by omega)]; rfl
          rw [h9, wri (by omega) (by omega)]
      · refine Ev.step (fun k => ?_) key
        simp only [impl_tableOf.l0, if_pos hle, if_pos hlt, hw]
        rw [if_neg a1, if_neg a2, if_neg a3, if_neg a4, if_neg a5, if_neg a6]
        unfold tb
        simp only [if_neg a1, if_neg a2, if_neg a3, if_neg a4, if_neg a5, if_neg a6]
theorem impl_tableOf_ev (a : Int) (n : Nat) (hn : n ≤ 200) : Ev (fun k => impl_tableOf.f k a n) (tbl a n) := impl_tableOf_l a n hn n 0 (by omega) (by omega)
theorem rd_at (l : List Int) (j : Nat) : rd l (j : Int) = l.getD j 0 := by unfold rd; rw [Int.toNat_natCast]
def okN (x : Int) : Bool := decide (-1000000 ≤ x ∧ x ≤ 1000000)
/-- A table: 1 to 200 numbers, none beyond a million. -/
def isTab (l : List Int) : Bool := decide (1 ≤ l.length ∧ l.length ≤ 200) && l.all okN
theorem rd_in (pre : List Int) (x : Int) (l : List Int) : rd (pre ++ x :: l) (pre.length : Int) = x := by unfold rd; rw [Int.toNat_natCast]; simp
theorem spec_l1All_l : ∀ (suf pre : List Int), (pre ++ suf).length ≤ 4000000000 → Ev (fun k => spec_l1All.l0 k (-1000000) 1000000 (pre ++ suf) ((pre ++ suf).length : Nat) (pre.length : Nat)) (suf.all okN)
  | [], pre, _ => by
    refine Ev.done fun k => ?_
    simp only [spec_l1All.l0]
    rw [if_neg (by simp)]
    rfl
  | x :: suf, pre, hl => by
    have hlen : (pre ++ x :: suf).length = pre.length + 1 + suf.length := by simp; omega
    have ih := spec_l1All_l suf (pre ++ [x]) (by simpa using hl)
    rw [List.append_assoc] at ih
    simp only [List.singleton_append, List.length_append, List.length_singleton] at ih
    by_cases hx : okN x = true
    · rw [List.all_cons, hx, Bool.true_and]
      refine Ev.step (fun k => ?_) ih
      simp only [spec_l1All.l0]
      rw [if_pos (by omega), if_pos (by omega), if_pos (by omega), rd_in, wr_succ (by omega), spec_l1In_eq]
      have : decide (-1000000 ≤ x ∧ x ≤ 1000000) = true := hx
      rw [this]
      simp only [Option.bind_some, if_true, List.length_append]
    · rw [List.all_cons, Bool.eq_false_iff.2 hx, Bool.false_and]
      refine Ev.done fun k => ?_
      simp only [spec_l1All.l0]
      rw [if_pos (by omega), if_pos (by omega), if_pos (by omega), rd_in, spec_l1In_eq]
      have : decide (-1000000 ≤ x ∧ x ≤ 1000000) = false := Bool.eq_false_iff.2 hx
      rw [this]
      simp only [Option.bind_some, Bool.false_eq_true, if_false]
theorem spec_dvIs_ev (l : List Int) : Ev (fun k => spec_dvIs.f k l) (isTab l) := by
  unfold spec_dvIs.f isTab
  simp only [spec_l1In_eq, Option.bind_some]
  by_cases h : 1 ≤ l.length ∧ l.length ≤ 200
  · simp only [decide_eq_true h, decide_eq_true (show (1 : Int) ≤ (l.length : Int) ∧ (l.length : Int) ≤ 200 by omega), if_true, Bool.true_and]
    exact (spec_l1All_l l [] (by simp; omega)).bind (Ev.now _)
  · simp only [decide_eq_false h, decide_eq_false (show ¬ ((1 : Int) ≤ (l.length : Int) ∧ (l.length : Int) ≤ 200) by omega), Bool.false_eq_true, if_false, Bool.false_and]
    exact Ev.now _
theorem impl_isTable_1_eq (x : Int) : impl_isTable_1.f x = some (!okN x) := by
  unfold impl_isTable_1.f okN
  by_cases h : x < -1000000
  · rw [if_pos h, decide_eq_false (by omega)]; rfl
  · rw [if_neg h]
    by_cases h2 : x > 1000000
    · rw [decide_eq_true h2, decide_eq_false (by omega)]; rfl
    · rw [decide_eq_false h2, decide_eq_true (by omega)]; rfl
theorem impl_isTable_l : ∀ (suf pre : List Int), (pre ++ suf).length ≤ 4000000000 → ∃ v : Int, decide (v ≥ 0) = !suf.all okN ∧ Ev (fun k => impl_isTable.l0 k (pre ++ suf) (pre.length : Nat)) v
  | [], pre, _ => by
    refine ⟨-1, rfl, Ev.done fun k => ?_⟩
    simp only [impl_isTable.l0]
    rw [if_neg (by simp)]
  | x :: suf, pre, hl => by
    have hlen : (pre ++ x :: suf).length = pre.length + 1 + suf.length := by simp; omega
    obtain ⟨v, hv, ih⟩ := impl_isTable_l suf (pre ++ [x]) (by simpa using hl)
    rw [List.append_assoc] at ih
    simp only [List.singleton_append, List.length_append, List.length_singleton] at ih
    by_cases hx : okN x = true
    · refine ⟨v, by rw [List.all_cons, hx, Bool.true_and]; exact hv, Ev.step (fun k => ?_) ih⟩
      simp only [impl_isTable.l0]
      rw [if_pos (by omega), if_pos (by omega), rd_in, wr_succ (by omega), impl_isTable_1_eq, hx]
      simp only [Option.bind_some, Bool.not_true, Bool.false_eq_true, if_false]
    · have hx' := Bool.eq_false_iff.2 hx
      refine ⟨(pre.length : Nat), by rw [List.all_cons, hx', Bool.false_and]; exact decide_eq_true (by omega), Ev.done fun k => ?_⟩
      simp only [impl_isTable.l0]
      rw [if_pos (by omega), if_pos (by omega), rd_in, impl_isTable_1_eq, hx']
      simp only [Option.bind_some, Bool.not_false, if_true]
theorem impl_isTable_ev (l : List Int) : Ev (fun k => impl_isTable.f k l) (isTab l) := by
  unfold impl_isTable.f isTab
  by_cases h : 1 ≤ l.length ∧ l.length ≤ 200
  · obtain ⟨v, hv, hev⟩ := impl_isTable_l l [] (by simp; omega)
    simp only [decide_eq_true h, if_pos (show (l.length : Int) ≥ 1 by omega), if_pos (show (l.length : Int) ≤ 200 by omega), Bool.true_and]
    have : l.all okN = !decide (v ≥ 0) := by rw [hv, Bool.not_not]
    rw [this]
    exact hev.bind (Ev.now _)
  · rw [decide_eq_false h, Bool.false_and]
    refine Ev.const fun k => ?_
    by_cases h1 : (l.length : Int) ≥ 1
    · rw [if_pos h1, if_neg (by omega)]
    · rw [if_neg h1]
theorem isTab_len {l : List Int} (ht : isTab l = true) : 1 ≤ l.length ∧ l.length ≤ 200 := by
  unfold isTab at ht
  rw [Bool.and_eq_true] at ht
  exact of_decide_eq_true ht.1
theorem isTab_at {l : List Int} (ht : isTab l = true) (j : Nat) : -1000000 ≤ rd l (j : Int) ∧ rd l (j : Int) ≤ 1000000 := by
  unfold isTab at ht
  rw [Bool.and_eq_true, List.all_eq_true] at ht
  rw [rd_at, List.getD_eq_getElem?_getD]
  cases h : l[j]? with
  | none => simp
  | some x => exact of_decide_eq_true (ht.2 x (List.mem_of_getElem? h))
theorem prod_bd {a b : Int} (ha : -1000000 ≤ a ∧ a ≤ 1000000) (hb : -1000000 ≤ b ∧ b ≤ 1000000) : -1000000000000 ≤ a * b ∧ a * b ≤ 1000000000000 := by
  have h : (a * b).natAbs ≤ 1000000 * 1000000 := by rw [Int.natAbs_mul]; exact Nat.mul_le_mul (by omega) (by omega)
  omega
theorem over_in (x0 x1 : List Int) (n : Nat) (hn : n ≤ 200) (h0 : x0.length = n) (h1 : x1.length = n) (d : Nat) (hd : 1 ≤ d) (hdn : d ≤ n) : ∀ (r m : Nat) (out : List Int), 1 ≤ m → m + r = n + 1 → out.length = n →
    ∃ out' : List Int, out'.length = n ∧ (∀ v, Ev (fun k => spec_dvOver.l0 k x0 x1 out' ((d + 1 : Nat) : Int)) v → Ev (fun k => spec_dvOver.l1 k x0 x1 out d m) v) ∧
      (∀ v, Ev (fun k => impl_overDivisors.l0 k x0 x1 out' x0 n (d : Nat)) v → Ev (fun k => impl_overDivisors.l1 k x0 x1 out ((d - 1 : Nat) : Int) (rd x0 ((d - 1 : Nat) : Int)) m x0 n ((d - 1 : Nat) : Int)) v) := by
  intro r
  induction r with
  | zero =>
    intro m out hm hmr ho
    have hbig : n < m * d := by
      have : m = n + 1 := by omega
      rw [this]
      have := Nat.mul_le_mul_left (n + 1) hd
      omega
    have hle : m * d ≤ 201 * 200 := Nat.mul_le_mul (by omega) (by omega)
    have e1 : wrap64 ((m : Int) * d) = ((m * d : Nat) : Int) := wr_mul (by omega)
    have e2 : wrap64 (((d - 1 : Nat) : Int) + 1) = (d : Int) := by rw [wr_succ (by omega)]; omega
    refine ⟨out, ho, fun v h => Ev.step (fun k => ?_) h, fun v h => Ev.step (fun k => ?_) h⟩
    · simp only [spec_dvOver.l1]
      rw [e1, if_neg (by omega), wr_succ (by omega)]
    · simp only [impl_overDivisors.l1]
      rw [e2, e1, if_neg (by omega)]
  | succ r ih =>
    intro m out hm hmr ho
    have hle : m * d ≤ 201 * 200 := Nat.mul_le_mul (by omega) (by omega)
    have hpos : 0 < m * d := Nat.mul_pos (by omega) (by omega)
    have e1 : wrap64 ((m : Int) * d) = ((m * d : Nat) : Int) := wr_mul (by omega)
    have e2 : wrap64 (((d - 1 : Nat) : Int) + 1) = (d : Int) := by rw [wr_succ (by omega)]; omega
    by_cases hb : m * d ≤ n
    · have hmn : m ≤ m * d := Nat.le_mul_of_pos_right _ (by omega)
      have e3 : wrap64 (((m * d : Nat) : Int) - 1) = ((m * d - 1 : Nat) : Int) := by rw [wri (by omega) (by omega)]; omega
      have e4 : wrap64 ((d : Int) - 1) = ((d - 1 : Nat) : Int) := by rw [wri (by omega) (by omega)]; omega
      have e5 : wrap64 ((m : Int) - 1) = ((m - 1 : Nat) : Int) := by rw [wri (by omega) (by omega)]; omega
      obtain ⟨out', ho', k1, k2⟩ := ih (m + 1) (out.set (m * d - 1) (wrap64 (rd out ((m * d - 1 : Nat) : Int) + wrap64 (rd x0 ((d - 1 : Nat) : Int) * rd x1 ((m - 1 : Nat) : Int))))) (by omega) (by omega) (by rw [List.length_set]; exact ho)
      refine ⟨out', ho', fun v h => Ev.step (fun k => ?_) (k1 v h), fun v h => Ev.step (fun k => ?_) (k2 v h)⟩
      · simp only [spec_dvOver.l1]
        rw [e1, if_pos (by omega), e3, if_pos (by omega), if_pos (by omega), e4, if_pos (by omega), if_pos (by omega), e5, if_pos (by omega), if_pos (by omega), wr_succ (by omega), Int.toNat_natCast]
      · simp only [impl_overDivisors.l1]
        rw [e2, e1, if_pos (by omega), e3, if_pos (by omega), if_pos (by omega), e5, if_pos (by omega), if_pos (by omega), wr_succ (by omega), Int.toNat_natCast]
    · refine ⟨out, ho, fun v h => Ev.step (fun k => ?_) h, fun v h => Ev.step (fun k => ?_) h⟩
      · simp only [spec_dvOver.l1]
        rw [e1, if_neg (by omega), wr_succ (by omega)]
      · simp only [impl_overDivisors.l1]
        rw [e2, e1, if_neg (by omega)]
theorem over_l (x0 x1 : List Int) (n : Nat) (hn : n ≤ 200) (h0 : x0.length = n) (h1 : x1.length = n) : ∀ (r d : Nat) (out : List Int), 1 ≤ d → d + r = n + 1 → out.length = n →
    ∃ v : List Int, v.length = n ∧ Ev (fun k => spec_dvOver.l0 k x0 x1 out d) v ∧ Ev (fun k => impl_overDivisors.l0 k x0 x1 out x0 n ((d - 1 : Nat) : Int)) v := by
  intro r
  induction r with
  | zero =>
    intro d out hd hdr ho
    refine ⟨out, ho, Ev.done fun k => ?_, Ev.done fun k => ?_⟩
    · simp only [spec_dvOver.l0]
      rw [if_neg (by omega)]
    · simp only [impl_overDivisors.l0]
      rw [if_neg (by omega)]
  | succ r ih =>
    intro d out hd hdr ho
    obtain ⟨out', ho', k1', k2'⟩ := over_in x0 x1 n hn h0 h1 d hd (by omega) n 1 out (by omega) (by omega) ho
    obtain ⟨v, hv, i1, i2⟩ := ih (d + 1) out' (by omega) (by omega) ho'
    rw [Nat.add_sub_cancel] at i2
    have k1 := k1' v i1
    have k2 := k2' v i2
    refine ⟨v, hv, Ev.step (fun k => ?_) k1, Ev.step (fun k => ?_) k2⟩
    · simp only [spec_dvOver.l0]
      rw [if_pos (by omega)]
      rfl
    · simp only [impl_overDivisors.l0]
      rw [if_pos (by omega), if_pos (by omega), if_pos (by omega)]
      rfl
theorem over_ev (x0 x1 : List Int) (hn : x0.length ≤ 200) (h1 : x1.length = x0.length) : ∃ v : List Int, v.length = x0.length ∧ Ev (fun k => spec_dvOver.f k x0 x1) v ∧ Ev (fun k => impl_overDivisors.f k x0 x1) v := by
  obtain ⟨v, hv, k1, k2⟩ := over_l x0 x1 x0.length hn rfl h1 x0.length 1 (List.replicate x0.length 0) (by omega) (by omega) (by simp)
  refine ⟨v, hv, ?_, ?_⟩
  · unfold spec_dvOver.f
    simp only [if_pos (show 0 ≤ (x0.length : Int) by omega), Int.toNat_natCast, if_pos (show x0.length ≤ 35184372088832 by omega)]
    exact k1
  · unfold impl_overDivisors.f
    simp only [if_pos (show 0 ≤ (x0.length : Int) by omega), Int.toNat_natCast, if_pos (show x0.length ≤ 35184372088832 by omega)]
    exact k2
theorem impl_told_ev (l : List Int) : Ev (fun k => impl_told.f k l) (if isTab l = true then (l, true) else ([], false)) := by
  unfold impl_told.f
  refine (impl_isTable_ev l).bind ?_
  by_cases h : isTab l = true
  · simp only [if_pos h]; exact Ev.now _
  · simp only [if_neg h]; exact Ev.now _
/-- One function has one answer. -/
theorem Ev_uniq {α : Type} {g : Nat → Option α} {a b : α} (h1 : Ev g a) (h2 : Ev g b) : a = b := by
  obtain ⟨k1, h1⟩ := h1
  obtain ⟨k2, h2⟩ := h2
  have e1 := h1 (k1 + k2) (by omega)
  have e2 := h2 (k1 + k2) (by omega)
  rw [e1] at e2
  injection e2
/-- A list's number with an index from 1 on. -/
def ath (l : List Int) (n : Nat) : Int := rd l ((n - 1 : Nat) : Int)
/-- The list of a function's values at 1, 2, .. -/
def tabOf (f : Nat → Int) (n : Nat) : List Int := (List.range n).map fun i => f (i + 1)
theorem tabOf_len (f : Nat → Int) (n : Nat) : (tabOf f n).length = n := by simp [tabOf]
theorem ath_eq {l : List Int} {m : Nat} (h1 : 1 ≤ m) (h2 : m ≤ l.length) : ath l m = l[m - 1] := by
  unfold ath rd
  rw [Int.toNat_natCast, List.getD_eq_getElem?_getD, List.getElem?_eq_getElem (by omega)]
  rfl
theorem ath_tabOf (f : Nat → Int) {n m : Nat} (h1 : 1 ≤ m) (h2 : m ≤ n) : ath (tabOf f n) m = f m := by
  rw [ath_eq h1 (by rw [tabOf_len]; exact h2)]
  unfold tabOf
  rw [List.getElem_map, List.getElem_range, Nat.sub_add_cancel h1]
theorem tabOf_eq {l : List Int} {n : Nat} {f : Nat → Int} (hl : l.length = n) (h : ∀ m, 1 ≤ m → m ≤ n → ath l m = f m) : l = tabOf f n := by
  apply List.ext_getElem
  · rw [hl, tabOf_len]
  · intro i h1 h2
    have h3 := h (i + 1) (by omega) (by omega)
    have h4 := ath_tabOf f (n := n) (m := i + 1) (by omega) (by omega)
    rw [ath_eq (by omega) (by omega)] at h3
    rw [ath_eq (by omega) (by rw [tabOf_len]; omega)] at h4
    simp only [Nat.add_sub_cancel] at h3 h4
    rw [h3, h4]
theorem tabOf_congr {n : Nat} {f g : Nat → Int} (h : ∀ m, 1 ≤ m → m ≤ n → f m = g m) : tabOf f n = tabOf g n :=
  tabOf_eq (tabOf_len f n) fun m h1 h2 => by rw [ath_tabOf f h1 h2]; exact h m h1 h2
theorem ath_set {l : List Int} {j m : Nat} (v : Int) (h1 : 1 ≤ m) (hj : 1 ≤ j) (hjl : j ≤ l.length) : ath (l.set (j - 1) v) m = if m = j then v else ath l m := by
  unfold ath rd
  rw [Int.toNat_natCast, List.getD_eq_getElem?_getD, List.getD_eq_getElem?_getD, List.getElem?_set]
  by_cases h : m = j
  · subst h
    rw [if_pos rfl, if_pos (by omega), if_pos rfl]
    rfl
  · rw [if_neg (by omega), if_neg h]
theorem wrap_add (x y : Int) : wrap64 (wrap64 x + wrap64 y) = wrap64 (x + y) := by unfold wrap64; omega
theorem dv_zero (n : Nat) : dv n 0 = false := by unfold dv; simp
theorem dv_big {n d : Nat} (h0 : 0 < n) (h : n < d) : dv n d = false := by
  rw [← Bool.not_eq_true, dv_iff]
  rintro ⟨_, h2⟩
  have := Nat.le_of_dvd h0 h2
  omega
/-- The sum over the divisors below d. -/
def parS (a b : Nat → Int) (d N : Nat) : Int := lsum (fun x => a x * b (N / x)) ((List.range d).filter (dv N))
theorem parS_succ (a b : Nat → Int) (d N : Nat) : parS a b (d + 1) N = parS a b d N + (if dv N d = true then a d * b (N / d) else 0) := by
  unfold parS
  rw [List.range_succ, List.filter_append, lsum_append]
  congr 1
  by_cases h : dv N d = true
  · rw [if_pos h]
    simp [h, lsum]
  · rw [if_neg h]
    simp [h, lsum]
theorem parS_all (a b : Nat → Int) {N : Nat} (h0 : 0 < N) : ∀ c, parS a b (N + 1 + c) N = conv a b N
  | 0 => rfl
  | c + 1 => by
    rw [← Nat.add_assoc, parS_succ, parS_all a b h0 c, dv_big h0 (by omega)]
    simp
/-- .. and at d, to fellows below m. -/
def parI (a b : Nat → Int) (d m N : Nat) : Int := parS a b d N + (if dv N d = true ∧ N / d < m then a d * b (N / d) else 0)
theorem parI_one (a b : Nat → Int) (d N : Nat) (h0 : 0 < N) : parI a b d 1 N = parS a b d N := by
  unfold parI
  rw [if_neg, Int.add_zero]
  rintro ⟨h1, h2⟩
  obtain ⟨h3, h4⟩ := dv_iff.1 h1
  have := Nat.div_pos (Nat.le_of_dvd h0 h4) h3
  omega
theorem parI_end (a b : Nat → Int) (d m N n : Nat) (hN : N ≤ n) (h : n < m * d) (hd : 1 ≤ d) : parI a b d m N = parS a b (d + 1) N := by
  rw [parS_succ]
  unfold parI
  congr 1
  by_cases hv : dv N d = true
  · rw [if_pos hv, if_pos ⟨hv, (Nat.div_lt_iff_lt_mul (by omega)).2 (by omega)⟩]
  · rw [if_neg hv, if_neg (fun h => hv h.1)]
theorem parI_step (a b : Nat → Int) (d m N : Nat) (hd : 1 ≤ d) (hm : 1 ≤ m) : parI a b d (m + 1) N = parI a b d m N + (if N = m * d then a d * b m else 0) := by
  unfold parI
  by_cases h : N = m * d
  · subst h
    have hv : dv (m * d) d = true := dv_iff.2 ⟨hd, Nat.dvd_mul_left d m⟩
    have hq : m * d / d = m := Nat.mul_div_cancel m (by omega)
    rw [if_pos rfl, hq, if_pos ⟨hv, by omega⟩, if_neg (fun h => by omega)]
    omega
  · rw [if_neg h]
    have hiff : (dv N d = true ∧ N / d < m + 1) ↔ (dv N d = true ∧ N / d < m) := by
      constructor
      · rintro ⟨h1, h2⟩
        refine ⟨h1, ?_⟩
        have h3 := Nat.div_mul_cancel (dv_iff.1 h1).2
        rcases Nat.lt_or_ge (N / d) m with h4 | h4
        · exact h4
        · have : N / d = m := by omega
          rw [this] at h3
          exact absurd h3.symm h
      · rintro ⟨h1, h2⟩; exact ⟨h1, by omega⟩
    by_cases hc : dv N d = true ∧ N / d < m
    · rw [if_pos hc, if_pos (hiff.2 hc)]; omega
    · rw [if_neg hc, if_neg (fun h => hc (hiff.1 h))]; omega
theorem overV_in (x0 x1 : List Int) (n : Nat) (hn : n ≤ 200) (h0 : x0.length = n) (h1 : x1.length = n) (d : Nat) (hd : 1 ≤ d) (hdn : d ≤ n) : ∀ (r m : Nat) (out : List Int), 1 ≤ m → m + r = n + 1 → out.length = n →
    (∀ N, 1 ≤ N → N ≤ n → ath out N = wrap64 (parI (ath x0) (ath x1) d m N)) →
    ∃ out' : List Int, out'.length = n ∧ (∀ N, 1 ≤ N → N ≤ n → ath out' N = wrap64 (parS (ath x0) (ath x1) (d + 1) N)) ∧ (∀ v, Ev (fun k => spec_dvOver.l0 k x0 x1 out' ((d + 1 : Nat) : Int)) v → Ev (fun k => spec_dvOver.l1 k x0 x1 out d m) v) := by
  have hstop : ∀ (m : Nat) (out : List Int), m ≤ n + 1 → n < m * d → out.length = n → (∀ N, 1 ≤ N → N ≤ n → ath out N = wrap64 (parI (ath x0) (ath x1) d m N)) →
      ∃ out' : List Int, out'.length = n ∧ (∀ N, 1 ≤ N → N ≤ n → ath out' N = wrap64 (parS (ath x0) (ath x1) (d + 1) N)) ∧ (∀ v, Ev (fun k => spec_dvOver.l0 k x0 x1 out' ((d + 1 : Nat) : Int)) v → Ev (fun k => spec_dvOver.l1 k x0 x1 out d m) v) := by
    intro m out hm hb ho hinv
    have hle : m * d ≤ 201 * 200 := Nat.mul_le_mul (by omega) (by omega)
    have e1 : wrap64 ((m : Int) * d) = ((m * d : Nat) : Int) := wr_mul (by omega)
    refine ⟨out, ho, fun N g1 g2 => by rw [hinv N g1 g2, parI_end _ _ d m N n g2 hb hd], fun v h => Ev.step (fun k => ?_) h⟩
    simp only [spec_dvOver.l1]
    rw [e1, if_neg (by omega), wr_succ (by omega)]
  intro r
  induction r with
  | zero =>
    intro m out hm hmr ho hinv
    refine hstop m out (by omega) ?_ ho hinv
    have : m = n + 1 := by omega
    rw [this]
    have := Nat.mul_le_mul_left (n + 1) hd
    omega
  | succ r ih =>
    intro m out hm hmr ho hinv
    have hle : m * d ≤ 201 * 200 := Nat.mul_le_mul (by omega) (by omega)
    have hpos : 0 < m * d := Nat.mul_pos (by omega) (by omega)
    have e1 : wrap64 ((m : Int) * d) = ((m * d : Nat) : Int) := wr_mul (by omega)
    by_cases hb : m * d ≤ n
    · have hmn : m ≤ m * d := Nat.le_mul_of_pos_right _ (by omega)
      have e3 : wrap64 (((m * d : Nat) : Int) - 1) = ((m * d - 1 : Nat) : Int) := by rw [wri (by omega) (by omega)]; omega
      have e4 : wrap64 ((d : Int) - 1) = ((d - 1 : Nat) : Int) := by rw [wri (by omega) (by omega)]; omega
      have e5 : wrap64 ((m : Int) - 1) = ((m - 1 : Nat) : Int) := by rw [wri (by omega) (by omega)]; omega
      have hnew : ∀ N, 1 ≤ N → N ≤ n → ath (out.set (m * d - 1) (wrap64 (rd out ((m * d - 1 : Nat) : Int) + wrap64 (rd x0 ((d - 1 : Nat) : Int) * rd x1 ((m - 1 : Nat) : Int))))) N = wrap64 (parI (ath x0) (ath x1) d (m + 1) N) := by
        intro N g1 g2
        rw [ath_set _ g1 (by omega) (by omega), parI_step _ _ d m N hd hm]
        by_cases hN : N = m * d
        · rw [if_pos hN, if_pos hN]
          have h2 := hinv N g1 g2
          rw [hN] at h2 ⊢
          unfold ath at h2
          rw [h2, wrap_add]
          rfl
        · rw [if_neg hN, if_neg hN, Int.add_zero]
          exact hinv N g1 g2
      obtain ⟨out', ho', hi', k1⟩ := ih (m + 1) _ (by omega) (by omega) (by rw [List.length_set]; exact ho) hnew
      refine ⟨out', ho', hi', fun v h => Ev.step (fun k => ?_) (k1 v h)⟩
      simp only [spec_dvOver.l1]
      rw [e1, if_pos (by omega), e3, if_pos (by omega), if_pos (by omega), e4, if_pos (by omega), if_pos (by omega), e5, if_pos (by omega), if_pos (by omega), wr_succ (by omega), Int.toNat_natCast]
    · exact hstop m out (by omega) (by omega) ho hinv
theorem overV_l (x0 x1 : List Int) (n : Nat) (hn : n ≤ 200) (h0 : x0.length = n) (h1 : x1.length = n) : ∀ (r d : Nat) (out : List Int), 1 ≤ d → d + r = n + 1 → out.length = n → (∀ N, 1 ≤ N → N ≤ n → ath out N = wrap64 (parS (ath x0) (ath x1) d N)) →
    Ev (fun k => spec_dvOver.l0 k x0 x1 out d) (tabOf (fun N => wrap64 (conv (ath x0) (ath x1) N)) n) := by
  intro r
  induction r with
  | zero =>
    intro d out hd hdr ho hinv
    have e : out = tabOf (fun N => wrap64 (conv (ath x0) (ath x1) N)) n := tabOf_eq ho fun N g1 g2 => by
      have := parS_all (ath x0) (ath x1) (N := N) (by omega) (n - N)
      rw [show N + 1 + (n - N) = d by omega] at this
      rw [hinv N g1 g2, this]
    rw [← e]
    refine Ev.done fun k => ?_
    simp only [spec_dvOver.l0]
    rw [if_neg (by omega)]
  | succ r ih =>
    intro d out hd hdr ho hinv
    obtain ⟨out', ho', hi', k1⟩ := overV_in x0 x1 n hn h0 h1 d hd (by omega) n 1 out (by omega) (by omega) ho (fun N g1 g2 => by rw [hinv N g1 g2, parI_one _ _ d N (by omega)])
    have i1 := ih (d + 1) out' (by omega) (by omega) ho' hi'
    refine Ev.step (fun k => ?_) (k1 _ i1)
    simp only [spec_dvOver.l0]
    rw [if_pos (by omega)]
    rfl
theorem conv_bd {a b : Nat → Int} {N : Nat} (h0 : 0 < N) (hN : N ≤ 200) (ha : ∀ j, -1000000 ≤ a j ∧ a j ≤ 1000000) (hb : ∀ j, -1000000 ≤ b j ∧ b j ≤ 1000000) : -200000000000000 ≤ conv a b N ∧ conv a b N ≤ 200000000000000 := by
  have h1 := lsum_bd (f := fun x => a x * b (N / x)) (b := 1000000000000) (divs N) fun x _ => prod_bd (ha x) (hb _)
  have h2 := divs_len (n := N) h0
  unfold conv
  omega
/-- What is multiplied over divisors, by both. -/
theorem overV (x0 x1 : List Int) (h0 : isTab x0 = true) (h1 : isTab x1 = true) (hl : x1.length = x0.length) : Ev (fun k => spec_dvOver.f k x0 x1) (tabOf (conv (ath x0) (ath x1)) x0.length) ∧ Ev (fun k => impl_overDivisors.f k x0 x1) (tabOf (conv (ath x0) (ath x1)) x0.length) := by
  have hn := isTab_len h0
  have hs := overV_l x0 x1 x0.length hn.2 rfl hl x0.length 1 (List.replicate x0.length 0) (by omega) (by omega) (by simp) (fun N g1 g2 => by
    have e : parS (ath x0) (ath x1) 1 N = 0 := by
      unfold parS
      simp [List.range_succ, dv_zero, lsum]
    rw [e]
    unfold ath rd
    rw [Int.toNat_natCast]
    simp [show N - 1 < x0.length by omega]
    rw [wri (by omega) (by omega)])
  have e : tabOf (fun N => wrap64 (conv (ath x0) (ath x1) N)) x0.length = tabOf (conv (ath x0) (ath x1)) x0.length := tabOf_congr fun N g1 g2 => by
    have := conv_bd (a := ath x0) (b := ath x1) (N := N) (by omega) (by omega) (fun j => isTab_at h0 (j - 1)) (fun j => isTab_at h1 (j - 1))
    exact wri (by omega) (by omega)
  rw [e] at hs
  have hf : Ev (fun k => spec_dvOver.f k x0 x1) (tabOf (conv (ath x0) (ath x1)) x0.length) := by
    unfold spec_dvOver.f
    simp only [if_pos (show 0 ≤ (x0.length : Int) by omega), Int.toNat_natCast, if_pos (show x0.length ≤ 35184372088832 by omega)]
    exact hs
  obtain ⟨v, _, k1, k2⟩ := over_ev x0 x1 hn.2 hl
  have hv := Ev_uniq k1 hf
  rw [hv] at k2
  exact ⟨hf, k2⟩
/-- The divisors, each for its fellow. -/
theorem divs_swap (m : Nat) (h0 : 0 < m) : ((divs m).map (fun d => m / d)).Perm (divs m) := by
  have hinj : ∀ a b, a ∈ divs m → b ∈ divs m → m / a = m / b → a = b := by
    intro a b ha hb h
    rw [mem_divs h0] at ha hb
    have e1 := Nat.div_mul_cancel ha
    have e2 := Nat.div_mul_cancel hb
    rw [h] at e1
    have hp : 0 < m / b := Nat.div_pos (Nat.le_of_dvd h0 hb) (Nat.pos_of_dvd_of_pos hb h0)
    exact Nat.eq_of_mul_eq_mul_left hp (e1.trans e2.symm)
  have hnd : ((divs m).map (fun d => m / d)).Nodup := by
    refine List.pairwise_map.2 ?_
    refine List.Pairwise.imp_of_mem (fun {a b} ha hb hlt he => ?_) (divs_sorted m)
    have := hinj a b ha hb he
    omega
  rw [List.perm_ext_iff_of_nodup hnd ((divs_sorted m).imp fun h => Nat.ne_of_lt h)]
  intro x
  rw [List.mem_map]
  constructor
  · rintro ⟨d, hd, rfl⟩
    rw [mem_divs h0] at hd ⊢
    exact Nat.div_dvd_of_dvd hd
  · intro hx
    have hx' := (mem_divs h0).1 hx
    refine ⟨m / x, (mem_divs h0).2 (Nat.div_dvd_of_dvd hx'), Nat.div_div_self hx' (by omega)⟩
def FU (x0 out : List Int) (m d : Nat) : Int := if d < m then rd out ((d - 1 : Nat) : Int) * rd x0 ((m / d - 1 : Nat) : Int) else 0
def GU (x0 out : List Int) (m d : Nat) : Int := if 1 < d then rd x0 ((d - 1 : Nat) : Int) * rd out ((m / d - 1 : Nat) : Int) else 0
theorem FG (x0 out : List Int) (m : Nat) (h0 : 0 < m) : lsum (FU x0 out m) (divs m) = lsum (GU x0 out m) (divs m) := by
  rw [← lsum_perm _ (divs_swap m h0), lsum_map]
  refine lsum_congr _ fun d hd => ?_
  have hd' := (mem_divs h0).1 hd
  have hp := Nat.pos_of_dvd_of_pos hd' h0
  unfold FU GU
  by_cases h : 1 < d
  · rw [if_pos h, if_pos (Nat.div_lt_self h0 h), Nat.div_div_self hd' (by omega), Int.mul_comm]
  · have : d = 1 := by omega
    subst this
    rw [Nat.div_one, if_neg (Nat.lt_irrefl _), if_neg h]
theorem rd_left (out z : List Int) (j : Nat) (h : j < out.length) : rd (out ++ z) (j : Int) = rd out (j : Int) := by
  rw [rd_at, rd_at]
  simp [List.getD_eq_getElem?_getD, List.getElem?_append_left h]
theorem spec_undo_in (x0 out z : List Int) (m : Nat) (hm : 1 ≤ m) (hmn : m ≤ x0.length) (hn : x0.length ≤ 200) (ho : out.length = m - 1) (hx : ∀ j : Nat, -1000000 ≤ rd x0 (j : Int) ∧ rd x0 (j : Int) ≤ 1000000) (hb : ∀ j : Nat, -1000000 ≤ rd out (j : Int) ∧ rd out (j : Int) ≤ 1000000) {v : List Int × Bool} (D : List Nat) (hD : ∀ d ∈ D, d ∣ m) (hDl : D.length ≤ 1000) :
    ∀ (suf pre : List Nat) (s : Int), pre ++ suf = D → -1000000000000000 + 1000000000000 * suf.length ≤ s → s ≤ 1000000000000000 - 1000000000000 * suf.length →
    Ev (fun k => spec_UndoTable.l1 k x0 (out ++ z) m (s - lsum (FU x0 out m) suf) (ints D) (D.length : Nat) (D.length : Nat)) v →
    Ev (fun k => spec_UndoTable.l1 k x0 (out ++ z) m s (ints D) (D.length : Nat) (pre.length : Nat)) v := by
  intro suf
  induction suf with
  | nil =>
    intro pre s hp h1 h2 h
    rw [List.append_nil] at hp
    subst hp
    simpa [lsum] using h
  | cons d suf ih =>
    intro pre s hp h1 h2 h
    have hlen : D.length = pre.length + 1 + suf.length := by rw [← hp]; simp; omega
    have hdm := hD d (by rw [← hp]; simp)
    have hdp := Nat.pos_of_dvd_of_pos hdm (by omega)
    have hdle := Nat.le_of_dvd (by omega) hdm
    have hil := ints_len D
    have hget : rd (ints D) (pre.length : Int) = d := by rw [← hp]; exact ints_get pre d suf
    have hcl : ((d :: suf).length : Int) = suf.length + 1 := by rw [List.length_cons]; omega
    rw [hcl] at h1 h2
    have hq1 : 1 ≤ m / d := Nat.div_pos hdle hdp
    have hq2 : m / d ≤ m := Nat.div_le_self _ _
    have hpb := prod_bd (hb (d - 1)) (hx (m / d - 1))
    have ih := ih (pre ++ [d]) (s - FU x0 out m d) (by rw [List.append_assoc]; exact hp) (by unfold FU; split <;> omega) (by unfold FU; split <;> omega) (by
      simp only [lsum] at h
      rw [show s - FU x0 out m d - lsum (FU x0 out m) suf = s - (FU x0 out m d + lsum (FU x0 out m) suf) by omega]
      exact h)
    rw [List.length_append, List.length_singleton] at ih
    refine Ev.step (fun k => ?_) ih
    simp only [spec_UndoTable.l1]
    rw [if_pos (by omega), if_pos (by omega), if_pos (by omega), hget, wr_succ (by omega)]
    unfold FU
    by_cases hlt : d < m
    · have e1 : wrap64 ((d : Int) - 1) = ((d - 1 : Nat) : Int) := by rw [wri (by omega) (by omega)]; omega
      have e2 : wrap64 (wrap64 (Int.tdiv (m : Int) d) - 1) = ((m / d - 1 : Nat) : Int) := by rw [wr_tdiv (by omega), wri (by omega) (by omega)]; omega
      have hol : (out ++ z).length = out.length + z.length := List.length_append
      rw [if_pos (by omega), e1, if_pos (by omega), if_pos (by omega), if_neg (by omega), e2, if_pos (by omega), if_pos (by omega), rd_left out z (d - 1) (by omega), if_pos hlt, wri (a := rd out ((d - 1 : Nat) : Int) * rd x0 ((m / d - 1 : Nat) : Int)) (by omega) (by omega), wri (by omega) (by omega)]
    · rw [if_neg (by omega), if_neg hlt, Int.sub_zero]
theorem impl_undo_in (x0 out : List Int) (m : Nat) (hm : 1 ≤ m) (hmn : m ≤ x0.length) (hn : x0.length ≤ 200) (ho : out.length = m - 1) (hx : ∀ j : Nat, -1000000 ≤ rd x0 (j : Int) ∧ rd x0 (j : Int) ≤ 1000000) (hb : ∀ j : Nat, -1000000 ≤ rd out (j : Int) ∧ rd out (j : Int) ≤ 1000000) {v : List Int × Bool} (D : List Nat) (hD : ∀ d ∈ D, d ∣ m) (hDl : D.length ≤ 1000) :
    ∀ (suf pre : List Nat) (s : Int), pre ++ suf = D → -1000000000000000 + 1000000000000 * suf.length ≤ s → s ≤ 1000000000000000 - 1000000000000 * suf.length →
    Ev (fun k => impl_UndoTable.l1 k x0 out m (s - lsum (GU x0 out m) suf) (ints D) (D.length : Nat) (D.length : Nat)) v →
    Ev (fun k => impl_UndoTable.l1 k x0 out m s (ints D) (D.length : Nat) (pre.length : Nat)) v := by
  intro suf
  induction suf with
  | nil =>
    intro pre s hp h1 h2 h
    rw [List.append_nil] at hp
    subst hp
    simpa [lsum] using h
  | cons d suf ih =>
    intro pre s hp h1 h2 h
    have hlen : D.length = pre.length + 1 + suf.length := by rw [← hp]; simp; omega
    have hdm := hD d (by rw [← hp]; simp)
    have hdp := Nat.pos_of_dvd_of_pos hdm (by omega)
    have hdle := Nat.le_of_dvd (by omega) hdm
    have hil := ints_len D
    have hget : rd (ints D) (pre.length : Int) = d := by rw [← hp]; exact ints_get pre d suf
    have hcl : ((d :: suf).length : Int) = suf.length + 1 := by rw [List.length_cons]; omega
    rw [hcl] at h1 h2
    have hq1 : 1 ≤ m / d := Nat.div_pos hdle hdp
    have hq2 : m / d ≤ m := Nat.div_le_self _ _
    have hpb := prod_bd (hx (d - 1)) (hb (m / d - 1))
    have ih := ih (pre ++ [d]) (s - GU x0 out m d) (by rw [List.append_assoc]; exact hp) (by unfold GU; split <;> omega) (by unfold GU; split <;> omega) (by
      simp only [lsum] at h
      rw [show s - GU x0 out m d - lsum (GU x0 out m) suf = s - (GU x0 out m d + lsum (GU x0 out m) suf) by omega]
      exact h)
    rw [List.length_append, List.length_singleton] at ih
    refine Ev.step (fun k => ?_) ih
    simp only [impl_UndoTable.l1]
    rw [if_pos (by omega), if_pos (by omega), if_pos (by omega), hget, wr_succ (by omega)]
    unfold GU
    by_cases hlt : 1 < d
    · have e1 : wrap64 ((d : Int) - 1) = ((d - 1 : Nat) : Int) := by rw [wri (by omega) (by omega)]; omega
      have e2 : wrap64 (wrap64 (Int.tdiv (m : Int) d) - 1) = ((m / d - 1 : Nat) : Int) := by rw [wr_tdiv (by omega), wri (by omega) (by omega)]; omega
      have hq3 : m / d < m := Nat.div_lt_self (by omega) hlt
      rw [if_pos (by omega), e1, if_pos (by omega), if_pos (by omega), if_neg (by omega), e2, if_pos (by omega), if_pos (by omega), if_pos hlt, wri (a := rd x0 ((d - 1 : Nat) : Int) * rd out ((m / d - 1 : Nat) : Int)) (by omega) (by omega), wri (by omega) (by omega)]
    · rw [if_neg (by omega), if_neg hlt, Int.sub_zero]
theorem spec_undo_end (x0 out : List Int) (m r : Nat) (h1 : 1 ≤ m) (h3 : out.length = m - 1) (hr : m + (r + 1) = x0.length + 1) (hn : x0.length ≤ 200) (val w : Int) (hw : wrap64 (val * rd x0 0) = w) (D : List Int) {v : List Int × Bool}
    (k1 : Ev (fun k => if isTab (out ++ [w]) = true then spec_UndoTable.l0 k x0 (out ++ w :: List.replicate r 0) ((m + 1 : Nat) : Int) else some ([], false)) v) :
    Ev (fun k => spec_UndoTable.l1 k x0 (out ++ (0 : Int) :: List.replicate r 0) m val D (D.length : Nat) (D.length : Nat)) v := by
  have hol : (out ++ (0 : Int) :: List.replicate r 0).length = out.length + (r + 1) := by simp
  have e1 : wrap64 ((m : Int) - 1) = ((m - 1 : Nat) : Int) := by rw [wri (by omega) (by omega)]; omega
  have e2 : wrap64 ((m : Int) + 1) = ((m + 1 : Nat) : Int) := wr_succ (by omega)
  generalize hz : List.replicate r (0 : Int) = z at *
  have eset : (out ++ (0 : Int) :: z).set (m - 1) w = out ++ w :: z := by
    rw [← h3, List.set_append_right _ _ (Nat.le_refl _), Nat.sub_self]; rfl
  have etake : (out ++ w :: z).take m = out ++ [w] := by
    rw [show out ++ w :: z = (out ++ [w]) ++ z by simp]
    exact List.take_left' (by rw [List.length_append, List.length_singleton]; omega)
  refine Ev.step (f := fun k => (spec_dvIs.f k (out ++ [w])).bind fun t => if t = true then spec_UndoTable.l0 k x0 (out ++ w :: z) ((m + 1 : Nat) : Int) else some ([], false)) (fun k => ?_) (Ev.bind (f := fun k t => if t = true then spec_UndoTable.l0 k x0 (out ++ w :: z) ((m + 1 : Nat) : Int) else some ([], false)) (spec_dvIs_ev (out ++ [w])) k1)
  have c1 : ¬ ((D.length : Int) < (D.length : Int)) := by omega
  have c2 : 0 < (x0.length : Int) := by omega
  have c3 : 0 ≤ ((m - 1 : Nat) : Int) := by omega
  have c4 : ((m - 1 : Nat) : Int) < ((out ++ (0 : Int) :: z).length : Int) := by omega
  have c5 : 0 ≤ (m : Int) := by omega
  have c6 : (m : Int) ≤ ((out ++ (0 : Int) :: z).length : Int) := by omega
  simp only [spec_UndoTable.l1, if_neg c1, if_pos c2, e1, if_pos c3, if_pos c4, hw, Int.toNat_natCast, eset, Option.bind_some, if_pos c5, if_pos c6, etake, e2]
theorem impl_undo_end (x0 out : List Int) (m : Nat) (h1 : 1 ≤ m) (h3 : out.length = m - 1) (hr : m ≤ x0.length) (hn : x0.length ≤ 200) (val w : Int) (hw : wrap64 (val * rd x0 0) = w) (D : List Int) {v : List Int × Bool}
    (k2 : Ev (fun k => if isTab (out ++ [w]) = true then impl_UndoTable.l0 k x0 (out ++ [w]) ((m + 1 : Nat) : Int) else some ([], false)) v) :
    Ev (fun k => impl_UndoTable.l1 k x0 out m val D (D.length : Nat) (D.length : Nat)) v := by
  have e2 : wrap64 ((m : Int) + 1) = ((m + 1 : Nat) : Int) := wr_succ (by omega)
  refine Ev.step (f := fun k => (impl_isTable.f k (out ++ [w])).bind fun t => if t = true then impl_UndoTable.l0 k x0 (out ++ [w]) ((m + 1 : Nat) : Int) else some ([], false)) (fun k => ?_) (Ev.bind (f := fun k t => if t = true then impl_UndoTable.l0 k x0 (out ++ [w]) ((m + 1 : Nat) : Int) else some ([], false)) (impl_isTable_ev (out ++ [w])) k2)
  have c1 : ¬ ((D.length : Int) < (D.length : Int)) := by omega
  have c2 : 0 < (x0.length : Int) := by omega
  have c3 : out.length < 17592186044416 := by omega
  simp only [impl_UndoTable.l1, if_neg c1, if_pos c2, if_pos c3, hw, Option.bind_some, e2]
theorem spec_undo_go (x0 out z : List Int) (m : Nat) (s : Int) (h1 : 1 ≤ m) (hm : m ≤ x0.length) (hn : x0.length ≤ 200) (hs : (if (m : Int) = 1 then (1 : Int) else 0) = s) {v : List Int × Bool}
    (h : Ev (fun k => spec_UndoTable.l1 k x0 (out ++ z) m s (ints (divs m)) ((divs m).length : Nat) (([] : List Nat).length : Nat)) v) : Ev (fun k => spec_UndoTable.l0 k x0 (out ++ z) m) v := by
  have hil := ints_len (divs m)
  have hj : Ev (fun k => spec_UndoTable.j2 k x0 (out ++ z) m s) v := by
    refine Ev.step (f := fun k => (spec_dvList.f k m).bind fun t => spec_UndoTable.l1 k x0 (out ++ z) m s t (t.length : Int) 0) (fun k => by simp only [spec_UndoTable.j2]) ((spec_dvList_ev m h1 (by omega)).bind ?_)
    rw [hil]
    exact h
  refine Ev.step (fun k => ?_) hj
  simp only [spec_UndoTable.l0]
  rw [if_pos (by omega), ← hs]
  by_cases hm1 : (m : Int) = 1
  · rw [if_pos hm1, if_pos hm1]
  · rw [if_neg hm1, if_neg hm1]
theorem impl_undo_go (x0 out : List Int) (m : Nat) (s : Int) (h1 : 1 ≤ m) (hm : m ≤ x0.length) (hn : x0.length ≤ 200) (hs : (if (m : Int) = 1 then (1 : Int) else 0) = s) {v : List Int × Bool}
    (h : Ev (fun k => impl_UndoTable.l1 k x0 out m s (ints (divs m)) ((divs m).length : Nat) (([] : List Nat).length : Nat)) v) : Ev (fun k => impl_UndoTable.l0 k x0 out m) v := by
  have hil := ints_len (divs m)
  have hj : Ev (fun k => impl_UndoTable.j2 k x0 out m s) v := by
    refine Ev.step (f := fun k => (impl_divisors.f k m).bind fun t => impl_UndoTable.l1 k x0 out m s t (t.length : Int) 0) (fun k => by simp only [impl_UndoTable.j2]) ((impl_divisors_ev m h1 (by omega)).bind ?_)
    rw [hil]
    exact h
  refine Ev.step (fun k => ?_) hj
  simp only [impl_UndoTable.l0]
  rw [if_pos (by omega), ← hs]
  by_cases hm1 : (m : Int) = 1
  · rw [if_pos hm1, if_pos hm1]
  · rw [if_neg hm1, if_neg hm1]
/-- What the table's undoing comes to, from a number on. -/
def undoV (x0 : List Int) : Nat → Nat → List Int → List Int × Bool
  | 0, _, out => (out, true)
  | r + 1, m, out => if isTab (out ++ [wrap64 (((if (m : Int) = 1 then (1 : Int) else 0) - lsum (FU x0 out m) (divs m)) * rd x0 0)]) = true then undoV x0 r (m + 1) (out ++ [wrap64 (((if (m : Int) = 1 then (1 : Int) else 0) - lsum (FU x0 out m) (divs m)) * rd x0 0)]) else ([], false)
theorem undo_l (x0 : List Int) (ht : isTab x0 = true) : ∀ (r m : Nat) (out : List Int), 1 ≤ m → m + r = x0.length + 1 → out.length = m - 1 → (∀ j : Nat, -1000000 ≤ rd out (j : Int) ∧ rd out (j : Int) ≤ 1000000) →
    Ev (fun k => spec_UndoTable.l0 k x0 (out ++ List.replicate r 0) m) (undoV x0 r m out) ∧ Ev (fun k => impl_UndoTable.l0 k x0 out m) (undoV x0 r m out) := by
  have hl := isTab_len ht
  have hx := isTab_at ht
  intro r
  induction r with
  | zero =>
    intro m out h1 h2 h3 hb
    refine ⟨Ev.done fun k => ?_, Ev.done fun k => ?_⟩
    · simp only [spec_UndoTable.l0]
      rw [if_neg (by omega)]
      simp [undoV]
    · simp only [impl_UndoTable.l0]
      rw [if_neg (by omega)]
      rfl
  | succ r ih =>
    intro m out h1 h2 h3 hb
    have hdl := divs_len (n := m) (by omega)
    have hil := ints_len (divs m)
    have hD : ∀ d ∈ divs m, d ∣ m := fun d hd => (mem_divs (by omega)).1 hd
    have hval := FG x0 out m (by omega)
    obtain ⟨s, hs⟩ : ∃ s, (if (m : Int) = 1 then (1 : Int) else 0) = s := ⟨_, rfl⟩
    have hs1 : 0 ≤ s ∧ s ≤ 1 := by rw [← hs]; split <;> omega
    obtain ⟨w, hw⟩ : ∃ w, wrap64 ((s - lsum (FU x0 out m) (divs m)) * rd x0 0) = w := ⟨_, rfl⟩
    have hv : undoV x0 (r + 1) m out = if isTab (out ++ [w]) = true then undoV x0 r (m + 1) (out ++ [w]) else ([], false) := by
      simp only [undoV]
      rw [hs, hw]
    rw [hv]
    have key : Ev (fun k => if isTab (out ++ [w]) = true then spec_UndoTable.l0 k x0 (out ++ w :: List.replicate r 0) ((m + 1 : Nat) : Int) else some ([], false)) (if isTab (out ++ [w]) = true then undoV x0 r (m + 1) (out ++ [w]) else ([], false)) ∧ Ev (fun k => if isTab (out ++ [w]) = true then impl_UndoTable.l0 k x0 (out ++ [w]) ((m + 1 : Nat) : Int) else some ([], false)) (if isTab (out ++ [w]) = true then undoV x0 r (m + 1) (out ++ [w]) else ([], false)) := by
      by_cases hi : isTab (out ++ [w]) = true
      · simp only [if_pos hi]
        have := ih (m + 1) (out ++ [w]) (by omega) (by omega) (by rw [List.length_append, List.length_singleton]; omega) (isTab_at hi)
        rw [List.append_assoc] at this
        exact this
      · simp only [if_neg hi]
        exact ⟨Ev.now _, Ev.now _⟩
    obtain ⟨k1, k2⟩ := key
    have f1 := spec_undo_end x0 out m r h1 h3 h2 hl.2 _ w hw (ints (divs m)) k1
    rw [hval] at hw
    have f2 := impl_undo_end x0 out m h1 h3 (by omega) hl.2 _ w hw (ints (divs m)) k2
    rw [hil] at f1 f2
    have hlo : -1000000000000000 + 1000000000000 * ((divs m).length : Int) ≤ s := by omega
    have hhi : s ≤ 1000000000000000 - 1000000000000 * ((divs m).length : Int) := by omega
    refine ⟨?_, ?_⟩
    · rw [List.replicate_succ]
      exact spec_undo_go x0 out (0 :: List.replicate r 0) m s h1 (by omega) hl.2 hs (spec_undo_in x0 out (0 :: List.replicate r 0) m h1 (by omega) hl.2 h3 hx hb (divs m) hD (by omega) (divs m) [] s rfl hlo hhi f1)
    · exact impl_undo_go x0 out m s h1 (by omega) hl.2 hs (impl_undo_in x0 out m h1 (by omega) hl.2 h3 hx hb (divs m) hD (by omega) (divs m) [] s rfl hlo hhi f2)
theorem spec_undo_no (l : List Int) : Ev (fun k => spec_UndoTable.j0 k l true) ([], false) := Ev.done fun k => by simp only [spec_UndoTable.j0, if_true]
theorem impl_undo_no (l : List Int) : Ev (fun k => impl_UndoTable.j0 k l true) ([], false) := Ev.done fun k => by simp only [impl_UndoTable.j0, if_true]
/-- The undone table, where there is one. -/
def undoF (l : List Int) : List Int × Bool := if isTab l = true ∧ (rd l 0 = 1 ∨ rd l 0 = -1) then undoV l l.length 1 [] else ([], false)
theorem undoV_both (l : List Int) : Ev (fun k => spec_UndoTable.f k l) (undoF l) ∧ Ev (fun k => impl_UndoTable.f k l) (undoF l) := by
  by_cases ht : isTab l = true
  · have hl := isTab_len ht
    have hx := isTab_at ht 0
    rw [show ((0 : Nat) : Int) = 0 from rfl] at hx
    have habs : spec_l1Abs.f (rd l 0) = some (if rd l 0 > -rd l 0 then rd l 0 else -rd l 0) := by
      unfold spec_l1Abs.f spec_l1Most.f
      rw [wri (a := -rd l 0) (by omega) (by omega)]
      split <;> rfl
    by_cases h1 : rd l 0 = 1 ∨ rd l 0 = -1
    · have ev : undoF l = undoV l l.length 1 [] := if_pos ⟨ht, h1⟩
      rw [ev]
      obtain ⟨k1, k2⟩ := undo_l l ht l.length 1 [] (by omega) (by omega) rfl (fun j => by simp [rd])
      refine ⟨?_, ?_⟩
      · unfold spec_UndoTable.f
        refine (spec_dvIs_ev l).bind ?_
        have hne : ((if rd l 0 > -rd l 0 then rd l 0 else -rd l 0) != 1) = false := by rw [bne_eq_false_iff_eq]; split <;> omega
        simp only [if_pos ht, if_pos (show 0 < (l.length : Int) by omega), habs, Option.bind_some, hne]
        refine Ev.step (fun k => ?_) k1
        simp only [spec_UndoTable.j0, Bool.false_eq_true, if_false]
        rw [if_pos (by omega), Int.toNat_natCast, if_pos (by omega)]
        rfl
      · unfold impl_UndoTable.f
        refine (impl_isTable_ev l).bind ?_
        have hgo : Ev (fun k => impl_UndoTable.j0 k l false) (undoV l l.length 1 []) := by
          refine Ev.step (fun k => ?_) k2
          simp only [impl_UndoTable.j0, Bool.false_eq_true, if_false]
          rfl
        simp only [if_pos ht, if_pos (show 0 < (l.length : Int) by omega)]
        by_cases h2 : rd l 0 = 1
        · simp only [if_pos h2]; exact hgo
        · have hne : (rd l 0 != -1) = false := by rw [bne_eq_false_iff_eq]; omega
          simp only [if_neg h2, hne]; exact hgo
    · have ev : undoF l = ([], false) := if_neg fun h => h1 h.2
      rw [ev]
      refine ⟨?_, ?_⟩
      · unfold spec_UndoTable.f
        refine (spec_dvIs_ev l).bind ?_
        have hne : ((if rd l 0 > -rd l 0 then rd l 0 else -rd l 0) != 1) = true := by rw [bne_iff_ne]; split <;> omega
        simp only [if_pos ht, if_pos (show 0 < (l.length : Int) by omega), habs, Option.bind_some, hne]
        exact spec_undo_no l
      · unfold impl_UndoTable.f
        refine (impl_isTable_ev l).bind ?_
        have hne : (rd l 0 != -1) = true := by rw [bne_iff_ne]; omega
        simp only [if_pos ht, if_pos (show 0 < (l.length : Int) by omega), if_neg (show ¬ (rd l 0 = 1) by omega), hne]
        exact impl_undo_no l
  · have ev : undoF l = ([], false) := if_neg fun h => ht h.1
    rw [ev]
    refine ⟨?_, ?_⟩
    · unfold spec_UndoTable.f
      refine (spec_dvIs_ev l).bind ?_
      simp only [if_neg ht]; exact spec_undo_no l
    · unfold impl_UndoTable.f
      refine (impl_isTable_ev l).bind ?_
      simp only [if_neg ht]; exact impl_undo_no l
theorem rd_take {l : List Int} {k j : Nat} (h : j < k) : rd (l.take k) (j : Int) = rd l (j : Int) := by
  unfold rd
  rw [Int.toNat_natCast, List.getD_eq_getElem?_getD, List.getD_eq_getElem?_getD, List.getElem?_take_of_lt h]
theorem ath_take {l : List Int} {k j : Nat} (h : j ≤ k) (h1 : 1 ≤ j) : ath (l.take k) j = ath l j := rd_take (by omega)
theorem ath_left {l m : List Int} {j : Nat} (h1 : 1 ≤ j) (h : j ≤ l.length) : ath (l ++ m) j = ath l j := rd_left l m (j - 1) (by omega)
theorem ath_last {l : List Int} {x : Int} {j : Nat} (h : j = l.length + 1) : ath (l ++ [x]) j = x := by
  subst h
  unfold ath
  rw [Nat.add_sub_cancel]
  exact rd_in l x []
/-- Without the divisor 1. -/
theorem conv_GU (x0 out : List Int) (m : Nat) (hm : 1 ≤ m) : conv (ath x0) (ath out) m = ath x0 1 * ath out m + lsum (GU x0 out m) (divs m) := by
  have hsplit : ∀ l : List Nat, (∀ d ∈ l, 2 ≤ d) → lsum (fun d => ath x0 d * ath out (m / d)) l = lsum (GU x0 out m) l := fun l hl => lsum_congr l fun d hd => by
    unfold GU
    rw [if_pos (by have := hl d hd; omega)]
    rfl
  obtain ⟨t, ht⟩ : ∃ t, divs m = 1 :: t := by
    have hs := divs_sorted m
    have h1 : 1 ∈ divs m := (mem_divs (by omega)).2 ⟨m, by omega⟩
    cases h : divs m with
    | nil => rw [h] at h1; simp at h1
    | cons a t =>
      rw [h] at h1 hs
      rw [List.pairwise_cons] at hs
      have ha : a ∣ m := (mem_divs (by omega)).1 (by rw [h]; simp)
      have hp := Nat.pos_of_dvd_of_pos ha (by omega)
      rcases List.mem_cons.1 h1 with h1 | h1
      · exact ⟨t, by rw [h1]⟩
      · have := hs.1 1 h1; omega
  have hge : ∀ d ∈ t, 2 ≤ d := fun d hd => by
    have hs := divs_sorted m
    rw [ht, List.pairwise_cons] at hs
    have := hs.1 d hd
    omega
  unfold conv
  rw [ht]
  simp only [lsum]
  rw [hsplit t hge]
  have e : GU x0 out m 1 = 0 := by unfold GU; rw [if_neg (by omega)]
  rw [e, Nat.div_one, Int.zero_add]
theorem sq_one {a : Int} (h : a = 1 ∨ a = -1) : a * a = 1 := by rcases h with rfl | rfl <;> rfl
theorem isTab_take {l : List Int} (h : isTab l = true) {k : Nat} (h1 : 1 ≤ k) (h2 : k ≤ l.length) : isTab (l.take k) = true := by
  have hl := isTab_len h
  unfold isTab at h ⊢
  rw [Bool.and_eq_true, List.all_eq_true] at h
  rw [Bool.and_eq_true, List.all_eq_true]
  exact ⟨decide_eq_true (by rw [List.length_take]; omega), fun x hx => h.2 x (List.mem_of_mem_take hx)⟩
theorem GU_congr {x0 out out' : List Int} {m : Nat} (h : ∀ j, 1 ≤ j → j < m → ath out j = ath out' j) (hm : 1 ≤ m) : lsum (GU x0 out m) (divs m) = lsum (GU x0 out' m) (divs m) := by
  refine lsum_congr _ fun d hd => ?_
  have hd' := (mem_divs (by omega)).1 hd
  have hp := Nat.pos_of_dvd_of_pos hd' (by omega)
  unfold GU
  by_cases hc : 1 < d
  · rw [if_pos hc, if_pos hc]
    have h1 : 1 ≤ m / d := Nat.div_pos (Nat.le_of_dvd (by omega) hd') hp
    have h2 : m / d < m := Nat.div_lt_self (by omega) hc
    have := h (m / d) h1 h2
    unfold ath at this
    rw [this]
  · rw [if_neg hc, if_neg hc]
theorem delta_eq (m : Nat) : (if (m : Int) = 1 then (1 : Int) else 0) = unitF m := by
  unfold unitF
  by_cases h : m = 1
  · rw [if_pos (by omega), if_pos h]
  · rw [if_neg (by omega), if_neg h]
/-- A table that undoes is what comes out. -/
theorem undoV_is (x0 c : List Int) (h1 : ath x0 1 = 1 ∨ ath x0 1 = -1) (hc : isTab c = true) (hl : c.length = x0.length) (hu : ∀ N, 1 ≤ N → N ≤ x0.length → conv (ath x0) (ath c) N = unitF N) : ∀ r m, 1 ≤ m → m + r = x0.length + 1 → undoV x0 r m (c.take (m - 1)) = (c, true)
  | 0, m, hm, hr => by
    simp only [undoV]
    rw [List.take_of_length_le (by omega)]
  | r + 1, m, hm, hr => by
    have ih := undoV_is x0 c h1 hc hl hu r (m + 1) (by omega) (by omega)
    rw [Nat.add_sub_cancel] at ih
    have hn := isTab_len hc
    have hg := conv_GU x0 c m hm
    rw [hu m hm (by omega)] at hg
    have hcong : lsum (GU x0 (c.take (m - 1)) m) (divs m) = lsum (GU x0 c m) (divs m) := GU_congr (fun j g1 g2 => ath_take (by omega) g1) hm
    have hb := isTab_at hc (m - 1)
    have hw : wrap64 (((if (m : Int) = 1 then (1 : Int) else 0) - lsum (FU x0 (c.take (m - 1)) m) (divs m)) * rd x0 0) = ath c m := by
      rw [FG x0 _ m (by omega), hcong, delta_eq, hg]
      have e : (ath x0 1 * ath c m + lsum (GU x0 c m) (divs m) - lsum (GU x0 c m) (divs m)) * rd x0 0 = ath c m := by
        have e1 : rd x0 0 = ath x0 1 := rfl
        have e2 := sq_one h1
        rw [e1, Int.add_sub_cancel, Int.mul_comm (ath x0 1) (ath c m), Int.mul_assoc, e2, Int.mul_one]
      rw [e]
      unfold ath
      exact wri (by omega) (by omega)
    have happ : c.take (m - 1) ++ [ath c m] = c.take m := by
      have h2 := ath_eq (l := c) hm (by omega)
      rw [h2, List.take_append_getElem, Nat.sub_add_cancel hm]
    simp only [undoV]
    rw [hw, happ, if_pos (isTab_take hc hm (by omega))]
    exact ih
/-- What comes out undoes. -/
theorem undoV_ok (x0 : List Int) (hx : isTab x0 = true) (h1 : ath x0 1 = 1 ∨ ath x0 1 = -1) : ∀ (r m : Nat) (out u : List Int), 1 ≤ m → m + r = x0.length + 1 → out.length = m - 1 → (2 ≤ m → isTab out = true) → (∀ N, 1 ≤ N → N < m → conv (ath x0) (ath out) N = unitF N) → undoV x0 r m out = (u, true) →
    u.length = x0.length ∧ isTab u = true ∧ ∀ N, 1 ≤ N → N ≤ x0.length → conv (ath x0) (ath u) N = unitF N := by
  have hn := isTab_len hx
  intro r
  induction r with
  | zero =>
    intro m out u hm hr ho ht hc h
    simp only [undoV] at h
    injection h with h _
    subst h
    exact ⟨by omega, ht (by omega), fun N g1 g2 => hc N g1 (by omega)⟩
  | succ r ih =>
    intro m out u hm hr ho ht hc h
    have hob : ∀ j : Nat, -1000000 ≤ rd out (j : Int) ∧ rd out (j : Int) ≤ 1000000 := fun j => by
      by_cases hm2 : 2 ≤ m
      · exact isTab_at (ht hm2) j
      · have : out = [] := List.eq_nil_of_length_eq_zero (by omega)
        rw [this]
        simp [rd]
    have hsum := lsum_bd (f := FU x0 out m) (b := 1000000000000) (divs m) fun d _ => by
      unfold FU
      split
      · exact prod_bd (hob _) (isTab_at hx _)
      · omega
    have hdl := divs_len (n := m) (by omega)
    obtain ⟨E, hE⟩ : ∃ E, ((if (m : Int) = 1 then (1 : Int) else 0) - lsum (FU x0 out m) (divs m)) * rd x0 0 = E := ⟨_, rfl⟩
    have hEb : -300000000000000 ≤ E ∧ E ≤ 300000000000000 := by
      have h01 : 0 ≤ (if (m : Int) = 1 then (1 : Int) else 0) ∧ (if (m : Int) = 1 then (1 : Int) else 0) ≤ 1 := by split <;> omega
      have hr0 : rd x0 0 = 1 ∨ rd x0 0 = -1 := h1
      rw [← hE]
      rcases hr0 with e | e
      · rw [e, Int.mul_one]; omega
      · rw [e]; omega
    simp only [undoV] at h
    rw [hE, wri (by omega) (by omega)] at h
    by_cases hi : isTab (out ++ [E]) = true
    · rw [if_pos hi] at h
      refine ih (m + 1) (out ++ [E]) u (by omega) (by omega) (by rw [List.length_append, List.length_singleton]; omega) (fun _ => hi) (fun N g1 g2 => ?_) h
      by_cases hN : N = m
      · subst hN
        have hcong : lsum (GU x0 (out ++ [E]) N) (divs N) = lsum (GU x0 out N) (divs N) := GU_congr (fun j q1 q2 => ath_left q1 (by omega)) g1
        rw [conv_GU x0 _ N g1, hcong, ath_last (by omega), ← hE, FG x0 _ N (by omega), delta_eq]
        have e1 : rd x0 0 = ath x0 1 := rfl
        have e2 := sq_one h1
        rw [e1, Int.mul_comm, Int.mul_assoc, e2, Int.mul_one]
        omega
      · rw [← hc N g1 (by omega)]
        refine conv_congr N (by omega) (fun d _ _ => rfl) fun d q1 q2 => ?_
        exact ath_left q1 (by omega)
    · rw [if_neg hi] at h
      injection h with _ h
      cases h
theorem undoF_ok {t u : List Int} (h : undoF t = (u, true)) : isTab t = true ∧ (ath t 1 = 1 ∨ ath t 1 = -1) ∧ u.length = t.length ∧ isTab u = true ∧ ∀ N, 1 ≤ N → N ≤ t.length → conv (ath t) (ath u) N = unitF N := by
  unfold undoF at h
  by_cases hc : isTab t = true ∧ (rd t 0 = 1 ∨ rd t 0 = -1)
  · rw [if_pos hc] at h
    have := undoV_ok t hc.1 hc.2 t.length 1 [] u (by omega) (by omega) rfl (fun h => by omega) (fun N g1 g2 => by omega) h
    exact ⟨hc.1, hc.2, this⟩
  · rw [if_neg hc] at h
    injection h with _ h
    cases h
theorem undoF_is {t c : List Int} (ht : isTab t = true) (h1 : ath t 1 = 1 ∨ ath t 1 = -1) (hc : isTab c = true) (hl : c.length = t.length) (hu : ∀ N, 1 ≤ N → N ≤ t.length → conv (ath t) (ath c) N = unitF N) : undoF t = (c, true) := by
  unfold undoF
  rw [if_pos ⟨ht, h1⟩]
  exact undoV_is t c h1 hc hl hu t.length 1 (by omega) (by omega)
theorem gcd_step (a b : Nat) : Nat.gcd a b = Nat.gcd b (a % b) := by
  rw [Nat.gcd_comm a b, Nat.gcd_rec b a, Nat.gcd_comm]
theorem spec_siCommon_ev : ∀ (b a : Nat), Ev (fun k => spec_siCommon.l0 k a b) ((Nat.gcd a b : Nat) : Int) := by
  intro b
  induction b using Nat.strongRecOn with
  | _ b ih =>
    intro a
    by_cases h : 0 < b
    · rw [gcd_step]
      refine Ev.step (fun k => ?_) (ih (a % b) (Nat.mod_lt _ h) b)
      simp only [spec_siCommon.l0]
      rw [if_pos (by omega), if_neg (by omega), tm]
    · have : b = 0 := by omega
      subst this
      rw [Nat.gcd_zero_right]
      refine Ev.done fun k => ?_
      simp only [spec_siCommon.l0]
      rw [if_neg (by omega)]
theorem impl_gcd_ev : ∀ (b a : Nat), Ev (fun k => impl_gcd.l0 k a b) ((Nat.gcd a b : Nat) : Int) := by
  intro b
  induction b using Nat.strongRecOn with
  | _ b ih =>
    intro a
    by_cases h : 0 < b
    · rw [gcd_step]
      refine Ev.step (fun k => ?_) (ih (a % b) (Nat.mod_lt _ h) b)
      simp only [impl_gcd.l0]
      rw [if_pos (by omega), if_neg (by omega), tm]
    · have : b = 0 := by omega
      subst this
      rw [Nat.gcd_zero_right]
      refine Ev.done fun k => ?_
      simp only [impl_gcd.l0]
      rw [if_neg (by omega)]
/-- The test of two numbers. -/
def spr (l : List Int) (x y : Nat) : Bool := decide (rd l ((x : Int) * y - 1) = wrap64 (rd l ((x : Int) - 1) * rd l ((y : Int) - 1)))
theorem spread_in (l : List Int) (hl : l.length ≤ 200) (x : Nat) (hx : 2 ≤ x) (hx2 : x ≤ 200) : ∀ (r y : Nat), 2 ≤ y → y + r = 102 →
    (Ev (fun k => spec_IsSpread.l1 k l x y) (false, true) ∧ Ev (fun k => impl_IsSpread.l1 k l x y) (false, true) ∧ ∃ y' : Nat, y ≤ y' ∧ x * y' ≤ l.length ∧ Nat.gcd x y' = 1 ∧ spr l x y' = false) ∨
    ((∀ v, Ev (fun k => spec_IsSpread.l0 k l ((x + 1 : Nat) : Int)) v → Ev (fun k => spec_IsSpread.l1 k l x y) v) ∧ (∀ v, Ev (fun k => impl_IsSpread.l0 k l ((x + 1 : Nat) : Int)) v → Ev (fun k => impl_IsSpread.l1 k l x y) v) ∧ ∀ y' : Nat, y ≤ y' → x * y' ≤ l.length → Nat.gcd x y' = 1 → spr l x y' = true) := by
  intro r
  induction r with
  | zero =>
    intro y hy hr
    have hbig : 2 * 102 ≤ x * y := Nat.mul_le_mul hx (by omega)
    have hm : (x : Int) * y = ((x * y : Nat) : Int) := (Int.natCast_mul x y).symm
    right
    refine ⟨fun v h => Ev.step (fun k => ?_) h, fun v h => Ev.step (fun k => ?_) h, fun y' g1 g2 _ => by have := Nat.mul_le_mul_left x g1; omega⟩
    · simp only [spec_IsSpread.l1]
      rw [if_pos (by omega), hm, if_neg (by omega)]
      rfl
    · simp only [impl_IsSpread.l1]
      rw [if_pos (by omega), hm, if_neg (by omega)]
      rfl
  | succ r ih =>
    intro y hy hr
    have hm : (x : Int) * y = ((x * y : Nat) : Int) := (Int.natCast_mul x y).symm
    by_cases hb : x * y ≤ l.length
    · have go1 : ∀ v : Bool × Bool, Ev (fun k => if ((Nat.gcd x y : Nat) : Int) = 1 then (if rd l ((x : Int) * y - 1) = wrap64 (rd l ((x : Int) - 1) * rd l ((y : Int) - 1)) then spec_IsSpread.l1 k l x ((y + 1 : Nat) : Int) else some (false, true)) else spec_IsSpread.l1 k l x ((y + 1 : Nat) : Int)) v → Ev (fun k => spec_IsSpread.l1 k l x y) v := by
        intro v h
        refine Ev.step (f := fun k => (spec_siCommon.f k x y).bind fun t => if t = 1 then (if rd l ((x : Int) * y - 1) = wrap64 (rd l ((x : Int) - 1) * rd l ((y : Int) - 1)) then spec_IsSpread.l1 k l x ((y + 1 : Nat) : Int) else some (false, true)) else spec_IsSpread.l1 k l x ((y + 1 : Nat) : Int)) (fun k => ?_) (Ev.bind (f := fun k t => if t = 1 then (if rd l ((x : Int) * y - 1) = wrap64 (rd l ((x : Int) - 1) * rd l ((y : Int) - 1)) then spec_IsSpread.l1 k l x ((y + 1 : Nat) : Int) else some (false, true)) else spec_IsSpread.l1 k l x ((y + 1 : Nat) : Int)) (spec_siCommon_ev y x) h)
        simp only [spec_IsSpread.l1]
        rw [if_pos (by omega), if_pos (by omega)]
        rfl
      have go2 : ∀ v : Bool × Bool, Ev (fun k => if ((Nat.gcd x y : Nat) : Int) = 1 then (if rd l ((x : Int) * y - 1) = wrap64 (rd l ((x : Int) - 1) * rd l ((y : Int) - 1)) then impl_IsSpread.l1 k l x ((y + 1 : Nat) : Int) else some (false, true)) else impl_IsSpread.l1 k l x ((y + 1 : Nat) : Int)) v → Ev (fun k => impl_IsSpread.l1 k l x y) v := by
        intro v h
        refine Ev.step (f := fun k => (impl_gcd.f k x y).bind fun t => if t = 1 then (if rd l ((x : Int) * y - 1) = wrap64 (rd l ((x : Int) - 1) * rd l ((y : Int) - 1)) then impl_IsSpread.l1 k l x ((y + 1 : Nat) : Int) else some (false, true)) else impl_IsSpread.l1 k l x ((y + 1 : Nat) : Int)) (fun k => ?_) (Ev.bind (f := fun k t => if t = 1 then (if rd l ((x : Int) * y - 1) = wrap64 (rd l ((x : Int) - 1) * rd l ((y : Int) - 1)) then impl_IsSpread.l1 k l x ((y + 1 : Nat) : Int) else some (false, true)) else impl_IsSpread.l1 k l x ((y + 1 : Nat) : Int)) (impl_gcd_ev y x) h)
        simp only [impl_IsSpread.l1]
        rw [if_pos (by omega), if_pos (by omega)]
        rfl
      by_cases hg : ((Nat.gcd x y : Nat) : Int) = 1
      · simp only [if_pos hg] at go1 go2
        by_cases hp : rd l ((x : Int) * y - 1) = wrap64 (rd l ((x : Int) - 1) * rd l ((y : Int) - 1))
        · simp only [if_pos hp] at go1 go2
          rcases ih (y + 1) (by omega) (by omega) with ⟨k1, k2, y', q1, q2⟩ | ⟨k1, k2, k3⟩
          · exact .inl ⟨go1 _ k1, go2 _ k2, y', by omega, q2⟩
          · refine .inr ⟨fun v h => go1 v (k1 v h), fun v h => go2 v (k2 v h), fun y' q1 q2 q3 => ?_⟩
            rcases Nat.lt_or_ge y y' with q4 | q4
            · exact k3 y' q4 q2 q3
            · obtain rfl : y' = y := by omega
              exact decide_eq_true hp
        · simp only [if_neg hp] at go1 go2
          exact .inl ⟨go1 _ (Ev.now _), go2 _ (Ev.now _), y, Nat.le_refl _, hb, by omega, decide_eq_false hp⟩
      · simp only [if_neg hg] at go1 go2
        rcases ih (y + 1) (by omega) (by omega) with ⟨k1, k2, y', q1, q2⟩ | ⟨k1, k2, k3⟩
        · exact .inl ⟨go1 _ k1, go2 _ k2, y', by omega, q2⟩
        · refine .inr ⟨fun v h => go1 v (k1 v h), fun v h => go2 v (k2 v h), fun y' q1 q2 q3 => ?_⟩
          rcases Nat.lt_or_ge y y' with q4 | q4
          · exact k3 y' q4 q2 q3
          · obtain rfl : y' = y := by omega
            exact absurd (by rw [q3]; rfl) hg
    · right
      refine ⟨fun v h => Ev.step (fun k => ?_) h, fun v h => Ev.step (fun k => ?_) h, fun y' g1 g2 _ => by have := Nat.mul_le_mul_left x g1; omega⟩
      · simp only [spec_IsSpread.l1]
        rw [if_pos (by omega), hm, if_neg (by omega)]
        rfl
      · simp only [impl_IsSpread.l1]
        rw [if_pos (by omega), hm, if_neg (by omega)]
        rfl
/-- One pair of which one is 1: the program passes it. -/
theorem impl_pass (l : List Int) (ht : isTab l = true) (h1 : rd l 0 = 1) (x y : Nat) (hx : 1 ≤ x) (hx2 : x ≤ 200) (hy : 1 ≤ y) (hy2 : y ≤ 200) (hb : x * y ≤ l.length) (ho : x = 1 ∨ y = 1) (v : Bool × Bool) (h : Ev (fun k => impl_IsSpread.l1 k l x ((y + 1 : Nat) : Int)) v) : Ev (fun k => impl_IsSpread.l1 k l x y) v := by
  have hl := isTab_len ht
  have hm : (x : Int) * y = ((x * y : Nat) : Int) := (Int.natCast_mul x y).symm
  have hg : ((Nat.gcd x y : Nat) : Int) = 1 := by
    rcases ho with rfl | rfl
    · rw [Nat.gcd_one_left]; rfl
    · rw [Nat.gcd_one_right]; rfl
  have hp : rd l ((x : Int) * y - 1) = wrap64 (rd l ((x : Int) - 1) * rd l ((y : Int) - 1)) := by
    rcases ho with rfl | rfl
    · have := isTab_at ht (y - 1)
      rw [show (((y - 1 : Nat) : Int)) = (y : Int) - 1 by omega] at this
      rw [show (((1 : Nat) : Int) - 1) = 0 from rfl, h1, Int.one_mul, show ((1 : Nat) : Int) * (y : Int) = y by omega, wri (by omega) (by omega)]
    · have := isTab_at ht (x - 1)
      rw [show (((x - 1 : Nat) : Int)) = (x : Int) - 1 by omega] at this
      rw [show (((1 : Nat) : Int) - 1) = 0 from rfl, h1, Int.mul_one, show (x : Int) * ((1 : Nat) : Int) = x by omega, wri (by omega) (by omega)]
  refine Ev.step (f := fun k => (impl_gcd.f k x y).bind fun t => if t = 1 then (if rd l ((x : Int) * y - 1) = wrap64 (rd l ((x : Int) - 1) * rd l ((y : Int) - 1)) then impl_IsSpread.l1 k l x ((y + 1 : Nat) : Int) else some (false, true)) else impl_IsSpread.l1 k l x ((y + 1 : Nat) : Int)) (fun k => ?_) (Ev.bind (f := fun k t => if t = 1 then (if rd l ((x : Int) * y - 1) = wrap64 (rd l ((x : Int) - 1) * rd l ((y : Int) - 1)) then impl_IsSpread.l1 k l x ((y + 1 : Nat) : Int) else some (false, true)) else impl_IsSpread.l1 k l x ((y + 1 : Nat) : Int)) (impl_gcd_ev y x) ?_)
  · simp only [impl_IsSpread.l1]
    rw [if_pos (by omega), if_pos (by omega)]
    rfl
  · simp only [if_pos hg, if_pos hp]
    exact h
theorem spread_l (l : List Int) (ht : isTab l = true) (h1 : rd l 0 = 1) : ∀ (r x : Nat), 2 ≤ x → x + r = 201 → (Ev (fun k => spec_IsSpread.l0 k l x) (true, true) ∧ Ev (fun k => impl_IsSpread.l0 k l x) (true, true) ∧ ∀ x' y' : Nat, x ≤ x' → 2 ≤ y' → x' * y' ≤ l.length → Nat.gcd x' y' = 1 → spr l x' y' = true) ∨ (Ev (fun k => spec_IsSpread.l0 k l x) (false, true) ∧ Ev (fun k => impl_IsSpread.l0 k l x) (false, true) ∧ ∃ x' y' : Nat, x ≤ x' ∧ 2 ≤ y' ∧ x' * y' ≤ l.length ∧ Nat.gcd x' y' = 1 ∧ spr l x' y' = false) := by
  have hl := isTab_len ht
  intro r
  induction r with
  | zero =>
    intro x hx hr
    refine .inl ⟨Ev.done fun k => ?_, Ev.done fun k => ?_, fun x' y' g1 g2 g3 _ => by have := Nat.mul_le_mul g1 g2; omega⟩
    · simp only [spec_IsSpread.l0]
      rw [if_pos (by omega), if_neg (by omega)]
    · simp only [impl_IsSpread.l0]
      rw [if_pos (by omega), if_neg (by omega)]
  | succ r ih =>
    intro x hx hr
    by_cases hb : x ≤ l.length
    · have go1 : ∀ v, Ev (fun k => spec_IsSpread.l1 k l x ((2 : Nat) : Int)) v → Ev (fun k => spec_IsSpread.l0 k l x) v := fun v h => Ev.step (fun k => by simp only [spec_IsSpread.l0]; rw [if_pos (by omega), if_pos (by omega)]; rfl) h
      have go2 : ∀ v, Ev (fun k => impl_IsSpread.l1 k l x ((2 : Nat) : Int)) v → Ev (fun k => impl_IsSpread.l0 k l x) v := fun v h => Ev.step (fun k => by simp only [impl_IsSpread.l0]; rw [if_pos (by omega), if_pos (by omega)]; rfl) (impl_pass l ht h1 x 1 (by omega) (by omega) (by omega) (by omega) (by omega) (.inr rfl) v h)
      rcases spread_in l hl.2 x hx (by omega) 100 2 (by omega) (by omega) with ⟨k1, k2, y', q⟩ | ⟨k1, k2, k3⟩
      · exact .inr ⟨go1 _ k1, go2 _ k2, x, y', Nat.le_refl _, q⟩
      · rcases ih (x + 1) (by omega) (by omega) with ⟨i1, i2, i3⟩ | ⟨i1, i2, x', y', q1, q2⟩
        · refine .inl ⟨go1 _ (k1 _ i1), go2 _ (k2 _ i2), fun x' y' g1 g2 g3 g4 => ?_⟩
          rcases Nat.lt_or_ge x x' with q4 | q4
          · exact i3 x' y' q4 g2 g3 g4
          · obtain rfl : x' = x := by omega
            exact k3 y' g2 g3 g4
        · exact .inr ⟨go1 _ (k1 _ i1), go2 _ (k2 _ i2), x', y', by omega, q2⟩
    · refine .inl ⟨Ev.done fun k => ?_, Ev.done fun k => ?_, fun x' y' g1 g2 g3 _ => by have := Nat.mul_le_mul g1 g2; omega⟩
      · simp only [spec_IsSpread.l0]
        rw [if_pos (by omega), if_neg (by omega)]
      · simp only [impl_IsSpread.l0]
        rw [if_pos (by omega), if_neg (by omega)]
theorem spr_iff {l : List Int} (ht : isTab l = true) {x y : Nat} (hx : 1 ≤ x) (hy : 1 ≤ y) : spr l x y = true ↔ ath l (x * y) = ath l x * ath l y := by
  have hp : 0 < x * y := Nat.mul_pos (by omega) (by omega)
  have e1 : (x : Int) * y - 1 = ((x * y - 1 : Nat) : Int) := by have := Int.natCast_mul x y; omega
  have e2 : (x : Int) - 1 = ((x - 1 : Nat) : Int) := by omega
  have e3 : (y : Int) - 1 = ((y - 1 : Nat) : Int) := by omega
  have hb := prod_bd (isTab_at ht (x - 1)) (isTab_at ht (y - 1))
  unfold spr ath
  rw [decide_eq_true_iff, e1, e2, e3, wri (by omega) (by omega)]
theorem spread_iff {l : List Int} (ht : isTab l = true) (h1 : rd l 0 = 1) : Spread (ath l) l.length ↔ ∀ x y : Nat, 2 ≤ x → 2 ≤ y → x * y ≤ l.length → Nat.gcd x y = 1 → spr l x y = true := by
  constructor
  · rintro ⟨_, h⟩ x y hx hy hl hg
    exact (spr_iff ht (by omega) (by omega)).2 (h x y (by omega) (by omega) hl hg)
  · intro h
    refine ⟨h1, fun x y hx hy hl hg => ?_⟩
    have e1 : ath l 1 = 1 := h1
    rcases Nat.lt_or_ge x 2 with hx2 | hx2
    · obtain rfl : x = 1 := by omega
      rw [Nat.one_mul, e1, Int.one_mul]
    · rcases Nat.lt_or_ge y 2 with hy2 | hy2
      · obtain rfl : y = 1 := by omega
        rw [Nat.mul_one, e1, Int.mul_one]
      · exact (spr_iff ht hx hy).1 (h x y hx2 hy2 hl hg)
/-- The program's first row passes. -/
theorem spread_row1 (l : List Int) (ht : isTab l = true) (h1 : rd l 0 = 1) (v : Bool × Bool) (h : Ev (fun k => impl_IsSpread.l0 k l ((2 : Nat) : Int)) v) : ∀ (r y : Nat), 1 ≤ y → y + r = l.length + 1 → Ev (fun k => impl_IsSpread.l1 k l ((1 : Nat) : Int) y) v := by
  have hl := isTab_len ht
  intro r
  induction r with
  | zero =>
    intro y hy hr
    refine Ev.step (fun k => ?_) h
    simp only [impl_IsSpread.l1]
    rw [if_pos (by omega), if_neg (by omega)]
    rfl
  | succ r ih =>
    intro y hy hr
    exact impl_pass l ht h1 1 y (by omega) (by omega) hy (by omega) (by omega) (.inl rfl) v (ih (y + 1) (by omega) (by omega))
/-- What both say of a table. -/
theorem spreadV (l : List Int) (ht : isTab l = true) : (Spread (ath l) l.length ∧ Ev (fun k => spec_IsSpread.f k l) (true, true) ∧ Ev (fun k => impl_IsSpread.f k l) (true, true)) ∨ (¬ Spread (ath l) l.length ∧ Ev (fun k => spec_IsSpread.f k l) (false, true) ∧ Ev (fun k => impl_IsSpread.f k l) (false, true)) := by
  have hl := isTab_len ht
  by_cases h1 : rd l 0 = 1
  · have fin : ∀ v, Ev (fun k => spec_IsSpread.l0 k l ((2 : Nat) : Int)) v → Ev (fun k => impl_IsSpread.l0 k l ((2 : Nat) : Int)) v → Ev (fun k => spec_IsSpread.f k l) v ∧ Ev (fun k => impl_IsSpread.f k l) v := by
      intro v k1 k2
      refine ⟨?_, ?_⟩
      · unfold spec_IsSpread.f
        refine (spec_dvIs_ev l).bind ?_
        simp only [if_pos ht, if_pos (show 0 < l.length by omega), if_pos h1]
        exact k1
      · unfold impl_IsSpread.f
        refine (impl_isTable_ev l).bind ?_
        simp only [if_pos ht, if_pos (show 0 < l.length by omega), if_pos h1]
        refine Ev.step (fun k => ?_) (spread_row1 l ht h1 v k2 l.length 1 (by omega) (by omega))
        simp only [impl_IsSpread.l0]
        rw [if_pos (by omega), if_pos (by omega)]
        rfl
    rcases spread_l l ht h1 199 2 (by omega) (by omega) with ⟨k1, k2, k3⟩ | ⟨k1, k2, x, y, q1, q2, q3, q4, q5⟩
    · exact .inl ⟨(spread_iff ht h1).2 fun x y hx hy hl hg => k3 x y hx hy hl hg, fin _ k1 k2⟩
    · refine .inr ⟨fun h => ?_, fin _ k1 k2⟩
      rw [(spread_iff ht h1).1 h x y q1 q2 q3 q4] at q5
      cases q5
  · refine .inr ⟨fun h => h1 h.1, ?_, ?_⟩
    · unfold spec_IsSpread.f
      refine (spec_dvIs_ev l).bind ?_
      simp only [if_pos ht, if_pos (show 0 < l.length by omega), if_neg h1]
      exact Ev.now _
    · unfold impl_IsSpread.f
      refine (impl_isTable_ev l).bind ?_
      simp only [if_pos ht, if_pos (show 0 < l.length by omega), if_neg h1]
      exact Ev.now _
theorem spreadV_no (l : List Int) (ht : ¬ isTab l = true) : Ev (fun k => spec_IsSpread.f k l) (false, false) ∧ Ev (fun k => impl_IsSpread.f k l) (false, false) := by
  refine ⟨?_, ?_⟩
  · unfold spec_IsSpread.f
    refine (spec_dvIs_ev l).bind ?_
    simp only [if_neg ht]; exact Ev.now _
  · unfold impl_IsSpread.f
    refine (impl_isTable_ev l).bind ?_
    simp only [if_neg ht]; exact Ev.now _
theorem laws_gSame_l : ∀ (suf pre : List Int), (pre ++ suf).length ≤ 4000000000 → Ev (fun k => laws_gSame.l0 k (pre ++ suf) (pre ++ suf) ((pre ++ suf).length : Nat) (pre.length : Nat)) true
  | [], pre, _ => by
    refine Ev.done fun k => ?_
    simp only [laws_gSame.l0]
    rw [if_neg (by simp)]
  | x :: suf, pre, hl => by
    have hlen : (pre ++ x :: suf).length = pre.length + 1 + suf.length := by simp; omega
    have ih := laws_gSame_l suf (pre ++ [x]) (by simpa using hl)
    rw [List.append_assoc] at ih
    simp only [List.singleton_append, List.length_append, List.length_singleton] at ih
    refine Ev.step (fun k => ?_) ih
    simp only [laws_gSame.l0]
    rw [if_pos (by omega), if_pos (by omega), if_pos (by omega), if_pos (by omega), if_pos trivial, wr_succ (by omega)]
    simp only [List.length_append]
theorem laws_gSame_self (l : List Int) (hl : l.length ≤ 1000000) : Ev (fun k => laws_gSame.f k l l) true := by
  unfold laws_gSame.f
  simp only [if_true]
  exact laws_gSame_l l [] (by rw [List.nil_append]; omega)
/-- A table, or none. -/
def toldF (v : List Int) : List Int × Bool := if isTab v = true then (v, true) else ([], false)
/-- What OverDivisors answers. -/
def overF (a b : List Int) : List Int × Bool := if isTab a = true ∧ isTab b = true ∧ b.length = a.length then toldF (tabOf (conv (ath a) (ath b)) a.length) else ([], false)
theorem spec_over_no (l m : List Int) : Ev (fun k => spec_OverDivisors.j0 k l m true) ([], false) := Ev.done fun k => by simp only [spec_OverDivisors.j0, if_true]
theorem impl_over_no (l m : List Int) : Ev (fun k => impl_OverDivisors.j0 k l m true) ([], false) := Ev.done fun k => by simp only [impl_OverDivisors.j0, if_true]
theorem overF_both (l m : List Int) : Ev (fun k => spec_OverDivisors.f k l m) (overF l m) ∧ Ev (fun k => impl_OverDivisors.f k l m) (overF l m) := by
  by_cases ht : isTab l = true
  · have hlen := isTab_len ht
    by_cases hm : isTab m = true
    · by_cases hlm : m.length = l.length
      · obtain ⟨k1, k2⟩ := overV l m ht hm hlm
        have ev : overF l m = toldF (tabOf (conv (ath l) (ath m)) l.length) := if_pos ⟨ht, hm, hlm⟩
        have hne : ((l.length : Int) != (m.length : Int)) = false := by rw [bne_eq_false_iff_eq]; omega
        rw [ev]
        refine ⟨?_, ?_⟩
        · unfold spec_OverDivisors.f
          refine (spec_dvIs_ev l).bind ?_
          simp only [if_pos ht]
          refine (spec_dvIs_ev m).bind ?_
          simp only [if_pos hm, hne]
          refine Ev.step (f := ?f3) (fun k => ?a3) ?b3
          case a3 => simp only [spec_OverDivisors.j0, Bool.false_eq_true, if_false]; exact rfl
          refine k1.bind ((spec_dvIs_ev _).bind ?_)
          unfold toldF
          by_cases h : isTab (tabOf (conv (ath l) (ath m)) l.length) = true
          · simp only [h, if_true]; exact Ev.now _
          · simp only [Bool.eq_false_iff.2 h, Bool.false_eq_true, if_false]; exact Ev.now _
        · unfold impl_OverDivisors.f
          refine (impl_isTable_ev l).bind ?_
          simp only [if_pos ht]
          refine (impl_isTable_ev m).bind ?_
          simp only [if_pos hm, hne]
          refine Ev.step (f := ?f4) (fun k => ?a4) ?b4
          case a4 => simp only [impl_OverDivisors.j0, Bool.false_eq_true, if_false]; exact rfl
          refine k2.bind ((impl_told_ev _).bind ?_)
          unfold toldF
          by_cases h : isTab (tabOf (conv (ath l) (ath m)) l.length) = true
          · simp only [h, if_true]; exact Ev.now _
          · simp only [Bool.eq_false_iff.2 h, Bool.false_eq_true, if_false]; exact Ev.now _
      · have ev : overF l m = ([], false) := if_neg fun h => hlm h.2.2
        have hne : ((l.length : Int) != (m.length : Int)) = true := by rw [bne_iff_ne]; omega
        rw [ev]
        refine ⟨?_, ?_⟩
        · unfold spec_OverDivisors.f
          refine (spec_dvIs_ev l).bind ?_
          simp only [if_pos ht]
          refine (spec_dvIs_ev m).bind ?_
          simp only [if_pos hm, hne]; exact spec_over_no l m
        · unfold impl_OverDivisors.f
          refine (impl_isTable_ev l).bind ?_
          simp only [if_pos ht]
          refine (impl_isTable_ev m).bind ?_
          simp only [if_pos hm, hne]; exact impl_over_no l m
    · have ev : overF l m = ([], false) := if_neg fun h => hm h.2.1
      rw [ev]
      refine ⟨?_, ?_⟩
      · unfold spec_OverDivisors.f
        refine (spec_dvIs_ev l).bind ?_
        simp only [if_pos ht]
        refine (spec_dvIs_ev m).bind ?_
        simp only [if_neg hm]; exact spec_over_no l m
      · unfold impl_OverDivisors.f
        refine (impl_isTable_ev l).bind ?_
        simp only [if_pos ht]
        refine (impl_isTable_ev m).bind ?_
        simp only [if_neg hm]; exact impl_over_no l m
  · have ev : overF l m = ([], false) := if_neg fun h => ht h.1
    rw [ev]
    refine ⟨?_, ?_⟩
    · unfold spec_OverDivisors.f
      refine (spec_dvIs_ev l).bind ?_
      simp only [if_neg ht]; exact spec_over_no l m
    · unfold impl_OverDivisors.f
      refine (impl_isTable_ev l).bind ?_
      simp only [if_neg ht]; exact impl_over_no l m
theorem tbl_tabOf (a : Int) (n : Nat) : tbl a n = tabOf (tb a) n := rfl
theorem ath_tbl (a : Int) {n m : Nat} (h1 : 1 ≤ m) (h2 : m ≤ n) : ath (tbl a n) m = tb a m := ath_tabOf _ h1 h2
theorem isTab_tabOf {f : Nat → Int} {n : Nat} (h1 : 1 ≤ n) (h2 : n ≤ 200) (h : ∀ m, 1 ≤ m → m ≤ n → -1000000 ≤ f m ∧ f m ≤ 1000000) : isTab (tabOf f n) = true := by
  unfold isTab
  rw [Bool.and_eq_true, List.all_eq_true, tabOf_len]
  refine ⟨decide_eq_true ⟨h1, h2⟩, fun x hx => ?_⟩
  unfold tabOf at hx
  obtain ⟨i, hi, rfl⟩ := List.mem_map.1 hx
  rw [List.mem_range] at hi
  exact decide_eq_true (h (i + 1) (by omega) (by omega))
theorem tb_bd (a : Int) (m : Nat) (h1 : 1 ≤ m) (h2 : m ≤ 200) : -1000000 ≤ tb a m ∧ tb a m ≤ 1000000 := by
  have hd := divs_len (n := m) (by omega)
  have hil := ints_len (divs m)
  obtain ⟨s1, s2, s3⟩ := sig_le m (by omega) (by omega)
  have hmm : m * m ≤ 200 * 200 := Nat.mul_le_mul h2 h2
  have hmi : (m : Int) * m = ((m * m : Nat) : Int) := (Int.natCast_mul m m).symm
  have hp := phi_le m
  have hs := sgn_range m
  unfold tb
  split
  · omega
  · split
    · omega
    · split
      · omega
      · split
        · omega
        · split
          · omega
          · split
            · split <;> omega
            · omega
theorem isTab_tbl (a : Int) {n : Nat} (h1 : 1 ≤ n) (h2 : n ≤ 200) : isTab (tbl a n) = true := isTab_tabOf h1 h2 fun m g1 g2 => tb_bd a m g1 (by omega)
theorem tb_zero (m : Nat) : tb 0 m = 1 := rfl
theorem tb_one (m : Nat) : tb 1 m = (m : Int) := rfl
theorem tb_two (m : Nat) : tb 2 m = ((divs m).length : Int) := by
  have : tb 2 m = ((ints (divs m)).length : Int) := rfl
  rw [this, ints_len]
theorem tb_three {m : Nat} (h1 : 1 ≤ m) (h2 : m ≤ 200) : tb 3 m = lsum (fun d => (d : Int)) (divs m) := (sig_le m (by omega) (by omega)).2.2
theorem tb_four (m : Nat) : tb 4 m = (phi m : Int) := rfl
theorem tb_five (m : Nat) : tb 5 m = sgn m := rfl
theorem tb_six (m : Nat) : tb 6 m = unitF m := rfl
theorem spread_congrN {a b : Nat → Int} {N : Nat} (hN : 1 ≤ N) (h : ∀ n, 1 ≤ n → n ≤ N → a n = b n) (ha : Spread a N) : Spread b N :=
  ⟨by rw [← h 1 (Nat.le_refl 1) hN]; exact ha.1, fun x y hx hy hxy hg => by
    have h1 : x ≤ x * y := Nat.le_mul_of_pos_right _ (by omega)
    have h2 : y ≤ x * y := Nat.le_mul_of_pos_left _ (by omega)
    have h3 : 1 ≤ x * y := Nat.le_trans hx h1
    rw [← h (x * y) h3 hxy, ← h x hx (by omega), ← h y hy (by omega)]
    exact ha.2 x y hx hy hxy hg⟩
theorem spread_tb {a : Int} (h0 : 0 ≤ a) (h6 : a ≤ 6) {N : Nat} (h1 : 1 ≤ N) (h2 : N ≤ 200) : Spread (tb a) N := by
  have hc : a = 0 ∨ a = 1 ∨ a = 2 ∨ a = 3 ∨ a = 4 ∨ a = 5 ∨ a = 6 := by omega
  rcases hc with rfl | rfl | rfl | rfl | rfl | rfl | rfl
  · exact spread_congrN h1 (fun n _ _ => (tb_zero n).symm) (spread_one N)
  · exact spread_congrN h1 (fun n _ _ => (tb_one n).symm) (spread_self N)
  · exact spread_congrN h1 (fun n _ _ => (tb_two n).symm) (spread_count N)
  · exact spread_congrN h1 (fun n g1 g2 => (tb_three g1 (by omega)).symm) (spread_sum N)
  · exact spread_congrN h1 (fun n _ _ => (tb_four n).symm) (spread_phi N)
  · exact spread_congrN h1 (fun n _ _ => (tb_five n).symm) (spread_sgn N)
  · exact spread_congrN h1 (fun n _ _ => (tb_six n).symm) (spread_unit N)
/-- What TableOf answers. -/
def tblF (a n : Int) : List Int × Bool := if (0 ≤ a ∧ a ≤ 6) ∧ 1 ≤ n ∧ n ≤ 200 then (tbl a n.toNat, true) else ([], false)
theorem tblF_both (a n : Int) : Ev (fun k => spec_TableOf.f k a n) (tblF a n) ∧ Ev (fun k => impl_TableOf.f k a n) (tblF a n) := by
  by_cases h : (0 ≤ a ∧ a ≤ 6) ∧ 1 ≤ n ∧ n ≤ 200
  · obtain ⟨m, rfl⟩ := Int.eq_ofNat_of_zero_le (show 0 ≤ n by omega)
    have ev : tblF a (m : Int) = (tbl a m, true) := if_pos h
    rw [ev]
    refine ⟨?_, ?_⟩
    · unfold spec_TableOf.f
      simp only [spec_l1In_eq, decide_eq_true h.1, decide_eq_true h.2, Option.bind_some, if_true]
      exact (spec_dvTable_ev a m (by omega)).bind (Ev.now _)
    · unfold impl_TableOf.f
      simp only [if_neg (show ¬ (a < 0) by omega), if_neg (show ¬ (a > 6) by omega), if_neg (show ¬ ((m : Int) < 1) by omega), if_neg (show ¬ ((m : Int) > 200) by omega)]
      exact (impl_tableOf_ev a m (by omega)).bind (Ev.now _)
  · have ev : tblF a n = ([], false) := if_neg h
    rw [ev]
    refine ⟨Ev.const fun k => ?_, Ev.const fun k => ?_⟩
    · unfold spec_TableOf.f
      simp only [spec_l1In_eq, Option.bind_some]
      by_cases hd : 0 ≤ a ∧ a ≤ 6
      · rw [decide_eq_true hd, if_pos rfl, decide_eq_false (fun k => h ⟨hd, k⟩), if_neg (by simp)]
      · rw [decide_eq_false hd, if_neg (by simp)]
    · unfold impl_TableOf.f
      by_cases h1 : a < 0
      · rw [if_pos h1]
      · rw [if_neg h1]
        by_cases h2 : a > 6
        · rw [if_pos h2]
        · rw [if_neg h2]
          by_cases h3 : n < 1
          · rw [if_pos h3]
          · rw [if_neg h3, if_pos (by omega)]
/-- What SumOverDivisors answers. -/
def sumF_ (t : List Int) : List Int × Bool := if isTab t = true then toldF (tabOf (conv (ath t) (fun _ => 1)) t.length) else ([], false)
theorem sumF_both (l : List Int) : Ev (fun k => spec_SumOverDivisors.f k l) (sumF_ l) ∧ Ev (fun k => impl_SumOverDivisors.f k l) (sumF_ l) := by
  by_cases ht : isTab l = true
  · have hlen := isTab_len ht
    obtain ⟨k1, k2⟩ := overV l (tbl 0 l.length) ht (isTab_tbl 0 hlen.1 hlen.2) (tbl_len 0 l.length)
    have e : tabOf (conv (ath l) (ath (tbl 0 l.length))) l.length = tabOf (conv (ath l) (fun _ => 1)) l.length := tabOf_congr fun N g1 g2 => conv_congr N (by omega) (fun _ _ _ => rfl) fun d q1 q2 => ath_tbl 0 q1 (by omega)
    rw [e] at k1 k2
    have ev : sumF_ l = toldF (tabOf (conv (ath l) (fun _ => 1)) l.length) := if_pos ht
    rw [ev]
    refine ⟨?_, ?_⟩
    · unfold spec_SumOverDivisors.f
      refine (spec_dvIs_ev l).bind ?_
      simp only [if_pos ht]
      refine (spec_dvTable_ev 0 l.length hlen.2).bind (k1.bind ((spec_dvIs_ev _).bind ?_))
      unfold toldF
      by_cases h : isTab (tabOf (conv (ath l) (fun _ => 1)) l.length) = true
      · simp only [h, if_true]; exact Ev.now _
      · simp only [Bool.eq_false_iff.2 h, Bool.false_eq_true, if_false]; exact Ev.now _
    · unfold impl_SumOverDivisors.f
      refine (impl_isTable_ev l).bind ?_
      simp only [if_pos ht]
      refine (impl_tableOf_ev 0 l.length hlen.2).bind (k2.bind ((impl_told_ev _).bind ?_))
      unfold toldF
      by_cases h : isTab (tabOf (conv (ath l) (fun _ => 1)) l.length) = true
      · simp only [h, if_true]; exact Ev.now _
      · simp only [Bool.eq_false_iff.2 h, Bool.false_eq_true, if_false]; exact Ev.now _
  · have ev : sumF_ l = ([], false) := if_neg ht
    rw [ev]
    refine ⟨?_, ?_⟩
    · unfold spec_SumOverDivisors.f
      refine (spec_dvIs_ev l).bind ?_
      simp only [if_neg ht]; exact Ev.now _
    · unfold impl_SumOverDivisors.f
      refine (impl_isTable_ev l).bind ?_
      simp only [if_neg ht]; exact Ev.now _
/-! a cursor over bytes: it never fails -/
def Bytes (l : List Int) : Prop := ∀ x ∈ l, (0 : Int) ≤ x ∧ x ≤ 255
theorem bytes_of {l : List Int} (h : ∀ x ∈ l, (Lit.int .u8 x).wf = true) : Bytes l := by
  intro x hx
  have := h x hx
  simpa [Lit.wf, IntKind.min, IntKind.max, IntKind.signed, IntKind.bits] using this
theorem and255 (x : Int) : 0 ≤ Go.bits .and .u64 x 255 ∧ Go.bits .and .u64 x 255 ≤ 255 := by
  have hb : (BitVec.ofInt 64 x &&& BitVec.ofInt 64 255).toNat ≤ 255 := by
    rw [BitVec.toNat_and]
    have : (BitVec.ofInt 64 255).toNat = 255 := by decide
    rw [this]
    exact Nat.and_le_right
  have e : Go.bits .and .u64 x 255 = IntKind.u64.wrap ((BitVec.ofInt 64 x &&& BitVec.ofInt 64 255).toNat : Int) := rfl
  rw [e]
  generalize (BitVec.ofInt 64 x &&& BitVec.ofInt 64 255).toNat = m at *
  have e2 : IntKind.u64.wrap (m : Int) = m := by
    have : IntKind.u64.wrap (m : Int) = (m : Int) % 18446744073709551616 := by simp [IntKind.wrap, IntKind.bits, IntKind.signed]
    rw [this]; omega
  rw [e2]; omega
theorem rd_byte {l : List Int} (h : Bytes l) (i : Int) : 0 ≤ rd l i ∧ rd l i ≤ 255 := by
  unfold rd
  rw [List.getD_eq_getElem?_getD]
  cases hg : l[i.toNat]? with
  | none => simp
  | some x => exact h x (List.mem_of_getElem? hg)
theorem wr_byte {x : Int} (h : 0 ≤ x ∧ x ≤ 255) : wrap64 x = x := wri (by omega) (by omega)
/-- The next byte, or what stands for one. -/
theorem next_ok {l : List Int} (h : Bytes l) (a s : Int) (h0 : 0 ≤ a) (h1 : a ≤ 1000000000) : ∃ v s', spec_l1Cur_next.f l a s = some (v, a + 1, s') ∧ 0 ≤ v ∧ v ≤ 255 := by
  have hr := rd_byte h a
  have ea : wrap64 (a + 1) = a + 1 := wri (by omega) (by omega)
  unfold spec_l1Cur_next.f
  rw [ea, if_pos h0]
  by_cases c1 : a < (l.length : Int)
  · rw [if_pos c1]
    by_cases c2 : a + 1 ≤ (l.length : Int)
    · rw [if_pos c2]; exact ⟨_, _, rfl, by rw [wr_byte hr]; exact hr⟩
    · rw [if_neg c2]; exact ⟨_, _, rfl, by rw [wr_byte (and255 _)]; exact and255 _⟩
  · rw [if_neg c1]
    by_cases c2 : a + 1 ≤ (l.length : Int)
    · rw [if_pos c2]; exact ⟨_, _, rfl, by decide⟩
    · rw [if_neg c2]; exact ⟨_, _, rfl, by rw [wr_byte (and255 _)]; exact and255 _⟩
theorem pick_ok {l : List Int} (h : Bytes l) (a s n : Int) (h0 : 0 ≤ a) (h1 : a ≤ 900000000) (hn : n ≤ 1000000) : ∃ v a' s', spec_l1Cur_pick.f l a s n = some (v, a', s') ∧ a ≤ a' ∧ a' ≤ a + 2 ∧ 0 ≤ v ∧ (1 ≤ n → v < n) := by
  unfold spec_l1Cur_pick.f
  by_cases c : n ≤ 1
  · rw [if_pos c]; exact ⟨0, a, s, rfl, Int.le_refl _, by omega, Int.le_refl _, fun _ => by omega⟩
  · rw [if_neg c]
    obtain ⟨v, s1, e1, v0, v1⟩ := next_ok h a s h0 (by omega)
    rw [e1]
    simp only [Option.bind_some]
    have hm : ∀ z : Int, 0 ≤ z → 0 ≤ Int.tmod z n ∧ Int.tmod z n < n := fun z hz => ⟨Int.tmod_nonneg _ hz, Int.tmod_lt_of_pos _ (by omega)⟩
    by_cases c2 : n > 200
    · rw [if_pos c2]
      obtain ⟨u, s2, e2, u0, u1⟩ := next_ok h (a + 1) s1 (by omega) (by omega)
      rw [e2]
      simp only [Option.bind_some]
      rw [if_neg (by omega)]
      have e3 : wrap64 (v * 256) = v * 256 := wri (by omega) (by omega)
      have e4 : wrap64 (v * 256 + u) = v * 256 + u := wri (by omega) (by omega)
      rw [e3, e4]
      exact ⟨_, _, _, rfl, by omega, by omega, (hm _ (by omega)).1, fun _ => (hm _ (by omega)).2⟩
    · rw [if_neg c2, if_neg (by omega)]
      exact ⟨_, _, _, rfl, by omega, by omega, (hm _ v0).1, fun _ => (hm _ v0).2⟩
theorem one_ok {l : List Int} (h : Bytes l) (a s n : Int) (h0 : 0 ≤ a) (h1 : a ≤ 900000000) (hn : n ≤ 1000000) : ∃ v a' s', spec_l1Cur_one.f l a s n = some (v, a', s') ∧ a ≤ a' ∧ a' ≤ a + 2 := by
  obtain ⟨v, a', s', e, k1, k2, _, _⟩ := pick_ok h a s n h0 h1 hn
  unfold spec_l1Cur_one.f
  rw [e]
  exact ⟨_, _, _, rfl, k1, k2⟩
theorem among_ok {l : List Int} (h : Bytes l) (a s : Int) (m : List Int) (h0 : 0 ≤ a) (h1 : a ≤ 900000000) (hm : 1 ≤ m.length) (hn : m.length ≤ 1000000) : ∃ v a' s', spec_l1Cur_among.f l a s m = some (v, a', s') ∧ a ≤ a' ∧ a' ≤ a + 2 := by
  obtain ⟨v, a', s', e, k1, k2, v0, v1⟩ := pick_ok h a s (m.length : Int) h0 h1 (by omega)
  unfold spec_l1Cur_among.f
  rw [e]
  simp only [Option.bind_some]
  rw [if_pos v0, if_pos (v1 (by omega))]
  exact ⟨_, _, _, rfl, k1, k2⟩
theorem toldF_is {v : List Int} (h : isTab v = true) : toldF v = (v, true) := if_pos h
theorem toldF_ok {v o : List Int} (h : toldF v = (o, true)) : o = v ∧ isTab v = true := by
  unfold toldF at h
  by_cases hv : isTab v = true
  · rw [if_pos hv] at h
    injection h with h _
    exact ⟨h.symm, hv⟩
  · rw [if_neg hv] at h
    injection h with _ h
    cases h
theorem toldF_len (v : List Int) : (toldF v).1.length ≤ v.length := by
  unfold toldF
  split
  · exact Nat.le_refl _
  · exact Nat.zero_le _
theorem overF_len (a b : List Int) : (overF a b).1.length ≤ 200 := by
  unfold overF
  split
  · rename_i h
    have h1 := toldF_len (tabOf (conv (ath a) (ath b)) a.length)
    have h2 := isTab_len h.1
    rw [tabOf_len] at h1
    omega
  · exact Nat.zero_le _
theorem sumF_len (t : List Int) : (sumF_ t).1.length ≤ 200 := by
  unfold sumF_
  split
  · rename_i h
    have h1 := toldF_len (tabOf (conv (ath t) (fun _ => 1)) t.length)
    have h2 := isTab_len h
    rw [tabOf_len] at h1
    omega
  · exact Nat.zero_le _
theorem undoV_len (x0 : List Int) : ∀ r m out, (undoV x0 r m out).1.length ≤ out.length + r
  | 0, _, out => Nat.le_refl _
  | r + 1, m, out => by
    simp only [undoV]
    generalize wrap64 (((if (m : Int) = 1 then (1 : Int) else 0) - lsum (FU x0 out m) (divs m)) * rd x0 0) = w
    by_cases h : isTab (out ++ [w]) = true
    · rw [if_pos h]
      have := undoV_len x0 r (m + 1) (out ++ [w])
      rw [List.length_append, List.length_singleton] at this
      omega
    · rw [if_neg h]
      exact Nat.zero_le _
theorem undoF_len (t : List Int) : (undoF t).1.length ≤ 200 := by
  unfold undoF
  split
  · rename_i h
    have h1 := undoV_len t t.length 1 []
    have h2 := isTab_len h.1
    rw [List.length_nil] at h1
    omega
  · exact Nat.zero_le _
theorem tblF_len (a n : Int) : (tblF a n).1.length ≤ 200 := by
  unfold tblF
  split
  · rename_i h
    show (tbl a n.toNat).length ≤ 200
    rw [tbl_len]; omega
  · exact Nat.zero_le _
theorem overF_ok {a b o : List Int} (h : overF a b = (o, true)) : isTab a = true ∧ isTab b = true ∧ b.length = a.length ∧ o = tabOf (conv (ath a) (ath b)) a.length ∧ isTab o = true := by
  unfold overF at h
  by_cases hc : isTab a = true ∧ isTab b = true ∧ b.length = a.length
  · rw [if_pos hc] at h
    obtain ⟨h1, h2⟩ := toldF_ok h
    exact ⟨hc.1, hc.2.1, hc.2.2, h1, by rw [h1]; exact h2⟩
  · rw [if_neg hc] at h
    injection h with _ h
    cases h
theorem overF_is {a b c : List Int} (ha : isTab a = true) (hb : isTab b = true) (hl : b.length = a.length) (hc : isTab c = true) (hcl : c.length = a.length) (h : ∀ N, 1 ≤ N → N ≤ a.length → conv (ath a) (ath b) N = ath c N) : overF a b = (c, true) := by
  have e : tabOf (conv (ath a) (ath b)) a.length = c := (tabOf_eq hcl fun N g1 g2 => (h N g1 g2).symm).symm
  unfold overF
  rw [if_pos ⟨ha, hb, hl⟩, e, toldF_is hc]
theorem overF_comm (a b : List Int) : overF b a = overF a b := by
  unfold overF
  by_cases hc : isTab a = true ∧ isTab b = true ∧ b.length = a.length
  · rw [if_pos hc, if_pos ⟨hc.2.1, hc.1, hc.2.2.symm⟩, hc.2.2]
    congr 1
    exact tabOf_congr fun N g1 _ => conv_comm _ _ N (by omega)
  · rw [if_neg hc, if_neg fun h => hc ⟨h.2.1, h.1, h.2.2.symm⟩]
theorem conv_first (a b : Nat → Int) : conv a b 1 = a 1 * b 1 := by
  have : divs 1 = [1] := by decide
  unfold conv
  rw [this]
  simp [lsum]
/-- One value that both have. -/
theorem spread_any (l : List Int) : ∃ v : Bool × Bool, Ev (fun k => spec_IsSpread.f k l) v ∧ Ev (fun k => impl_IsSpread.f k l) v ∧ (isTab l = true → v.2 = true ∧ (v.1 = true ↔ Spread (ath l) l.length)) := by
  by_cases ht : isTab l = true
  · rcases spreadV l ht with ⟨h1, h2, h3⟩ | ⟨h1, h2, h3⟩
    · exact ⟨_, h2, h3, fun _ => ⟨rfl, ⟨fun _ => h1, fun _ => rfl⟩⟩⟩
    · exact ⟨_, h2, h3, fun _ => ⟨rfl, ⟨fun h => absurd h Bool.false_ne_true, fun h => absurd h h1⟩⟩⟩
  · obtain ⟨h2, h3⟩ := spreadV_no l ht
    exact ⟨_, h2, h3, fun h => absurd h ht⟩
/-- A table can be drawn. -/
theorem table_ok {l : List Int} (h : Bytes l) (a s : Int) (h0 : 0 ≤ a) (h1 : a ≤ 1000000) : ∃ v a' s', Ev (fun k => spec_l1Cur_table.f k l a s 24) (v, a', s') ∧ a ≤ a' ∧ a' ≤ a + 1000 := by
  obtain ⟨n, a1, s1, e1, p1, q1, n0, n1⟩ := pick_ok h a s 24 h0 (by omega) (by decide)
  obtain ⟨b, a2, s2, e2, p2, q2⟩ := one_ok h a1 s1 2 (by omega) (by omega) (by decide)
  have hn := n1 (by decide)
  obtain ⟨m, rfl⟩ := Int.eq_ofNat_of_zero_le n0
  have hw : wrap64 (1 + (m : Int)) = ((m + 1 : Nat) : Int) := by rw [wri (by omega) (by omega)]; omega
  unfold spec_l1Cur_table.f
  simp only [e1, e2, Option.bind_some, hw]
  cases b with
  | true =>
    obtain ⟨c, a3, s3, e3, p3, q3, c0, c1⟩ := pick_ok h a2 s2 7 (by omega) (by omega) (by decide)
    refine ⟨tbl c (m + 1), a3, s3, ?_, by omega, by omega⟩
    simp only [if_true, e3, Option.bind_some]
    exact (spec_dvTable_ev c (m + 1) (by omega)).bind (Ev.now _)
  | false =>
    simp only [Bool.false_eq_true, if_false]
    have hend : ∀ (out : List Int) (a s : Int), out.length = m + 1 → 0 ≤ a → a ≤ 2000000 → ∃ v a' s', Ev (fun k => spec_l1Cur_table.l0 k ((m + 1 : Nat) : Int) out ((m + 1 : Nat) : Int) l a s) (v, a', s') ∧ a ≤ a' ∧ a' ≤ a + 10 := by
      intro out a s ho g0 g1
      obtain ⟨c, a3, s3, e3, p3, q3, c0, c1⟩ := pick_ok h a s 12 g0 (by omega) (by decide)
      by_cases k0 : c = 0
      · obtain ⟨i, a4, s4, e4, p4, q4, i0, i1⟩ := pick_ok h a3 s3 ((m + 1 : Nat) : Int) (by omega) (by omega) (by omega)
        obtain ⟨x, a5, s5, e5, p5, q5⟩ := among_ok h a4 s4 [1000000, 1000001, (-9223372036854775808), 100000] (by omega) (by omega) (by decide) (by decide)
        refine ⟨out.set i.toNat x, a5, s5, Ev.done fun k => ?_, by omega, by omega⟩
        simp only [spec_l1Cur_table.l0]
        rw [if_neg (by omega), e3]
        simp only [Option.bind_some]
        rw [if_pos k0, e4]
        simp only [Option.bind_some]
        rw [e5]
        simp only [Option.bind_some]
        rw [if_pos (by omega), if_pos (by omega)]
      · by_cases k1 : c = 1
        · refine ⟨[], a3, s3, Ev.done fun k => ?_, by omega, by omega⟩
          simp only [spec_l1Cur_table.l0]
          rw [if_neg (by omega), e3]
          simp only [Option.bind_some]
          rw [if_neg k0, if_pos k1]
        · obtain ⟨x, a5, s5, e5, p5, q5⟩ := among_ok h a3 s3 [1, (-1)] (by omega) (by omega) (by decide) (by decide)
          by_cases k2 : c = 2
          · refine ⟨out.set (0 : Int).toNat x, a5, s5, Ev.done fun k => ?_, by omega, by omega⟩
            simp only [spec_l1Cur_table.l0]
            rw [if_neg (by omega), e3]
            simp only [Option.bind_some]
            rw [if_neg k0, if_neg k1, if_pos k2, e5]
            simp only [Option.bind_some]
            rw [if_pos (by omega)]
          · by_cases k3 : c = 3
            · refine ⟨out.set (0 : Int).toNat x, a5, s5, Ev.done fun k => ?_, by omega, by omega⟩
              simp only [spec_l1Cur_table.l0]
              rw [if_neg (by omega), e3]
              simp only [Option.bind_some]
              rw [if_neg k0, if_neg k1, if_neg k2, if_pos k3, e5]
              simp only [Option.bind_some]
              rw [if_pos (by omega)]
            · by_cases k4 : c = 4
              · refine ⟨out.set (0 : Int).toNat x, a5, s5, Ev.done fun k => ?_, by omega, by omega⟩
                simp only [spec_l1Cur_table.l0]
                rw [if_neg (by omega), e3]
                simp only [Option.bind_some]
                rw [if_neg k0, if_neg k1, if_neg k2, if_neg k3, if_pos k4, e5]
                simp only [Option.bind_some]
                rw [if_pos (by omega)]
              · refine ⟨out, a3, s3, Ev.done fun k => ?_, by omega, by omega⟩
                simp only [spec_l1Cur_table.l0]
                rw [if_neg (by omega), e3]
                simp only [Option.bind_some]
                rw [if_neg k0, if_neg k1, if_neg k2, if_neg k3, if_neg k4]
    have hloop : ∀ (r i : Nat) (out : List Int) (a s : Int), i + r = m + 1 → out.length = i → 0 ≤ a → a + 2 * r ≤ 1900000 → ∃ v a' s', Ev (fun k => spec_l1Cur_table.l0 k ((m + 1 : Nat) : Int) out (i : Int) l a s) (v, a', s') ∧ a ≤ a' ∧ a' ≤ a + 10 + 2 * r := by
      intro r
      induction r with
      | zero =>
        intro i out a s hi ho g0 g1
        obtain rfl : i = m + 1 := by omega
        obtain ⟨v, a', s', hv, w1, w2⟩ := hend out a s ho g0 (by omega)
        exact ⟨v, a', s', hv, w1, by omega⟩
      | succ r ih =>
        intro i out a s hi ho g0 g1
        obtain ⟨c, a3, s3, e3, p3, q3, c0, c1⟩ := pick_ok h a s 9 g0 (by omega) (by decide)
        obtain ⟨v, a', s', hv, w1, w2⟩ := ih (i + 1) (out ++ [wrap64 (c - 4)]) a3 s3 (by omega) (by rw [List.length_append, List.length_singleton]; omega) (by omega) (by omega)
        refine ⟨v, a', s', Ev.step (fun k => ?_) hv, by omega, by omega⟩
        simp only [spec_l1Cur_table.l0]
        rw [if_pos (by omega), e3]
        simp only [Option.bind_some]
        rw [if_pos (by omega), wr_succ (by omega)]
    obtain ⟨v, a', s', hv, w1, w2⟩ := hloop (m + 1) 0 [] a2 s2 (by omega) rfl (by omega) (by omega)
    exact ⟨v, a', s', hv, by omega, by omega⟩
theorem undo_drawn {z : List Int} (hz : Bytes z) : ∃ t, Ev (fun k => spec_DrawUndoTable.f k z) t := by
  obtain ⟨v, a, s, hv, _, _⟩ := table_ok hz 0 0 (by decide) (by decide)
  refine ⟨v, ?_⟩
  unfold spec_DrawUndoTable.f
  exact hv.bind (Ev.now _)
theorem over_drawn {z : List Int} (hz : Bytes z) : ∃ p : List Int × List Int, Ev (fun k => spec_DrawOverDivisors.f k z) p := by
  obtain ⟨v, a, s, hv, p1, q1⟩ := table_ok hz 0 0 (by decide) (by decide)
  obtain ⟨v2, a2, s2, hv2, p2, q2⟩ := table_ok hz a s (by omega) (by omega)
  obtain ⟨b, a3, s3, e3, p3, q3⟩ := one_ok hz a2 s2 10 (by omega) (by omega) (by decide)
  obtain ⟨n, hn⟩ : ∃ n, spec_l1Least.f (v.length : Int) (v2.length : Int) = some n := by
    unfold spec_l1Least.f
    split
    · exact ⟨_, rfl⟩
    · exact ⟨_, rfl⟩
  cases b with
  | true =>
    refine ⟨(v, v2), ?_⟩
    unfold spec_DrawOverDivisors.f
    refine hv.bind (hv2.bind ?_)
    simp only [hn, e3, Option.bind_some, if_true]
    exact Ev.now _
  | false =>
    refine ⟨(v.take n.toNat, v2.take n.toNat), ?_⟩
    unfold spec_DrawOverDivisors.f
    refine hv.bind (hv2.bind ?_)
    simp only [hn, e3, Option.bind_some, Bool.false_eq_true, if_false]
    exact Ev.now _
theorem tableOf_drawn {l : List Int} (h : Bytes l) : ∃ a m, spec_DrawTableOf.f l = some (a, m) := by
  obtain ⟨v1, a1, s1, e1, p1, q1, _, _⟩ := pick_ok h 0 0 9 (by decide) (by decide) (by decide)
  obtain ⟨v3, a3, s3, e3, p3, q3⟩ := among_ok h a1 s1 [1, 2, 6, 12, 30, 60, 200, 201, 0] (by omega) (by omega) (by decide) (by decide)
  unfold spec_DrawTableOf.f
  rw [e1]
  simp only [Option.bind_some]
  rw [e3]
  exact ⟨_, _, rfl⟩
theorem law_spread (u : List Int) : Ev (fun k => (impl_IsSpread.f k u).bind fun b1 => (spec_IsSpread.f k u).bind fun b2 => if (b1.2 == b2.2) = true then some (b1.1 == b2.1) else some false) true := by
  obtain ⟨v, h1, h2, _⟩ := spread_any u
  refine h2.bind (h1.bind ?_)
  simp only [beq_self_eq_true, if_true]
  exact Ev.now _
theorem law_drawn {z : List Int} (hz : Bytes z) : Ev (fun k => (spec_DrawIsSpread.f k z).bind fun u => (impl_IsSpread.f k u).bind fun b1 => (spec_IsSpread.f k u).bind fun b2 => if (b1.2 == b2.2) = true then some (b1.1 == b2.1) else some false) true := by
  obtain ⟨u, hu⟩ := undo_drawn hz
  have hu2 : Ev (fun k => spec_DrawIsSpread.f k z) u := by
    unfold spec_DrawIsSpread.f
    exact hu.bind (Ev.now _)
  exact hu2.bind (law_spread u)
theorem law_j7 {z : List Int} (hz : Bytes z) : Ev (fun k => laws_FnTablesMultiplied.j7 k z false) true := by
  refine Ev.step (fun k => ?_) (law_drawn hz)
  simp only [laws_FnTablesMultiplied.j7, Bool.false_eq_true, if_false]
theorem law_j6 (n : Nat) (h1 : 1 ≤ n) (h2 : n ≤ 200) {z : List Int} (hz : Bytes z) : Ev (fun k => laws_FnTablesMultiplied.j6 k z (n : Int) false) true := by
  have t0 : ∀ a : Int, 0 ≤ a → a ≤ 6 → Ev (fun k => impl_TableOf.f k a (n : Int)) (tbl a n, true) := fun a g1 g2 => by
    have := (tblF_both a (n : Int)).2
    rwa [show tblF a (n : Int) = (tbl a n, true) from if_pos ⟨⟨g1, g2⟩, by omega, by omega⟩] at this
  have ho := (overF_both (tbl 0 n) (tbl 0 n)).2
  rw [overF_is (c := tbl 2 n) (isTab_tbl 0 h1 h2) (isTab_tbl 0 h1 h2) rfl (isTab_tbl 2 h1 h2) (by rw [tbl_len, tbl_len]) (fun N g1 g2 => by
    rw [tbl_len] at g2
    rw [ath_tbl 2 g1 g2, tb_two, ← count_conv N]
    exact conv_congr N (by omega) (fun d q1 q2 => ath_tbl 0 q1 (by omega)) fun d q1 q2 => ath_tbl 0 q1 (by omega))] at ho
  have hs := (sumF_both (tbl 4 n)).2
  have e4 : sumF_ (tbl 4 n) = (tbl 1 n, true) := by
    have e : tabOf (conv (ath (tbl 4 n)) (fun _ => 1)) (tbl 4 n).length = tbl 1 n := by
      rw [tbl_len, tbl_tabOf 1]
      refine tabOf_congr fun N g1 g2 => ?_
      rw [tb_one, ← phi_dsum N (by omega)]
      unfold conv
      refine lsum_congr _ fun d hd => ?_
      have hd' := (mem_divs (by omega)).1 hd
      have := Nat.pos_of_dvd_of_pos hd' (by omega)
      have := Nat.le_of_dvd (by omega) hd'
      rw [ath_tbl 4 (by omega) (by omega), tb_four, Int.mul_one]
    unfold sumF_
    rw [if_pos (isTab_tbl 4 h1 h2), e, toldF_is (isTab_tbl 1 h1 h2)]
  rw [e4] at hs
  refine Ev.step (f := ?f0) (fun k => ?a0) ?b0
  case a0 => simp only [laws_FnTablesMultiplied.j6, Bool.false_eq_true, if_false]; exact rfl
  refine (t0 0 (by omega) (by omega)).bind ((t0 2 (by omega) (by omega)).bind ((t0 1 (by omega) (by omega)).bind ((t0 4 (by omega) (by omega)).bind (ho.bind (hs.bind ?_)))))
  simp only [if_true]
  refine (laws_gSame_self (tbl 2 n) (by rw [tbl_len]; omega)).bind ?_
  simp only [if_true]
  refine (laws_gSame_self (tbl 1 n) (by rw [tbl_len]; omega)).bind ?_
  exact law_j7 hz
theorem law_j5 (a m : Int) {z : List Int} (hz : Bytes z) : Ev (fun k => laws_FnTablesMultiplied.j5 k z m (tblF a m).1 (tblF a m).2 false) true := by
  by_cases h : (0 ≤ a ∧ a ≤ 6) ∧ 1 ≤ m ∧ m ≤ 200
  · obtain ⟨n, rfl⟩ := Int.eq_ofNat_of_zero_le (show 0 ≤ m by omega)
    have ev : tblF a (n : Int) = (tbl a n, true) := if_pos h
    rw [ev]
    have h1 : 1 ≤ n := by omega
    have h2 : n ≤ 200 := by omega
    have hsp : Ev (fun k => impl_IsSpread.f k (tbl a n)) (true, true) := by
      rcases spreadV (tbl a n) (isTab_tbl a h1 h2) with ⟨_, _, h3⟩ | ⟨h3, _⟩
      · exact h3
      · refine absurd ?_ h3
        rw [tbl_len]
        exact spread_congrN h1 (fun N g1 g2 => (ath_tbl a g1 g2).symm) (spread_tb h.1.1 h.1.2 h1 h2)
    refine Ev.step (f := ?f0) (fun k => ?a0) ?b0
    case a0 => simp only [laws_FnTablesMultiplied.j5, Bool.false_eq_true, if_false, if_true]; exact rfl
    refine hsp.bind ?_
    simp only [if_true]
    have hne : (((tbl a n).length : Int) != (n : Int)) = false := by rw [bne_eq_false_iff_eq, tbl_len]
    rw [hne]
    exact law_j6 n h1 h2 hz
  · have ev : tblF a m = ([], false) := if_neg h
    rw [ev]
    refine Ev.step (fun k => ?_) (law_drawn hz)
    simp only [laws_FnTablesMultiplied.j5, Bool.false_eq_true, if_false]
theorem law_j4 {z : List Int} (hz : Bytes z) : Ev (fun k => laws_FnTablesMultiplied.j4 k z) true := by
  obtain ⟨a, m, hd⟩ := tableOf_drawn hz
  obtain ⟨h1, h2⟩ := tblF_both a m
  refine Ev.step (f := ?f0) (fun k => ?a0) ?b0
  case a0 => simp only [laws_FnTablesMultiplied.j4, hd, Option.bind_some]; exact rfl
  refine h2.bind (h1.bind ?_)
  simp only [bne_self_eq_false, Bool.false_eq_true, if_false]
  refine (laws_gSame_self (tblF a m).1 (by have := tblF_len a m; omega)).bind ?_
  exact law_j5 a m hz
theorem law_j3 (t : List Int) {z : List Int} (hz : Bytes z) : Ev (fun k => laws_FnTablesMultiplied.j3 k z t (sumF_ t).1 (sumF_ t).2) true := by
  cases hb : (sumF_ t).2
  · refine Ev.step (fun k => ?_) (law_j4 hz)
    simp only [laws_FnTablesMultiplied.j3, Bool.false_eq_true, if_false]
  · have hs : sumF_ t = ((sumF_ t).1, true) := by rw [← hb]
    obtain ⟨s, hs2⟩ : ∃ s, (sumF_ t).1 = s := ⟨_, rfl⟩
    rw [hs2] at hs ⊢
    have ht : isTab t = true := by
      apply Decidable.byContradiction
      intro hn
      unfold sumF_ at hs
      rw [if_neg hn] at hs
      injection hs with _ h
      cases h
    have hl := isTab_len ht
    unfold sumF_ at hs
    rw [if_pos ht] at hs
    obtain ⟨e1, e2⟩ := toldF_ok hs
    have hsl : s.length = t.length := by rw [e1, tabOf_len]
    have hst : isTab s = true := by rw [e1]; exact e2
    have h5 : Ev (fun k => impl_TableOf.f k 5 (t.length : Int)) (tbl 5 t.length, true) := by
      have := (tblF_both 5 (t.length : Int)).2
      rwa [show tblF 5 (t.length : Int) = (tbl 5 t.length, true) from if_pos ⟨by omega, by omega, by omega⟩] at this
    have ho := (overF_both s (tbl 5 t.length)).2
    rw [overF_is (c := t) hst (isTab_tbl 5 hl.1 hl.2) (by rw [tbl_len, hsl]) ht hsl.symm (fun N g1 g2 => by
      rw [hsl] at g2
      rw [← conv_signs (ath t) N (by omega)]
      refine conv_congr N (by omega) (fun d q1 q2 => ?_) fun d q1 q2 => ?_
      · rw [e1, ath_tabOf _ q1 (by omega)]
      · rw [ath_tbl 5 q1 (by omega), tb_five])] at ho
    refine Ev.step (f := ?f0) (fun k => ?a0) ?b0
    case a0 => simp only [laws_FnTablesMultiplied.j3, if_true]; exact rfl
    refine h5.bind (ho.bind ?_)
    simp only [if_true]
    refine (laws_gSame_self t (by omega)).bind ?_
    simp only [if_true]
    exact law_j4 hz
theorem law_j2 (t : List Int) {z : List Int} (hz : Bytes z) : Ev (fun k => laws_FnTablesMultiplied.j2 k z t (undoF t).1 (undoF t).2 (sumF_ t).1 (sumF_ t).2 false) true := by
  have key := law_j3 t hz
  cases hb : (undoF t).2
  · refine Ev.step (fun k => ?_) key
    simp only [laws_FnTablesMultiplied.j2, Bool.false_eq_true, if_false]
  · have hs : undoF t = ((undoF t).1, true) := by rw [← hb]
    obtain ⟨c, hc2⟩ : ∃ c, (undoF t).1 = c := ⟨_, rfl⟩
    rw [hc2] at hs ⊢
    obtain ⟨ht, h1, hcl, hct, hcu⟩ := undoF_ok hs
    have hl := isTab_len ht
    have h6 : Ev (fun k => impl_TableOf.f k 6 (t.length : Int)) (tbl 6 t.length, true) := by
      have := (tblF_both 6 (t.length : Int)).2
      rwa [show tblF 6 (t.length : Int) = (tbl 6 t.length, true) from if_pos ⟨by omega, by omega, by omega⟩] at this
    have ho := (overF_both t c).2
    rw [overF_is (c := tbl 6 t.length) ht hct hcl (isTab_tbl 6 hl.1 hl.2) (tbl_len _ _) (fun N g1 g2 => by rw [ath_tbl 6 g1 g2, tb_six]; exact hcu N g1 g2)] at ho
    have hc1 : ath c 1 = 1 ∨ ath c 1 = -1 := by
      have h2 := hcu 1 (Nat.le_refl 1) hl.1
      rw [conv_first] at h2
      have h3 : unitF 1 = 1 := rfl
      rw [h3] at h2
      rcases h1 with e | e
      · rw [e] at h2; omega
      · rw [e] at h2; omega
    have hu := (undoV_both c).2
    rw [undoF_is hct hc1 ht hcl.symm (fun N g1 g2 => by rw [conv_comm _ _ N (by omega)]; exact hcu N g1 (by omega))] at hu
    refine Ev.step (f := ?f0) (fun k => ?a0) ?b0
    case a0 => simp only [laws_FnTablesMultiplied.j2, Bool.false_eq_true, if_false, if_true]; exact rfl
    refine h6.bind (ho.bind (hu.bind ?_))
    simp only [if_true]
    refine (laws_gSame_self (tbl 6 t.length) (by rw [tbl_len]; omega)).bind ?_
    simp only [if_true]
    refine (laws_gSame_self t (by omega)).bind ?_
    simp only [if_true]
    exact key
theorem law_j1 {z : List Int} (hz : Bytes z) : Ev (fun k => laws_FnTablesMultiplied.j1 k z) true := by
  obtain ⟨t, ht⟩ := undo_drawn hz
  obtain ⟨u1, u2⟩ := undoV_both t
  obtain ⟨s1, s2⟩ := sumF_both t
  refine Ev.step (f := ?f0) (fun k => ?a0) ?b0
  case a0 => simp only [laws_FnTablesMultiplied.j1]; exact rfl
  refine ht.bind (u2.bind (u1.bind (s2.bind (s1.bind ?_))))
  simp only [bne_self_eq_false, Bool.false_eq_true, if_false]
  refine (laws_gSame_self (undoF t).1 (by have := undoF_len t; omega)).bind ?_
  simp only [if_true]
  refine (laws_gSame_self (sumF_ t).1 (by have := sumF_len t; omega)).bind ?_
  exact law_j2 t hz
theorem law_j0 (x y : List Int) {z : List Int} (hz : Bytes z) (v : Bool × Bool) (hv : isTab x = true → v.2 = true ∧ (v.1 = true ↔ Spread (ath x) x.length)) : Ev (fun k => laws_FnTablesMultiplied.j0 k z x y (overF x y).1 (overF x y).2 v.1 v.2 false) true := by
  have key := law_j1 hz
  cases hb : (overF x y).2
  · refine Ev.step (fun k => ?_) key
    simp only [laws_FnTablesMultiplied.j0, Bool.false_eq_true, if_false]
  · have hs : overF x y = ((overF x y).1, true) := by rw [← hb]
    obtain ⟨c, hc2⟩ : ∃ c, (overF x y).1 = c := ⟨_, rfl⟩
    rw [hc2] at hs ⊢
    obtain ⟨hx, hy, hl, hc, hct⟩ := overF_ok hs
    have hn := isTab_len hx
    have hcl : c.length = x.length := by rw [hc, tabOf_len]
    obtain ⟨g1, g2⟩ := hv hx
    obtain ⟨p, _, p2, p3⟩ := spread_any y
    obtain ⟨p4, p5⟩ := p3 hy
    obtain ⟨q, _, q2, q3⟩ := spread_any c
    obtain ⟨q4, q5⟩ := q3 hct
    have ho := (overF_both y x).2
    rw [overF_comm, hs] at ho
    have hz : v.1 = true → p.1 = true → q.1 = true := by
      intro e1 e2
      have s1 := g2.1 e1
      have s2 := p5.1 e2
      rw [hl] at s2
      refine q5.2 ?_
      rw [hcl]
      exact spread_congrN hn.1 (fun N r1 r2 => by rw [hc, ath_tabOf _ r1 r2]) (spread_conv _ _ _ s1 s2)
    have h0 : rd c 0 = wrap64 (rd x 0 * rd y 0) := by
      have e1 := ath_tabOf (conv (ath x) (ath y)) (n := x.length) (m := 1) (Nat.le_refl 1) hn.1
      rw [← hc, conv_first] at e1
      have e2 : rd c 0 = ath x 1 * ath y 1 := e1
      have hb := prod_bd (isTab_at hx 0) (isTab_at hy 0)
      have e3 : wrap64 (rd x 0 * rd y 0) = rd x 0 * rd y 0 := wri (by have := hb.1; simp only [Int.natCast_zero] at this; omega) (by have := hb.2; simp only [Int.natCast_zero] at this; omega)
      rw [e3]
      exact e2
    refine Ev.step (f := ?f0) (fun k => ?a0) ?b0
    case a0 => simp only [laws_FnTablesMultiplied.j0, Bool.false_eq_true, if_false, if_true]; exact rfl
    refine ho.bind (p2.bind (q2.bind ?_))
    simp only [g1, p4, q4, if_true]
    refine (laws_gSame_self c (by omega)).bind ?_
    simp only [if_true, if_pos (show 0 < (c.length : Int) by omega), if_pos (show 0 < (x.length : Int) by omega), if_pos (show 0 < (y.length : Int) by omega), if_pos h0]
    cases e1 : v.1
    · simp only [Bool.false_eq_true, if_false]
      exact key
    · simp only [if_true]
      cases e2 : p.1
      · simp only [Bool.false_eq_true, if_false]
        exact key
      · simp only [if_true, hz e1 e2]
        exact key
theorem FnTablesMultiplied : laws_FnTablesMultiplied.Pure := by
  intro l0 l1 _ _ h0 _ _ h1
  apply Ev.rounds
  have hz0 := bytes_of h0
  have hz := bytes_of h1
  obtain ⟨⟨x, y⟩, hd⟩ := over_drawn hz0
  obtain ⟨o1, o2⟩ := overF_both x y
  obtain ⟨v, v1, v2, v3⟩ := spread_any x
  unfold laws_FnTablesMultiplied.f laws_big.f
  by_cases hc : (l0.length : Int) > 1048576
  · simp only [if_pos hc, Option.bind_some, if_true]; exact Ev.now _
  · simp only [if_neg hc, Option.bind_some]
    by_cases hc2 : (l1.length : Int) > wrap64 (1048576 - (l0.length : Int))
    · simp only [decide_eq_true hc2, if_true]; exact Ev.now _
    · simp only [decide_eq_false hc2, Bool.false_eq_true, if_false]
      refine hd.bind (o2.bind (o1.bind (v2.bind (v1.bind ?_))))
      simp only [bne_self_eq_false, Bool.false_eq_true, if_false]
      refine (laws_gSame_self (overF x y).1 (by have := overF_len x y; omega)).bind ?_
      simp only [if_true]
      exact law_j0 x y hz v v3
end Go.Proofs.Ytfhfbicejddoiaa.Pure
