/- FnSumsOfSquaresOfAll answers as the reference does, for every argument. -/
import Derived.Test.YtfhfbicejddoiaaPFnSumsOfSquaresOfAllx7
import Derived.Test.YtfhfbicejddoiaaNtC
import Derived.Test.YtfhfbicejddoiaaNtK
import Derived.Test.YtfhfbicejddoiaaNtM
import Derived.Test.YtfhfbicejddoiaaNtW
namespace Go.Proofs.Ytfhfbicejddoiaa.Pure
set_option linter.unusedVariables false
open Go Go.RowKit Go.Proofs.Ytfhfbicejddoiaa.PFnSumsOfSquaresOfAll Go.Proofs.YtfhfbicejddoiaaW.PrintWords Go.Proofs.YtfhfbicejddoiaaW.PrintLast Go.Proofs.Ytfhfbicejddoiaa.Nt
theorem Ev.done {α : Type} {g : Nat → Option α} {r : α} (h : ∀ k, g (k + 1) = some r) : Ev g r := Ev.step (f := fun _ => some r) h (Ev.now r)
theorem Ev.const {α : Type} {g : Nat → Option α} {r : α} (h : ∀ k, g k = some r) : Ev g r := Ev.congr (f := fun _ => some r) h (Ev.now r)
theorem wr {a : Nat} (h : a < 9223372036854775808) : wrap64 (a : Int) = a := by unfold wrap64; omega
theorem wri {a : Int} (h0 : -9223372036854775808 ≤ a) (h : a < 9223372036854775808) : wrap64 a = a := by unfold wrap64; omega
theorem wr_mul {a b : Nat} (h : a * b < 9223372036854775808) : wrap64 ((a : Int) * b) = ((a * b : Nat) : Int) := by rw [← Int.natCast_mul]; exact wr h
theorem wr_succ {a : Nat} (h : a < 9223372036854775807) : wrap64 ((a : Int) + 1) = ((a + 1 : Nat) : Int) := wr (a := a + 1) (by omega)
theorem wr_tdiv {a b : Nat} (h : a < 9223372036854775808) : wrap64 (Int.tdiv (a : Int) b) = ((a / b : Nat) : Int) := wr (a := a / b) (Nat.lt_of_le_of_lt (Nat.div_le_self a b) h)
theorem tm (a b : Nat) : Int.tmod (a : Int) b = ((a % b : Nat) : Int) := rfl
theorem sq_lt {a b : Nat} (h : a ≤ 3037000499) (k : b ≤ 3037000499) : a * b < 9223372036854775808 := Nat.lt_of_le_of_lt (Nat.mul_le_mul h k) (by decide)
theorem spec_l1In_eq (a b c : Int) : spec_l1In.f a b c = some (decide (b ≤ a ∧ a ≤ c)) := by
  unfold spec_l1In.f
  by_cases h : a ≥ b
  · rw [if_pos h, decide_eq_decide.2 (show a ≤ c ↔ b ≤ a ∧ a ≤ c from ⟨fun k => ⟨h, k⟩, fun k => k.2⟩)]
  · rw [if_neg h, decide_eq_false (fun k => h k.1)]
theorem spec_sqGood_eq (a : Int) : spec_sqGood.f a = some (decide (1 ≤ a ∧ a ≤ 100000)) := by
  unfold spec_sqGood.f; rw [spec_l1In_eq]; rfl
theorem impl_isAsked_eq (a : Int) : impl_isAsked.f a = some (decide (1 ≤ a ∧ a ≤ 100000)) := by
  unfold impl_isAsked.f
  by_cases h : a ≥ 1
  · rw [if_pos h, decide_eq_decide.2 (show a ≤ 100000 ↔ 1 ≤ a ∧ a ≤ 100000 from ⟨fun k => ⟨h, k⟩, fun k => k.2⟩)]
  · rw [if_neg h, decide_eq_false (fun k => h k.1)]
theorem facs_len : ∀ (n : Nat), (facs n).length ≤ n := by
  intro n
  induction n using Nat.strongRecOn with
  | _ n ih =>
    by_cases h : n < 2
    · rw [facs_small h]; simp
    · have hn : 2 ≤ n := by omega
      have := rs_lt (lf_two_le hn) (by omega) (lf_dvd hn)
      have := ih _ this
      rw [facs_cons hn, List.length_cons]; omega
/-- A list of primes and exponents as the program's rows. -/
def rowsOf (l : List (Nat × Nat)) : List (List Int) := l.map fun f => [(f.1 : Int), (f.2 : Int)]
theorem getD_mid {α : Type} (pre : List α) (x : α) (l : List α) (d : α) : (pre ++ x :: l).getD pre.length d = x := by simp
theorem rows_get (pre : List (Nat × Nat)) (x : Nat × Nat) (l : List (Nat × Nat)) : (rowsOf (pre ++ x :: l)).getD pre.length [] = [(x.1 : Int), (x.2 : Int)] := by
  simp [rowsOf]
theorem rows_len (l : List (Nat × Nat)) : (rowsOf l).length = l.length := by simp [rowsOf]
theorem impl_leastFactor_l (n : Nat) (h2 : 2 ≤ n) (hn : n ≤ 2000000000) : ∀ (j d : Nat), n + 1 ≤ d + j → 2 ≤ d → d ≤ n + 1 → Above d n → Ev (fun k => impl_leastFactor.l0 k n d) (lf n : Int) := by
  have hend : ∀ d : Nat, d ≤ n + 1 → n < d * d → Above d n → Ev (fun k => impl_leastFactor.l0 k n d) (lf n : Int) := by
    intro d hd hlt ha
    rw [lf_eq h2 (isLf_self h2 hlt (fun m hm hmd hmn => by have := ha m hm hmn; omega))]
    refine Ev.done fun k => ?_
    simp only [impl_leastFactor.l0]
    rw [wr_mul (sq_lt (by omega) (by omega)), if_neg (by omega)]
  intro j
  induction j with
  | zero =>
    intro d hj hd2 hd ha
    exact hend d hd (by have := Nat.mul_le_mul_right d hd2; omega) ha
  | succ j ih =>
    intro d hj hd2 hd ha
    by_cases hlt : n < d * d
    · exact hend d hd hlt ha
    · have hdn : d ≤ n := by have := Nat.mul_le_mul_right d hd2; omega
      by_cases hm : n % d = 0
      · rw [(ha.lf hd2 (by omega) (Nat.dvd_of_mod_eq_zero hm)).2]
        refine Ev.done fun k => ?_
        simp only [impl_leastFactor.l0]
        rw [wr_mul (sq_lt (by omega) (by omega)), tm, if_pos (by omega), if_neg (by omega), if_pos (by omega)]
      · refine Ev.step (fun k => ?_) (ih (d + 1) (by omega) (by omega) (by omega) (ha.succ (fun h => hm (Nat.mod_eq_zero_of_dvd h))))
        simp only [impl_leastFactor.l0]
        rw [wr_mul (sq_lt (by omega) (by omega)), tm, if_pos (by omega), if_neg (by omega), if_neg (by omega), wr_succ (by omega)]
theorem impl_leastFactor_ev (n : Nat) (h2 : 2 ≤ n) (hn : n ≤ 2000000000) : Ev (fun k => impl_leastFactor.f k n) (lf n : Int) :=
  impl_leastFactor_l n h2 hn n 2 (by omega) (Nat.le_refl _) (by omega) (Above.two n)
theorem impl_factors_l1 (p : Nat) (hp : 2 ≤ p) : ∀ (n : Nat) (acc : List (List Int)) (e : Nat) {v : List (List Int)}, 0 < n → n ≤ 2000000000 → e + n ≤ 4000000000 → p ≤ 2000000000 → acc.length + 1 ≤ 3000000000 →
    Ev (fun k => impl_factors.l0 k (rs p n) (acc ++ [[(p : Int), ((e + vl p n : Nat) : Int)]])) v → Ev (fun k => impl_factors.l1 k n acc p e) v := by
  intro n
  induction n using Nat.strongRecOn with
  | _ n ih =>
    intro acc e v h0 hn he hpb hl h
    by_cases hd : p ∣ n
    · obtain ⟨c, rfl⟩ := hd
      have hc0 : 0 < c := by
        rcases Nat.eq_zero_or_pos c with h | h
        · subst h; simp at h0
        · exact h
      have hlt : c < p * c := by have := Nat.mul_le_mul_right c hp; omega
      rw [rs_mul_self hp hc0, vl_mul_self hp hc0] at h
      refine Ev.step (fun k => ?_) (ih c hlt acc (e + 1) (v := v) hc0 (by omega) (by omega) hpb hl (by rw [show e + 1 + vl p c = e + (vl p c + 1) by omega]; exact h))
      simp only [impl_factors.l1]
      rw [tm, if_neg (by omega), if_pos (by simp), wr_tdiv (by omega), wr_succ (by omega), Nat.mul_div_cancel_left c (by omega)]
    · rw [rs_of_not_dvd hp h0 hd, vl_zero hp h0 hd] at h
      refine Ev.step (fun k => ?_) h
      simp only [impl_factors.l1]
      have : n % p ≠ 0 := fun hm => hd (Nat.dvd_of_mod_eq_zero hm)
      rw [tm, if_neg (by omega), if_neg (by omega), if_pos (by omega), Nat.add_zero]
theorem impl_factors_l0 : ∀ (n : Nat) (acc : List (List Int)), n ≤ 1000000000 → acc.length + n ≤ 2000000000 → Ev (fun k => impl_factors.l0 k n acc) (acc ++ rowsOf (facs n)) := by
  intro n
  induction n using Nat.strongRecOn with
  | _ n ih =>
    intro acc hn hl
    by_cases h : n < 2
    · rw [facs_small h]
      refine Ev.done fun k => ?_
      simp only [impl_factors.l0]
      rw [if_neg (by omega)]
      simp [rowsOf]
    · have h2 : 2 ≤ n := by omega
      have hp := lf_two_le h2
      have hple := lf_le h2
      have hlt := rs_lt hp (by omega) (lf_dvd h2)
      have key : Ev (fun k => impl_factors.l1 k n acc (lf n) 0) (acc ++ rowsOf (facs n)) := by
        have := ih _ hlt (acc ++ [[(lf n : Int), ((0 + vl (lf n) n : Nat) : Int)]]) (by omega) (by rw [List.length_append, List.length_singleton]; omega)
        refine impl_factors_l1 (lf n) hp n acc 0 (by omega) (by omega) (by omega) (by omega) (by omega) ?_
        rw [facs_cons h2]
        rw [List.append_assoc] at this
        simpa [rowsOf] using this
      refine Ev.step (f := fun k => (impl_leastFactor.f k n).bind fun t => impl_factors.l1 k n acc t 0) (fun k => ?_) ((impl_leastFactor_ev n h2 (by omega)).bind key)
      simp only [impl_factors.l0]
      rw [if_pos (by omega)]
theorem impl_factors_ev (n : Nat) (hn : n ≤ 1000000000) : Ev (fun k => impl_factors.f k n) (rowsOf (facs n)) := by
  have := impl_factors_l0 n [] hn (by simp; omega)
  exact this
/-- A list of naturals as the program's ints. -/
def ints (l : List Nat) : List Int := l.map fun d : Nat => (d : Int)
theorem ints_len (l : List Nat) : (ints l).length = l.length := by simp [ints]
theorem ints_app (l m : List Nat) : ints l ++ ints m = ints (l ++ m) := by simp [ints]
theorem ints_get (pre : List Nat) (x : Nat) (l : List Nat) : rd (ints (pre ++ x :: l)) (pre.length : Int) = x := by
  unfold rd
  rw [Int.toNat_natCast]
  simp [ints]
theorem ints_take (l m : List Nat) : (ints (l ++ m)).take ((l.length : Nat) : Int).toNat = ints l := by
  rw [Int.toNat_natCast]
  unfold ints
  rw [List.map_append, List.take_left' (by simp)]
theorem expand_pre (D : List Nat) (p : Nat) : ∀ e, ∃ r, expand D p e = D ++ r
  | 0 => ⟨[], by simp [expand]⟩
  | e + 1 => by
    obtain ⟨r, hr⟩ := expand_pre D p e
    exact ⟨r ++ D.map (· * p ^ (e + 1)), by simp only [expand]; rw [hr, List.append_assoc]⟩
theorem impl_divisors_l2 (f : List Int) (b : Int) (rows : List (List Int)) (n3 ri ex jj : Int) (m : Nat) {v : List Int} : ∀ (suf pre acc : List Nat), (∀ d ∈ suf, d * m < 9223372036854775808) → (acc.length + suf.length) ≤ 4000000000 → (pre ++ suf).length ≤ 4000000000 →
    Ev (fun k => impl_divisors.l1 k (ints (acc ++ suf.map (· * m))) f b m rows n3 ri ex (wrap64 (jj + 1))) v →
    Ev (fun k => impl_divisors.l2 k (ints acc) f b m rows n3 ri ex jj (ints (pre ++ suf)) ((pre ++ suf).length : Nat) (pre.length : Nat)) v
  | [], pre, acc, _, _, _, h => by
    refine Ev.step (fun k => ?_) h
    simp only [impl_divisors.l2]
    rw [if_neg (by simp), List.map_nil, List.append_nil]
  | d :: suf, pre, acc, hb, hl, hl2, h => by
    have hlen : (pre ++ d :: suf).length = pre.length + 1 + suf.length := by simp; omega
    have hsl : (d :: suf).length = suf.length + 1 := by simp
    have ih := impl_divisors_l2 f b rows n3 ri ex jj m (v := v) suf (pre ++ [d]) (acc ++ [d * m]) (fun x hx => hb x (by simp [hx])) (by simp; omega) (by simp; omega) (by simpa using h)
    rw [List.append_assoc] at ih
    simp only [List.singleton_append] at ih
    refine Ev.step (fun k => ?_) ih
    simp only [impl_divisors.l2]
    have hil := ints_len (pre ++ d :: suf)
    have hal := ints_len acc
    rw [if_pos (by omega), if_pos (by omega), if_pos (by omega), if_pos (by omega), ints_get, wr_mul (hb d (by simp)), wr_succ (by omega)]
    congr 1
    · simp [ints]
    · simp
theorem impl_divisors_l1 (rows : List (List Int)) (n3 ri : Int) (p e : Nat) (D : List Nat) (N : Nat) (hN : N ≤ 1000000000) (hp : 2 ≤ p) (hpe : p ^ e ≤ N) (hl : D.length * (e + 1) ≤ N) (hb : ∀ d ∈ D, d * p ^ e ≤ N) {v : List Int}
    (h : Ev (fun k => impl_divisors.l0 k (ints (expand D p e)) rows n3 (wrap64 (ri + 1))) v) : ∀ (r j : Nat), j + r = e → 
    Ev (fun k => impl_divisors.l1 k (ints (expand D p j)) [(p : Int), (e : Int)] (D.length : Nat) ((p ^ j : Nat) : Int) rows n3 ri (e : Int) (j : Int)) v
  | 0, j, hj => by
    have : j = e := by omega
    subst this
    refine Ev.step (fun k => ?_) h
    simp only [impl_divisors.l1]
    rw [if_neg (by omega)]
  | r + 1, j, hj => by
    have ih := impl_divisors_l1 rows n3 ri p e D N hN hp hpe hl hb h r (j + 1) (by omega)
    have hpj : p ^ (j + 1) ≤ p ^ e := Nat.pow_le_pow_right (by omega) (by omega)
    have hle := expand_len D p j
    have hle1 := expand_len D p (j + 1)
    have hm1 : D.length * (j + 1) ≤ D.length * (e + 1) := Nat.mul_le_mul_left _ (by omega)
    have hm0 : D.length ≤ D.length * (j + 1) := Nat.le_mul_of_pos_right _ (by omega)
    have hee : e < p ^ e := by have := succ_le_pow hp e; omega
    have hrd : rd [(p : Int), (e : Int)] 0 = p := rfl
    obtain ⟨t, ht⟩ := expand_pre D p j
    have hpos : 0 < p ^ (j + 1) := Nat.pow_pos (by omega)
    have hw : wrap64 (((p ^ j : Nat) : Int) * p) = ((p ^ (j + 1) : Nat) : Int) := by
      rw [wr_mul (Nat.lt_of_le_of_lt (Nat.le_of_eq (Nat.pow_succ (n := p) (m := j)).symm) (show p ^ (j + 1) < 9223372036854775808 by omega)), Nat.pow_succ]
    have key := impl_divisors_l2 [(p : Int), (e : Int)] (D.length : Nat) rows n3 ri e j (p ^ (j + 1)) (v := v) D [] (expand D p j) (fun d hd => by
      have h1 := hb d hd
      have h2 : d * p ^ (j + 1) ≤ d * p ^ e := Nat.mul_le_mul_left _ hpj
      omega) (by rw [hle]; omega) (by simp; omega) (by rw [wr_succ (by omega)]; exact ih)
    simp only [List.nil_append, List.length_nil] at key
    refine Ev.step (fun k => ?_) key
    simp only [impl_divisors.l1]
    rw [if_pos (by omega), if_pos (by simp), if_pos (by omega), if_pos (by rw [ints_len, hle]; omega), hrd, hw]
    rw [show (ints (expand D p j)).take ((D.length : Nat) : Int).toNat = ints D by rw [ht]; exact ints_take D t]
    simp only [Option.bind_some]
    rw [ints_len]
    rfl
theorem impl_divisors_l0 (N : Nat) (hN : N ≤ 1000000000) : ∀ (l pre : List (Nat × Nat)) (D : List Nat) {c : Nat}, IsFac c l → D.length * fprod l ≤ N → fprod l ≤ N → (∀ d ∈ D, d * fprod l ≤ N) → (pre ++ l).length ≤ 2000000000 →
    Ev (fun k => impl_divisors.l0 k (ints D) (rowsOf (pre ++ l)) ((pre ++ l).length : Nat) (pre.length : Nat)) ((ints (rawL l D)).mergeSort fun x y => decide (x ≤ y))
  | [], pre, D, _, _, h1, _, _, hl => by
    refine Ev.done fun k => ?_
    simp only [impl_divisors.l0]
    simp only [fprod, Nat.mul_one] at h1
    rw [if_neg (by simp)]
    unfold slices_Sort_int_int.f
    rw [if_pos (by rw [ints_len]; omega)]
    rfl
  | (p, e) :: l, pre, D, _, hf, h1, h2, hb, hl => by
    have hlen : (pre ++ (p, e) :: l).length = pre.length + 1 + l.length := by simp; omega
    have hlr := rows_len (pre ++ (p, e) :: l)
    have hget : rd_L1 (rowsOf (pre ++ (p, e) :: l)) (pre.length : Int) = [(p : Int), (e : Int)] := by
      unfold rd_L1; rw [Int.toNat_natCast]; exact rows_get pre (p, e) l
    have hp := hf.2.1.two_le
    have hfp : 0 < fprod l := fprod_pos hf.2.2.2
    have hee : e + 1 ≤ p ^ e := succ_le_pow hp e
    simp only [fprod] at h1 h2 hb
    have hpe : p ^ e ≤ p ^ e * fprod l := Nat.le_mul_of_pos_right _ hfp
    have hd1 : D.length * (e + 1) * fprod l ≤ D.length * (p ^ e * fprod l) := by rw [Nat.mul_assoc]; exact Nat.mul_le_mul_left _ (Nat.mul_le_mul_right _ hee)
    have hd2 : D.length * (e + 1) ≤ D.length * (e + 1) * fprod l := Nat.le_mul_of_pos_right _ hfp
    have hfl : fprod l ≤ p ^ e * fprod l := Nat.le_mul_of_pos_left _ (Nat.pow_pos (by omega))
    have ih := impl_divisors_l0 N hN l (pre ++ [(p, e)]) (expand D p e) hf.2.2.2 (by rw [expand_len]; omega) (by omega) (fun x hx => by
      obtain ⟨d, j, hd, hj, rfl⟩ := (mem_expand D p x e).1 hx
      have h3 := hb d hd
      have h4 : p ^ j ≤ p ^ e := Nat.pow_le_pow_right (by omega) hj
      have h5 : d * p ^ j * fprod l ≤ d * (p ^ e * fprod l) := by rw [Nat.mul_assoc]; exact Nat.mul_le_mul_left _ (Nat.mul_le_mul_right _ h4)
      omega) (by simpa using hl)
    rw [List.append_assoc] at ih
    simp only [List.singleton_append, List.length_append, List.length_singleton] at ih
    have key := impl_divisors_l1 (rowsOf (pre ++ (p, e) :: l)) ((pre ++ (p, e) :: l).length : Nat) (pre.length : Nat) p e D N hN hp (by omega) (by omega) (fun d hd => by
      have h3 := hb d hd
      have h5 : d * p ^ e ≤ d * (p ^ e * fprod l) := Nat.mul_le_mul_left _ hpe
      omega) (by rw [wr_succ (by omega)]; rw [hlen]; rw [List.length_cons] at ih; rw [show pre.length + (l.length + 1) = pre.length + 1 + l.length by omega] at ih; exact ih) e 0 (by omega)
    refine Ev.step (fun k => ?_) key
    simp only [impl_divisors.l0]
    have hr1 : rd [(p : Int), (e : Int)] 1 = e := rfl
    rw [if_pos (by omega), if_pos (by omega), if_pos (by omega), hget, if_pos (by simp), hr1, ints_len]
    rfl
theorem impl_divisors_ev (n : Nat) (h0 : 0 < n) (hn : n ≤ 1000000000) : Ev (fun k => impl_divisors.f k n) (ints (divs n)) := by
  have hl := facs_len n
  have h := impl_divisors_l0 n hn (facs n) [] [1] (facs_fac h0) (by rw [fprod_facs h0]; simp) (by rw [fprod_facs h0]; exact Nat.le_refl _) (fun d hd => by rw [fprod_facs h0]; rw [List.mem_singleton] at hd; rw [hd, Nat.one_mul]; exact Nat.le_refl _) (by simpa using (by omega : (facs n).length ≤ 2000000000))
  rw [show ints (divs n) = (ints (rawL (facs n) [1])).mergeSort fun x y => decide (x ≤ y) from (sort_raw h0).symm]
  refine (impl_factors_ev n hn).bind ?_
  rw [rows_len]
  exact h
def gst (s : Int) (x : Int) : Int := if Int.tmod x 4 = 1 then wrap64 (s + 4) else if Int.tmod x 4 = 3 then wrap64 (s - 4) else s
theorem spec_CountAsTwo_l (n : Nat) (hn : n ≤ 100000) : ∀ (r i : Nat), 1 ≤ i → i ≤ n + 1 → n + 1 ≤ i + r → Ev (fun k => spec_CountAsTwo.l0 k n ((ints ((List.range i).filter (dv n))).foldl gst 0) i) ((ints (divs n)).foldl gst 0, true) := by
  have hend : Ev (fun k => spec_CountAsTwo.l0 k n ((ints ((List.range (n + 1)).filter (dv n))).foldl gst 0) ((n + 1 : Nat) : Int)) ((ints (divs n)).foldl gst 0, true) := by
    refine Ev.done fun k => ?_
    simp only [spec_CountAsTwo.l0]
    rw [if_neg (by omega)]
    rfl
  intro r
  induction r with
  | zero =>
    intro i h1 h2 h3
    obtain rfl : i = n + 1 := by omega
    exact hend
  | succ r ih =>
    intro i h1 h2 h3
    by_cases h : i = n + 1
    · subst h; exact hend
    · have key := ih (i + 1) (by omega) (by omega) (by omega)
      have hmod := tm n i
      refine Ev.step (fun k => ?_) key
      simp only [spec_CountAsTwo.l0]
      rw [if_pos (by omega), if_neg (by omega), hmod, wr_succ (by omega), List.range_succ, List.filter_append]
      by_cases hd : n % i = 0
      · have hdv : [i].filter (dv n) = [i] := by simp [dv, hd, h1]
        rw [if_pos (by omega), hdv]
        rw [show ints (((List.range i).filter (dv n)) ++ [i]) = ints ((List.range i).filter (dv n)) ++ [(i : Int)] by simp [ints], List.foldl_append]
        generalize (ints ((List.range i).filter (dv n))).foldl gst 0 = s
        simp only [List.foldl_cons, List.foldl_nil, gst]
        repeat' split
        all_goals rfl
      · have hdv : [i].filter (dv n) = [] := by simp [dv, hd]
        rw [if_neg (by omega), hdv, List.append_nil]
theorem impl_CountAsTwo_l : ∀ (suf pre : List Nat) (s : Int), (pre ++ suf).length ≤ 4000000000 → Ev (fun k => impl_CountAsTwo.l0 k s (ints (pre ++ suf)) ((pre ++ suf).length : Nat) (pre.length : Nat)) ((ints suf).foldl gst s, true)
  | [], pre, s, _ => by
    refine Ev.done fun k => ?_
    simp only [impl_CountAsTwo.l0]
    rw [if_neg (by simp)]
    rfl
  | x :: suf, pre, s, hl => by
    have hlen : (pre ++ x :: suf).length = pre.length + 1 + suf.length := by simp; omega
    have hil := ints_len (pre ++ x :: suf)
    have ih := impl_CountAsTwo_l suf (pre ++ [x]) (gst s x) (by simpa using hl)
    rw [List.append_assoc] at ih
    simp only [List.singleton_append, List.length_append, List.length_singleton] at ih
    refine Ev.step (fun k => ?_) ih
    simp only [impl_CountAsTwo.l0]
    rw [if_pos (by omega), if_pos (by omega), if_pos (by omega), ints_get, wr_succ (by omega)]
    simp only [gst, List.length_append]
    repeat' split
    all_goals rfl
theorem spec_CountAsTwo_ev (n : Nat) (h0 : 0 < n) (hn : n ≤ 100000) : Ev (fun k => spec_CountAsTwo.f k n) ((ints (divs n)).foldl gst 0, true) := by
  unfold spec_CountAsTwo.f
  rw [spec_sqGood_eq, decide_eq_true (by omega)]
  simp only [Option.bind_some, if_true]
  exact spec_CountAsTwo_l n hn n 1 (by omega) (by omega) (by omega)
theorem impl_CountAsTwo_ev (n : Nat) (h0 : 0 < n) (hn : n ≤ 100000) : Ev (fun k => impl_CountAsTwo.f k n) ((ints (divs n)).foldl gst 0, true) := by
  unfold impl_CountAsTwo.f
  rw [impl_isAsked_eq, decide_eq_true (by omega)]
  simp only [Option.bind_some, if_true]
  refine (impl_divisors_ev n h0 (by omega)).bind ?_
  have h1 := divs_len h0
  rw [ints_len]
  exact impl_CountAsTwo_l (divs n) [] 0 (by rw [List.nil_append]; omega)
def gst4 (s : Int) (x : Int) : Int := if Int.tmod x 4 = 0 then s else wrap64 (s + wrap64 (8 * x))
theorem spec_CountAsFour_l (n : Nat) (hn : n ≤ 100000) : ∀ (r i : Nat), 1 ≤ i → i ≤ n + 1 → n + 1 ≤ i + r → Ev (fun k => spec_CountAsFour.l0 k n ((ints ((List.range i).filter (dv n))).foldl gst4 0) i) ((ints (divs n)).foldl gst4 0, true) := by
  have hend : Ev (fun k => spec_CountAsFour.l0 k n ((ints ((List.range (n + 1)).filter (dv n))).foldl gst4 0) ((n + 1 : Nat) : Int)) ((ints (divs n)).foldl gst4 0, true) := by
    refine Ev.done fun k => ?_
    simp only [spec_CountAsFour.l0]
    rw [if_neg (by omega)]
    rfl
  intro r
  induction r with
  | zero =>
    intro i h1 h2 h3
    obtain rfl : i = n + 1 := by omega
    exact hend
  | succ r ih =>
    intro i h1 h2 h3
    by_cases h : i = n + 1
    · subst h; exact hend
    · have key := ih (i + 1) (by omega) (by omega) (by omega)
      have hmod := tm n i
      refine Ev.step (fun k => ?_) key
      simp only [spec_CountAsFour.l0]
      rw [if_pos (by omega), if_neg (by omega), hmod, wr_succ (by omega), List.range_succ, List.filter_append]
      by_cases hd : n % i = 0
      · have hdv : [i].filter (dv n) = [i] := by simp [dv, hd, h1]
        rw [if_pos (by omega), hdv]
        rw [show ints (((List.range i).filter (dv n)) ++ [i]) = ints ((List.range i).filter (dv n)) ++ [(i : Int)] by simp [ints], List.foldl_append]
        generalize (ints ((List.range i).filter (dv n))).foldl gst4 0 = s
        simp only [List.foldl_cons, List.foldl_nil, gst4]
        repeat' split
        all_goals rfl
      · have hdv : [i].filter (dv n) = [] := by simp [dv, hd]
        rw [if_neg (by omega), hdv, List.append_nil]
theorem impl_CountAsFour_l : ∀ (suf pre : List Nat) (s : Int), (pre ++ suf).length ≤ 4000000000 → Ev (fun k => impl_CountAsFour.l0 k s (ints (pre ++ suf)) ((pre ++ suf).length : Nat) (pre.length : Nat)) ((ints suf).foldl gst4 s, true)
  | [], pre, s, _ => by
    refine Ev.done fun k => ?_
    simp only [impl_CountAsFour.l0]
    rw [if_neg (by simp)]
    rfl
  | x :: suf, pre, s, hl => by
    have hlen : (pre ++ x :: suf).length = pre.length + 1 + suf.length := by simp; omega
    have hil := ints_len (pre ++ x :: suf)
    have ih := impl_CountAsFour_l suf (pre ++ [x]) (gst4 s x) (by simpa using hl)
    rw [List.append_assoc] at ih
    simp only [List.singleton_append, List.length_append, List.length_singleton] at ih
    refine Ev.step (fun k => ?_) ih
    simp only [impl_CountAsFour.l0]
    rw [if_pos (by omega), if_pos (by omega), if_pos (by omega), ints_get, wr_succ (by omega)]
    simp only [gst4, List.length_append]
    repeat' split
    all_goals rfl
theorem spec_CountAsFour_ev (n : Nat) (h0 : 0 < n) (hn : n ≤ 100000) : Ev (fun k => spec_CountAsFour.f k n) ((ints (divs n)).foldl gst4 0, true) := by
  unfold spec_CountAsFour.f
  rw [spec_sqGood_eq, decide_eq_true (by omega)]
  simp only [Option.bind_some, if_true]
  exact spec_CountAsFour_l n hn n 1 (by omega) (by omega) (by omega)
theorem impl_CountAsFour_ev (n : Nat) (h0 : 0 < n) (hn : n ≤ 100000) : Ev (fun k => impl_CountAsFour.f k n) ((ints (divs n)).foldl gst4 0, true) := by
  unfold impl_CountAsFour.f
  rw [impl_isAsked_eq, decide_eq_true (by omega)]
  simp only [Option.bind_some, if_true]
  refine (impl_divisors_ev n h0 (by omega)).bind ?_
  have h1 := divs_len h0
  rw [ints_len]
  exact impl_CountAsFour_l (divs n) [] 0 (by rw [List.nil_append]; omega)
theorem impl_isMost_eq (a : Int) : impl_isMost.f a = some (decide (0 ≤ a ∧ a ≤ 600)) := by
  unfold impl_isMost.f
  by_cases h : a ≥ 0
  · rw [if_pos h, decide_eq_decide.2 (show a ≤ 600 ↔ 0 ≤ a ∧ a ≤ 600 from ⟨fun k => ⟨h, k⟩, fun k => k.2⟩)]
  · rw [if_neg h, decide_eq_false (fun k => h k.1)]
theorem spec_sqMost_eq (a : Int) : spec_sqMost.f a = some (decide (0 ≤ a ∧ a ≤ 600)) := by
  unfold spec_sqMost.f; rw [spec_l1In_eq]; rfl
/-- No prime that is 3 modulo 4 divides n an odd number of times. -/
def twoL (l : List (Nat × Nat)) : Bool := l.all fun f => !(f.1 % 4 == 3 && f.2 % 2 == 1)
def two (n : Nat) : Bool := twoL (facs n)
theorem twoL_cons (p e : Nat) (l : List (Nat × Nat)) : twoL ((p, e) :: l) = (!(p % 4 == 3 && e % 2 == 1) && twoL l) := rfl
theorem spec_sqTwo_end (n d : Nat) (h0 : 0 < n) (hlt : n < d * d) (hd : d ≤ 1000002) (ha : Above d n) : Ev (fun k => spec_sqTwo.l0 k n d) (two n) := by
  have e4 : Int.tmod (n : Int) 4 = ((n % 4 : Nat) : Int) := rfl
  have hend : ∀ k, spec_sqTwo.l0 (k + 1) n d = some ((Int.tmod (n : Int) 4) != 3) := by
    intro k
    simp only [spec_sqTwo.l0]
    rw [wr_mul (sq_lt (by omega) (by omega)), if_neg (by omega)]
  refine Ev.done fun k => ?_
  rw [hend, e4]
  congr 1
  rcases ha.last h0 hlt with rfl | ⟨h2, hf⟩
  · rfl
  · unfold two; rw [hf]
    rw [Bool.eq_iff_iff, bne_iff_ne]
    simp only [twoL, List.all_cons, List.all_nil, Bool.and_true, Bool.not_eq_true', Bool.and_eq_false_iff, beq_eq_false_iff_ne]
    omega
theorem spec_sqTwo_l1 (d : Nat) (h2 : 2 ≤ d) (hd : d ≤ 1000000) : ∀ (n t : Nat) {v : Bool}, 0 < n → n ≤ 1000000 → t + n ≤ 3000000 → Ev (fun k => spec_sqTwo.l0 k (rs d n) ((d + 1 : Nat) : Int)) v → Ev (fun k => spec_sqTwo.l1 k n d t) (!(d % 4 == 3 && (t + vl d n) % 2 == 1) && v) := by
  intro n
  induction n using Nat.strongRecOn with
  | _ n ih =>
    intro t v h0 hn ht h
    by_cases hdv : d ∣ n
    · obtain ⟨m, rfl⟩ := hdv
      have hm0 : 0 < m := by
        rcases Nat.eq_zero_or_pos m with h | h
        · subst h; simp at h0
        · exact h
      have hlt : m < d * m := by have := Nat.mul_le_mul_right m h2; omega
      rw [rs_mul_self h2 hm0] at h
      rw [vl_mul_self h2 hm0, show t + (vl d m + 1) = t + 1 + vl d m by omega]
      refine Ev.step (fun k => ?_) (ih m hlt (t + 1) hm0 (by omega) (by omega) h)
      simp only [spec_sqTwo.l1]
      rw [tm, if_neg (by omega), if_pos (by simp), wr_tdiv (by omega), wr_succ (by omega), Nat.mul_div_cancel_left m (by omega)]
    · rw [rs_of_not_dvd h2 h0 hdv] at h
      rw [vl_zero h2 h0 hdv, Nat.add_zero]
      have hm : n % d ≠ 0 := fun hm => hdv (Nat.dvd_of_mod_eq_zero hm)
      have e1 : Int.tmod (d : Int) 4 = ((d % 4 : Nat) : Int) := rfl
      have e2 : Int.tmod (t : Int) 2 = ((t % 2 : Nat) : Int) := rfl
      by_cases h3 : d % 4 = 3
      · by_cases h4 : t % 2 = 1
        · rw [show (!(d % 4 == 3 && t % 2 == 1) && v) = false by rw [h3, h4]; rfl]
          refine Ev.done fun k => ?_
          simp only [spec_sqTwo.l1]
          rw [tm, e1, e2, if_neg (by omega), if_neg (by omega), if_pos (by omega), if_pos (by omega)]
        · rw [show (!(d % 4 == 3 && t % 2 == 1) && v) = v by rw [show (t % 2 == 1) = false from beq_eq_false_iff_ne.2 h4]; simp]
          refine Ev.step (fun k => ?_) h
          simp only [spec_sqTwo.l1]
          rw [tm, e1, e2, if_neg (by omega), if_neg (by omega), if_pos (by omega), if_neg (by omega), wr_succ (by omega)]
      · rw [show (!(d % 4 == 3 && t % 2 == 1) && v) = v by rw [show (d % 4 == 3) = false from beq_eq_false_iff_ne.2 h3]; simp]
        refine Ev.step (fun k => ?_) h
        simp only [spec_sqTwo.l1]
        rw [tm, e1, if_neg (by omega), if_neg (by omega), if_neg (by omega), wr_succ (by omega)]
theorem spec_sqTwo_l : ∀ (j n d : Nat), n + 1 ≤ d + j → 0 < n → n ≤ 1000000 → 2 ≤ d → d ≤ 1000001 → Above d n → Ev (fun k => spec_sqTwo.l0 k n d) (two n) := by
  intro j
  induction j with
  | zero =>
    intro n d hj h0 hn h2 hd ha
    exact spec_sqTwo_end n d h0 (by have := Nat.mul_le_mul_right d h2; omega) (by omega) ha
  | succ j ih =>
    intro n d hj h0 hn h2 hd ha
    by_cases hlt : n < d * d
    · exact spec_sqTwo_end n d h0 hlt (by omega) ha
    · have hdn : d ≤ n := by have := Nat.mul_le_mul_right d h2; omega
      have hin : ∀ {v : Bool}, Ev (fun k => spec_sqTwo.l1 k n d 0) v → Ev (fun k => spec_sqTwo.l0 k n d) v := fun h => by
        refine Ev.step (fun k => ?_) h
        simp only [spec_sqTwo.l0]
        rw [wr_mul (sq_lt (by omega) (by omega)), if_pos (by omega)]
      by_cases hdv : d ∣ n
      · obtain ⟨hn2, hlf⟩ := ha.lf h2 h0 hdv
        have hfacs := facs_cons hn2
        rw [hlf] at hfacs
        have hrs0 := rs_pos h2 h0
        have hrslt := rs_lt h2 h0 hdv
        have h1 := ih (rs d n) (d + 1) (by omega) hrs0 (by omega) (by omega) (by omega) (ha.rs h2 h0)
        have h2' := spec_sqTwo_l1 d h2 (by omega) n 0 h0 hn (by omega) h1
        rw [Nat.zero_add] at h2'
        have : two n = (!(d % 4 == 3 && vl d n % 2 == 1) && two (rs d n)) := by unfold two twoL; rw [hfacs, List.all_cons]
        rw [this]
        exact hin h2'
      · have h1 := ih n (d + 1) (by omega) h0 hn (by omega) (by omega) (ha.succ hdv)
        have h2' := spec_sqTwo_l1 d h2 (by omega) n 0 h0 hn (by omega) (v := two n) (by rw [rs_of_not_dvd h2 h0 hdv]; exact h1)
        rw [vl_zero h2 h0 hdv] at h2'
        have : (!(d % 4 == 3 && (0 + 0) % 2 == 1) && two n) = two n := by simp
        rw [this] at h2'
        exact hin h2'
theorem spec_sqTwo_ev (n : Nat) (h0 : 0 < n) (hn : n ≤ 1000000) : Ev (fun k => spec_sqTwo.f k n) (two n) :=
  spec_sqTwo_l n n 2 (by omega) h0 hn (Nat.le_refl _) (by omega) (Above.two n)
theorem impl_isSumOfTwo_1_eq (p e : Nat) : impl_isSumOfTwo_1.f [(p : Int), (e : Int)] = some (p % 4 == 3 && e % 2 == 1) := by
  have e1 : Int.tmod (p : Int) 4 = ((p % 4 : Nat) : Int) := rfl
  have e2 : Int.tmod (e : Int) 2 = ((e % 2 : Nat) : Int) := rfl
  have h1 : rd [(p : Int), (e : Int)] 0 = p := rfl
  have h2 : rd [(p : Int), (e : Int)] 1 = e := rfl
  unfold impl_isSumOfTwo_1.f
  rw [if_pos (by simp), h1, h2, e1, e2]
  by_cases h : p % 4 = 3
  · rw [if_pos (by omega), if_pos (by simp), show (p % 4 == 3) = true from beq_iff_eq.2 h, Bool.true_and]
    congr 1
    rw [Bool.eq_iff_iff, beq_iff_eq, beq_iff_eq]; omega
  · rw [if_neg (by omega), show (p % 4 == 3) = false from beq_eq_false_iff_ne.2 h, Bool.false_and]
theorem impl_isSumOfTwo_l : ∀ (l pre : List (Nat × Nat)), (pre ++ l).length ≤ 2000000000 → ∃ i : Int, (i ≥ 0 ↔ twoL l = false) ∧ Ev (fun k => impl_isSumOfTwo.l0 k (rowsOf (pre ++ l)) (pre.length : Int)) i
  | [], pre, hl => by
    refine ⟨-1, by simp [twoL], Ev.done fun k => ?_⟩
    simp only [impl_isSumOfTwo.l0]
    rw [if_neg (by simp [rows_len])]
  | (p, e) :: l, pre, hl => by
    have hlen : (pre ++ (p, e) :: l).length = pre.length + 1 + l.length := by simp; omega
    have hlr := rows_len (pre ++ (p, e) :: l)
    have hget : rd_L1 (rowsOf (pre ++ (p, e) :: l)) (pre.length : Int) = [(p : Int), (e : Int)] := by
      unfold rd_L1; rw [Int.toNat_natCast]; exact rows_get pre (p, e) l
    by_cases hb : (p % 4 == 3 && e % 2 == 1) = true
    · refine ⟨(pre.length : Int), ?_, Ev.done fun k => ?_⟩
      · rw [twoL_cons, hb]; simp
      · simp only [impl_isSumOfTwo.l0]
        rw [if_pos (by omega), if_pos (by omega), hget, impl_isSumOfTwo_1_eq, hb]
        rfl
    · obtain ⟨i, hi, hev⟩ := impl_isSumOfTwo_l l (pre ++ [(p, e)]) (by simpa using hl)
      rw [List.append_assoc] at hev
      simp only [List.singleton_append, List.length_append, List.length_singleton] at hev
      refine ⟨i, ?_, Ev.step (fun k => ?_) hev⟩
      · rw [hi, twoL_cons, Bool.eq_false_iff.2 hb]; simp
      · simp only [impl_isSumOfTwo.l0]
        rw [if_pos (by omega), if_pos (by omega), hget, impl_isSumOfTwo_1_eq, Bool.eq_false_iff.2 hb, wr_succ (by omega)]
        rfl
theorem impl_isSumOfTwo_ev (n : Nat) (hn : n ≤ 1000000000) : Ev (fun k => impl_isSumOfTwo.f k n) (two n) := by
  have hl := facs_len n
  obtain ⟨i, hi, hev⟩ := impl_isSumOfTwo_l (facs n) [] (by simpa using (by omega : (facs n).length ≤ 2000000000))
  unfold impl_isSumOfTwo.f
  refine (impl_factors_ev n hn).bind (hev.bind ?_)
  have : (!decide (i ≥ 0)) = two n := by
    unfold two
    cases ht : twoL (facs n) with
    | true => rw [ht] at hi; simp at hi; simp; omega
    | false => rw [ht] at hi; simp at hi; simp; omega
  rw [this]
  exact Ev.now _
theorem spec_IsSumOfTwo_ev (n : Nat) (h0 : 0 < n) (hn : n ≤ 100000) : Ev (fun k => spec_IsSumOfTwo.f k n) (two n, true) := by
  unfold spec_IsSumOfTwo.f
  rw [spec_sqGood_eq, decide_eq_true (by omega)]
  simp only [Option.bind_some, if_true]
  exact (spec_sqTwo_ev n h0 (by omega)).bind (Ev.now _)
theorem impl_IsSumOfTwo_ev (n : Nat) (h0 : 0 < n) (hn : n ≤ 100000) : Ev (fun k => impl_IsSumOfTwo.f k n) (two n, true) := by
  unfold impl_IsSumOfTwo.f
  rw [impl_isAsked_eq, decide_eq_true (by omega)]
  simp only [Option.bind_some, if_true]
  exact (impl_isSumOfTwo_ev n (by omega)).bind (Ev.now _)
/-- The numbers 1, .., n. -/
def ups (n : Nat) : List Int := (List.range n).map fun i => ((i + 1 : Nat) : Int)
theorem ups_len (n : Nat) : (ups n).length = n := by simp [ups]
theorem ups_succ (n : Nat) : ups (n + 1) = ups n ++ [((n + 1 : Nat) : Int)] := by simp [ups, List.range_succ]
theorem impl_upTo_l (n : Nat) (hn : n ≤ 1000000) : ∀ (j i : Nat), n ≤ i + j → i ≤ n → Ev (fun k => impl_upTo.l0 k n 1 (ups i) ((i + 1 : Nat) : Int)) (ups n) := by
  intro j
  induction j with
  | zero =>
    intro i h1 h2
    obtain rfl : i = n := by omega
    refine Ev.done fun k => ?_
    simp only [impl_upTo.l0]
    rw [if_neg (by omega)]
  | succ j ih =>
    intro i h1 h2
    by_cases h : i < n
    · refine Ev.step (fun k => ?_) (ih (i + 1) (by omega) (by omega))
      have hl := ups_len i
      simp only [impl_upTo.l0]
      rw [if_pos (by omega), if_pos (by omega), wr_succ (by omega), ups_succ]
    · obtain rfl : i = n := by omega
      refine Ev.done fun k => ?_
      simp only [impl_upTo.l0]
      rw [if_neg (by omega)]
theorem impl_upTo_ev (n : Nat) (hn : n ≤ 1000000) : Ev (fun k => impl_upTo.f k 1 n 1) (ups n) :=
  impl_upTo_l n hn n 0 (by omega) (by omega)
/-- What is kept of 1, .., n. -/
def kept (p : Nat → Bool) : Nat → List Int
  | 0 => []
  | n + 1 => if p (n + 1) = true then kept p n else kept p n ++ [((n + 1 : Nat) : Int)]
theorem kept_len (p : Nat → Bool) : ∀ n, (kept p n).length ≤ n
  | 0 => by simp [kept]
  | n + 1 => by
    have := kept_len p n
    simp only [kept]; split
    · omega
    · simp; omega
theorem delKeep_app {q : Int → Option Bool} : ∀ (l : List Int) (x : Int), delKeep q (l ++ [x]) = (delKeep q l).bind fun r => (q x).bind fun b => some (if b = true then r else r ++ [x])
  | [], x => by
    simp only [List.nil_append, delKeep, Option.bind_some]
  | y :: l, x => by
    simp only [List.cons_append, delKeep, delKeep_app l x]
    cases q y with
    | none => rfl
    | some b =>
      simp only [Option.bind_some]
      cases delKeep q l with
      | none => rfl
      | some r =>
        simp only [Option.bind_some]
        cases q x with
        | none => rfl
        | some c =>
          simp only [Option.bind_some]
          cases b <;> cases c <;> rfl
theorem delKeep_ups {q : Nat → Int → Option Bool} {p : Nat → Bool} : ∀ (n : Nat), (∀ m, 0 < m → m ≤ n → Ev (fun k => q k (m : Int)) (p m)) → Ev (fun k => delKeep (q k) (ups n)) (kept p n)
  | 0, _ => Ev.const fun k => rfl
  | n + 1, h => by
    have ih := delKeep_ups n (fun m h1 h2 => h m h1 (by omega))
    refine Ev.congr (f := fun k => (delKeep (q k) (ups n)).bind fun r => (q k ((n + 1 : Nat) : Int)).bind fun b => some (if b = true then r else r ++ [((n + 1 : Nat) : Int)])) (fun k => by rw [ups_succ, delKeep_app]) (ih.bind ((h (n + 1) (by omega) (by omega)).bind ?_))
    exact Ev.now _
def notTwo (n : Nat) : Bool := !two n
theorem spec_SumsOfTwoUpTo_l (n : Nat) (hn : n ≤ 600) : ∀ (j i : Nat), n ≤ i + j → i ≤ n → Ev (fun k => spec_SumsOfTwoUpTo.l0 k n (kept notTwo i) ((i + 1 : Nat) : Int)) (kept notTwo n, true) := by
  have hend : Ev (fun k => spec_SumsOfTwoUpTo.l0 k n (kept notTwo n) ((n + 1 : Nat) : Int)) (kept notTwo n, true) := by
    refine Ev.done fun k => ?_
    simp only [spec_SumsOfTwoUpTo.l0]
    rw [if_neg (by omega)]
  intro j
  induction j with
  | zero =>
    intro i h1 h2
    obtain rfl : i = n := by omega
    exact hend
  | succ j ih =>
    intro i h1 h2
    by_cases h : i < n
    · have hih := ih (i + 1) (by omega) (by omega)
      have hl := kept_len notTwo i
      have e2 : wrap64 (((i + 1 : Nat) : Int) + 1) = ((i + 1 + 1 : Nat) : Int) := wr_succ (by omega)
      refine Ev.step (f := fun k => (spec_sqTwo.f k ((i + 1 : Nat) : Int)).bind fun t => if t = true then spec_SumsOfTwoUpTo.l0 k n (kept notTwo i ++ [((i + 1 : Nat) : Int)]) ((i + 1 + 1 : Nat) : Int) else spec_SumsOfTwoUpTo.l0 k n (kept notTwo i) ((i + 1 + 1 : Nat) : Int)) (fun k => ?_) ((spec_sqTwo_ev (i + 1) (by omega) (by omega)).bind ?_)
      · simp only [spec_SumsOfTwoUpTo.l0]
        have hlt : (kept notTwo i).length < 17592186044416 := by omega
        simp only [if_pos hlt]
        rw [if_pos (by omega), e2]
      · cases hs : two (i + 1) with
        | true =>
          simp only [kept, notTwo, hs, Bool.not_true, Bool.false_eq_true, if_false] at hih
          exact hih
        | false =>
          simp only [kept, notTwo, hs, Bool.not_false, if_true] at hih
          exact hih
    · obtain rfl : i = n := by omega
      exact hend
theorem impl_SumsOfTwoUpTo_1_ev (n : Nat) (hn : n ≤ 1000000000) : Ev (fun k => impl_SumsOfTwoUpTo_1.f k n) (notTwo n) := by
  unfold impl_SumsOfTwoUpTo_1.f
  exact (impl_isSumOfTwo_ev n hn).bind (Ev.now _)
theorem spec_SumsOfTwoUpTo_ev (n : Nat) (hn : n ≤ 600) : Ev (fun k => spec_SumsOfTwoUpTo.f k n) (kept notTwo n, true) := by
  unfold spec_SumsOfTwoUpTo.f
  rw [spec_sqMost_eq, decide_eq_true (by omega)]
  simp only [Option.bind_some, if_true]
  exact spec_SumsOfTwoUpTo_l n hn n 0 (by omega) (by omega)
theorem impl_SumsOfTwoUpTo_ev (n : Nat) (hn : n ≤ 600) : Ev (fun k => impl_SumsOfTwoUpTo.f k n) (kept notTwo n, true) := by
  unfold impl_SumsOfTwoUpTo.f
  rw [impl_isMost_eq, decide_eq_true (by omega)]
  simp only [Option.bind_some, if_true]
  exact (impl_upTo_ev n (by omega)).bind ((delKeep_ups (q := fun k x => impl_SumsOfTwoUpTo_1.f k x) n (fun m _ hm => impl_SumsOfTwoUpTo_1_ev m (by omega))).bind (Ev.now _))
def third (n : Nat) : Bool := if h : n ≠ 0 ∧ n % 4 = 0 then third (n / 4) else n % 8 != 7
termination_by n
decreasing_by omega
theorem third_div {n : Nat} (h0 : 0 < n) (h : n % 4 = 0) : third n = third (n / 4) := by rw [third, dif_pos ⟨by omega, h⟩]
theorem third_end {n : Nat} (h : n % 4 ≠ 0) : third n = (n % 8 != 7) := by rw [third, dif_neg (fun k => h k.2)]
theorem tm8 (n : Nat) : (Int.tmod (n : Int) 8 != 7) = (n % 8 != 7) := by
  have : Int.tmod (n : Int) 8 = ((n % 8 : Nat) : Int) := rfl
  rw [this, Bool.eq_iff_iff, bne_iff_ne, bne_iff_ne]; omega
theorem spec_third (n : Nat) : 0 < n → n ≤ 1000000 → Ev (fun k => spec_IsSumOfThree.l0 k n) (third n, true) := by
  induction n using Nat.strongRecOn with
  | _ n ih =>
    intro h0 hn
    have e : Int.tmod (n : Int) 4 = ((n % 4 : Nat) : Int) := rfl
    by_cases h : n % 4 = 0
    · rw [third_div h0 h]
      refine Ev.step (fun k => ?_) (ih (n / 4) (by omega) (by omega) (by omega))
      simp only [spec_IsSumOfThree.l0]
      rw [e, if_pos (by omega)]
      rw [show wrap64 (Int.tdiv (n : Int) 4) = ((n / 4 : Nat) : Int) from wr (a := n / 4) (by omega)]
    · rw [third_end h]
      refine Ev.done fun k => ?_
      simp only [spec_IsSumOfThree.l0]
      rw [e, if_neg (by omega), tm8]
theorem impl_third (n : Nat) : 0 < n → n ≤ 1000000 → Ev (fun k => impl_IsSumOfThree.l0 k n) (third n, true) := by
  induction n using Nat.strongRecOn with
  | _ n ih =>
    intro h0 hn
    have e : Int.tmod (n : Int) 4 = ((n % 4 : Nat) : Int) := rfl
    by_cases h : n % 4 = 0
    · rw [third_div h0 h]
      refine Ev.step (fun k => ?_) (ih (n / 4) (by omega) (by omega) (by omega))
      simp only [impl_IsSumOfThree.l0]
      rw [e, if_pos (by omega)]
      rw [show wrap64 (Int.tdiv (n : Int) 4) = ((n / 4 : Nat) : Int) from wr (a := n / 4) (by omega)]
    · rw [third_end h]
      refine Ev.done fun k => ?_
      simp only [impl_IsSumOfThree.l0]
      rw [e, if_neg (by omega), tm8]
theorem spec_IsSumOfThree_ev (n : Nat) (h0 : 0 < n) (hn : n ≤ 100000) : Ev (fun k => spec_IsSumOfThree.f k n) (third n, true) := by
  unfold spec_IsSumOfThree.f
  rw [spec_sqGood_eq, decide_eq_true (by omega)]
  simp only [Option.bind_some, if_true]
  exact spec_third n h0 (by omega)
theorem impl_IsSumOfThree_ev (n : Nat) (h0 : 0 < n) (hn : n ≤ 100000) : Ev (fun k => impl_IsSumOfThree.f k n) (third n, true) := by
  unfold impl_IsSumOfThree.f
  rw [impl_isAsked_eq, decide_eq_true (by omega)]
  simp only [Option.bind_some, if_true]
  exact impl_third n h0 (by omega)
theorem isq_le (n : Nat) : isq n ≤ n := by
  obtain ⟨h, _⟩ := isq_spec n
  rcases Nat.eq_zero_or_pos (isq n) with h0 | h0
  · omega
  · have := Nat.mul_le_mul_left (isq n) h0; omega
theorem isq_small {n : Nat} (h : n ≤ 1000000) : isq n ≤ 1000 := by
  obtain ⟨h1, _⟩ := isq_spec n
  rcases Nat.lt_or_ge 1000 (isq n) with h2 | h2
  · have := Nat.mul_le_mul (show 1001 ≤ isq n from h2) (show 1001 ≤ isq n from h2); omega
  · exact h2
theorem spec_sqRoot_l (n : Nat) (hn : n ≤ 1000000) : ∀ (j r : Nat), isq n ≤ r + j → r ≤ isq n → Ev (fun k => spec_sqRoot.l0 k n r) (isq n : Int) := by
  obtain ⟨h1, h2⟩ := isq_spec n
  have hs := isq_small hn
  have hend : Ev (fun k => spec_sqRoot.l0 k n (isq n)) (isq n : Int) := by
    refine Ev.done fun k => ?_
    simp only [spec_sqRoot.l0]
    rw [wr_succ (by omega), wr_mul (sq_lt (by omega) (by omega)), if_neg (by omega)]
  intro j
  induction j with
  | zero =>
    intro r h3 h4
    obtain rfl : r = isq n := by omega
    exact hend
  | succ j ih =>
    intro r h3 h4
    by_cases h : r < isq n
    · have h5 : (r + 1) * (r + 1) ≤ n := Nat.le_trans (Nat.mul_le_mul h h) h1
      refine Ev.step (fun k => ?_) (ih (r + 1) (by omega) (by omega))
      simp only [spec_sqRoot.l0]
      rw [wr_succ (by omega), wr_mul (sq_lt (by omega) (by omega)), if_pos (by omega)]
    · obtain rfl : r = isq n := by omega
      exact hend
theorem spec_sqRoot_ev (n : Nat) (hn : n ≤ 1000000) : Ev (fun k => spec_sqRoot.f k n) (isq n : Int) :=
  spec_sqRoot_l n hn (isq n) 0 (by omega) (by omega)
theorem impl_rootOf_eq (n : Nat) (hn : n ≤ 1000000) : impl_rootOf.f n = some (isq n : Int) := by
  unfold impl_rootOf.f
  rw [if_pos (by omega), if_pos (by omega), Int.toNat_natCast]
/-- What is left of n. -/
def sqr3 (n a b c : Nat) : Nat := n - a * a - b * b - c * c
/-- Four squares, in order. -/
def Hit (n a b c : Nat) : Prop := a ≤ b ∧ b ≤ c ∧ a * a + b * b + 2 * c * c ≤ n ∧ isq (sqr3 n a b c) * isq (sqr3 n a b c) = sqr3 n a b c
def First (n a b c : Nat) : Prop := Hit n a b c ∧ (∀ a' b' c', a' < a → ¬ Hit n a' b' c') ∧ (∀ b' c', b' < b → ¬ Hit n a b' c') ∧ ∀ c', c' < c → ¬ Hit n a b c'
theorem least {P : Nat → Prop} : ∀ n, P n → ∃ m, P m ∧ ∀ k, k < m → ¬ P k := by
  intro n
  induction n using Nat.strongRecOn with
  | _ n ih =>
    intro h
    by_cases h1 : ∃ k, k < n ∧ P k
    · obtain ⟨k, hk, hp⟩ := h1
      exact ih k hk hp
    · exact ⟨n, h, fun k hk hp => h1 ⟨k, hk, hp⟩⟩
theorem first_of_hit {n a b c : Nat} (h : Hit n a b c) : ∃ a b c, First n a b c := by
  obtain ⟨a0, ⟨b1, c1, h1⟩, ha⟩ := least (P := fun a => ∃ b c, Hit n a b c) a ⟨b, c, h⟩
  obtain ⟨b0, ⟨c2, h2⟩, hb⟩ := least (P := fun b => ∃ c, Hit n a0 b c) b1 ⟨c1, h1⟩
  obtain ⟨c0, h3, hc⟩ := least (P := fun c => Hit n a0 b0 c) c2 h2
  exact ⟨a0, b0, c0, h3, fun a' b' c' hl hh => ha a' hl ⟨b', c', hh⟩, fun b' c' hl hh => hb b' hl ⟨c', hh⟩, fun c' hl hh => hc c' hl hh⟩
theorem q4 {a : Nat} (h : a ≤ 6000) : wrap64 (wrap64 (4 * (a : Int)) * a) = ((4 * a * a : Nat) : Int) := by
  have e : wrap64 (4 * (a : Int)) = ((4 * a : Nat) : Int) := by rw [wri (by omega) (by omega)]; omega
  rw [e, wr_mul (sq_lt (by omega) (by omega))]
theorem q3 {a : Nat} (h : a ≤ 6000) : wrap64 (wrap64 (3 * (a : Int)) * a) = ((3 * a * a : Nat) : Int) := by
  have e : wrap64 (3 * (a : Int)) = ((3 * a : Nat) : Int) := by rw [wri (by omega) (by omega)]; omega
  rw [e, wr_mul (sq_lt (by omega) (by omega))]
theorem q2 {a : Nat} (h : a ≤ 6000) : wrap64 (wrap64 (2 * (a : Int)) * a) = ((2 * a * a : Nat) : Int) := by
  have e : wrap64 (2 * (a : Int)) = ((2 * a : Nat) : Int) := by rw [wri (by omega) (by omega)]; omega
  rw [e, wr_mul (sq_lt (by omega) (by omega))]
theorem q1 {a : Nat} (h : a ≤ 6000) : wrap64 ((a : Int) * a) = ((a * a : Nat) : Int) := wr_mul (sq_lt (by omega) (by omega))
theorem sq6 {a : Nat} (h : a ≤ 6000) : a * a ≤ 36000000 := Nat.mul_le_mul h h
theorem sq26 {a : Nat} (k : Nat) (h : a ≤ 6000) : k * a * a = k * (a * a) := Nat.mul_assoc _ _ _
theorem g13 {a b : Nat} (ha : a ≤ 6000) (hb : b ≤ 6000) : wrap64 (wrap64 ((a : Int) * a) + wrap64 (wrap64 (3 * (b : Int)) * b)) = ((a * a + 3 * b * b : Nat) : Int) := by
  have h1 := sq6 ha; have h2 := sq6 hb; have h3 := sq26 3 hb
  rw [q1 ha, q3 hb, ← Int.natCast_add, wr (by omega)]
theorem g11 {a b : Nat} (ha : a ≤ 6000) (hb : b ≤ 6000) : wrap64 (wrap64 ((a : Int) * a) + wrap64 ((b : Int) * b)) = ((a * a + b * b : Nat) : Int) := by
  have h1 := sq6 ha; have h2 := sq6 hb
  rw [q1 ha, q1 hb, ← Int.natCast_add, wr (by omega)]
theorem g112 {a b c : Nat} (ha : a ≤ 6000) (hb : b ≤ 6000) (hc : c ≤ 6000) : wrap64 (wrap64 (wrap64 ((a : Int) * a) + wrap64 ((b : Int) * b)) + wrap64 (wrap64 (2 * (c : Int)) * c)) = ((a * a + b * b + 2 * c * c : Nat) : Int) := by
  have h1 := sq6 ha; have h2 := sq6 hb; have h3 := sq6 hc; have h4 := sq26 2 hc
  rw [g11 ha hb, q2 hc, ← Int.natCast_add, wr (by omega)]
theorem grest {n a b c : Nat} (ha : a ≤ 6000) (hb : b ≤ 6000) (hc : c ≤ 6000) (hn : n ≤ 5000) (h : a * a + b * b + c * c ≤ n) : wrap64 (wrap64 (wrap64 ((n : Int) - wrap64 ((a : Int) * a)) - wrap64 ((b : Int) * b)) - wrap64 ((c : Int) * c)) = ((sqr3 n a b c : Nat) : Int) := by
  have e1 : wrap64 ((n : Int) - wrap64 ((a : Int) * a)) = ((n - a * a : Nat) : Int) := by rw [q1 ha, wri (by omega) (by omega)]; omega
  have e2 : wrap64 (((n - a * a : Nat) : Int) - wrap64 ((b : Int) * b)) = ((n - a * a - b * b : Nat) : Int) := by rw [q1 hb, wri (by omega) (by omega)]; omega
  rw [e1, e2, q1 hc, wri (by omega) (by omega)]
  unfold sqr3; omega
theorem isq_sq_bd {m : Nat} (h : m ≤ 5000) : isq m ≤ 6000 := by have := isq_le m; omega
theorem small_of_sq {a n : Nat} (h : a * a ≤ n) (hn : n ≤ 5000) : a ≤ 100 := by
  rcases Nat.lt_or_ge 100 a with h2 | h2
  · have := Nat.mul_le_mul (show 101 ≤ a from h2) (show 101 ≤ a from h2); omega
  · exact h2
theorem spec_l2_hit {n a b : Nat} (hn : n ≤ 5000) {c0 : Nat} (hf : First n a b c0) : ∀ (j c : Nat), c0 ≤ c + j → b ≤ c → c ≤ c0 → Ev (fun k => spec_FourSquares.l2 k n a b c) (([(a : Int), (b : Int), (c0 : Int), (isq (sqr3 n a b c0) : Int)] : List Int), true) := by
  obtain ⟨⟨hab, hbc, hle, hsq⟩, _, _, hno⟩ := hf
  have h2 := Nat.mul_assoc 2 c0 c0
  have hc0 := small_of_sq (a := c0) (n := n) (by omega) hn
  have hend : Ev (fun k => spec_FourSquares.l2 k n a b c0) (([(a : Int), (b : Int), (c0 : Int), (isq (sqr3 n a b c0) : Int)] : List Int), true) := by
    have hr : sqr3 n a b c0 ≤ 5000 := by unfold sqr3; omega
    refine Ev.step (f := fun k => (spec_sqRoot.f k ((sqr3 n a b c0 : Nat) : Int)).bind fun t => if wrap64 (t * t) = ((sqr3 n a b c0 : Nat) : Int) then some (([(a : Int), (b : Int), (c0 : Int), t] : List Int), true) else spec_FourSquares.l2 k n a b (wrap64 ((c0 : Int) + 1))) (fun k => ?_) ((spec_sqRoot_ev _ (by omega)).bind ?_)
    · simp only [spec_FourSquares.l2]
      rw [g112 (by omega) (by omega) (by omega), grest (by omega) (by omega) (by omega) hn (by omega), if_pos (by omega)]
    · have e : wrap64 ((isq (sqr3 n a b c0) : Int) * (isq (sqr3 n a b c0) : Int)) = ((sqr3 n a b c0 : Nat) : Int) := by rw [q1 (isq_sq_bd hr), hsq]
      simp only [e, if_true]
      exact Ev.now _
  intro j
  induction j with
  | zero =>
    intro c h3 h4 h5
    obtain rfl : c = c0 := by omega
    exact hend
  | succ j ih =>
    intro c h3 h4 h5
    by_cases h : c < c0
    · have hcc := Nat.mul_le_mul (Nat.le_of_lt h) (Nat.le_of_lt h)
      have h6 := Nat.mul_assoc 2 c c
      have hr : sqr3 n a b c ≤ 5000 := by unfold sqr3; omega
      have hne : ¬ (isq (sqr3 n a b c) * isq (sqr3 n a b c) = sqr3 n a b c) := fun he => hno c h ⟨hab, h4, by omega, he⟩
      have hih := ih (c + 1) (by omega) (by omega) (by omega)
      refine Ev.step (f := fun k => (spec_sqRoot.f k ((sqr3 n a b c : Nat) : Int)).bind fun t => if wrap64 (t * t) = ((sqr3 n a b c : Nat) : Int) then some (([(a : Int), (b : Int), (c : Int), t] : List Int), true) else spec_FourSquares.l2 k n a b ((c + 1 : Nat) : Int)) (fun k => ?_) ((spec_sqRoot_ev _ (by omega)).bind ?_)
      · simp only [spec_FourSquares.l2]
        rw [g112 (by omega) (by omega) (by omega), grest (by omega) (by omega) (by omega) hn (by omega), if_pos (by omega), wr_succ (by omega)]
      · have e : ¬ (wrap64 ((isq (sqr3 n a b c) : Int) * (isq (sqr3 n a b c) : Int)) = ((sqr3 n a b c : Nat) : Int)) := by rw [q1 (isq_sq_bd hr)]; exact fun h => hne (Int.ofNat_inj.1 h)
        simp only [if_neg e]
        exact hih
    · obtain rfl : c = c0 := by omega
      exact hend
theorem spec_l2_miss {n a b : Nat} (hn : n ≤ 5000) (ha : a ≤ 200) (hab : a ≤ b) (hb : b ≤ 200) (hno : ∀ c, ¬ Hit n a b c) {v : List Int × Bool} (hv : Ev (fun k => spec_FourSquares.l1 k n a ((b + 1 : Nat) : Int)) v) : ∀ (j c : Nat), 201 ≤ c + j → b ≤ c → c ≤ 201 → Ev (fun k => spec_FourSquares.l2 k n a b c) v := by
  have hend : ∀ c, c ≤ 201 → n < a * a + b * b + 2 * c * c → Ev (fun k => spec_FourSquares.l2 k n a b c) v := by
    intro c hc h
    refine Ev.step (fun k => ?_) hv
    simp only [spec_FourSquares.l2]
    rw [g112 (by omega) (by omega) (by omega), if_neg (by omega), wr_succ (by omega)]
  intro j
  induction j with
  | zero =>
    intro c h3 h4 h5
    obtain rfl : c = 201 := by omega
    exact hend 201 (by omega) (by omega)
  | succ j ih =>
    intro c h3 h4 h5
    by_cases hlt : n < a * a + b * b + 2 * c * c
    · exact hend c h5 hlt
    · have h6 := Nat.mul_assoc 2 c c
      have hcs := small_of_sq (a := c) (n := n) (by omega) hn
      have hr : sqr3 n a b c ≤ 5000 := by unfold sqr3; omega
      have hne : ¬ (isq (sqr3 n a b c) * isq (sqr3 n a b c) = sqr3 n a b c) := fun he => hno c ⟨hab, h4, by omega, he⟩
      have hih := ih (c + 1) (by omega) (by omega) (by omega)
      have hc0 := hcs
      refine Ev.step (f := fun k => (spec_sqRoot.f k ((sqr3 n a b c : Nat) : Int)).bind fun t => if wrap64 (t * t) = ((sqr3 n a b c : Nat) : Int) then some (([(a : Int), (b : Int), (c : Int), t] : List Int), true) else spec_FourSquares.l2 k n a b ((c + 1 : Nat) : Int)) (fun k => ?_) ((spec_sqRoot_ev _ (by omega)).bind ?_)
      · simp only [spec_FourSquares.l2]
        rw [g112 (by omega) (by omega) (by omega), grest (by omega) (by omega) (by omega) hn (by omega), if_pos (by omega), wr_succ (by omega)]
      · have e : ¬ (wrap64 ((isq (sqr3 n a b c) : Int) * (isq (sqr3 n a b c) : Int)) = ((sqr3 n a b c : Nat) : Int)) := by rw [q1 (isq_sq_bd hr)]; exact fun h => hne (Int.ofNat_inj.1 h)
        simp only [if_neg e]
        exact hih
theorem spec_l1_hit {n a b0 c0 : Nat} (hn : n ≤ 5000) (hf : First n a b0 c0) : ∀ (j b : Nat), b0 ≤ b + j → a ≤ b → b ≤ b0 → Ev (fun k => spec_FourSquares.l1 k n a b) (([(a : Int), (b0 : Int), (c0 : Int), (isq (sqr3 n a b0 c0) : Int)] : List Int), true) := by
  have hf' := hf
  obtain ⟨⟨hab, hbc, hle, hsq⟩, _, hno, _⟩ := hf
  have h2 := Nat.mul_assoc 2 c0 c0
  have hcc := Nat.mul_le_mul hbc hbc
  have hc0 := small_of_sq (a := c0) (n := n) (by omega) hn
  have hin : ∀ b, b ≤ b0 → ∀ {v : List Int × Bool}, Ev (fun k => spec_FourSquares.l2 k n a b b) v → Ev (fun k => spec_FourSquares.l1 k n a b) v := by
    intro b hb v h
    have hbb := Nat.mul_le_mul hb hb
    have h3 := Nat.mul_assoc 3 b b
    refine Ev.step (fun k => ?_) h
    simp only [spec_FourSquares.l1]
    rw [g13 (by omega) (by omega), if_pos (by omega)]
  intro j
  induction j with
  | zero =>
    intro b h3 h4 h5
    obtain rfl : b = b0 := by omega
    exact hin b (Nat.le_refl _) (spec_l2_hit hn hf' c0 b (by omega) (by omega) hbc)
  | succ j ih =>
    intro b h3 h4 h5
    by_cases h : b < b0
    · exact hin b h5 (spec_l2_miss hn (by omega) h4 (by omega) (fun c => hno b c h) (ih (b + 1) (by omega) (by omega) (by omega)) 201 b (by omega) (by omega) (by omega))
    · obtain rfl : b = b0 := by omega
      exact hin b (Nat.le_refl _) (spec_l2_hit hn hf' c0 b (by omega) (by omega) hbc)
theorem spec_l1_miss {n a : Nat} (hn : n ≤ 5000) (ha : a ≤ 100) (hno : ∀ b c, ¬ Hit n a b c) {v : List Int × Bool} (hv : Ev (fun k => spec_FourSquares.l0 k n ((a + 1 : Nat) : Int)) v) : ∀ (j b : Nat), 201 ≤ b + j → a ≤ b → b ≤ 201 → Ev (fun k => spec_FourSquares.l1 k n a b) v := by
  have hend : ∀ b, b ≤ 201 → n < a * a + 3 * b * b → Ev (fun k => spec_FourSquares.l1 k n a b) v := by
    intro b hb h
    refine Ev.step (fun k => ?_) hv
    simp only [spec_FourSquares.l1]
    rw [g13 (by omega) (by omega), if_neg (by omega), wr_succ (by omega)]
  intro j
  induction j with
  | zero =>
    intro b h3 h4 h5
    obtain rfl : b = 201 := by omega
    exact hend 201 (by omega) (by omega)
  | succ j ih =>
    intro b h3 h4 h5
    by_cases hlt : n < a * a + 3 * b * b
    · exact hend b h5 hlt
    · have h3' := Nat.mul_assoc 3 b b
      have hbs := small_of_sq (a := b) (n := n) (by omega) hn
      refine Ev.step (fun k => ?_) (spec_l2_miss hn (by omega) h4 (by omega) (fun c => hno b c) (ih (b + 1) (by omega) (by omega) (by omega)) 201 b (by omega) (by omega) (by omega))
      simp only [spec_FourSquares.l1]
      rw [g13 (by omega) (by omega), if_pos (by omega)]
theorem spec_l0 {n a0 b0 c0 : Nat} (hn : n ≤ 5000) (hf : First n a0 b0 c0) : ∀ (j a : Nat), a0 ≤ a + j → a ≤ a0 → Ev (fun k => spec_FourSquares.l0 k n a) (([(a0 : Int), (b0 : Int), (c0 : Int), (isq (sqr3 n a0 b0 c0) : Int)] : List Int), true) := by
  have hf' := hf
  obtain ⟨⟨hab, hbc, hle, hsq⟩, hno, _, _⟩ := hf
  have h2 := Nat.mul_assoc 2 c0 c0
  have hcc := Nat.mul_le_mul hbc hbc
  have haa := Nat.mul_le_mul hab hab
  have hc0 := small_of_sq (a := c0) (n := n) (by omega) hn
  have hin : ∀ a, a ≤ a0 → ∀ {v : List Int × Bool}, Ev (fun k => spec_FourSquares.l1 k n a a) v → Ev (fun k => spec_FourSquares.l0 k n a) v := by
    intro a ha v h
    have h3 := Nat.mul_le_mul ha ha
    have h4 := Nat.mul_assoc 4 a a
    refine Ev.step (fun k => ?_) h
    simp only [spec_FourSquares.l0]
    rw [q4 (by omega), if_pos (by omega)]
  intro j
  induction j with
  | zero =>
    intro a h3 h4
    obtain rfl : a = a0 := by omega
    exact hin a (Nat.le_refl _) (spec_l1_hit hn hf' b0 a (by omega) (by omega) hab)
  | succ j ih =>
    intro a h3 h4
    by_cases h : a < a0
    · exact hin a h4 (spec_l1_miss hn (by omega) (fun b c => hno a b c h) (ih (a + 1) (by omega) (by omega)) 201 a (by omega) (by omega) (by omega))
    · obtain rfl : a = a0 := by omega
      exact hin a (Nat.le_refl _) (spec_l1_hit hn hf' b0 a (by omega) (by omega) hab)
theorem impl_l2_hit {n a b : Nat} (hn : n ≤ 5000) {c0 : Nat} (hf : First n a b c0) : ∀ (j c : Nat), c0 ≤ c + j → b ≤ c → c ≤ c0 → Ev (fun k => impl_FourSquares.l2 k n a b c) (([(a : Int), (b : Int), (c0 : Int), (isq (sqr3 n a b c0) : Int)] : List Int), true) := by
  obtain ⟨⟨hab, hbc, hle, hsq⟩, _, _, hno⟩ := hf
  have h2 := Nat.mul_assoc 2 c0 c0
  have hc0 := small_of_sq (a := c0) (n := n) (by omega) hn
  have hend : Ev (fun k => impl_FourSquares.l2 k n a b c0) (([(a : Int), (b : Int), (c0 : Int), (isq (sqr3 n a b c0) : Int)] : List Int), true) := by
    have hr : sqr3 n a b c0 ≤ 5000 := by unfold sqr3; omega
    have e : wrap64 ((isq (sqr3 n a b c0) : Int) * (isq (sqr3 n a b c0) : Int)) = ((sqr3 n a b c0 : Nat) : Int) := by rw [q1 (isq_sq_bd hr), hsq]
    refine Ev.done fun k => ?_
    simp only [impl_FourSquares.l2]
    have hrt := impl_rootOf_eq (sqr3 n a b c0) (Nat.le_trans hr (by decide))
    rw [g112 (by omega) (by omega) (by omega), grest (by omega) (by omega) (by omega) hn (by omega), if_pos (Int.ofNat_le.2 hle), hrt, Option.bind_some, if_pos e]
  intro j
  induction j with
  | zero =>
    intro c h3 h4 h5
    obtain rfl : c = c0 := by omega
    exact hend
  | succ j ih =>
    intro c h3 h4 h5
    by_cases h : c < c0
    · have hcc := Nat.mul_le_mul (Nat.le_of_lt h) (Nat.le_of_lt h)
      have h6 := Nat.mul_assoc 2 c c
      have hr : sqr3 n a b c ≤ 5000 := by unfold sqr3; omega
      have hne : ¬ (isq (sqr3 n a b c) * isq (sqr3 n a b c) = sqr3 n a b c) := fun he => hno c h ⟨hab, h4, by omega, he⟩
      have hih := ih (c + 1) (by omega) (by omega) (by omega)
      have e : ¬ (wrap64 ((isq (sqr3 n a b c) : Int) * (isq (sqr3 n a b c) : Int)) = ((sqr3 n a b c : Nat) : Int)) := by rw [q1 (isq_sq_bd hr)]; exact fun h => hne (Int.ofNat_inj.1 h)
      refine Ev.step (fun k => ?_) hih
      simp only [impl_FourSquares.l2]
      have hrt := impl_rootOf_eq (sqr3 n a b c) (Nat.le_trans hr (by decide))
      have hle2 : a * a + b * b + 2 * c * c ≤ n := by omega
      rw [g112 (by omega) (by omega) (by omega), grest (by omega) (by omega) (by omega) hn (by omega), if_pos (Int.ofNat_le.2 hle2), hrt, Option.bind_some, if_neg e, wr_succ (by omega)]
    · obtain rfl : c = c0 := by omega
      exact hend
theorem impl_l2_miss {n a b : Nat} (hn : n ≤ 5000) (ha : a ≤ 200) (hab : a ≤ b) (hb : b ≤ 200) (hno : ∀ c, ¬ Hit n a b c) {v : List Int × Bool} (hv : Ev (fun k => impl_FourSquares.l1 k n a ((b + 1 : Nat) : Int)) v) : ∀ (j c : Nat), 201 ≤ c + j → b ≤ c → c ≤ 201 → Ev (fun k => impl_FourSquares.l2 k n a b c) v := by
  have hend : ∀ c, c ≤ 201 → n < a * a + b * b + 2 * c * c → Ev (fun k => impl_FourSquares.l2 k n a b c) v := by
    intro c hc h
    refine Ev.step (fun k => ?_) hv
    simp only [impl_FourSquares.l2]
    rw [g112 (by omega) (by omega) (by omega), if_neg (by omega), wr_succ (by omega)]
  intro j
  induction j with
  | zero =>
    intro c h3 h4 h5
    obtain rfl : c = 201 := by omega
    exact hend 201 (by omega) (by omega)
  | succ j ih =>
    intro c h3 h4 h5
    by_cases hlt : n < a * a + b * b + 2 * c * c
    · exact hend c h5 hlt
    · have h6 := Nat.mul_assoc 2 c c
      have hcs := small_of_sq (a := c) (n := n) (by omega) hn
      have hr : sqr3 n a b c ≤ 5000 := by unfold sqr3; omega
      have hne : ¬ (isq (sqr3 n a b c) * isq (sqr3 n a b c) = sqr3 n a b c) := fun he => hno c ⟨hab, h4, by omega, he⟩
      have hih := ih (c + 1) (by omega) (by omega) (by omega)
      have hc0 := hcs
      have e : ¬ (wrap64 ((isq (sqr3 n a b c) : Int) * (isq (sqr3 n a b c) : Int)) = ((sqr3 n a b c : Nat) : Int)) := by rw [q1 (isq_sq_bd hr)]; exact fun h => hne (Int.ofNat_inj.1 h)
      refine Ev.step (fun k => ?_) hih
      simp only [impl_FourSquares.l2]
      have hrt := impl_rootOf_eq (sqr3 n a b c) (Nat.le_trans hr (by decide))
      have hle2 : a * a + b * b + 2 * c * c ≤ n := by omega
      rw [g112 (by omega) (by omega) (by omega), grest (by omega) (by omega) (by omega) hn (by omega), if_pos (Int.ofNat_le.2 hle2), hrt, Option.bind_some, if_neg e, wr_succ (by omega)]
theorem impl_l1_hit {n a b0 c0 : Nat} (hn : n ≤ 5000) (hf : First n a b0 c0) : ∀ (j b : Nat), b0 ≤ b + j → a ≤ b → b ≤ b0 → Ev (fun k => impl_FourSquares.l1 k n a b) (([(a : Int), (b0 : Int), (c0 : Int), (isq (sqr3 n a b0 c0) : Int)] : List Int), true) := by
  have hf' := hf
  obtain ⟨⟨hab, hbc, hle, hsq⟩, _, hno, _⟩ := hf
  have h2 := Nat.mul_assoc 2 c0 c0
  have hcc := Nat.mul_le_mul hbc hbc
  have hc0 := small_of_sq (a := c0) (n := n) (by omega) hn
  have hin : ∀ b, b ≤ b0 → ∀ {v : List Int × Bool}, Ev (fun k => impl_FourSquares.l2 k n a b b) v → Ev (fun k => impl_FourSquares.l1 k n a b) v := by
    intro b hb v h
    have hbb := Nat.mul_le_mul hb hb
    have h3 := Nat.mul_assoc 3 b b
    refine Ev.step (fun k => ?_) h
    simp only [impl_FourSquares.l1]
    rw [g11 (by omega) (by omega), if_pos (by omega)]
  intro j
  induction j with
  | zero =>
    intro b h3 h4 h5
    obtain rfl : b = b0 := by omega
    exact hin b (Nat.le_refl _) (impl_l2_hit hn hf' c0 b (by omega) (by omega) hbc)
  | succ j ih =>
    intro b h3 h4 h5
    by_cases h : b < b0
    · exact hin b h5 (impl_l2_miss hn (by omega) h4 (by omega) (fun c => hno b c h) (ih (b + 1) (by omega) (by omega) (by omega)) 201 b (by omega) (by omega) (by omega))
    · obtain rfl : b = b0 := by omega
      exact hin b (Nat.le_refl _) (impl_l2_hit hn hf' c0 b (by omega) (by omega) hbc)
theorem impl_l1_miss {n a : Nat} (hn : n ≤ 5000) (ha : a ≤ 100) (hno : ∀ b c, ¬ Hit n a b c) {v : List Int × Bool} (hv : Ev (fun k => impl_FourSquares.l0 k n ((a + 1 : Nat) : Int)) v) : ∀ (j b : Nat), 201 ≤ b + j → a ≤ b → b ≤ 201 → Ev (fun k => impl_FourSquares.l1 k n a b) v := by
  have hend : ∀ b, b ≤ 201 → n < a * a + b * b → Ev (fun k => impl_FourSquares.l1 k n a b) v := by
    intro b hb h
    refine Ev.step (fun k => ?_) hv
    simp only [impl_FourSquares.l1]
    rw [g11 (by omega) (by omega), if_neg (by omega), wr_succ (by omega)]
  intro j
  induction j with
  | zero =>
    intro b h3 h4 h5
    obtain rfl : b = 201 := by omega
    exact hend 201 (by omega) (by omega)
  | succ j ih =>
    intro b h3 h4 h5
    by_cases hlt : n < a * a + b * b
    · exact hend b h5 hlt
    · have h3' := Nat.mul_assoc 3 b b
      have hbs := small_of_sq (a := b) (n := n) (by omega) hn
      refine Ev.step (fun k => ?_) (impl_l2_miss hn (by omega) h4 (by omega) (fun c => hno b c) (ih (b + 1) (by omega) (by omega) (by omega)) 201 b (by omega) (by omega) (by omega))
      simp only [impl_FourSquares.l1]
      rw [g11 (by omega) (by omega), if_pos (by omega)]
theorem impl_l0 {n a0 b0 c0 : Nat} (hn : n ≤ 5000) (hf : First n a0 b0 c0) : ∀ (j a : Nat), a0 ≤ a + j → a ≤ a0 → Ev (fun k => impl_FourSquares.l0 k n a) (([(a0 : Int), (b0 : Int), (c0 : Int), (isq (sqr3 n a0 b0 c0) : Int)] : List Int), true) := by
  have hf' := hf
  obtain ⟨⟨hab, hbc, hle, hsq⟩, hno, _, _⟩ := hf
  have h2 := Nat.mul_assoc 2 c0 c0
  have hcc := Nat.mul_le_mul hbc hbc
  have haa := Nat.mul_le_mul hab hab
  have hc0 := small_of_sq (a := c0) (n := n) (by omega) hn
  have hin : ∀ a, a ≤ a0 → ∀ {v : List Int × Bool}, Ev (fun k => impl_FourSquares.l1 k n a a) v → Ev (fun k => impl_FourSquares.l0 k n a) v := by
    intro a ha v h
    have h3 := Nat.mul_le_mul ha ha
    have h4 := Nat.mul_assoc 4 a a
    refine Ev.step (fun k => ?_) h
    simp only [impl_FourSquares.l0]

  intro j
  induction j with
  | zero =>
    intro a h3 h4
    obtain rfl : a = a0 := by omega
    exact hin a (Nat.le_refl _) (impl_l1_hit hn hf' b0 a (by omega) (by omega) hab)
  | succ j ih =>
    intro a h3 h4
    by_cases h : a < a0
    · exact hin a h4 (impl_l1_miss hn (by omega) (fun b c => hno a b c h) (ih (a + 1) (by omega) (by omega)) 201 a (by omega) (by omega) (by omega))
    · obtain rfl : a = a0 := by omega
      exact hin a (Nat.le_refl _) (impl_l1_hit hn hf' b0 a (by omega) (by omega) hab)
theorem spec_FourSquares_ev {n a0 b0 c0 : Nat} (h0 : 0 < n) (hn : n ≤ 5000) (hf : First n a0 b0 c0) : Ev (fun k => spec_FourSquares.f k n) (([(a0 : Int), (b0 : Int), (c0 : Int), (isq (sqr3 n a0 b0 c0) : Int)] : List Int), true) := by
  unfold spec_FourSquares.f
  rw [spec_l1In_eq, decide_eq_true (by omega)]
  simp only [Option.bind_some, if_true]
  exact spec_l0 hn hf a0 0 (by omega) (by omega)
theorem impl_FourSquares_ev {n a0 b0 c0 : Nat} (h0 : 0 < n) (hn : n ≤ 5000) (hf : First n a0 b0 c0) : Ev (fun k => impl_FourSquares.f k n) (([(a0 : Int), (b0 : Int), (c0 : Int), (isq (sqr3 n a0 b0 c0) : Int)] : List Int), true) := by
  unfold impl_FourSquares.f
  refine Ev.congr (f := fun k => impl_FourSquares.j0 k n false) (fun k => by rw [if_neg (by omega), decide_eq_false (by omega)]) ?_
  refine Ev.step (fun k => ?_) (impl_l0 hn hf a0 0 (by omega) (by omega))
  simp only [impl_FourSquares.j0]
  rfl
theorem impl_FourSquares_no (a : Int) (h : ¬ (1 ≤ a ∧ a ≤ 5000)) : Ev (fun k => impl_FourSquares.f k a) (([] : List Int), false) := by
  unfold impl_FourSquares.f
  refine Ev.congr (f := fun k => impl_FourSquares.j0 k a true) (fun k => ?_) (Ev.done fun k => by simp only [impl_FourSquares.j0, if_true])
  by_cases h1 : a < 1
  · rw [if_pos h1]
  · rw [if_neg h1, decide_eq_true (by omega)]
theorem spec_FourSquares_no (a : Int) (h : ¬ (1 ≤ a ∧ a ≤ 5000)) : Ev (fun k => spec_FourSquares.f k a) (([] : List Int), false) := by
  refine Ev.const fun k => ?_
  unfold spec_FourSquares.f
  rw [spec_l1In_eq, decide_eq_false h]
  rfl
theorem hit_wit {n : Nat} (h0 : 0 < n) (hn : n ≤ 5000) : ∃ a b c, Hit n a b c := by
  obtain ⟨a, b, c, d, h1, h2, h3, h4⟩ := wit_four h0 hn
  have hcc := Nat.mul_le_mul h3 h3
  have e2 := Nat.mul_assoc 2 c c
  have hs : sqr3 n a b c = d * d := by unfold sqr3; omega
  have hi : isq (d * d) = d := isq_eq (Nat.le_refl _) (by have := Nat.mul_le_mul_left d (show 1 ≤ 1 by omega); rw [Nat.add_mul, Nat.mul_add]; omega)
  exact ⟨a, b, c, h1, h2, by omega, by rw [hs, hi]⟩
/-- How many points lie in the first i columns of the circle. -/
def cols (n : Nat) : Nat → Int
  | 0 => 0
  | i + 1 => cols n i + (2 * (isq (n - ((i : Int) - isq n).natAbs * ((i : Int) - isq n).natAbs) : Int) + 1)
theorem cols_bd (n : Nat) (hn : n ≤ 1000000) : ∀ i, 0 ≤ cols n i ∧ cols n i ≤ 2001 * i
  | 0 => by simp [cols]
  | i + 1 => by
    have h1 := cols_bd n hn i
    have h2 := isq_small (n := n - ((i : Int) - isq n).natAbs * ((i : Int) - isq n).natAbs) (by omega)
    simp only [cols]; omega
theorem wr_sq {x : Int} (h : x.natAbs ≤ 3037000499) : wrap64 (x * x) = ((x.natAbs * x.natAbs : Nat) : Int) := by
  rw [← Int.natAbs_mul_self (a := x)]
  exact wr (sq_lt h h)
/-- One column. -/
theorem col_step (n i : Nat) (h0 : 0 < n) (hn : n ≤ 100000) (hi : i ≤ 2 * isq n) : (((i : Int) - isq n).natAbs * ((i : Int) - isq n).natAbs) ≤ n ∧
    wrap64 ((n : Int) - wrap64 (((i : Int) - isq n) * ((i : Int) - isq n))) = ((n - ((i : Int) - isq n).natAbs * ((i : Int) - isq n).natAbs : Nat) : Int) ∧
    wrap64 (cols n i + wrap64 (wrap64 (2 * (isq (n - ((i : Int) - isq n).natAbs * ((i : Int) - isq n).natAbs) : Int)) + 1)) = cols n (i + 1) ∧ wrap64 ((i : Int) - isq n + 1) = ((i + 1 : Nat) : Int) - isq n := by
  have hs := isq_small (n := n) (by omega)
  have ha : ((i : Int) - isq n).natAbs ≤ isq n := by omega
  have h1 : ((i : Int) - isq n).natAbs * ((i : Int) - isq n).natAbs ≤ n := Nat.le_trans (Nat.mul_le_mul ha ha) (isq_spec n).1
  have hb := cols_bd n (by omega) i
  have h2 := isq_small (n := n - ((i : Int) - isq n).natAbs * ((i : Int) - isq n).natAbs) (by omega)
  refine ⟨h1, ?_, ?_, ?_⟩
  · rw [wr_sq (by omega), wri (by omega) (by omega)]; omega
  · have e1 : wrap64 (2 * (isq (n - ((i : Int) - isq n).natAbs * ((i : Int) - isq n).natAbs) : Int)) = 2 * (isq (n - ((i : Int) - isq n).natAbs * ((i : Int) - isq n).natAbs) : Int) := wri (by omega) (by omega)
    have e2 : wrap64 (2 * (isq (n - ((i : Int) - isq n).natAbs * ((i : Int) - isq n).natAbs) : Int) + 1) = 2 * (isq (n - ((i : Int) - isq n).natAbs * ((i : Int) - isq n).natAbs) : Int) + 1 := wri (by omega) (by omega)
    rw [e1, e2, wri (by omega) (by omega)]; rfl
  · rw [wri (by omega) (by omega)]; omega
theorem spec_CountInCircle_l (n : Nat) (h0 : 0 < n) (hn : n ≤ 100000) : ∀ (j i : Nat), 2 * isq n + 1 ≤ i + j → i ≤ 2 * isq n + 1 → Ev (fun k => spec_CountInCircle.l0 k n (cols n i) (isq n) ((i : Int) - isq n)) (cols n (2 * isq n + 1), true) := by
  have hs := isq_small (n := n) (by omega)
  have hend : Ev (fun k => spec_CountInCircle.l0 k n (cols n (2 * isq n + 1)) (isq n) (((2 * isq n + 1 : Nat) : Int) - isq n)) (cols n (2 * isq n + 1), true) := by
    refine Ev.done fun k => ?_
    simp only [spec_CountInCircle.l0]
    rw [if_neg (by omega)]
  intro j
  induction j with
  | zero =>
    intro i h1 h2
    obtain rfl : i = 2 * isq n + 1 := by omega
    exact hend
  | succ j ih =>
    intro i h1 h2
    by_cases h : i < 2 * isq n + 1
    · obtain ⟨hle, e1, e2, e3⟩ := col_step n i h0 hn (by omega)
      refine Ev.step (f := fun k => (spec_sqRoot.f k ((n - ((i : Int) - isq n).natAbs * ((i : Int) - isq n).natAbs : Nat) : Int)).bind fun t => spec_CountInCircle.l0 k n (wrap64 (cols n i + wrap64 (wrap64 (2 * t) + 1))) (isq n) (((i + 1 : Nat) : Int) - isq n)) (fun k => ?_) ((spec_sqRoot_ev _ (by omega)).bind ?_)
      · simp only [spec_CountInCircle.l0]
        rw [if_pos (by omega), e1, e3]
      · rw [e2]
        exact ih (i + 1) (by omega) (by omega)
    · obtain rfl : i = 2 * isq n + 1 := by omega
      exact hend
theorem impl_CountInCircle_l (n : Nat) (h0 : 0 < n) (hn : n ≤ 100000) : ∀ (j i : Nat), 2 * isq n + 1 ≤ i + j → i ≤ 2 * isq n + 1 → Ev (fun k => impl_CountInCircle.l0 k n (cols n i) ((i : Int) - isq n)) (cols n (2 * isq n + 1), true) := by
  have hs := isq_small (n := n) (by omega)
  have hend : Ev (fun k => impl_CountInCircle.l0 k n (cols n (2 * isq n + 1)) (((2 * isq n + 1 : Nat) : Int) - isq n)) (cols n (2 * isq n + 1), true) := by
    refine Ev.done fun k => ?_
    simp only [impl_CountInCircle.l0]
    have e : ((2 * isq n + 1 : Nat) : Int) - isq n = ((isq n + 1 : Nat) : Int) := by omega
    have := (isq_spec n).2
    rw [e, wr_mul (sq_lt (by omega) (by omega)), if_neg (by omega)]
  intro j
  induction j with
  | zero =>
    intro i h1 h2
    obtain rfl : i = 2 * isq n + 1 := by omega
    exact hend
  | succ j ih =>
    intro i h1 h2
    by_cases h : i < 2 * isq n + 1
    · obtain ⟨hle, e1, e2, e3⟩ := col_step n i h0 hn (by omega)
      have hr := impl_rootOf_eq (n - ((i : Int) - isq n).natAbs * ((i : Int) - isq n).natAbs) (by omega)
      refine Ev.step (fun k => ?_) (ih (i + 1) (by omega) (by omega))
      simp only [impl_CountInCircle.l0]
      rw [e1, hr, e3, Option.bind_some, e2, wr_sq (by omega), if_pos (by omega)]
    · obtain rfl : i = 2 * isq n + 1 := by omega
      exact hend
theorem spec_CountInCircle_ev (n : Nat) (h0 : 0 < n) (hn : n ≤ 100000) : Ev (fun k => spec_CountInCircle.f k n) (cols n (2 * isq n + 1), true) := by
  have hs := isq_small (n := n) (by omega)
  unfold spec_CountInCircle.f
  rw [spec_sqGood_eq, decide_eq_true (by omega)]
  simp only [Option.bind_some, if_true]
  refine (spec_sqRoot_ev n (by omega)).bind ?_
  have e : wrap64 (-(isq n : Int)) = ((0 : Nat) : Int) - isq n := by rw [wri (by omega) (by omega)]; omega
  rw [e]
  exact spec_CountInCircle_l n h0 hn (2 * isq n + 1) 0 (by omega) (by omega)
theorem impl_CountInCircle_ev (n : Nat) (h0 : 0 < n) (hn : n ≤ 100000) : Ev (fun k => impl_CountInCircle.f k n) (cols n (2 * isq n + 1), true) := by
  have hs := isq_small (n := n) (by omega)
  unfold impl_CountInCircle.f
  rw [impl_isAsked_eq, decide_eq_true (by omega), impl_rootOf_eq n (by omega)]
  simp only [Option.bind_some, if_true]
  have e : wrap64 (-(isq n : Int)) = ((0 : Nat) : Int) - isq n := by rw [wri (by omega) (by omega)]; omega
  rw [e]
  exact impl_CountInCircle_l n h0 hn (2 * isq n + 1) 0 (by omega) (by omega)
theorem kept_bd (p : Nat → Bool) : ∀ n, ∀ x ∈ kept p n, (1 : Int) ≤ x ∧ x ≤ n
  | 0, x, h => by simp [kept] at h
  | n + 1, x, h => by
    simp only [kept] at h
    split at h
    · have := kept_bd p n x h; omega
    · rcases List.mem_append.1 h with h | h
      · have := kept_bd p n x h; omega
      · rw [List.mem_singleton] at h; omega
theorem kept_sorted (p : Nat → Bool) : ∀ n, (kept p n).Pairwise (· < ·)
  | 0 => by simp [kept]
  | n + 1 => by
    simp only [kept]
    split
    · exact kept_sorted p n
    · rw [List.pairwise_append]
      refine ⟨kept_sorted p n, List.pairwise_singleton _ _, fun a ha b hb => ?_⟩
      rw [List.mem_singleton] at hb
      have := kept_bd p n a ha
      omega
theorem kept_mem (p : Nat → Bool) (n m : Nat) : ((m : Int) ∈ kept p n) ↔ (∃ i, m = i + 1 ∧ i < n ∧ p (i + 1) = false) := by
  induction n with
  | zero => simp [kept]
  | succ n ih =>
    have hno : (∃ i, m = i + 1 ∧ i < n + 1 ∧ p (i + 1) = false) ↔ (∃ i, m = i + 1 ∧ i < n ∧ p (i + 1) = false) ∨ (m = n + 1 ∧ p (n + 1) = false) := by
      constructor
      · rintro ⟨i, h1, h2, h3⟩
        by_cases h : i = n
        · subst h; exact .inr ⟨h1, h3⟩
        · exact .inl ⟨i, h1, by omega, h3⟩
      · rintro (⟨i, h1, h2, h3⟩ | ⟨h1, h3⟩)
        · exact ⟨i, h1, by omega, h3⟩
        · exact ⟨n, h1, by omega, h3⟩
    rw [hno]
    simp only [kept]
    by_cases hc : p (n + 1) = true
    · rw [if_pos hc, ih]
      constructor
      · exact .inl
      · rintro (h | h)
        · exact h
        · rw [hc] at h; exact absurd h.2 (by decide)
    · rw [if_neg hc, List.mem_append, ih, List.mem_singleton]
      constructor
      · rintro (h | h)
        · exact .inl h
        · exact .inr ⟨by omega, by simpa using hc⟩
      · rintro (h | h)
        · exact .inl h
        · exact .inr (by omega)
theorem rd_mid_ (pre : List Int) (x : Int) (l : List Int) : rd (pre ++ x :: l) (pre.length : Int) = x := by unfold rd; rw [Int.toNat_natCast]; simp
theorem laws_tSame_l : ∀ (suf pre : List Int), (pre ++ suf).length ≤ 4000000000 → Ev (fun k => laws_tSame.l0 k (pre ++ suf) (pre ++ suf) ((pre ++ suf).length : Nat) (pre.length : Nat)) true
  | [], pre, _ => by
    refine Ev.done fun k => ?_
    simp only [laws_tSame.l0]
    rw [if_neg (by simp)]
  | x :: suf, pre, hl => by
    have hlen : (pre ++ x :: suf).length = pre.length + 1 + suf.length := by simp; omega
    have ih := laws_tSame_l suf (pre ++ [x]) (by simpa using hl)
    rw [List.append_assoc] at ih
    simp only [List.singleton_append, List.length_append, List.length_singleton] at ih
    refine Ev.step (fun k => ?_) ih
    simp only [laws_tSame.l0]
    rw [if_pos (by omega), if_pos (by omega), if_pos (by omega), if_pos (by omega), if_pos trivial, wr_succ (by omega)]
    simp only [List.length_append]
theorem laws_tSame_self (l : List Int) (hl : l.length ≤ 1000000) : Ev (fun k => laws_tSame.f k l l) true := by
  unfold laws_tSame.f
  simp only [if_true]
  exact laws_tSame_l l [] (by rw [List.nil_append]; omega)
theorem laws_tHas_l (x : Int) : ∀ (suf pre : List Int), (pre ++ suf).length ≤ 4000000000 → Ev (fun k => laws_tHas.l0 k x (pre ++ suf) ((pre ++ suf).length : Nat) (pre.length : Nat)) (decide (x ∈ suf))
  | [], pre, _ => by
    refine Ev.done fun k => ?_
    simp only [laws_tHas.l0]
    rw [if_neg (by simp)]
    simp
  | y :: suf, pre, hl => by
    have hlen : (pre ++ y :: suf).length = pre.length + 1 + suf.length := by simp; omega
    have ih := laws_tHas_l x suf (pre ++ [y]) (by simpa using hl)
    rw [List.append_assoc] at ih
    simp only [List.singleton_append, List.length_append, List.length_singleton] at ih
    by_cases h : y = x
    · rw [decide_eq_true (by rw [h]; simp)]
      refine Ev.done fun k => ?_
      simp only [laws_tHas.l0]
      rw [if_pos (by omega), if_pos (by omega), if_pos (by omega), rd_mid_, if_pos h]
    · rw [decide_eq_decide.2 (show x ∈ y :: suf ↔ x ∈ suf by rw [List.mem_cons]; exact ⟨fun k => k.resolve_left (fun e => h e.symm), .inr⟩)]
      refine Ev.step (fun k => ?_) ih
      simp only [laws_tHas.l0]
      rw [if_pos (by omega), if_pos (by omega), if_pos (by omega), rd_mid_, if_neg h, wr_succ (by omega)]
      simp only [List.length_append]
theorem laws_tHas_ev (l : List Int) (x : Int) (hl : l.length ≤ 1000000) : Ev (fun k => laws_tHas.f k l x) (decide (x ∈ l)) :=
  laws_tHas_l x l [] (by rw [List.nil_append]; omega)
/-- The rows a, b with a a + b b = n for a below some number. -/
def tw (n : Nat) : Nat → List (Nat × Nat)
  | 0 => []
  | a + 1 => tw n a ++ (if isq (n - a * a) * isq (n - a * a) = n - a * a then [(a, isq (n - a * a))] else [])
theorem tw_len (n : Nat) : ∀ a, (tw n a).length ≤ a
  | 0 => Nat.le_refl 0
  | a + 1 => by
    have := tw_len n a
    simp only [tw, List.length_append]
    split
    · rw [List.length_singleton]; omega
    · rw [List.length_nil]; omega
theorem half_le {n a : Nat} : 2 * a * a ≤ n ↔ a ≤ isq (n / 2) := by
  obtain ⟨h1, h2⟩ := isq_spec (n / 2)
  have e := Nat.mul_assoc 2 a a
  constructor
  · intro h
    apply Decidable.byContradiction
    intro hc
    have := Nat.mul_le_mul (show isq (n / 2) + 1 ≤ a by omega) (show isq (n / 2) + 1 ≤ a by omega)
    omega
  · intro h
    have := Nat.mul_le_mul h h
    omega
theorem isq_half {n : Nat} (hn : n ≤ 100000) : isq (n / 2) ≤ 223 := by
  obtain ⟨h1, _⟩ := isq_spec (n / 2)
  rcases Nat.lt_or_ge 223 (isq (n / 2)) with h | h
  · have := Nat.mul_le_mul (show 224 ≤ isq (n / 2) from h) (show 224 ≤ isq (n / 2) from h); omega
  · exact h
theorem rowsOf_snoc (l : List (Nat × Nat)) (a b : Nat) : rowsOf (l ++ [(a, b)]) = rowsOf l ++ [[(a : Int), (b : Int)]] := by simp [rowsOf]
/-- The rows of two squares. -/
def twR (n : Nat) : List (Nat × Nat) := tw n (isq (n / 2) + 1)
theorem two_step {n a : Nat} (hn : n ≤ 100000) (ha : a ≤ isq (n / 2)) : wrap64 (wrap64 (2 * (a : Int)) * a) = ((2 * a * a : Nat) : Int) ∧ wrap64 ((n : Int) - wrap64 ((a : Int) * a)) = ((n - a * a : Nat) : Int) ∧ wrap64 ((isq (n - a * a) : Int) * (isq (n - a * a) : Int)) = ((isq (n - a * a) * isq (n - a * a) : Nat) : Int) ∧ n - a * a ≤ 1000000 := by
  have h1 := isq_half hn
  have h2 := half_le.2 ha
  have e := Nat.mul_assoc 2 a a
  have e1 : wrap64 (2 * (a : Int)) = ((2 * a : Nat) : Int) := by rw [wri (by omega) (by omega)]; omega
  have hs := isq_small (n := n - a * a) (by omega)
  refine ⟨by rw [e1, wr_mul (sq_lt (by omega) (by omega))], ?_, wr_mul (sq_lt (by omega) (by omega)), by omega⟩
  rw [wr_mul (sq_lt (by omega) (by omega)), wri (by omega) (by omega)]; omega
theorem two_end {n a : Nat} (hn : n ≤ 100000) (ha : a ≤ 224) (hno : ¬ 2 * a * a ≤ n) : ¬ wrap64 (wrap64 (2 * (a : Int)) * a) ≤ (n : Int) := by
  have e1 : wrap64 (2 * (a : Int)) = ((2 * a : Nat) : Int) := by rw [wri (by clear hno; omega) (by clear hno; omega)]; rfl
  rw [e1, wr_mul (sq_lt (by clear hno; omega) (by clear hno; omega))]
  exact fun h => hno (Int.ofNat_le.1 h)
theorem impl_TwoSquares_l (n : Nat) (hn : n ≤ 100000) : ∀ (j a : Nat), isq (n / 2) + 1 ≤ a + j → a ≤ isq (n / 2) + 1 → Ev (fun k => impl_TwoSquares.l0 k n (rowsOf (tw n a)) a) (rowsOf (twR n), true) := by
  have hh := isq_half hn
  have hend : Ev (fun k => impl_TwoSquares.l0 k n (rowsOf (tw n (isq (n / 2) + 1))) ((isq (n / 2) + 1 : Nat) : Int)) (rowsOf (twR n), true) := by
    have hno : ¬ 2 * (isq (n / 2) + 1) * (isq (n / 2) + 1) ≤ n := fun h => by have := half_le.1 h; omega
    have htw : twR n = tw n (isq (n / 2) + 1) := rfl
    have ha : isq (n / 2) + 1 ≤ 224 := by omega
    rw [htw]
    generalize isq (n / 2) + 1 = a at *
    refine Ev.done fun k => ?_
    simp only [impl_TwoSquares.l0]
    rw [if_neg (two_end hn ha hno)]
  intro j
  induction j with
  | zero =>
    intro a h1 h2
    obtain rfl : a = isq (n / 2) + 1 := by omega
    exact hend
  | succ j ih =>
    intro a h1 h2
    by_cases h : a ≤ isq (n / 2)
    · have key := ih (a + 1) (by omega) (by omega)
      obtain ⟨e1, e2, e3, e4⟩ := two_step hn h
      have h3 : ((2 * a * a : Nat) : Int) ≤ (n : Int) := Int.ofNat_le.2 (half_le.2 h)
      have ha : a ≤ 223 := Nat.le_trans h hh
      have hlen : (rowsOf (tw n a)).length < 5864062014805 := by
        rw [rows_len]
        exact Nat.lt_of_le_of_lt (Nat.le_trans (tw_len n a) ha) (by decide)
      have es : wrap64 ((a : Int) + 1) = ((a + 1 : Nat) : Int) := wr_succ (Nat.lt_of_le_of_lt ha (by decide))
      refine Ev.step (fun k => ?_) key
      simp only [impl_TwoSquares.l0]
      rw [e1, if_pos h3, e2, impl_rootOf_eq _ e4, Option.bind_some, e3, es]
      by_cases hq : isq (n - a * a) * isq (n - a * a) = n - a * a
      · rw [if_pos (by rw [hq]), if_pos hlen]
        simp only [tw, if_pos hq, rowsOf_snoc]
      · have hqi : ¬ ((isq (n - a * a) * isq (n - a * a) : Nat) : Int) = ((n - a * a : Nat) : Int) := fun hc => hq (Int.ofNat.inj hc)
        rw [if_neg hqi]
        simp only [tw, if_neg hq, List.append_nil]
    · obtain rfl : a = isq (n / 2) + 1 := by omega
      exact hend
theorem spec_TwoSquares_l (n : Nat) (hn : n ≤ 100000) : ∀ (j a : Nat), isq (n / 2) + 1 ≤ a + j → a ≤ isq (n / 2) + 1 → Ev (fun k => spec_TwoSquares.l0 k n (rowsOf (tw n a)) a) (rowsOf (twR n), true) := by
  have hh := isq_half hn
  have hend : Ev (fun k => spec_TwoSquares.l0 k n (rowsOf (tw n (isq (n / 2) + 1))) ((isq (n / 2) + 1 : Nat) : Int)) (rowsOf (twR n), true) := by
    have hno : ¬ 2 * (isq (n / 2) + 1) * (isq (n / 2) + 1) ≤ n := fun h => by have := half_le.1 h; omega
    have htw : twR n = tw n (isq (n / 2) + 1) := rfl
    have ha : isq (n / 2) + 1 ≤ 224 := by omega
    rw [htw]
    generalize isq (n / 2) + 1 = a at *
    refine Ev.done fun k => ?_
    simp only [spec_TwoSquares.l0]
    rw [if_neg (two_end hn ha hno)]
  intro j
  induction j with
  | zero =>
    intro a h1 h2
    obtain rfl : a = isq (n / 2) + 1 := by omega
    exact hend
  | succ j ih =>
    intro a h1 h2
    by_cases h : a ≤ isq (n / 2)
    · have key := ih (a + 1) (by omega) (by omega)
      obtain ⟨e1, e2, e3, e4⟩ := two_step hn h
      have h3 : ((2 * a * a : Nat) : Int) ≤ (n : Int) := Int.ofNat_le.2 (half_le.2 h)
      have ha : a ≤ 223 := Nat.le_trans h hh
      have hlen : (rowsOf (tw n a)).length < 5864062014805 := by
        rw [rows_len]
        exact Nat.lt_of_le_of_lt (Nat.le_trans (tw_len n a) ha) (by decide)
      have es : wrap64 ((a : Int) + 1) = ((a + 1 : Nat) : Int) := wr_succ (Nat.lt_of_le_of_lt ha (by decide))
      refine Ev.step (f := ?f0) (fun k => ?a0) ?b0
      case a0 => simp only [spec_TwoSquares.l0]; rw [e1, if_pos h3, e2, es]
      refine (spec_sqRoot_ev _ e4).bind ?_
      simp only [e3]
      by_cases hq : isq (n - a * a) * isq (n - a * a) = n - a * a
      · simp only [hq, if_true, if_pos hlen]
        simp only [tw, if_pos hq, rowsOf_snoc] at key
        exact key
      · have hqi : ¬ ((isq (n - a * a) * isq (n - a * a) : Nat) : Int) = ((n - a * a : Nat) : Int) := fun hc => hq (Int.ofNat.inj hc)
        simp only [if_neg hqi]
        simp only [tw, if_neg hq, List.append_nil] at key
        exact key
    · obtain rfl : a = isq (n / 2) + 1 := by omega
      exact hend
theorem impl_TwoSquares_ev (n : Nat) (h0 : 0 < n) (hn : n ≤ 100000) : Ev (fun k => impl_TwoSquares.f k n) (rowsOf (twR n), true) := by
  unfold impl_TwoSquares.f
  rw [impl_isAsked_eq, decide_eq_true (by omega)]
  simp only [Option.bind_some, if_true]
  exact impl_TwoSquares_l n hn (isq (n / 2) + 1) 0 (by omega) (by omega)
theorem spec_TwoSquares_ev (n : Nat) (h0 : 0 < n) (hn : n ≤ 100000) : Ev (fun k => spec_TwoSquares.f k n) (rowsOf (twR n), true) := by
  unfold spec_TwoSquares.f
  rw [spec_sqGood_eq, decide_eq_true (by omega)]
  simp only [Option.bind_some, if_true]
  exact spec_TwoSquares_l n hn (isq (n / 2) + 1) 0 (by omega) (by omega)
/-! facts of sums of squares -/
theorem tw_mem (n : Nat) : ∀ (A : Nat) (p : Nat × Nat), p ∈ tw n A → p.1 < A ∧ p.2 = isq (n - p.1 * p.1) ∧ p.2 * p.2 = n - p.1 * p.1
  | 0, p, h => by simp [tw] at h
  | a + 1, p, h => by
    simp only [tw, List.mem_append] at h
    rcases h with h | h
    · have := tw_mem n a p h
      exact ⟨by omega, this.2⟩
    · split at h
      · rename_i hq
        rw [List.mem_singleton] at h
        subst h
        exact ⟨Nat.lt_succ_self a, rfl, hq⟩
      · simp at h
theorem tw_sorted (n : Nat) : ∀ A, (tw n A).Pairwise (fun p q => p.1 < q.1)
  | 0 => by simp [tw]
  | a + 1 => by
    simp only [tw]
    rw [List.pairwise_append]
    refine ⟨tw_sorted n a, ?_, fun p hp q hq => ?_⟩
    · split
      · exact List.pairwise_singleton _ _
      · exact List.Pairwise.nil
    · have h1 := (tw_mem n a p hp).1
      split at hq
      · rw [List.mem_singleton] at hq
        subst hq
        exact h1
      · simp at hq
/-- A row's weight: 1 where a is nought or b, else 2. -/
def wt (p : Nat × Nat) : Nat := if p.1 = 0 then 1 else if p.1 = p.2 then 1 else 2
def wtS : List (Nat × Nat) → Nat
  | [] => 0
  | p :: l => wt p + wtS l
theorem wtS_append : ∀ l m, wtS (l ++ m) = wtS l + wtS m
  | [], m => by simp [wtS]
  | p :: l, m => by simp only [List.cons_append, wtS, wtS_append l m]; omega
theorem wtS_len : ∀ l, l.length ≤ wtS l ∧ wtS l ≤ 2 * l.length
  | [] => ⟨Nat.le_refl 0, Nat.le_refl 0⟩
  | p :: l => by
    have := wtS_len l
    simp only [wtS, wt, List.length_cons]
    split
    · omega
    · split <;> omega
theorem row_fact {n a : Nat} (ha : a ≤ isq (n / 2)) : a * a ≤ n ∧ a * a ≤ n - a * a := by
  have h := half_le.2 ha
  have e := Nat.mul_assoc 2 a a
  generalize a * a = q at *
  generalize 2 * a * a = r at *
  omega
theorem sq_le_of {a b : Nat} (h : a * a ≤ b * b) : a ≤ b := by
  apply Decidable.byContradiction
  intro hc
  have := Nat.mul_self_lt_mul_self (show b < a by omega)
  omega
theorem tw_rowT (n : Nat) : ∀ A, A ≤ isq (n / 2) + 1 → wtS (tw n A) = rowT n A
  | 0, _ => rfl
  | a + 1, h => by
    have ih := tw_rowT n a (by omega)
    obtain ⟨h1, h2⟩ := row_fact (n := n) (a := a) (by omega)
    simp only [tw, wtS_append, rowT, ih]
    congr 1
    unfold rowW
    by_cases hq : isq (n - a * a) * isq (n - a * a) = n - a * a
    · have h3 : a ≤ isq (n - a * a) := sq_le_of (by rw [hq]; exact h2)
      rw [if_pos hq, if_pos ⟨h1, hq, h3⟩]
      simp only [wtS, wt]
      by_cases h0 : a = 0
      · rw [if_pos h0, if_pos (.inl h0)]
      · rw [if_neg h0]
        by_cases he : a = isq (n - a * a)
        · rw [if_pos he, if_pos (.inr he)]
        · rw [if_neg he, if_neg (fun k => k.elim h0 he)]
    · rw [if_neg hq, if_neg (fun k => hq k.2.1)]
      rfl
theorem rowW_zero {n a : Nat} (ha : isq (n / 2) < a) : rowW n a = 0 := by
  unfold rowW
  rw [if_neg]
  rintro ⟨h1, h2, h3⟩
  have h4 := Nat.mul_le_mul h3 h3
  have h5 : 2 * a * a ≤ n := by
    have e := Nat.mul_assoc 2 a a
    rw [h2] at h4
    generalize a * a = q at *
    generalize 2 * a * a = r at *
    omega
  have := half_le.1 h5
  omega
theorem rowT_cut (n : Nat) : ∀ j, rowT n (isq (n / 2) + 1 + j) = rowT n (isq (n / 2) + 1)
  | 0 => rfl
  | j + 1 => by
    rw [← Nat.add_assoc, rowT_succ, rowT_cut n j, rowW_zero (by omega), Nat.add_zero]
/-- The rows, weighed, are the divisors' balance. -/
theorem twR_dchi (n : Nat) (h0 : 0 < n) (hn : n ≤ 100000) : (wtS (twR n) : Int) = dchi n := by
  have hh := isq_half hn
  obtain ⟨j, hj⟩ : ∃ j, 317 = isq (n / 2) + 1 + j := ⟨317 - (isq (n / 2) + 1), by omega⟩
  rw [← rows_dchi n h0 hn, hj, rowT_cut, ← tw_rowT n _ (Nat.le_refl _)]
  rfl
theorem two_all (n : Nat) : two n = true ↔ ((facs n).all fun f => !(f.1 % 4 == 3 && f.2 % 2 == 1)) = true := Iff.rfl
theorem two_rows (n : Nat) (h0 : 0 < n) (hn : n ≤ 100000) : two n = decide (((rowsOf (twR n)).length : Int) > 0) := by
  have h1 := (dchi_pos n h0).2
  have h2 := twR_dchi n h0 hn
  have h3 := wtS_len (twR n)
  rw [rows_len, Bool.eq_iff_iff, decide_eq_true_eq, two_all, ← h1]
  omega
theorem twR_mem {n : Nat} {p : Nat × Nat} (h : p ∈ twR n) : p.1 ≤ p.2 ∧ p.1 * p.1 + p.2 * p.2 = n ∧ p.1 ≤ isq (n / 2) := by
  obtain ⟨h1, h2, h3⟩ := tw_mem n _ p h
  obtain ⟨h4, h5⟩ := row_fact (n := n) (a := p.1) (by omega)
  exact ⟨sq_le_of (by rw [h3]; exact h5), by omega, by omega⟩
/-- A sum of two squares is told by its factors. -/
theorem two_of_sum {n a b : Nat} (h0 : 0 < n) (hn : n ≤ 100000) (h : a * a + b * b = n) : two n = true := by
  have key : ∀ a b : Nat, a ≤ b → a * a + b * b = n → two n = true := by
    intro a b hab h
    have ha : a ≤ isq (n / 2) := half_le.1 (by
      have e := Nat.mul_assoc 2 a a
      have := Nat.mul_le_mul hab hab
      omega)
    have hb : n - a * a = b * b := by omega
    have hm : (a, b) ∈ twR n := by
      have : ∀ A, a < A → (a, b) ∈ tw n A := by
        intro A
        induction A with
        | zero => intro h; omega
        | succ A ih =>
          intro hA
          simp only [tw, List.mem_append]
          by_cases he : a = A
          · subst he
            refine .inr ?_
            rw [hb, isq_sq, if_pos rfl]
            exact List.mem_singleton.2 rfl
          · exact .inl (ih (by omega))
      exact this _ (by omega)
    rw [two_rows n h0 hn, decide_eq_true_eq, rows_len]
    have := List.length_pos_of_mem hm
    omega
  rcases Nat.le_total a b with k | k
  · exact key a b k h
  · exact key b a k (by omega)
theorem sum_of_two {n : Nat} (h0 : 0 < n) (hn : n ≤ 100000) (h : two n = true) : ∃ a b, a * a + b * b = n := by
  rw [two_rows n h0 hn, decide_eq_true_eq, rows_len] at h
  cases hl : twR n with
  | nil => rw [hl] at h; simp at h
  | cons p l =>
    have := (twR_mem (n := n) (p := p) (by rw [hl]; simp)).2.1
    exact ⟨p.1, p.2, this⟩
/-- Products of sums are sums. -/
theorem two_mul {x n : Nat} (hx : 0 < x) (h0 : 0 < n) (hn : x * n ≤ 100000) (h1 : two x = true) (h2 : two n = true) : two (x * n) = true := by
  have hx1 : x ≤ x * n := Nat.le_mul_of_pos_right _ h0
  have hn1 : n ≤ x * n := Nat.le_mul_of_pos_left _ hx
  obtain ⟨a, b, e1⟩ := sum_of_two hx (by omega) h1
  obtain ⟨c, d, e2⟩ := sum_of_two h0 (by omega) h2
  have key : ∀ a b c d : Nat, a * c ≤ b * d → a * a + b * b = x → c * c + d * d = n → two (x * n) = true := by
    intro a b c d hle e1 e2
    refine two_of_sum (a := b * d - a * c) (b := a * d + b * c) (Nat.mul_pos hx h0) hn ?_
    rw [← e1, ← e2]
    obtain ⟨t, ht⟩ := Nat.exists_eq_add_of_le hle
    rw [ht, Nat.add_sub_cancel_left]
    have h3 : ((t * t + (a * d + b * c) * (a * d + b * c) : Nat) : Int) = (((a * a + b * b) * (c * c + d * d) : Nat) : Int) := by
      have hti : (t : Int) = (b : Int) * d - (a : Int) * c := by
        have : ((b * d : Nat) : Int) = ((a * c + t : Nat) : Int) := by rw [ht]
        rw [Int.natCast_mul, Int.natCast_add, Int.natCast_mul] at this
        omega
      simp only [Int.natCast_add, Int.natCast_mul, hti]
      simp only [Int.sub_mul, Int.mul_sub, Int.add_mul, Int.mul_add]
      have r1 : (b : Int) * d * (a * c) = a * c * (b * d) := Int.mul_comm _ _
      have r2 : (a : Int) * d * (b * c) = a * c * (b * d) := by simp only [Int.mul_comm, Int.mul_left_comm, Int.mul_assoc]
      have r3 : (b : Int) * c * (a * d) = a * c * (b * d) := by simp only [Int.mul_left_comm, Int.mul_assoc]
      have r4 : (b : Int) * d * (b * d) = b * b * (d * d) := by simp only [Int.mul_comm, Int.mul_left_comm, Int.mul_assoc]
      have r5 : (a : Int) * c * (a * c) = a * a * (c * c) := by simp only [Int.mul_comm, Int.mul_left_comm, Int.mul_assoc]
      have r6 : (a : Int) * d * (a * d) = a * a * (d * d) := by simp only [Int.mul_comm, Int.mul_left_comm, Int.mul_assoc]
      have r7 : (b : Int) * c * (b * c) = b * b * (c * c) := by simp only [Int.mul_comm, Int.mul_left_comm, Int.mul_assoc]
      rw [r1, r2, r3, r4, r5, r6, r7]
      omega
    exact Int.ofNat.inj h3
  rcases Nat.le_total (a * c) (b * d) with k | k
  · exact key a b c d k e1 e2
  · exact key b a d c k (by omega) (by omega)
/-- Sums of two squares are sums of three. -/
theorem third_of_three (n : Nat) : 0 < n → (∃ a b c, a * a + b * b + c * c = n) → third n = true := by
  induction n using Nat.strongRecOn with
  | _ n ih =>
    rintro h0 ⟨a, b, c, h⟩
    have sq4 : ∀ x : Nat, x * x % 4 = (if x % 2 = 0 then 0 else 1) := by
      intro x
      rw [Nat.mul_mod]
      have : x % 4 = 0 ∨ x % 4 = 1 ∨ x % 4 = 2 ∨ x % 4 = 3 := by omega
      rcases this with k | k | k | k <;> rw [k]
      · rw [if_pos (by omega)]
      · rw [if_neg (by omega)]
      · rw [if_pos (by omega)]
      · rw [if_neg (by omega)]
    by_cases h4 : n % 4 = 0
    · have ha := sq4 a
      have hb := sq4 b
      have hc := sq4 c
      have he : a % 2 = 0 ∧ b % 2 = 0 ∧ c % 2 = 0 := by
        generalize a * a = qa at *
        generalize b * b = qb at *
        generalize c * c = qc at *
        split at ha <;> split at hb <;> split at hc <;> omega
      obtain ⟨x, rfl⟩ : ∃ x, a = 2 * x := ⟨a / 2, by omega⟩
      obtain ⟨y, rfl⟩ : ∃ y, b = 2 * y := ⟨b / 2, by omega⟩
      obtain ⟨z, rfl⟩ : ∃ z, c = 2 * z := ⟨c / 2, by omega⟩
      have e : ∀ u : Nat, 2 * u * (2 * u) = 4 * (u * u) := fun u => by
        rw [Nat.mul_mul_mul_comm]
      rw [e, e, e] at h
      rw [third_div h0 h4]
      exact ih (n / 4) (by omega) (by omega) ⟨x, y, z, by omega⟩
    · rw [third_end h4, bne_iff_ne]
      have sq8 : ∀ x : Nat, x * x % 8 = 0 ∨ x * x % 8 = 1 ∨ x * x % 8 = 4 := by
        intro x
        rw [Nat.mul_mod]
        have : x % 8 = 0 ∨ x % 8 = 1 ∨ x % 8 = 2 ∨ x % 8 = 3 ∨ x % 8 = 4 ∨ x % 8 = 5 ∨ x % 8 = 6 ∨ x % 8 = 7 := by omega
        rcases this with k | k | k | k | k | k | k | k <;> rw [k] <;> decide
      have ha := sq8 a
      have hb := sq8 b
      have hc := sq8 c
      generalize a * a = qa at *
      generalize b * b = qb at *
      generalize c * c = qc at *
      omega
theorem third_of_two {n : Nat} (h0 : 0 < n) (hn : n ≤ 100000) (h : two n = true) : third n = true := by
  obtain ⟨a, b, e⟩ := sum_of_two h0 hn h
  exact third_of_three n h0 ⟨0, a, b, by omega⟩
theorem bad_third : ∀ (f n : Nat), 0 < n → n < 4 ^ (f + 1) → third n = true → bad3 f n = false
  | 0, n, h0, hn, h => by
    by_cases h4 : n % 4 = 0
    · exfalso; omega
    · rw [third_end h4, bne_iff_ne] at h
      unfold bad3
      exact Bool.eq_false_iff.2 (fun k => h (Nat.eq_of_beq_eq_true k))
  | f + 1, n, h0, hn, h => by
    unfold bad3
    by_cases h4 : n % 4 = 0
    · rw [if_pos (by rw [h4]; rfl)]
      rw [third_div h0 h4] at h
      refine bad_third f (n / 4) (by omega) ?_ h
      rw [Nat.pow_succ] at hn
      omega
    · rw [if_neg (fun k => h4 (Nat.eq_of_beq_eq_true k))]
      rw [third_end h4, bne_iff_ne] at h
      exact Bool.eq_false_iff.2 (fun k => h (Nat.eq_of_beq_eq_true k))
/-- Three squares tell whether the first of four is nought. -/
theorem third_first {n a b c : Nat} (h0 : 0 < n) (hn : n ≤ 5000) (hf : First n a b c) : third n = decide (a = 0) := by
  obtain ⟨⟨h1, h2, h3, h4⟩, hmin, _, _⟩ := hf
  rw [Bool.eq_iff_iff, decide_eq_true_eq]
  constructor
  · intro h
    obtain ⟨x, y, z, hxy, hyz, e⟩ := three_of h0 hn (bad_third 7 n h0 (by omega) h)
    apply Decidable.byContradiction
    intro ha
    refine hmin 0 x y (by omega) ⟨Nat.zero_le _, hxy, ?_, ?_⟩
    · have e2 := Nat.mul_assoc 2 y y
      have := Nat.mul_le_mul hyz hyz
      omega
    · have hs : sqr3 n 0 x y = z * z := by unfold sqr3; omega
      rw [hs, isq_sq]
  · intro h
    subst h
    refine third_of_three n h0 ⟨b, c, isq (sqr3 n 0 b c), ?_⟩
    rw [h4]
    have e2 := Nat.mul_assoc 2 c c
    unfold sqr3
    omega
theorem chi_vals (d : Nat) : chi d = if d % 4 = 1 then 1 else if d % 4 = 3 then -1 else 0 := by
  unfold chi
  by_cases h : d % 4 = 1
  · rw [if_pos h, if_pos h, if_neg (by omega)]; rfl
  · rw [if_neg h, if_neg h]
    by_cases k : d % 4 = 3
    · rw [if_pos k, if_pos k]; rfl
    · rw [if_neg k, if_neg k]; rfl
theorem gst_fold : ∀ (l : List Nat) (s : Int), -4000000 + 4 * l.length ≤ s → s ≤ 4000000 - 4 * l.length → (ints l).foldl gst s = s + 4 * lsum chi l := by
  intro l
  induction l with
  | nil => intro s _ _; simp [ints, lsum]
  | cons d l ihl =>
    intro s h1 h2
    rw [List.length_cons] at h1 h2
    have e : gst s (d : Int) = s + 4 * chi d := by
      unfold gst
      rw [show Int.tmod (d : Int) 4 = ((d % 4 : Nat) : Int) from rfl, chi_vals]
      by_cases k : d % 4 = 1
      · rw [if_pos (by omega), if_pos k, wri (by omega) (by omega)]; omega
      · rw [if_neg (by omega), if_neg k]
        by_cases q : d % 4 = 3
        · rw [if_pos (by omega), if_pos q, wri (by omega) (by omega)]; omega
        · rw [if_neg (by omega), if_neg q]; omega
    have hc : -1 ≤ chi d ∧ chi d ≤ 1 := by
      rw [chi_vals]; split
      · omega
      · split <;> omega
    have ih := ihl (s + 4 * chi d) (by omega) (by omega)
    show (ints l).foldl gst (gst s (d : Int)) = _
    rw [e, ih]
    simp only [lsum]
    omega
theorem count_two (n : Nat) (h0 : 0 < n) (hn : n ≤ 100000) : (ints (divs n)).foldl gst 0 = 4 * dchi n := by
  have hl := divs_len h0
  rw [gst_fold (divs n) 0 (by omega) (by omega)]
  unfold dchi
  omega
theorem gst4_fold : ∀ (l : List Nat) (s : Int), (∀ d ∈ l, d ≤ 100000) → 0 ≤ s → s ≤ 1000000000000 - 800000 * l.length → s ≤ (ints l).foldl gst4 s := by
  intro l
  induction l with
  | nil => intro s _ _ _; exact Int.le_refl _
  | cons d l ihl =>
    intro s hd h1 h2
    rw [List.length_cons] at h2
    have hd0 := hd d (by simp)
    have e : s ≤ gst4 s (d : Int) ∧ gst4 s (d : Int) ≤ s + 800000 := by
      unfold gst4
      split
      · omega
      · have e1 : wrap64 (8 * (d : Int)) = 8 * (d : Int) := wri (by omega) (by omega)
        rw [e1, wri (by omega) (by omega)]; omega
    have ih := ihl (gst4 s (d : Int)) (fun x hx => hd x (by simp [hx])) (by omega) (by omega)
    show s ≤ (ints l).foldl gst4 (gst4 s (d : Int))
    omega
theorem ways_ge (n : Nat) (h0 : 0 < n) (hn : n ≤ 100000) : 8 ≤ (ints (divs n)).foldl gst4 0 := by
  have hl := divs_len h0
  have hm : 1 ∈ divs n := (mem_divs h0).2 (Nat.one_dvd n)
  obtain ⟨t, ht⟩ : ∃ t, divs n = 1 :: t := by
    cases hd : divs n with
    | nil => rw [hd] at hm; simp at hm
    | cons x t =>
      rw [hd] at hm
      have hs := divs_sorted n
      rw [hd, List.pairwise_cons] at hs
      have hx := divs_pos (n := n) (d := x) (by rw [hd]; simp)
      rcases List.mem_cons.1 hm with h | h
      · exact ⟨t, by rw [h]⟩
      · have := hs.1 1 h; omega
  have hb : ∀ d ∈ t, d ≤ 100000 := fun d hd => by
    have := divs_pos (n := n) (d := d) (by rw [ht]; simp [hd])
    omega
  rw [ht] at hl ⊢
  rw [List.length_cons] at hl
  have e : gst4 0 ((1 : Nat) : Int) = 8 := by
    unfold gst4
    rw [if_neg (by decide), wri (a := 8 * ((1 : Nat) : Int)) (by decide) (by decide), wri (by decide) (by decide)]
    rfl
  have := gst4_fold t 8 hb (by decide) (by omega)
  show 8 ≤ (ints t).foldl gst4 (gst4 0 ((1 : Nat) : Int))
  rw [e]
  exact this
/-! the circle -/
def gC (n x : Nat) : Int := if x * x ≤ n then 2 * (isq (n - x * x) : Int) + 1 else 0
theorem gC_in {n x : Nat} (h : x ≤ isq n) : gC n x = 2 * (isq (n - x * x) : Int) + 1 := by
  have := Nat.mul_le_mul h h
  have := (isq_spec n).1
  unfold gC
  rw [if_pos (by omega)]
theorem gC_out {n x : Nat} (h : isq n < x) : gC n x = 0 := by
  have h1 := (isq_spec n).2
  have := Nat.mul_le_mul (show isq n + 1 ≤ x from h) (show isq n + 1 ≤ x from h)
  unfold gC
  rw [if_neg (by omega)]
theorem cols_low (n : Nat) : ∀ i, i ≤ isq n → cols n i = sumF (gC n) (isq n) - sumF (gC n) (isq n - i)
  | 0, _ => by simp [cols]
  | i + 1, h => by
    have ih := cols_low n i (by omega)
    obtain ⟨m, hm⟩ : ∃ m, isq n - i = m + 1 := ⟨isq n - i - 1, by omega⟩
    have e1 : ((i : Int) - isq n).natAbs = m + 1 := by omega
    have e2 : isq n - (i + 1) = m := by omega
    simp only [cols, e1]
    rw [ih, hm, e2]
    simp only [sumF]
    rw [gC_in (n := n) (x := m + 1) (by omega)]
    omega
theorem cols_high (n : Nat) : ∀ j, j ≤ isq n → cols n (isq n + 1 + j) = sumF (gC n) (isq n) + gC n 0 + sumF (gC n) j
  | 0, _ => by
    have h := cols_low n (isq n) (Nat.le_refl _)
    have e1 : (((isq n : Nat) : Int) - isq n).natAbs = 0 := by omega
    simp only [cols, e1, h, Nat.sub_self, sumF]
    rw [gC_in (n := n) (x := 0) (Nat.zero_le _)]
    omega
  | j + 1, h => by
    have ih := cols_high n j (by omega)
    have e1 : (((isq n + 1 + j : Nat) : Int) - isq n).natAbs = j + 1 := by omega
    rw [← Nat.add_assoc]
    simp only [cols, e1, ih, sumF]
    rw [gC_in (n := n) (x := j + 1) h]
    omega
theorem sumF_cut (f : Nat → Int) (m : Nat) (h : ∀ d, m < d → f d = 0) : ∀ j, sumF f (m + j) = sumF f m
  | 0 => rfl
  | j + 1 => by
    rw [← Nat.add_assoc]
    simp only [sumF]
    rw [sumF_cut f m h j, h (m + j + 1) (by omega), Int.add_zero]
theorem isq_316 {n : Nat} (hn : n ≤ 100000) : isq n ≤ 316 := by
  have h1 := (isq_spec n).1
  rcases Nat.lt_or_ge 316 (isq n) with h | h
  · have := Nat.mul_le_mul (show 317 ≤ isq n from h) (show 317 ≤ isq n from h); omega
  · exact h
theorem circ_eq (n : Nat) (hn : n ≤ 100000) : cols n (2 * isq n + 1) = gC n 0 + 2 * sumF (gC n) 316 := by
  have h := cols_high n (isq n) (Nat.le_refl _)
  have hs := isq_316 hn
  obtain ⟨j, hj⟩ : ∃ j, 316 = isq n + j := ⟨316 - isq n, by omega⟩
  rw [hj, sumF_cut (gC n) (isq n) (fun d hd => gC_out hd) j, show 2 * isq n + 1 = isq n + 1 + isq n by omega, h]
  omega
theorem isq_step (m : Nat) (h0 : 0 < m) : isq m = isq (m - 1) + (if isq m * isq m = m then 1 else 0) := by
  obtain ⟨h1, h2⟩ := isq_spec m
  by_cases h : isq m * isq m = m
  · rw [if_pos h]
    have hp : 0 < isq m := Nat.pos_of_ne_zero fun e => by rw [e] at h; omega
    obtain ⟨r, hr⟩ : ∃ r, isq m = r + 1 := ⟨isq m - 1, by omega⟩
    have e : isq (m - 1) = r := isq_eq (by rw [hr, Nat.add_mul, Nat.mul_add] at h; omega) (by rw [hr] at h; omega)
    rw [e, hr]
  · rw [if_neg h, Nat.add_zero]
    exact (isq_eq (by omega) (by omega)).symm
theorem gC_step (n x : Nat) (h0 : 0 < n) (hx : 0 < x) : gC n x = gC (n - 1) x + ((if x * x = n then 1 else 0) + 2 * (colW n x : Int)) := by
  unfold gC colW
  rcases Nat.lt_trichotomy (x * x) n with h | h | h
  · have e := isq_step (n - x * x) (by omega)
    rw [if_pos (by omega), if_pos (by omega), if_neg (by omega), show n - 1 - x * x = n - x * x - 1 by omega]
    by_cases k : isq (n - x * x) * isq (n - x * x) = n - x * x
    · rw [if_pos k] at e
      rw [if_pos ⟨h, k⟩]
      omega
    · rw [if_neg k] at e
      rw [if_neg (fun q => k q.2)]
      omega
  · rw [if_pos (by omega), if_neg (by omega), if_pos h, if_neg (fun q => by omega), show n - x * x = 0 by omega, show isq 0 = 0 by decide]
    rfl
  · rw [if_neg (by omega), if_neg (by omega), if_neg (by omega), if_neg (fun q => by omega)]
    rfl
theorem sumF_sq (n : Nat) (h0 : 0 < n) : ∀ m, sumF (fun x => if x * x = n then 1 else 0) m = if isq n * isq n = n ∧ isq n ≤ m then 1 else 0
  | 0 => by
    rw [if_neg]
    · rfl
    · rintro ⟨h, k⟩
      have : isq n = 0 := by omega
      rw [this] at h
      omega
  | m + 1 => by
    simp only [sumF]
    rw [sumF_sq n h0 m]
    by_cases h : (m + 1) * (m + 1) = n
    · have e : isq n = m + 1 := by rw [← h]; exact isq_sq _
      rw [if_pos h, if_neg (fun q => by omega), if_pos ⟨by rw [e]; exact h, by omega⟩]
      rfl
    · rw [if_neg h, Int.add_zero]
      by_cases k : isq n * isq n = n
      · have hne : isq n ≠ m + 1 := fun e => h (by rw [← e]; exact k)
        by_cases q : isq n ≤ m
        · rw [if_pos ⟨k, q⟩, if_pos ⟨k, by omega⟩]
        · rw [if_neg (fun z => q z.2), if_neg (fun z => by omega)]
      · rw [if_neg (fun z => k z.1), if_neg (fun z => k z.1)]
theorem sumF_col (n : Nat) : ∀ m, sumF (fun x => 2 * (colW n x : Int)) m = 2 * (colT n m : Int)
  | 0 => rfl
  | m + 1 => by
    simp only [sumF]
    rw [sumF_col n m, colT_succ, Int.natCast_add]
    omega
/-- A circle's new points are counted by the divisors. -/
theorem circ_step (n : Nat) (h1 : 1 < n) (hn : n ≤ 100000) : cols n (2 * isq n + 1) - cols (n - 1) (2 * isq (n - 1) + 1) = 4 * dchi n := by
  rw [circ_eq n hn, circ_eq (n - 1) (by omega), ← cols_dchi n (by omega) hn]
  have e1 : sumF (gC n) 316 = sumF (fun x => gC (n - 1) x + ((if x * x = n then 1 else 0) + 2 * (colW n x : Int))) 316 := jsum_congr 316 (fun d h _ => gC_step n d (by omega) h)
  have e2 : gC n 0 = gC (n - 1) 0 + (if isq n * isq n = n then 2 else 0) := by
    have e := isq_step n (by omega)
    unfold gC
    rw [if_pos (Nat.zero_le _), if_pos (Nat.zero_le _), show n - 0 * 0 = n by omega, show n - 1 - 0 * 0 = n - 1 by omega]
    by_cases k : isq n * isq n = n
    · rw [if_pos k] at e ⊢; omega
    · rw [if_neg k] at e ⊢; omega
  have e3 := sumF_sq n (by omega) 316
  have e4 := sumF_col n 316
  have hs := isq_316 hn
  rw [e1, e2, jsum_add, jsum_add, e3, e4, Int.natCast_add]
  generalize sumF (gC (n - 1)) 316 = A
  generalize gC (n - 1) 0 = B
  generalize colT n 316 = C
  by_cases k : isq n * isq n = n
  · rw [if_pos k, if_pos ⟨k, hs⟩, if_pos k]; omega
  · rw [if_neg k, if_neg (fun q => k q.1), if_neg k]; omega
theorem law_l3_stop (x : Int) (is : Bool) (L : List Int) (i : Nat) (h : ¬ (i : Int) < (L.length : Int)) (ok : Bool) : Ev (fun k => laws_FnSumsOfSquaresOfAll.l3 k x ok is L (L.length : Int) (i : Int)) true := by
  refine Ev.done fun k => ?_
  simp only [laws_FnSumsOfSquaresOfAll.l3]
  rw [if_neg h]
theorem j9_stop (x v : Int) (ok is : Bool) (L : List Int) (n i : Int) : Ev (fun k => laws_FnSumsOfSquaresOfAll.j9 k x ok is v L n i true) true := by
  refine Ev.done fun k => ?_
  simp only [laws_FnSumsOfSquaresOfAll.j9, if_true]
/-- n is asked and a sum: products. -/
theorem law_l3 (n m : Nat) (h0 : 0 < n) (hn : n ≤ 100000) (hm : m ≤ 600) : ∀ (j i : Nat), 8 ≤ i + j → Ev (fun k => laws_FnSumsOfSquaresOfAll.l3 k (n : Int) true (two n) (kept notTwo m) ((kept notTwo m).length : Int) (i : Int)) true := by
  have hl := kept_len notTwo m
  intro j
  induction j with
  | zero =>
    intro i hi
    by_cases h : (i : Int) < ((kept notTwo m).length : Int)
    · refine Ev.step (fun k => ?_) (j9_stop (n : Int) (rd (kept notTwo m) (i : Int)) true (two n) (kept notTwo m) ((kept notTwo m).length : Int) (i : Int))
      simp only [laws_FnSumsOfSquaresOfAll.l3]
      rw [if_pos h, if_pos (Int.natCast_nonneg _), if_pos h, if_pos (by omega)]
    · exact law_l3_stop _ _ _ _ h _
  | succ j ih =>
    intro i hi
    by_cases h : (i : Int) < ((kept notTwo m).length : Int)
    · by_cases h6 : (i : Int) > 6
      · refine Ev.step (fun k => ?_) (j9_stop (n : Int) (rd (kept notTwo m) (i : Int)) true (two n) (kept notTwo m) ((kept notTwo m).length : Int) (i : Int))
        simp only [laws_FnSumsOfSquaresOfAll.l3]
        rw [if_pos h, if_pos (Int.natCast_nonneg _), if_pos h, if_pos h6]
      · have key := ih (i + 1) (by omega)
        obtain ⟨x, hx, hx1, hx2, htx⟩ : ∃ x : Nat, rd (kept notTwo m) (i : Int) = (x : Int) ∧ 1 ≤ x ∧ x ≤ m ∧ two x = true := by
          have hmem : rd (kept notTwo m) (i : Int) ∈ kept notTwo m := by
            unfold rd
            rw [Int.toNat_natCast, List.getD_eq_getElem?_getD, List.getElem?_eq_getElem (by omega)]
            exact List.getElem_mem _
          have hb := kept_bd notTwo m _ hmem
          obtain ⟨x, hx⟩ := Int.eq_ofNat_of_zero_le (show 0 ≤ rd (kept notTwo m) (i : Int) by omega)
          rw [hx] at hmem hb
          obtain ⟨q, e1, _, e3⟩ := (kept_mem notTwo m x).1 hmem
          refine ⟨x, hx, by omega, by omega, ?_⟩
          unfold notTwo at e3
          rw [e1]
          simpa using e3
        have e1 : wrap64 ((i : Int) + 1) = ((i + 1 : Nat) : Int) := wr_succ (by omega)
        have e2 : wrap64 (Int.tdiv 100000 (x : Int)) = ((100000 / x : Nat) : Int) := wr_tdiv (a := 100000) (b := x) (by decide)
        have hj9 : Ev (fun k => laws_FnSumsOfSquaresOfAll.j9 k (n : Int) true (two n) (x : Int) (kept notTwo m) ((kept notTwo m).length : Int) (i : Int) (if two n = true then decide ((n : Int) > ((100000 / x : Nat) : Int)) else true)) true := by
          by_cases ht : two n = true
          · rw [if_pos ht]
            by_cases hb : (n : Int) > ((100000 / x : Nat) : Int)
            · rw [decide_eq_true hb]; exact j9_stop _ _ _ _ _ _ _
            · rw [decide_eq_false hb]
              have hxn : x * n ≤ 100000 := by
                have := Nat.mul_le_mul_left x (show n ≤ 100000 / x by omega)
                exact Nat.le_trans this (Nat.mul_div_le 100000 x)
              have e3 : wrap64 ((x : Int) * (n : Int)) = ((x * n : Nat) : Int) := wr_mul (by omega)
              have hev := impl_IsSumOfTwo_ev (x * n) (Nat.mul_pos hx1 h0) hxn
              rw [two_mul hx1 h0 hxn htx ht] at hev
              refine Ev.step (f := ?f0) (fun k => ?a0) ?b0
              case a0 => simp only [laws_FnSumsOfSquaresOfAll.j9, Bool.false_eq_true, if_false]; rw [e3, e1]
              refine hev.bind ?_
              simp only [if_true]
              exact key
          · rw [if_neg ht]; exact j9_stop _ _ _ _ _ _ _
        refine Ev.step (fun k => ?_) hj9
        simp only [laws_FnSumsOfSquaresOfAll.l3]
        rw [if_pos h, if_pos (Int.natCast_nonneg _), if_pos h, if_neg h6, hx, e2, if_neg (show ¬ (n : Int) < 1 by omega), if_neg (show ¬ (x : Int) = 0 by omega), if_pos trivial]
        by_cases ht : two n = true
        · rw [if_pos ht, if_pos ht]
        · rw [if_neg ht, if_neg ht]
    · exact law_l3_stop _ _ _ _ h _
/-- n isn't asked: nothing is asked of products. -/
theorem law_l3_no (x : Int) (is : Bool) (hx : ¬ (1 ≤ x ∧ x ≤ 100000)) (m : Nat) (hm : m ≤ 600) : Ev (fun k => laws_FnSumsOfSquaresOfAll.l3 k x false is (kept notTwo m) ((kept notTwo m).length : Int) ((0 : Nat) : Int)) true := by
  have hl := kept_len notTwo m
  by_cases h : ((0 : Nat) : Int) < ((kept notTwo m).length : Int)
  · have hmem : rd (kept notTwo m) ((0 : Nat) : Int) ∈ kept notTwo m := by
      unfold rd
      rw [Int.toNat_natCast, List.getD_eq_getElem?_getD, List.getElem?_eq_getElem (by omega)]
      exact List.getElem_mem _
    have hb := kept_bd notTwo m _ hmem
    obtain ⟨y, hy⟩ := Int.eq_ofNat_of_zero_le (show 0 ≤ rd (kept notTwo m) ((0 : Nat) : Int) by omega)
    rw [hy] at hb
    have e2 : wrap64 (Int.tdiv 100000 (y : Int)) = ((100000 / y : Nat) : Int) := wr_tdiv (a := 100000) (b := y) (by decide)
    have h3 : 100000 / y ≤ 100000 := Nat.div_le_self _ _
    refine Ev.step (fun k => ?_) (j9_stop x (y : Int) false is (kept notTwo m) ((kept notTwo m).length : Int) ((0 : Nat) : Int))
    simp only [laws_FnSumsOfSquaresOfAll.l3]
    rw [if_pos h, if_pos (Int.natCast_nonneg _), if_pos h, if_neg (by decide), hy, e2]
    simp only [Bool.false_eq_true, if_false]
    by_cases h1 : x < 1
    · rw [if_pos h1]
    · rw [if_neg h1, if_neg (show ¬ (y : Int) = 0 by omega), decide_eq_true (show x > ((100000 / y : Nat) : Int) by omega)]
  · exact law_l3_stop _ _ _ _ h _
theorem law_l2 (x : Int) (ok is : Bool) (m : Nat) (hm : m ≤ 600) (h3 : Ev (fun k => laws_FnSumsOfSquaresOfAll.l3 k x ok is (kept notTwo m) ((kept notTwo m).length : Int) ((0 : Nat) : Int)) true) : ∀ (j i : Nat), m ≤ i + j → i ≤ m → Ev (fun k => laws_FnSumsOfSquaresOfAll.l2 k x (m : Int) ok is (kept notTwo m) ((i + 1 : Nat) : Int)) true := by
  have hl := kept_len notTwo m
  have hend : ∀ i, i = m → Ev (fun k => laws_FnSumsOfSquaresOfAll.l2 k x (m : Int) ok is (kept notTwo m) ((i + 1 : Nat) : Int)) true := by
    intro i hi
    refine Ev.step (fun k => ?_) h3
    simp only [laws_FnSumsOfSquaresOfAll.l2]
    rw [if_neg (by omega)]
    rfl
  intro j
  induction j with
  | zero => intro i h1 h2; exact hend i (by omega)
  | succ j ih =>
    intro i h1 h2
    by_cases hi : i = m
    · exact hend i hi
    · have key := ih (i + 1) (by omega) (by omega)
      have e1 : wrap64 (((i + 1 : Nat) : Int) + 1) = ((i + 1 + 1 : Nat) : Int) := wr_succ (by omega)
      have hh := laws_tHas_ev (kept notTwo m) ((i + 1 : Nat) : Int) (by omega)
      have hd : decide (((i + 1 : Nat) : Int) ∈ kept notTwo m) = two (i + 1) := by
        rw [Bool.eq_iff_iff, decide_eq_true_eq, kept_mem]
        constructor
        · rintro ⟨q, e1, _, e3⟩
          unfold notTwo at e3
          rw [e1]
          simpa using e3
        · intro h
          exact ⟨i, rfl, by omega, by unfold notTwo; rw [h]; rfl⟩
      rw [hd] at hh
      refine Ev.step (f := ?f0) (fun k => ?a0) ?b0
      case a0 => simp only [laws_FnSumsOfSquaresOfAll.l2]; rw [if_pos (show ((i + 1 : Nat) : Int) ≤ (m : Int) by omega), e1]
      refine (impl_IsSumOfTwo_ev (i + 1) (by omega) (by omega)).bind ?_
      simp only [if_true]
      refine hh.bind ?_
      simp only [bne_self_eq_false, Bool.false_eq_true, if_false]
      exact key
theorem sums_no (m : Int) (h : ¬ (0 ≤ m ∧ m ≤ 600)) : ∀ k, impl_SumsOfTwoUpTo.f k m = some ([], false) ∧ spec_SumsOfTwoUpTo.f k m = some ([], false) := by
  intro k
  unfold impl_SumsOfTwoUpTo.f spec_SumsOfTwoUpTo.f
  rw [impl_isMost_eq, spec_sqMost_eq, decide_eq_false h]
  exact ⟨rfl, rfl⟩
theorem law_j5 (x m : Int) (ok is : Bool) (h3 : ∀ q : Nat, q ≤ 600 → Ev (fun k => laws_FnSumsOfSquaresOfAll.l3 k x ok is (kept notTwo q) ((kept notTwo q).length : Int) ((0 : Nat) : Int)) true) : Ev (fun k => laws_FnSumsOfSquaresOfAll.j5 k x m ok is) true := by
  by_cases h : 0 ≤ m ∧ m ≤ 600
  · obtain ⟨q, rfl⟩ := Int.eq_ofNat_of_zero_le h.1
    have hq : q ≤ 600 := by omega
    have hl := kept_len notTwo q
    have hj6 : Ev (fun k => laws_FnSumsOfSquaresOfAll.j6 k x (q : Int) ok is (kept notTwo q) true false) true := by
      refine Ev.step (fun k => ?_) (law_l2 x ok is q hq (h3 q hq) q 0 (by omega) (by omega))
      simp only [laws_FnSumsOfSquaresOfAll.j6, Bool.false_eq_true, if_false, if_true]
      rfl
    refine Ev.step (f := ?f0) (fun k => ?a0) ?b0
    case a0 => simp only [laws_FnSumsOfSquaresOfAll.j5]; exact rfl
    refine (impl_SumsOfTwoUpTo_ev q hq).bind ((spec_SumsOfTwoUpTo_ev q hq).bind ?_)
    simp only [bne_self_eq_false, Bool.false_eq_true, if_false]
    refine (laws_tSame_self (kept notTwo q) (by omega)).bind ?_
    simp only [Bool.not_true]
    exact hj6
  · have hno := sums_no m h
    have hj6 : Ev (fun k => laws_FnSumsOfSquaresOfAll.j6 k x m ok is [] false false) true := by
      refine Ev.done fun k => ?_
      simp only [laws_FnSumsOfSquaresOfAll.j6, Bool.false_eq_true, if_false]
    refine Ev.step (f := fun k => (laws_tSame.f k [] []).bind fun t => laws_FnSumsOfSquaresOfAll.j6 k x m ok is [] false (!t)) (fun k => ?_) ?_
    · simp only [laws_FnSumsOfSquaresOfAll.j5]
      rw [(hno k).1, (hno k).2]
      rfl
    · refine (laws_tSame_self [] (by simp)).bind ?_
      simp only [Bool.not_true]
      exact hj6
/-- What follows when n is asked. -/
theorem law_j5n (n : Nat) (h0 : 0 < n) (hn : n ≤ 100000) (m : Int) : Ev (fun k => laws_FnSumsOfSquaresOfAll.j5 k (n : Int) m true (two n)) true :=
  law_j5 n m true (two n) (fun q hq => law_l3 n q h0 hn hq 8 0 (by omega))
theorem four_at (a b c d : Int) : rd [a, b, c, d] 0 = a ∧ rd [a, b, c, d] 1 = b ∧ rd [a, b, c, d] 2 = c ∧ rd [a, b, c, d] 3 = d := ⟨rfl, rfl, rfl, rfl⟩
theorem wr_is {x : Int} {y : Nat} (h : x = (y : Int)) (hy : y ≤ 1000000) : wrap64 x = (y : Int) := by rw [h]; exact wr (Nat.lt_of_le_of_lt hy (by decide))
theorem law_l1 (n : Nat) (h0 : 0 < n) (hn : n ≤ 5000) (m : Int) (a b c d : Nat) (hab : a ≤ b) (hbc : b ≤ c) (hcd : c ≤ d) (hs : a * a + b * b + c * c + d * d = n) (ht : third n = decide (a = 0)) :
    Ev (fun k => laws_FnSumsOfSquaresOfAll.l1 k (n : Int) m true (two n) (third n) [(a : Int), (b : Int), (c : Int), (d : Int)] 0 [(a : Int), (b : Int), (c : Int), (d : Int)] (([(a : Int), (b : Int), (c : Int), (d : Int)].length : Nat) : Int) 0) true := by
  have hj := law_j5n n h0 (by omega) m
  have hd : d ≤ 100 := small_of_sq (n := n) (by omega) hn
  have s : ∀ x : Nat, x ≤ 100 → wrap64 ((x : Int) * (x : Int)) = ((x * x : Nat) : Int) ∧ x * x ≤ 10000 := fun x hx => ⟨wr_mul (sq_lt (by omega) (by omega)), Nat.mul_le_mul hx hx⟩
  have la := (s a (by omega)).2
  have lb := (s b (by omega)).2
  have lc := (s c (by omega)).2
  have ld := (s d hd).2
  have na : ¬ (a : Int) < 0 := by omega
  have nb : ¬ (b : Int) < 0 := by omega
  have nc : ¬ (c : Int) < 0 := by omega
  have nd : ¬ (d : Int) < 0 := by omega
  have nab : ¬ (b : Int) < (a : Int) := by omega
  have nbc : ¬ (c : Int) < (b : Int) := by omega
  have ncd : ¬ (d : Int) < (c : Int) := by omega
  have w0 : wrap64 (0 + ((a * a : Nat) : Int)) = ((a * a : Nat) : Int) := by rw [Int.zero_add]; exact wr_is rfl (by omega)
  have w1 : wrap64 (((a * a : Nat) : Int) + ((b * b : Nat) : Int)) = ((a * a + b * b : Nat) : Int) := wr_is (Int.natCast_add _ _).symm (by clear w0; omega)
  have w2 : wrap64 (((a * a + b * b : Nat) : Int) + ((c * c : Nat) : Int)) = ((a * a + b * b + c * c : Nat) : Int) := wr_is (Int.natCast_add _ _).symm (by clear w0 w1; omega)
  have w3 : wrap64 (((a * a + b * b + c * c : Nat) : Int) + ((d * d : Nat) : Int)) = (n : Int) := by
    rw [← hs]; exact wr_is (Int.natCast_add _ _).symm (by clear w0 w1 w2; omega)
  have hne : (third n != ((a : Int) == 0)) = false := by
    clear w0 w1 w2 w3
    rw [ht, bne_eq_false_iff_eq, Bool.eq_iff_iff, decide_eq_true_eq, beq_iff_eq]
    exact Int.natCast_eq_zero.symm
  have sa := (s a (Nat.le_trans hab (Nat.le_trans hbc (Nat.le_trans hcd hd)))).1
  have sb := (s b (Nat.le_trans hbc (Nat.le_trans hcd hd))).1
  have sc := (s c (Nat.le_trans hcd hd)).1
  have sd := (s d hd).1
  obtain ⟨g0, g1, g2, g3⟩ := four_at (a : Int) b c d
  have hlen : (([(a : Int), (b : Int), (c : Int), (d : Int)].length : Nat) : Int) = 4 := rfl
  rw [hlen]
  generalize hL : [(a : Int), (b : Int), (c : Int), (d : Int)] = L at *
  have i1 : wrap64 (0 + 1) = 1 := by rw [wri (by decide) (by decide)]; rfl
  have i2 : wrap64 (1 + 1) = 2 := by rw [wri (by decide) (by decide)]; rfl
  have i3 : wrap64 (2 + 1) = 3 := by rw [wri (by decide) (by decide)]; rfl
  have i4 : wrap64 (3 + 1) = 4 := by rw [wri (by decide) (by decide)]; rfl
  have p1 : wrap64 (1 - 1) = 0 := by rw [wri (by decide) (by decide)]; rfl
  have p2 : wrap64 (2 - 1) = 1 := by rw [wri (by decide) (by decide)]; rfl
  have p3 : wrap64 (3 - 1) = 2 := by rw [wri (by decide) (by decide)]; rfl
  have k4 : Ev (fun k => laws_FnSumsOfSquaresOfAll.l1 k (n : Int) m true (two n) (third n) L (n : Int) L 4 4) true := by
    refine Ev.step (fun k => ?_) hj
    simp only [laws_FnSumsOfSquaresOfAll.l1]
    rw [if_neg (Int.lt_irrefl _), hlen, if_pos rfl, if_pos trivial, if_pos (by decide), g0, hne]
    rfl
  have k3 : Ev (fun k => laws_FnSumsOfSquaresOfAll.l1 k (n : Int) m true (two n) (third n) L ((a * a + b * b + c * c : Nat) : Int) L 4 3) true := by
    refine Ev.step (fun k => ?_) k4
    simp only [laws_FnSumsOfSquaresOfAll.l1]
    rw [if_pos (by decide), if_pos (by decide), hlen, if_pos (by decide), g3, if_neg (by first | exact na | exact nb | exact nc | exact nd | exact nab | exact nbc | exact ncd), if_pos (by decide), p3, if_pos (by decide), if_pos (by decide), g2, if_neg (by first | exact na | exact nb | exact nc | exact nd | exact nab | exact nbc | exact ncd), sd, w3, i4]
  have k2 : Ev (fun k => laws_FnSumsOfSquaresOfAll.l1 k (n : Int) m true (two n) (third n) L ((a * a + b * b : Nat) : Int) L 4 2) true := by
    refine Ev.step (fun k => ?_) k3
    simp only [laws_FnSumsOfSquaresOfAll.l1]
    rw [if_pos (by decide), if_pos (by decide), hlen, if_pos (by decide), g2, if_neg (by first | exact na | exact nb | exact nc | exact nd | exact nab | exact nbc | exact ncd), if_pos (by decide), p2, if_pos (by decide), if_pos (by decide), g1, if_neg (by first | exact na | exact nb | exact nc | exact nd | exact nab | exact nbc | exact ncd), sc, w2, i3]
  have k1 : Ev (fun k => laws_FnSumsOfSquaresOfAll.l1 k (n : Int) m true (two n) (third n) L ((a * a : Nat) : Int) L 4 1) true := by
    refine Ev.step (fun k => ?_) k2
    simp only [laws_FnSumsOfSquaresOfAll.l1]
    rw [if_pos (by decide), if_pos (by decide), hlen, if_pos (by decide), g1, if_neg (by first | exact na | exact nb | exact nc | exact nd | exact nab | exact nbc | exact ncd), if_pos (by decide), p1, if_pos (by decide), if_pos (by decide), g0, if_neg (by first | exact na | exact nb | exact nc | exact nd | exact nab | exact nbc | exact ncd), sb, w1, i2]
  refine Ev.step (fun k => ?_) k1
  simp only [laws_FnSumsOfSquaresOfAll.l1]
  rw [if_pos (by decide), if_pos (by decide), hlen, if_pos (by decide), g0, if_neg (by first | exact na | exact nb | exact nc | exact nd | exact nab | exact nbc | exact ncd), if_neg (by decide), sa, w0, i1]
theorem law_j3 (n : Nat) (h0 : 0 < n) (hn : n ≤ 100000) (m : Int) (sq : List Int) (b : Bool) (hq : b = true → ∃ a b c d : Nat, n ≤ 5000 ∧ sq = [(a : Int), (b : Int), (c : Int), (d : Int)] ∧ a ≤ b ∧ b ≤ c ∧ c ≤ d ∧ a * a + b * b + c * c + d * d = n ∧ third n = decide (a = 0)) :
    Ev (fun k => laws_FnSumsOfSquaresOfAll.j3 k (n : Int) m true (two n) (third n) sq b) true := by
  cases b with
  | false =>
    refine Ev.step (fun k => ?_) (law_j5n n h0 hn m)
    simp only [laws_FnSumsOfSquaresOfAll.j3, Bool.false_eq_true, if_false]
  | true =>
    obtain ⟨a, b, c, d, h5, e, k1, k2, k3, k4, k5⟩ := hq rfl
    subst e
    refine Ev.step (fun k => ?_) (law_l1 n h0 h5 m a b c d k1 k2 k3 k4 k5)
    simp only [laws_FnSumsOfSquaresOfAll.j3, if_true]
theorem law_j2 (n : Nat) (h0 : 0 < n) (hn : n ≤ 100000) (m : Int) (sq : List Int) (b : Bool) (hj : Ev (fun k => laws_FnSumsOfSquaresOfAll.j3 k (n : Int) m true (two n) (third n) sq b) true) :
    Ev (fun k => laws_FnSumsOfSquaresOfAll.j2 k (n : Int) m true (4 * dchi n) (two n) (third n) sq b (cols n (2 * isq n + 1)) false) true := by
  by_cases h1 : (n : Int) > 1
  · have e1 : wrap64 ((n : Int) - 1) = ((n - 1 : Nat) : Int) := by rw [wri (by omega) (by omega)]; omega
    have hev := impl_CountInCircle_ev (n - 1) (by omega) (by omega)
    have hst := circ_step n (by omega) hn
    have hs := isq_316 hn
    have hs1 := isq_316 (n := n - 1) (by omega)
    have b1 := cols_bd n (by omega) (2 * isq n + 1)
    have b2 := cols_bd (n - 1) (by omega) (2 * isq (n - 1) + 1)
    have e2 : wrap64 (cols n (2 * isq n + 1) - cols (n - 1) (2 * isq (n - 1) + 1)) = 4 * dchi n := by
      rw [wri (by omega) (by omega), hst]
    refine Ev.step (f := ?f0) (fun k => ?a0) ?b0
    case a0 => simp only [laws_FnSumsOfSquaresOfAll.j2, Bool.false_eq_true, if_false]; rw [if_pos h1, e1]
    refine hev.bind ?_
    simp only [if_true, e2]
    exact hj
  · have hn1 : n = 1 := by omega
    subst hn1
    refine Ev.step (fun k => ?_) hj
    simp only [laws_FnSumsOfSquaresOfAll.j2, Bool.false_eq_true, if_false]
    rw [if_neg h1, if_pos (by decide)]
theorem rd_row (l : List (Nat × Nat)) (pre suf : List (Nat × Nat)) (p : Nat × Nat) (h : pre ++ p :: suf = l) : rd_L1 (rowsOf l) (pre.length : Int) = [(p.1 : Int), (p.2 : Int)] := by
  unfold rd_L1
  rw [Int.toNat_natCast, ← h]
  exact rows_get pre p suf
theorem row_sorted {pre suf : List (Nat × Nat)} {p q : Nat × Nat} (h : (pre ++ [p] ++ q :: suf).Pairwise (fun p q => p.1 < q.1)) : p.1 < q.1 := by
  rw [List.append_assoc] at h
  have h2 := (List.pairwise_append.1 h).2.1
  rw [List.singleton_append, List.pairwise_cons] at h2
  exact h2.1 q (by simp)
theorem law_l0_step (n : Nat) (hn : n ≤ 100000) (m ways circ : Int) (c4 : Int) (sq : List Int) (b : Bool) (R : List (List Int)) (i : Nat) (a c : Nat) (s : Nat) (hs : s ≤ 1000000) (hi : i < R.length) (hR : R.length ≤ 1000000) (hrow : rd_L1 R (i : Int) = [(a : Int), (c : Int)]) (hac : a ≤ c) (hsum : a * a + c * c = n)
    (hprev : 0 < i → ∃ a' c' : Nat, rd_L1 R ((i - 1 : Nat) : Int) = [(a' : Int), (c' : Int)] ∧ a' < a) {v : Bool}
    (key : Ev (fun k => laws_FnSumsOfSquaresOfAll.l0 k (n : Int) m R true c4 (two n) (third n) sq b ways circ ((4 * (s + wt (a, c)) : Nat) : Int) R (R.length : Int) ((i + 1 : Nat) : Int)) v) :
    Ev (fun k => laws_FnSumsOfSquaresOfAll.l0 k (n : Int) m R true c4 (two n) (third n) sq b ways circ ((4 * s : Nat) : Int) R (R.length : Int) (i : Int)) v := by
  have hc : c ≤ 316 := by
    rcases Nat.lt_or_ge 316 c with h | h
    · have := Nat.mul_le_mul (show 317 ≤ c from h) (show 317 ≤ c from h); omega
    · exact h
  have q1 : 4 * s + 4 = 4 * (s + 1) := by clear hsum hprev key; omega
  have q2 : 4 * s + 8 = 4 * (s + 2) := by clear hsum hprev key; omega
  have q3 : 4 * s + 4 < 9223372036854775808 := by clear hsum hprev key; omega
  have q4 : 4 * s + 8 < 9223372036854775808 := by clear hsum hprev key; omega
  have q5 : i < 9223372036854775807 := by clear hsum hprev key; omega
  have c1 : (i : Int) < (R.length : Int) := Int.ofNat_lt.2 hi
  have na : ¬ (a : Int) < 0 := by clear hsum hprev key; omega
  have nc : ¬ (c : Int) < (a : Int) := by clear hsum hprev key; omega
  have la : a * a < 9223372036854775808 := sq_lt (by clear hsum hprev key; omega) (by clear hsum hprev key; omega)
  have lc : c * c < 9223372036854775808 := sq_lt (by clear hsum hprev key; omega) (by clear hsum hprev key; omega)
  have q6 : 0 < i → (i : Int) - 1 = ((i - 1 : Nat) : Int) := by clear hsum hprev key; omega
  have q7 : i - 1 ≤ 1000000 := by clear hsum hprev key; omega
  have r0 : rd [(a : Int), (c : Int)] 0 = a := rfl
  have r1 : rd [(a : Int), (c : Int)] 1 = c := rfl
  have rl : (([(a : Int), (c : Int)].length : Nat) : Int) = 2 := rfl
  have e1 : wrap64 ((a : Int) * a) = ((a * a : Nat) : Int) := wr_mul la
  have e2 : wrap64 ((c : Int) * c) = ((c * c : Nat) : Int) := wr_mul lc
  have e3 : wrap64 (((a * a : Nat) : Int) + ((c * c : Nat) : Int)) = (n : Int) := by
    rw [← hsum]; exact wr_is (Int.natCast_add _ _).symm (Nat.le_trans (Nat.le_of_eq hsum) (Nat.le_trans hn (by decide)))
  have e4 : wrap64 (((4 * s : Nat) : Int) + 4) = ((4 * (s + 1) : Nat) : Int) := by rw [← q1]; exact wr (a := 4 * s + 4) q3
  have e8 : wrap64 (((4 * s : Nat) : Int) + 8) = ((4 * (s + 2) : Nat) : Int) := by rw [← q2]; exact wr (a := 4 * s + 8) q4
  have ei : wrap64 ((i : Int) + 1) = ((i + 1 : Nat) : Int) := wr_succ q5
  refine Ev.step (fun k => ?_) key
  have htail : (if (a : Int) = 0 then laws_FnSumsOfSquaresOfAll.l0 k (n : Int) m R true c4 (two n) (third n) sq b ways circ ((4 * (s + 1) : Nat) : Int) R (R.length : Int) ((i + 1 : Nat) : Int) else (if (a : Int) = (c : Int) then laws_FnSumsOfSquaresOfAll.l0 k (n : Int) m R true c4 (two n) (third n) sq b ways circ ((4 * (s + 1) : Nat) : Int) R (R.length : Int) ((i + 1 : Nat) : Int) else laws_FnSumsOfSquaresOfAll.l0 k (n : Int) m R true c4 (two n) (third n) sq b ways circ ((4 * (s + 2) : Nat) : Int) R (R.length : Int) ((i + 1 : Nat) : Int))) = laws_FnSumsOfSquaresOfAll.l0 k (n : Int) m R true c4 (two n) (third n) sq b ways circ ((4 * (s + wt (a, c)) : Nat) : Int) R (R.length : Int) ((i + 1 : Nat) : Int) := by
    unfold wt
    by_cases h0 : a = 0
    · rw [if_pos (by clear e1 e2 e3 e4 e8 ei key hprev hsum; omega), if_pos h0]
    · rw [if_neg (by clear e1 e2 e3 e4 e8 ei key hprev hsum; omega), if_neg h0]
      by_cases h1 : a = c
      · rw [if_pos (by clear e1 e2 e3 e4 e8 ei key hprev hsum; omega), if_pos h1]
      · rw [if_neg (by clear e1 e2 e3 e4 e8 ei key hprev hsum; omega), if_neg h1]
  simp only [laws_FnSumsOfSquaresOfAll.l0]
  rw [if_pos c1, if_pos (Int.natCast_nonneg _), if_pos c1, hrow, rl, if_pos rfl, if_pos (by decide), r0, if_neg na, if_pos (by decide), r1, if_neg nc, e1, e2, e3, if_pos rfl, e4, e8, ei]
  by_cases hp : (i : Int) > 0
  · obtain ⟨a', c', hr', hlt⟩ := hprev (Int.ofNat_lt.1 hp)
    have ep : wrap64 ((i : Int) - 1) = ((i - 1 : Nat) : Int) := wr_is (q6 (Int.ofNat_lt.1 hp)) q7
    have r0' : rd [(a' : Int), (c' : Int)] 0 = a' := rfl
    rw [if_pos hp, ep, if_pos (Int.natCast_nonneg _), if_pos (show ((i - 1 : Nat) : Int) < (R.length : Int) from Int.ofNat_lt.2 (Nat.lt_of_le_of_lt (Nat.sub_le _ _) hi)), hr', show (([(a' : Int), (c' : Int)].length : Nat) : Int) = 2 from rfl, if_pos (by decide), r0', if_neg (by clear e1 e2 e3 e4 e8 ei ep key hprev hsum; omega)]
    exact htail
  · rw [if_neg hp]
    exact htail
theorem law_l0 (n : Nat) (h0 : 0 < n) (hn : n ≤ 100000) (m ways circ : Int) (sq : List Int) (b : Bool) (hw : 8 ≤ ways) (hj : Ev (fun k => laws_FnSumsOfSquaresOfAll.j2 k (n : Int) m true (4 * dchi n) (two n) (third n) sq b circ false) true) : ∀ (suf pre : List (Nat × Nat)), pre ++ suf = twR n →
    Ev (fun k => laws_FnSumsOfSquaresOfAll.l0 k (n : Int) m (rowsOf (twR n)) true (4 * dchi n) (two n) (third n) sq b ways circ ((4 * wtS pre : Nat) : Int) (rowsOf (twR n)) ((rowsOf (twR n)).length : Int) (pre.length : Int)) true := by
  have hl : (twR n).length ≤ 224 := by
    have h1 := tw_len n (isq (n / 2) + 1)
    have h2 := isq_half hn
    exact Nat.le_trans h1 (by omega)
  have hrl := rows_len (twR n)
  intro suf
  induction suf with
  | nil =>
    intro pre hp
    rw [List.append_nil] at hp
    subst hp
    have hd := twR_dchi n h0 hn
    have htw := two_rows n h0 hn
    have e4 : ((4 * wtS (twR n) : Nat) : Int) = 4 * dchi n := by rw [← hd]; omega
    refine Ev.step (fun k => ?_) hj
    simp only [laws_FnSumsOfSquaresOfAll.l0]
    rw [if_neg (by rw [hrl]; exact Int.lt_irrefl _), e4, if_pos rfl, ← htw]
    simp only [bne_self_eq_false, Bool.false_eq_true, if_false, decide_eq_false (show ¬ ways < 8 by omega)]
    by_cases ht : two n = true
    · rw [if_pos ht, if_pos (third_of_two h0 hn ht)]
    · rw [if_neg ht]
  | cons p suf ih =>
    intro pre hp
    have key := ih (pre ++ [p]) (by rw [List.append_assoc]; exact hp)
    rw [wtS_append, List.length_append, List.length_singleton] at key
    have hmem : p ∈ twR n := by rw [← hp]; simp
    obtain ⟨m1, m2, _⟩ := twR_mem hmem
    have hlen : (twR n).length = pre.length + 1 + suf.length := by rw [← hp]; simp; omega
    have hw2 := (wtS_len pre).2
    refine law_l0_step n hn m ways circ _ sq b (rowsOf (twR n)) pre.length p.1 p.2 (wtS pre) (by omega) (by omega) (by omega) (rd_row (twR n) pre suf p hp) m1 m2 ?_ key
    intro hpos
    have hne : pre ≠ [] := by intro h; rw [h] at hpos; simp at hpos
    obtain ⟨q, c, hq⟩ : ∃ q c, pre = q ++ [c] := ⟨pre.dropLast, pre.getLast hne, (List.dropLast_concat_getLast hne).symm⟩
    have hql : pre.length - 1 = q.length := by rw [hq]; simp
    have hs : (twR n).Pairwise (fun p q => p.1 < q.1) := tw_sorted n _
    rw [← hp, hq] at hs
    refine ⟨c.1, c.2, ?_, row_sorted hs⟩
    rw [hql]
    exact rd_row (twR n) q (p :: suf) c (by rw [← hp, hq]; simp)
theorem rows_same : ∀ (suf pre : List (Nat × Nat)) (L : List (Nat × Nat)), pre ++ suf = L → L.length ≤ 1000000 → Ev (fun k => laws_tRows.l0 k (rowsOf L) (rowsOf L) ((rowsOf L).length : Int) (pre.length : Int)) true := by
  intro suf
  induction suf with
  | nil =>
    intro pre L h hl
    rw [List.append_nil] at h
    subst h
    have hrl := rows_len pre
    refine Ev.done fun k => ?_
    simp only [laws_tRows.l0]
    rw [if_neg (by rw [hrl]; exact Int.lt_irrefl _)]
  | cons p suf ih =>
    intro pre L h hl
    have key := ih (pre ++ [p]) L (by rw [List.append_assoc]; exact h) hl
    rw [List.length_append, List.length_singleton] at key
    have hlen : L.length = pre.length + 1 + suf.length := by rw [← h]; simp; omega
    have hrl := rows_len L
    have c1 : (pre.length : Int) < ((rowsOf L).length : Int) := by rw [hrl]; omega
    have hr := rd_row L pre suf p h
    have e1 : wrap64 ((pre.length : Int) + 1) = ((pre.length + 1 : Nat) : Int) := wr_succ (by omega)
    refine Ev.step (f := ?f0) (fun k => ?a0) ?b0
    case a0 => simp only [laws_tRows.l0]; rw [if_pos c1, if_pos (Int.natCast_nonneg _), if_pos c1, if_pos c1, hr, e1]
    refine (laws_tSame_self [(p.1 : Int), (p.2 : Int)] (by simp)).bind ?_
    simp only [if_true]
    exact key
theorem rows_same_f (L : List (Nat × Nat)) (hl : L.length ≤ 1000000) : Ev (fun k => laws_tRows.f k (rowsOf L) (rowsOf L)) true := by
  unfold laws_tRows.f
  simp only [if_true]
  exact rows_same L [] L (List.nil_append _) hl
theorem law_j0 (n : Nat) (h0 : 0 < n) (hn : n ≤ 100000) (m : Int) (sq : List Int) (b : Bool) (hq : b = true → ∃ a b c d : Nat, n ≤ 5000 ∧ sq = [(a : Int), (b : Int), (c : Int), (d : Int)] ∧ a ≤ b ∧ b ≤ c ∧ c ≤ d ∧ a * a + b * b + c * c + d * d = n ∧ third n = decide (a = 0)) :
    Ev (fun k => laws_FnSumsOfSquaresOfAll.j0 k (n : Int) m (rowsOf (twR n)) true (4 * dchi n) (two n) (third n) sq b ((ints (divs n)).foldl gst4 0) (cols n (2 * isq n + 1)) false) true := by
  have h3 := law_j3 n h0 hn m sq b hq
  have h2 := law_j2 n h0 hn m sq b h3
  refine Ev.step (fun k => ?_) (law_l0 n h0 hn m _ _ sq b (ways_ge n h0 hn) h2 (twR n) [] rfl)
  simp only [laws_FnSumsOfSquaresOfAll.j0, Bool.false_eq_true, if_false, if_true]
  rfl
theorem law_none (a : Int) (h : ¬ (1 ≤ a ∧ a ≤ 100000)) : ∀ k, impl_TwoSquares.f k a = some ([], false) ∧ spec_TwoSquares.f k a = some ([], false) ∧ impl_CountAsTwo.f k a = some (0, false) ∧ spec_CountAsTwo.f k a = some (0, false) ∧ impl_IsSumOfTwo.f k a = some (false, false) ∧ spec_IsSumOfTwo.f k a = some (false, false) ∧
    impl_IsSumOfThree.f k a = some (false, false) ∧ spec_IsSumOfThree.f k a = some (false, false) ∧ impl_CountAsFour.f k a = some (0, false) ∧ spec_CountAsFour.f k a = some (0, false) ∧ impl_CountInCircle.f k a = some (0, false) ∧ spec_CountInCircle.f k a = some (0, false) := by
  intro k
  unfold impl_TwoSquares.f spec_TwoSquares.f impl_CountAsTwo.f spec_CountAsTwo.f impl_IsSumOfTwo.f spec_IsSumOfTwo.f impl_IsSumOfThree.f spec_IsSumOfThree.f impl_CountAsFour.f spec_CountAsFour.f impl_CountInCircle.f spec_CountInCircle.f
  rw [spec_sqGood_eq, impl_isAsked_eq, decide_eq_false h]
  exact ⟨rfl, rfl, rfl, rfl, rfl, rfl, rfl, rfl, rfl, rfl, rfl, rfl⟩
/-- the values for an asked n, with four squares' answer (sq, b) -/
theorem law_asked (n : Nat) (h0 : 0 < n) (hn : n ≤ 100000) (m : Int) (sq : List Int) (b : Bool) (hb : b = decide ((n : Int) ≤ 5000)) (hlen : sq.length ≤ 1000000) (v1 : Ev (fun k => impl_FourSquares.f k (n : Int)) (sq, b)) (v2 : Ev (fun k => spec_FourSquares.f k (n : Int)) (sq, b))
    (hq : b = true → ∃ a b c d : Nat, n ≤ 5000 ∧ sq = [(a : Int), (b : Int), (c : Int), (d : Int)] ∧ a ≤ b ∧ b ≤ c ∧ c ≤ d ∧ a * a + b * b + c * c + d * d = n ∧ third n = decide (a = 0)) :
    Ev (fun k => laws_FnSumsOfSquaresOfAll.f k (n : Int) m) true := by
  have hl : (twR n).length ≤ 1000000 := by
    have h1 := tw_len n (isq (n / 2) + 1)
    have h2 := isq_half hn
    exact Nat.le_trans h1 (by omega)
  have c1 := impl_CountAsTwo_ev n h0 hn
  have c2 := spec_CountAsTwo_ev n h0 hn
  rw [count_two n h0 hn] at c1 c2
  unfold laws_FnSumsOfSquaresOfAll.f
  refine (impl_TwoSquares_ev n h0 hn).bind ((spec_TwoSquares_ev n h0 hn).bind (c1.bind (c2.bind ((impl_IsSumOfTwo_ev n h0 hn).bind ((spec_IsSumOfTwo_ev n h0 hn).bind ((impl_IsSumOfThree_ev n h0 hn).bind ((spec_IsSumOfThree_ev n h0 hn).bind (v1.bind (v2.bind ((impl_CountAsFour_ev n h0 hn).bind ((spec_CountAsFour_ev n h0 hn).bind ((impl_CountInCircle_ev n h0 hn).bind ((spec_CountInCircle_ev n h0 hn).bind ?_)))))))))))))
  simp only [bne_self_eq_false, Bool.false_eq_true, if_false]
  refine (rows_same_f (twR n) hl).bind ?_
  simp only [if_true]
  refine (laws_tSame_self sq hlen).bind ?_
  simp only [if_true, ← hb, bne_self_eq_false, Bool.false_eq_true, if_false]
  exact law_j0 n h0 hn m sq b hq
theorem FnSumsOfSquaresOfAll : laws_FnSumsOfSquaresOfAll.Pure := by
  intro a0 m _ _
  apply Ev.rounds
  by_cases h : 1 ≤ a0 ∧ a0 ≤ 100000
  · obtain ⟨n, rfl⟩ := Int.eq_ofNat_of_zero_le (show 0 ≤ a0 by omega)
    have h0 : 0 < n := by omega
    have hn : n ≤ 100000 := by omega
    by_cases h5 : n ≤ 5000
    · obtain ⟨x, y, z, hh⟩ := hit_wit h0 h5
      obtain ⟨a, b, c, hf⟩ := first_of_hit hh
      have ht := third_first h0 h5 hf
      refine law_asked n h0 hn m _ true (decide_eq_true (show (n : Int) ≤ 5000 by omega)).symm (by simp) (impl_FourSquares_ev h0 h5 hf) (spec_FourSquares_ev h0 h5 hf) (fun _ => ⟨a, b, c, isq (sqr3 n a b c), h5, rfl, hf.1.1, hf.1.2.1, ?_, ?_, ht⟩)
      · have h1 := hf.1.2.2.1
        have h2 := hf.1.2.2.2
        refine sq_le_of ?_
        rw [h2]
        unfold sqr3
        rw [Nat.mul_assoc 2 c c] at h1
        omega
      · have h1 := hf.1.2.2.1
        have h2 := hf.1.2.2.2
        rw [h2]
        unfold sqr3
        rw [Nat.mul_assoc 2 c c] at h1
        omega
    · have hno : ¬ (1 ≤ (n : Int) ∧ (n : Int) ≤ 5000) := by omega
      exact law_asked n h0 hn m [] false (decide_eq_false (show ¬ (n : Int) ≤ 5000 by omega)).symm (by simp) (impl_FourSquares_no _ hno) (spec_FourSquares_no _ hno) (fun e => absurd e Bool.false_ne_true)
  · have hno := law_none a0 h
    have hno5 : ¬ (1 ≤ a0 ∧ a0 ≤ 5000) := by omega
    have hj : Ev (fun k => laws_FnSumsOfSquaresOfAll.j0 k a0 m [] false 0 false false [] false 0 0 false) true := by
      have h5 := law_j5 a0 m false false (fun q hq => law_l3_no a0 false h q hq)
      have h3 : Ev (fun k => laws_FnSumsOfSquaresOfAll.j3 k a0 m false false false [] false) true := by
        refine Ev.step (fun k => ?_) h5
        simp only [laws_FnSumsOfSquaresOfAll.j3, Bool.false_eq_true, if_false]
      refine Ev.step (fun k => ?_) h3
      simp only [laws_FnSumsOfSquaresOfAll.j0, Bool.false_eq_true, if_false]
    unfold laws_FnSumsOfSquaresOfAll.f
    refine (Ev.const fun k => (hno k).1).bind ((Ev.const fun k => (hno k).2.1).bind ((Ev.const fun k => (hno k).2.2.1).bind ((Ev.const fun k => (hno k).2.2.2.1).bind ((Ev.const fun k => (hno k).2.2.2.2.1).bind ((Ev.const fun k => (hno k).2.2.2.2.2.1).bind ((Ev.const fun k => (hno k).2.2.2.2.2.2.1).bind ((Ev.const fun k => (hno k).2.2.2.2.2.2.2.1).bind ((impl_FourSquares_no _ hno5).bind ((spec_FourSquares_no _ hno5).bind ((Ev.const fun k => (hno k).2.2.2.2.2.2.2.2.1).bind ((Ev.const fun k => (hno k).2.2.2.2.2.2.2.2.2.1).bind ((Ev.const fun k => (hno k).2.2.2.2.2.2.2.2.2.2.1).bind ((Ev.const fun k => (hno k).2.2.2.2.2.2.2.2.2.2.2).bind ?_)))))))))))))
    simp only [bne_self_eq_false, Bool.false_eq_true, if_false]
    refine (rows_same_f [] (by simp)).bind ?_
    simp only [if_true]
    refine (laws_tSame_self [] (by simp)).bind ?_
    simp only [if_true]
    exact hj
end Go.Proofs.Ytfhfbicejddoiaa.Pure
