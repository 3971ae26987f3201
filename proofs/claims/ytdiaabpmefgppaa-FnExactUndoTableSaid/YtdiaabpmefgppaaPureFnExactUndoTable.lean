/- UndoTable answers as the reference does, for every argument. -/
import Derived.Test.YtdiaabpmefgppaaPFnExactUndoTablex5
import Derived.Test.YtdiaabpmefgppaaNtC
import Derived.Test.YtdiaabpmefgppaaNtD
namespace Go.Proofs.Ytdiaabpmefgppaa.Pure
set_option linter.unusedVariables false
open Go Go.RowKit Go.Proofs.Ytdiaabpmefgppaa.PFnExactUndoTable Go.Proofs.YtdiaabpmefgppaaW.PrintWords Go.Proofs.YtdiaabpmefgppaaW.PrintLast Go.Proofs.Ytdiaabpmefgppaa.Nt
theorem Ev.done {α : Type} {g : Nat → Option α} {r : α} (h : ∀ k, g (k + 1) = some r) : Ev g r := Ev.step (f := fun _ => some r) h (Ev.now r)
theorem Ev.const {α : Type} {g : Nat → Option α} {r : α} (h : ∀ k, g k = some r) : Ev g r := Ev.congr (f := fun _ => some r) h (Ev.now r)
theorem wr {a : Nat} (h : a < 9223372036854775808) : wrap64 (a : Int) = a := by unfold wrap64; omega
theorem wri {a : Int} (h0 : -9223372036854775808 ≤ a) (h : a < 9223372036854775808) : wrap64 a = a := by unfold wrap64; omega
theorem wr_mul {a b : Nat} (h : a * b < 9223372036854775808) : wrap64 ((a : Int) * b) = ((a * b : Nat) : Int) := by rw [← Int.natCast_mul]; exact wr h
theorem wr_succ {a : Nat} (h : a < 9223372036854775807) : wrap64 ((a : Int) + 1) = ((a + 1 : Nat) : Int) := wr (a := a + 1) (by omega)
theorem wr_tdiv {a b : Nat} (h : a < 9223372036854775808) : wrap64 (Int.tdiv (a : Int) b) = ((a / b : Nat) : Int) := wr (a := a / b) (Nat.lt_of_le_of_lt (Nat.div_le_self a b) h)
theorem tm (a b : Nat) : Int.tmod (a : Int) b = ((a % b : Nat) : Int) := rfl
theorem sq_lt {a b : Nat} (h : a ≤ 3037000499) (k : b ≤ 3037000499) : a * b < 9223372036854775808 := Nat.lt_of_le_of_lt (Nat.mul_le_mul h k) (by decide)
theorem spec_l1In_eq (a b c : Int) : spec_l1In.f a b c = some (decide (b ≤ a ∧ a ≤ c)) := by
  unfold spec_l1In.f
  by_cases h : a ≥ b
  · rw [if_pos h, decide_eq_decide.2 (show a ≤ c ↔ b ≤ a ∧ a ≤ c from ⟨fun k => ⟨h, k⟩, fun k => k.2⟩)]
  · rw [if_neg h, decide_eq_false (fun k => h k.1)]
theorem facs_len : ∀ (n : Nat), (facs n).length ≤ n := by
  intro n
  induction n using Nat.strongRecOn with
  | _ n ih =>
    by_cases h : n < 2
    · rw [facs_small h]; simp
    · have hn : 2 ≤ n := by omega
      have := rs_lt (lf_two_le hn) (by omega) (lf_dvd hn)
      have := ih _ this
      rw [facs_cons hn, List.length_cons]; omega
/-- A list of primes and exponents as the program's rows. -/
def rowsOf (l : List (Nat × Nat)) : List (List Int) := l.map fun f => [(f.1 : Int), (f.2 : Int)]
theorem getD_mid {α : Type} (pre : List α) (x : α) (l : List α) (d : α) : (pre ++ x :: l).getD pre.length d = x := by simp
theorem rows_get (pre : List (Nat × Nat)) (x : Nat × Nat) (l : List (Nat × Nat)) : (rowsOf (pre ++ x :: l)).getD pre.length [] = [(x.1 : Int), (x.2 : Int)] := by
  simp [rowsOf]
theorem rows_len (l : List (Nat × Nat)) : (rowsOf l).length = l.length := by simp [rowsOf]
theorem impl_leastFactor_l (n : Nat) (h2 : 2 ≤ n) (hn : n ≤ 2000000000) : ∀ (j d : Nat), n + 1 ≤ d + j → 2 ≤ d → d ≤ n + 1 → Above d n → Ev (fun k => impl_leastFactor.l0 k n d) (lf n : Int) := by
  have hend : ∀ d : Nat, d ≤ n + 1 → n < d * d → Above d n → Ev (fun k => impl_leastFactor.l0 k n d) (lf n : Int) := by
    intro d hd hlt ha
    rw [lf_eq h2 (isLf_self h2 hlt (fun m hm hmd hmn => by have := ha m hm hmn; omega))]
    refine Ev.done fun k => ?_
    simp only [impl_leastFactor.l0]
    rw [wr_mul (sq_lt (by omega) (by omega)), if_neg (by omega)]
  intro j
  induction j with
  | zero =>
    intro d hj hd2 hd ha
    exact hend d hd (by have := Nat.mul_le_mul_right d hd2; omega) ha
  | succ j ih =>
    intro d hj hd2 hd ha
    by_cases hlt : n < d * d
    · exact hend d hd hlt ha
    · have hdn : d ≤ n := by have := Nat.mul_le_mul_right d hd2; omega
      by_cases hm : n % d = 0
      · rw [(ha.lf hd2 (by omega) (Nat.dvd_of_mod_eq_zero hm)).2]
        refine Ev.done fun k => ?_
        simp only [impl_leastFactor.l0]
        rw [wr_mul (sq_lt (by omega) (by omega)), tm, if_pos (by omega), if_neg (by omega), if_pos (by omega)]
      · refine Ev.step (fun k => ?_) (ih (d + 1) (by omega) (by omega) (by omega) (ha.succ (fun h => hm (Nat.mod_eq_zero_of_dvd h))))
        simp only [impl_leastFactor.l0]
        rw [wr_mul (sq_lt (by omega) (by omega)), tm, if_pos (by omega), if_neg (by omega), if_neg (by omega), wr_succ (by omega)]
theorem impl_leastFactor_ev (n : Nat) (h2 : 2 ≤ n) (hn : n ≤ 2000000000) : Ev (fun k => impl_leastFactor.f k n) (lf n : Int) :=
  impl_leastFactor_l n h2 hn n 2 (by omega) (Nat.le_refl _) (by omega) (Above.two n)
theorem impl_factors_l1 (p : Nat) (hp : 2 ≤ p) : ∀ (n : Nat) (acc : List (List Int)) (e : Nat) {v : List (List Int)}, 0 < n → n ≤ 2000000000 → e + n ≤ 4000000000 → p ≤ 2000000000 → acc.length + 1 ≤ 3000000000 →
    Ev (fun k => impl_factors.l0 k (rs p n) (acc ++ [[(p : Int), ((e + vl p n : Nat) : Int)]])) v → Ev (fun k => impl_factors.l1 k n acc p e) v := by
  intro n
  induction n using Nat.strongRecOn with
  | _ n ih =>
    intro acc e v h0 hn he hpb hl h
    by_cases hd : p ∣ n
    · obtain ⟨c, rfl⟩ := hd
      have hc0 : 0 < c := by
        rcases Nat.eq_zero_or_pos c with h | h
        · subst h; simp at h0
        · exact h
      have hlt : c < p * c := by have := Nat.mul_le_mul_right c hp; omega
      rw [rs_mul_self hp hc0, vl_mul_self hp hc0] at h
      refine Ev.step (fun k => ?_) (ih c hlt acc (e + 1) (v := v) hc0 (by omega) (by omega) hpb hl (by rw [show e + 1 + vl p c = e + (vl p c + 1) by omega]; exact h))
      simp only [impl_factors.l1]
      rw [tm, if_neg (by omega), if_pos (by simp), wr_tdiv (by omega), wr_succ (by omega), Nat.mul_div_cancel_left c (by omega)]
    · rw [rs_of_not_dvd hp h0 hd, vl_zero hp h0 hd] at h
      refine Ev.step (fun k => ?_) h
      simp only [impl_factors.l1]
      have : n % p ≠ 0 := fun hm => hd (Nat.dvd_of_mod_eq_zero hm)
      rw [tm, if_neg (by omega), if_neg (by omega), if_pos (by omega), Nat.add_zero]
theorem impl_factors_l0 : ∀ (n : Nat) (acc : List (List Int)), n ≤ 1000000000 → acc.length + n ≤ 2000000000 → Ev (fun k => impl_factors.l0 k n acc) (acc ++ rowsOf (facs n)) := by
  intro n
  induction n using Nat.strongRecOn with
  | _ n ih =>
    intro acc hn hl
    by_cases h : n < 2
    · rw [facs_small h]
      refine Ev.done fun k => ?_
      simp only [impl_factors.l0]
      rw [if_neg (by omega)]
      simp [rowsOf]
    · have h2 : 2 ≤ n := by omega
      have hp := lf_two_le h2
      have hple := lf_le h2
      have hlt := rs_lt hp (by omega) (lf_dvd h2)
      have key : Ev (fun k => impl_factors.l1 k n acc (lf n) 0) (acc ++ rowsOf (facs n)) := by
        have := ih _ hlt (acc ++ [[(lf n : Int), ((0 + vl (lf n) n : Nat) : Int)]]) (by omega) (by rw [List.length_append, List.length_singleton]; omega)
        refine impl_factors_l1 (lf n) hp n acc 0 (by omega) (by omega) (by omega) (by omega) (by omega) ?_
        rw [facs_cons h2]
        rw [List.append_assoc] at this
        simpa [rowsOf] using this
      refine Ev.step (f := fun k => (impl_leastFactor.f k n).bind fun t => impl_factors.l1 k n acc t 0) (fun k => ?_) ((impl_leastFactor_ev n h2 (by omega)).bind key)
      simp only [impl_factors.l0]
      rw [if_pos (by omega)]
theorem impl_factors_ev (n : Nat) (hn : n ≤ 1000000000) : Ev (fun k => impl_factors.f k n) (rowsOf (facs n)) := by
  have := impl_factors_l0 n [] hn (by simp; omega)
  exact this
/-- A list of naturals as the program's ints. -/
def ints (l : List Nat) : List Int := l.map fun d : Nat => (d : Int)
theorem ints_len (l : List Nat) : (ints l).length = l.length := by simp [ints]
theorem ints_app (l m : List Nat) : ints l ++ ints m = ints (l ++ m) := by simp [ints]
theorem ints_get (pre : List Nat) (x : Nat) (l : List Nat) : rd (ints (pre ++ x :: l)) (pre.length : Int) = x := by
  unfold rd
  rw [Int.toNat_natCast]
  simp [ints]
theorem ints_take (l m : List Nat) : (ints (l ++ m)).take ((l.length : Nat) : Int).toNat = ints l := by
  rw [Int.toNat_natCast]
  unfold ints
  rw [List.map_append, List.take_left' (by simp)]
theorem expand_pre (D : List Nat) (p : Nat) : ∀ e, ∃ r, expand D p e = D ++ r
  | 0 => ⟨[], by simp [expand]⟩
  | e + 1 => by
    obtain ⟨r, hr⟩ := expand_pre D p e
    exact ⟨r ++ D.map (· * p ^ (e + 1)), by simp only [expand]; rw [hr, List.append_assoc]⟩
theorem impl_divisors_l2 (f : List Int) (b : Int) (rows : List (List Int)) (n3 ri ex jj : Int) (m : Nat) {v : List Int} : ∀ (suf pre acc : List Nat), (∀ d ∈ suf, d * m < 9223372036854775808) → (acc.length + suf.length) ≤ 4000000000 → (pre ++ suf).length ≤ 4000000000 →
    Ev (fun k => impl_divisors.l1 k (ints (acc ++ suf.map (· * m))) f b m rows n3 ri ex (wrap64 (jj + 1))) v →
    Ev (fun k => impl_divisors.l2 k (ints acc) f b m rows n3 ri ex jj (ints (pre ++ suf)) ((pre ++ suf).length : Nat) (pre.length : Nat)) v
  | [], pre, acc, _, _, _, h => by
    refine Ev.step (fun k => ?_) h
    simp only [impl_divisors.l2]
    rw [if_neg (by simp), List.map_nil, List.append_nil]
  | d :: suf, pre, acc, hb, hl, hl2, h => by
    have hlen : (pre ++ d :: suf).length = pre.length + 1 + suf.length := by simp; omega
    have hsl : (d :: suf).length = suf.length + 1 := by simp
    have ih := impl_divisors_l2 f b rows n3 ri ex jj m (v := v) suf (pre ++ [d]) (acc ++ [d * m]) (fun x hx => hb x (by simp [hx])) (by simp; omega) (by simp; omega) (by simpa using h)
    rw [List.append_assoc] at ih
    simp only [List.singleton_append] at ih
    refine Ev.step (fun k => ?_) ih
    simp only [impl_divisors.l2]
    have hil := ints_len (pre ++ d :: suf)
    have hal := ints_len acc
    rw [if_pos (by omega), if_pos (by omega), if_pos (by omega), if_pos (by omega), ints_get, wr_mul (hb d (by simp)), wr_succ (by omega)]
    congr 1
    · simp [ints]
    · simp
theorem impl_divisors_l1 (rows : List (List Int)) (n3 ri : Int) (p e : Nat) (D : List Nat) (N : Nat) (hN : N ≤ 1000000000) (hp : 2 ≤ p) (hpe : p ^ e ≤ N) (hl : D.length * (e + 1) ≤ N) (hb : ∀ d ∈ D, d * p ^ e ≤ N) {v : List Int}
    (h : Ev (fun k => impl_divisors.l0 k (ints (expand D p e)) rows n3 (wrap64 (ri + 1))) v) : ∀ (r j : Nat), j + r = e → 
    Ev (fun k => impl_divisors.l1 k (ints (expand D p j)) [(p : Int), (e : Int)] (D.length : Nat) ((p ^ j : Nat) : Int) rows n3 ri (e : Int) (j : Int)) v
  | 0, j, hj => by
    have : j = e := by omega
    subst this
    refine Ev.step (fun k => ?_) h
    simp only [impl_divisors.l1]
    rw [if_neg (by omega)]
  | r + 1, j, hj => by
    have ih := impl_divisors_l1 rows n3 ri p e D N hN hp hpe hl hb h r (j + 1) (by omega)
    have hpj : p ^ (j + 1) ≤ p ^ e := Nat.pow_le_pow_right (by omega) (by omega)
    have hle := expand_len D p j
    have hle1 := expand_len D p (j + 1)
    have hm1 : D.length * (j + 1) ≤ D.length * (e + 1) := Nat.mul_le_mul_left _ (by omega)
    have hm0 : D.length ≤ D.length * (j + 1) := Nat.le_mul_of_pos_right _ (by omega)
    have hee : e < p ^ e := by have := succ_le_pow hp e; omega
    have hrd : rd [(p : Int), (e : Int)] 0 = p := rfl
    obtain ⟨t, ht⟩ := expand_pre D p j
    have hpos : 0 < p ^ (j + 1) := Nat.pow_pos (by omega)
    have hw : wrap64 (((p ^ j : Nat) : Int) * p) = ((p ^ (j + 1) : Nat) : Int) := by
      rw [wr_mul (Nat.lt_of_le_of_lt (Nat.le_of_eq (Nat.pow_succ (n := p) (m := j)).symm) (show p ^ (j + 1) < 9223372036854775808 by omega)), Nat.pow_succ]
    have key := impl_divisors_l2 [(p : Int), (e : Int)] (D.length : Nat) rows n3 ri e j (p ^ (j + 1)) (v := v) D [] (expand D p j) (fun d hd => by
      have h1 := hb d hd
      have h2 : d * p ^ (j + 1) ≤ d * p ^ e := Nat.mul_le_mul_left _ hpj
      omega) (by rw [hle]; omega) (by simp; omega) (by rw [wr_succ (by omega)]; exact ih)
    simp only [List.nil_append, List.length_nil] at key
    refine Ev.step (fun k => ?_) key
    simp only [impl_divisors.l1]
    rw [if_pos (by omega), if_pos (by simp), if_pos (by omega), if_pos (by rw [ints_len, hle]; omega), hrd, hw]
    rw [show (ints (expand D p j)).take ((D.length : Nat) : Int).toNat = ints D by rw [ht]; exact ints_take D t]
    simp only [Option.bind_some]
    rw [ints_len]
    rfl
theorem impl_divisors_l0 (N : Nat) (hN : N ≤ 1000000000) : ∀ (l pre : List (Nat × Nat)) (D : List Nat) {c : Nat}, IsFac c l → D.length * fprod l ≤ N → fprod l ≤ N → (∀ d ∈ D, d * fprod l ≤ N) → (pre ++ l).length ≤ 2000000000 →
    Ev (fun k => impl_divisors.l0 k (ints D) (rowsOf (pre ++ l)) ((pre ++ l).length : Nat) (pre.length : Nat)) ((ints (rawL l D)).mergeSort fun x y => decide (x ≤ y))
  | [], pre, D, _, _, h1, _, _, hl => by
    refine Ev.done fun k => ?_
    simp only [impl_divisors.l0]
    simp only [fprod, Nat.mul_one] at h1
    rw [if_neg (by simp)]
    unfold slices_Sort_int_int.f
    rw [if_pos (by rw [ints_len]; omega)]
    rfl
  | (p, e) :: l, pre, D, _, hf, h1, h2, hb, hl => by
    have hlen : (pre ++ (p, e) :: l).length = pre.length + 1 + l.length := by simp; omega
    have hlr := rows_len (pre ++ (p, e) :: l)
    have hget : rd_L1 (rowsOf (pre ++ (p, e) :: l)) (pre.length : Int) = [(p : Int), (e : Int)] := by
      unfold rd_L1; rw [Int.toNat_natCast]; exact rows_get pre (p, e) l
    have hp := hf.2.1.two_le
    have hfp : 0 < fprod l := fprod_pos hf.2.2.2
    have hee : e + 1 ≤ p ^ e := succ_le_pow hp e
    simp only [fprod] at h1 h2 hb
    have hpe : p ^ e ≤ p ^ e * fprod l := Nat.le_mul_of_pos_right _ hfp
    have hd1 : D.length * (e + 1) * fprod l ≤ D.length * (p ^ e * fprod l) := by rw [Nat.mul_assoc]; exact Nat.mul_le_mul_left _ (Nat.mul_le_mul_right _ hee)
    have hd2 : D.length * (e + 1) ≤ D.length * (e + 1) * fprod l := Nat.le_mul_of_pos_right _ hfp
    have hfl : fprod l ≤ p ^ e * fprod l := Nat.le_mul_of_pos_left _ (Nat.pow_pos (by omega))
    have ih := impl_divisors_l0 N hN l (pre ++ [(p, e)]) (expand D p e) hf.2.2.2 (by rw [expand_len]; omega) (by omega) (fun x hx => by
      obtain ⟨d, j, hd, hj, rfl⟩ := (mem_expand D p x e).1 hx
      have h3 := hb d hd
      have h4 : p ^ j ≤ p ^ e := Nat.pow_le_pow_right (by omega) hj
      have h5 : d * p ^ j * fprod l ≤ d * (p ^ e * fprod l) := by rw [Nat.mul_assoc]; exact Nat.mul_le_mul_left _ (Nat.mul_le_mul_right _ h4)
      omega) (by simpa using hl)
    rw [List.append_assoc] at ih
    simp only [List.singleton_append, List.length_append, List.length_singleton] at ih
    have key := impl_divisors_l1 (rowsOf (pre ++ (p, e) :: l)) ((pre ++ (p, e) :: l).length : Nat) (pre.length : Nat) p e D N hN hp (by omega) (by omega) (fun d hd => by
      have h3 := hb d hd
      have h5 : d * p ^ e ≤ d * (p ^ e * fprod l) := Nat.mul_le_mul_left _ hpe
      omega) (by rw [wr_succ (by omega)]; rw [hlen]; rw [List.length_cons] at ih; rw [show pre.length + (l.length + 1) = pre.length + 1 + l.length by omega] at ih; exact ih) e 0 (by omega)
    refine Ev.step (fun k => ?_) key
    simp only [impl_divisors.l0]
    have hr1 : rd [(p : Int), (e : Int)] 1 = e := rfl
    rw [if_pos (by omega), if_pos (by omega), if_pos (by omega), hget, if_pos (by simp), hr1, ints_len]
    rfl
theorem impl_divisors_ev (n : Nat) (h0 : 0 < n) (hn : n ≤ 1000000000) : Ev (fun k => impl_divisors.f k n) (ints (divs n)) := by
  have hl := facs_len n
  have h := impl_divisors_l0 n hn (facs n) [] [1] (facs_fac h0) (by rw [fprod_facs h0]; simp) (by rw [fprod_facs h0]; exact Nat.le_refl _) (fun d hd => by rw [fprod_facs h0]; rw [List.mem_singleton] at hd; rw [hd, Nat.one_mul]; exact Nat.le_refl _) (by simpa using (by omega : (facs n).length ≤ 2000000000))
  rw [show ints (divs n) = (ints (rawL (facs n) [1])).mergeSort fun x y => decide (x ≤ y) from (sort_raw h0).symm]
  refine (impl_factors_ev n hn).bind ?_
  rw [rows_len]
  exact h
/-- The reference's list: the small divisors rise, the great ones fall. -/
theorem dv_done (n : Nat) (h0 : 0 < n) (i : Nat) (lo hi : List Nat) (hsq : n < i * i) (hs : ∀ x ∈ lo, x * x ≤ n)
    (hlp : lo.Pairwise (· < ·)) (hlm : ∀ x, x ∈ lo ↔ x ∣ n ∧ x < i) (hhp : hi.Pairwise (· < ·)) (hhm : ∀ x, x ∈ hi ↔ x ∣ n ∧ n / x < i ∧ n < x * x) : lo ++ hi = divs n := by
  refine sorted_unique (List.pairwise_append.2 ⟨hlp, hhp, fun x hx y hy => ?_⟩) (divs_sorted n) fun x => ?_
  · have h1 := hs x hx
    have h2 := ((hhm y).1 hy).2.2
    rcases Nat.lt_or_ge x y with h | h
    · exact h
    · have := Nat.mul_le_mul h h
      omega
  · rw [mem_divs h0, List.mem_append, hlm, hhm]
    constructor
    · rintro (h | h)
      · exact h.1
      · exact h.1
    · intro h
      rcases Nat.lt_or_ge x i with hx | hx
      · exact .inl ⟨h, hx⟩
      · have hxx := Nat.mul_le_mul hx hx
        refine .inr ⟨h, ?_, by omega⟩
        have h3 : n < i * x := Nat.lt_of_lt_of_le hsq (Nat.mul_le_mul_left _ hx)
        exact (Nat.div_lt_iff_lt_mul (Nat.pos_of_dvd_of_pos h h0)).2 h3
theorem dv_hi_stay (n : Nat) (h0 : 0 < n) (i : Nat) (hi : List Nat) (hhm : ∀ x, x ∈ hi ↔ x ∣ n ∧ n / x < i ∧ n < x * x) (h : ¬ (i ∣ n ∧ i * i < n)) : ∀ x, x ∈ hi ↔ x ∣ n ∧ n / x < i + 1 ∧ n < x * x := by
  intro x
  rw [hhm]
  refine ⟨fun hx => ⟨hx.1, by omega, hx.2.2⟩, fun hx => ⟨hx.1, ?_, hx.2.2⟩⟩
  have he : n / x ≠ i := by
    intro he
    have hm : i * x = n := by rw [← he]; exact Nat.div_mul_cancel hx.1
    refine h ⟨⟨x, hm.symm⟩, ?_⟩
    have h3 := hx.2.2
    rcases Nat.lt_or_ge i x with hix | hix
    · have hi0 : 0 < i := by rcases Nat.eq_zero_or_pos i with h | h; (subst h; omega); exact h
      have := Nat.mul_lt_mul_of_pos_left hix hi0
      omega
    · have := Nat.mul_le_mul_right x hix
      omega
  have := hx.2.1
  omega
theorem dv_hi_cons (n : Nat) (h0 : 0 < n) (i : Nat) (hi1 : 1 ≤ i) (hi : List Nat) (hhp : hi.Pairwise (· < ·)) (hhm : ∀ x, x ∈ hi ↔ x ∣ n ∧ n / x < i ∧ n < x * x) (hd : i ∣ n) (hl : i * i < n) :
    (n / i :: hi).Pairwise (· < ·) ∧ ∀ x, x ∈ n / i :: hi ↔ x ∣ n ∧ n / x < i + 1 ∧ n < x * x := by
  have hm : i * (n / i) = n := Nat.mul_div_cancel' hd
  constructor
  · refine List.pairwise_cons.2 ⟨fun y hy => ?_, hhp⟩
    have hy' := (hhm y).1 hy
    rcases Nat.lt_or_ge (n / i) y with h | h
    · exact h
    · exfalso
      have hyp := Nat.pos_of_dvd_of_pos hy'.1 h0
      have h1 : i * y ≤ n := by have := Nat.mul_le_mul_left i h; omega
      have h2 : i ≤ n / y := (Nat.le_div_iff_mul_le hyp).2 h1
      omega
  · intro x
    rw [List.mem_cons, hhm]
    constructor
    · rintro (rfl | hx)
      · have hlt : i < n / i := by
          rcases Nat.lt_or_ge i (n / i) with h | h
          · exact h
          · have := Nat.mul_le_mul_left i h; omega
        have hdd : n / (n / i) = i := by
          refine Nat.div_eq_of_eq_mul_left (by omega) ?_
          exact hm.symm
        refine ⟨⟨i, by rw [Nat.mul_comm]; exact hm.symm⟩, by rw [hdd]; omega, ?_⟩
        have h3 : i * (n / i) < n / i * (n / i) := Nat.mul_lt_mul_of_pos_right hlt (by omega)
        omega
      · exact ⟨hx.1, by omega, hx.2.2⟩
    · intro hx
      by_cases he : n / x = i
      · left
        have hm2 : i * x = n := by rw [← he]; exact Nat.div_mul_cancel hx.1
        exact (Nat.div_eq_of_eq_mul_right (by omega) hm2.symm).symm
      · exact .inr ⟨hx.1, by omega, hx.2.2⟩
theorem dv_lo_stay (n i : Nat) (lo : List Nat) (hlm : ∀ x, x ∈ lo ↔ x ∣ n ∧ x < i) (h : ¬ i ∣ n) : ∀ x, x ∈ lo ↔ x ∣ n ∧ x < i + 1 := by
  intro x
  rw [hlm]
  refine ⟨fun hx => ⟨hx.1, by omega⟩, fun hx => ⟨hx.1, ?_⟩⟩
  have : x ≠ i := by rintro rfl; exact h hx.1
  omega
theorem dv_lo_snoc (n i : Nat) (lo : List Nat) (hlp : lo.Pairwise (· < ·)) (hlm : ∀ x, x ∈ lo ↔ x ∣ n ∧ x < i) (h : i ∣ n) : (lo ++ [i]).Pairwise (· < ·) ∧ ∀ x, x ∈ lo ++ [i] ↔ x ∣ n ∧ x < i + 1 := by
  constructor
  · refine List.pairwise_append.2 ⟨hlp, List.pairwise_singleton _ _, fun x hx y hy => ?_⟩
    rw [List.mem_singleton] at hy
    subst hy
    exact ((hlm x).1 hx).2
  · intro x
    rw [List.mem_append, List.mem_singleton, hlm]
    constructor
    · rintro (hx | rfl)
      · exact ⟨hx.1, by omega⟩
      · exact ⟨h, by omega⟩
    · intro hx
      by_cases he : x = i
      · exact .inr he
      · exact .inl ⟨hx.1, by omega⟩
theorem spec_dvList_l (n : Nat) (h0 : 0 < n) (hn : n ≤ 1000000000) : ∀ (r i : Nat) (lo hi : List Nat), 1 ≤ i → i ≤ 40000 → 40000 ≤ i + r → lo.length + 1 ≤ i → hi.length + 1 ≤ i → (∀ x ∈ lo, x * x ≤ n) →
    lo.Pairwise (· < ·) → (∀ x, x ∈ lo ↔ x ∣ n ∧ x < i) → hi.Pairwise (· < ·) → (∀ x, x ∈ hi ↔ x ∣ n ∧ n / x < i ∧ n < x * x) →
    Ev (fun k => spec_dvList.l0 k n (ints lo) (ints hi) i) (ints (divs n)) := by
  intro r
  induction r with
  | zero =>
    intro i lo hi hi1 hi2 hr hlo hhi hs hlp hlm hhp hhm
    have he : i = 40000 := by omega
    subst he
    refine Ev.done fun k => ?_
    simp only [spec_dvList.l0]
    have h1 := ints_len lo
    have h2 := ints_len hi
    rw [if_neg (by rw [wr_mul (by omega)]; omega), if_pos (by omega), ints_app, dv_done n h0 40000 lo hi (by omega) hs hlp hlm hhp hhm]
  | succ r ih =>
    intro i lo hi hi1 hi2 hr hlo hhi hs hlp hlm hhp hhm
    have h1 := ints_len lo
    have h2 := ints_len hi
    have hb : i * i ≤ 1600000000 := Nat.mul_le_mul hi2 hi2
    have hw : wrap64 ((i : Int) * i) = ((i * i : Nat) : Int) := wr_mul (by omega)
    by_cases hsq : i * i ≤ n
    · have hi3 : i < 40000 := by
        rcases Nat.lt_or_ge i 40000 with h | h
        · exact h
        · have : i = 40000 := by omega
          subst this; omega
      by_cases hd : i ∣ n
      · have hmod : n % i = 0 := Nat.mod_eq_zero_of_dvd hd
        have hl := dv_lo_snoc n i lo hlp hlm hd
        have hs' : ∀ x ∈ lo ++ [i], x * x ≤ n := by
          intro x hx
          rcases List.mem_append.1 hx with h | h
          · exact hs x h
          · rw [List.mem_singleton] at h; rw [h]; exact hsq
        by_cases hlt : i * i < n
        · have hh := dv_hi_cons n h0 i hi1 hi hhp hhm hd hlt
          have key := ih (i + 1) (lo ++ [i]) (n / i :: hi) (by omega) (by omega) (by omega) (by rw [List.length_append, List.length_singleton]; omega) (by rw [List.length_cons]; omega) hs' hl.1 hl.2 hh.1 hh.2
          refine Ev.step (fun k => ?_) key
          simp only [spec_dvList.l0]
          rw [hw, if_pos (by omega), if_neg (by omega), tm, if_pos (by omega), if_pos (by omega), Option.bind_some, if_pos (by omega), Option.bind_some, if_pos (by simp; omega), wr_succ (by omega), wr_tdiv (by omega)]
          simp [ints]
        · have hh := dv_hi_stay n h0 i hi hhm (fun h => hlt h.2)
          have key := ih (i + 1) (lo ++ [i]) hi (by omega) (by omega) (by omega) (by rw [List.length_append, List.length_singleton]; omega) (by omega) hs' hl.1 hl.2 hhp hh
          refine Ev.step (fun k => ?_) key
          simp only [spec_dvList.l0]
          rw [hw, if_pos (by omega), if_neg (by omega), tm, if_pos (by omega), if_pos (by omega), Option.bind_some, if_neg (by omega), wr_succ (by omega)]
          simp [ints]
      · have hmod : n % i ≠ 0 := fun hm => hd (Nat.dvd_of_mod_eq_zero hm)
        have hh := dv_hi_stay n h0 i hi hhm (fun h => hd h.1)
        have key := ih (i + 1) lo hi (by omega) (by omega) (by omega) (by omega) (by omega) hs hlp (dv_lo_stay n i lo hlm hd) hhp hh
        refine Ev.step (fun k => ?_) key
        simp only [spec_dvList.l0]
        rw [hw, if_pos (by omega), if_neg (by omega), tm, if_neg (by omega), wr_succ (by omega)]
    · refine Ev.done fun k => ?_
      simp only [spec_dvList.l0]
      rw [hw, if_neg (by omega), if_pos (by omega), ints_app, dv_done n h0 i lo hi (by omega) hs hlp hlm hhp hhm]
theorem spec_dvList_ev (n : Nat) (h0 : 0 < n) (hn : n ≤ 1000000000) : Ev (fun k => spec_dvList.f k n) (ints (divs n)) :=
  spec_dvList_l n h0 hn 40000 1 [] [] (by omega) (by omega) (by omega) (by simp) (by simp) (by simp) List.Pairwise.nil (fun x => by
    simp only [List.not_mem_nil, false_iff]
    rintro ⟨h1, h2⟩
    have := Nat.pos_of_dvd_of_pos h1 h0
    omega) List.Pairwise.nil (fun x => by
    simp only [List.not_mem_nil, false_iff]
    rintro ⟨h1, h2, _⟩
    have h3 := Nat.pos_of_dvd_of_pos h1 h0
    have h4 := Nat.le_of_dvd h0 h1
    have := Nat.div_pos h4 h3
    omega)
theorem rd_at (l : List Int) (j : Nat) : rd l (j : Int) = l.getD j 0 := by unfold rd; rw [Int.toNat_natCast]
theorem laws_eqIntS_l (l : List Int) (hl : l.length ≤ 4000000000000000000) : ∀ (j i : Nat), l.length ≤ i + j → i ≤ l.length → Ev (fun k => laws_eqIntS.l0 k l l i) true := by
  intro j
  induction j with
  | zero =>
    intro i h1 h2
    refine Ev.done fun k => ?_
    simp only [laws_eqIntS.l0]
    rw [if_neg (by omega)]
  | succ j ih =>
    intro i h1 h2
    by_cases h : i < l.length
    · refine Ev.step (fun k => ?_) (ih (i + 1) (by omega) (by omega))
      simp only [laws_eqIntS.l0]
      rw [if_pos (by omega), if_pos (by omega), if_pos (by omega), if_pos trivial, wr_succ (by omega)]
    · refine Ev.done fun k => ?_
      simp only [laws_eqIntS.l0]
      rw [if_neg (by omega)]
theorem laws_eqIntS_self (l : List Int) (hl : l.length ≤ 4000000000000000000) : Ev (fun k => laws_eqIntS.f k l l) true := by
  unfold laws_eqIntS.f
  refine Ev.congr (fun k => if_pos rfl) (laws_eqIntS_l l hl l.length 0 (by omega) (by omega))
/-- a, a + 1, .., so many. -/
def seqI (a : Int) : Nat → List Int
  | 0 => []
  | n + 1 => a :: seqI (a + 1) n
theorem seqI_len : ∀ (n : Nat) (a : Int), (seqI a n).length = n
  | 0, _ => rfl
  | n + 1, a => by simp [seqI, seqI_len n]
theorem seqI_get : ∀ (n : Nat) (a : Int) (j : Nat), j < n → (seqI a n).getD j 0 = a + j
  | 0, _, _, h => by omega
  | n + 1, a, 0, _ => by simp [seqI]
  | n + 1, a, j + 1, h => by
    have := seqI_get n (a + 1) j (by omega)
    simp only [seqI, List.getD_cons_succ]
    rw [this]; omega
theorem laws_markIntS_l : ∀ (l pre : List Int) (a : Int), (pre ++ l).length ≤ 1000000000000000000 → 0 ≤ a → a ≤ 1000000000000000000 + pre.length → Ev (fun k => laws_markIntS.l0 k (pre ++ l) a (pre.length : Int)) (a + l.length, pre ++ seqI a l.length)
  | [], pre, a, hl, h0, ha => by
    refine Ev.done fun k => ?_
    simp only [laws_markIntS.l0]
    rw [if_neg (by simp)]
    simp [seqI]
  | x :: l, pre, a, hl, h0, ha => by
    have hlen : (pre ++ x :: l).length = pre.length + 1 + l.length := by simp; omega
    have ih := laws_markIntS_l l (pre ++ [a]) (a + 1) (by simp at hl ⊢; omega) (by omega) (by simp; omega)
    have hset : (pre ++ x :: l).set pre.length a = pre ++ a :: l := by simp
    refine Ev.step (f := fun k => laws_markIntS.l0 k (pre ++ [a] ++ l) (a + 1) ((pre ++ [a]).length : Int)) (fun k => ?_) ?_
    · simp only [laws_markIntS.l0]
      rw [if_pos (by omega), if_pos (by omega), Int.toNat_natCast, hset, wri (by omega) (by omega), wr_succ (by omega)]
      simp
    · have e : (a + ((x :: l).length : Int), pre ++ seqI a (x :: l).length) = (a + 1 + (l.length : Int), pre ++ [a] ++ seqI (a + 1) l.length) := by
        simp [seqI]; omega
      rw [e]; exact ih
theorem laws_markIntS_ev (l : List Int) (a : Int) (hl : l.length ≤ 1000000000000000000) (h0 : 0 ≤ a) (h1 : a ≤ 1000000000000000000) : Ev (fun k => laws_markIntS.f k l a) (a + l.length, seqI a l.length) := by
  have := laws_markIntS_l l [] a (by simpa using hl) h0 (by simpa using h1)
  exact this
theorem laws_heldIntS_l (n : Nat) (a : Int) (hn : n ≤ 1000000000000000000) (h0 : 0 ≤ a) (h1 : a ≤ 1000000000000000000) : ∀ (j i : Nat), n ≤ i + j → i ≤ n → Ev (fun k => laws_heldIntS.l0 k (seqI a n) (a + i) i) (a + n) := by
  have hl := seqI_len n a
  intro j
  induction j with
  | zero =>
    intro i h2 h3
    obtain rfl : i = n := by omega
    refine Ev.done fun k => ?_
    simp only [laws_heldIntS.l0]
    rw [if_neg (by omega)]
  | succ j ih =>
    intro i h2 h3
    by_cases h : i < n
    · refine Ev.step (fun k => ?_) (ih (i + 1) (by omega) (by omega))
      have hg : rd (seqI a n) (i : Int) = a + i := by unfold rd; rw [Int.toNat_natCast]; exact seqI_get n a i h
      simp only [laws_heldIntS.l0]
      rw [if_pos (by omega), if_pos (by omega), if_pos hg, wri (by omega) (by omega), wr_succ (by omega)]
      rw [show a + (i : Int) + 1 = a + ((i + 1 : Nat) : Int) by omega]
    · obtain rfl : i = n := by omega
      refine Ev.done fun k => ?_
      simp only [laws_heldIntS.l0]
      rw [if_neg (by omega)]
theorem laws_heldIntS_ev (n : Nat) (a : Int) (hn : n ≤ 1000000000000000000) (h0 : 0 ≤ a) (h1 : a ≤ 1000000000000000000) : Ev (fun k => laws_heldIntS.f k (seqI a n) a) (a + n) := by
  have := laws_heldIntS_l n a hn h0 h1 n 0 (by omega) (by omega)
  unfold laws_heldIntS.f
  simpa using this
theorem laws_toIntS_l : ∀ (suf pre z : List Int), z.length = suf.length → (pre ++ suf).length ≤ 4000000000 → Ev (fun k => laws_toIntS.l0 k (pre ++ suf) (pre ++ z) (pre.length : Nat)) (pre ++ suf)
  | [], pre, z, hz, _ => by
    have : z = [] := List.eq_nil_of_length_eq_zero hz
    subst this
    refine Ev.done fun k => ?_
    simp only [laws_toIntS.l0]
    rw [if_neg (by simp)]
  | x :: suf, pre, [], hz, _ => by simp at hz
  | x :: suf, pre, y :: z, hz, hl => by
    have hlen : (pre ++ x :: suf).length = pre.length + 1 + suf.length := by simp; omega
    have hlen2 : (pre ++ y :: z).length = pre.length + 1 + z.length := by simp; omega
    have ih := laws_toIntS_l suf (pre ++ [x]) z (by simpa using hz) (by simpa using hl)
    rw [List.append_assoc, List.append_assoc] at ih
    simp only [List.singleton_append, List.length_append, List.length_singleton] at ih
    have hrd : rd (pre ++ x :: suf) (pre.length : Int) = x := by unfold rd; rw [Int.toNat_natCast]; simp
    refine Ev.step (fun k => ?_) ih
    simp only [laws_toIntS.l0]
    rw [if_pos (by omega), if_pos (by omega), if_pos (by omega), hrd, wr_succ (by omega), Int.toNat_natCast, List.set_append_right _ _ (Nat.le_refl _), Nat.sub_self]
    rfl
theorem laws_toIntS_ev (l : List Int) (h : l.length ≤ 1048576) : Ev (fun k => laws_toIntS.f k l) l := by
  unfold laws_toIntS.f
  simp only [if_pos (show 0 ≤ (l.length : Int) by omega), Int.toNat_natCast, if_pos (show l.length ≤ 35184372088832 by omega)]
  exact laws_toIntS_l l [] (List.replicate l.length 0) (by simp) (by simp; omega)
/-- The law over a list of ints that both sides come to, from a list of ints. -/
theorem law_tail (l r : List Int) (b : Bool) (hl : l.length ≤ 1048576) (hr : r.length ≤ 1000000000) (h1 : Ev (fun k => spec_UndoTable.f k l) (r, b)) (h2 : Ev (fun k => impl_UndoTable.f k l) (r, b)) : Ev (fun k => laws_FnExactUndoTable.f k l) true := by
  have hto := laws_toIntS_ev l hl
  have heq := laws_eqIntS_self r (by omega)
  have heql := laws_eqIntS_self l (by omega)
  have hmark := laws_markIntS_ev r 1 (by omega) (by omega) (by omega)
  have hmarkl := laws_markIntS_ev l 1 (by omega) (by omega) (by omega)
  have hheld := laws_heldIntS_ev r.length 1 (by omega) (by omega) (by omega)
  have hne : ¬ (1 + (r.length : Int) < 0) := by omega
  have hnel : ¬ (1 + (l.length : Int) < 0) := by omega
  have hj2 : Ev (fun k => laws_FnExactUndoTable.j2 k (seqI 1 r.length) (1 + (r.length : Int)) false) true := by
    refine Ev.step (f := ?f0) (fun k => ?a0) ?b0
    case a0 => simp only [laws_FnExactUndoTable.j2, Bool.false_eq_true, if_false]; exact rfl
    refine hheld.bind ?_
    simp only [if_neg hne, if_true]
    exact Ev.now _
  have hj1 : Ev (fun k => laws_FnExactUndoTable.j1 k l r b r false) true := by
    refine Ev.step (f := ?f1) (fun k => ?a1) ?b1
    case a1 => simp only [laws_FnExactUndoTable.j1, Bool.false_eq_true, if_false]; exact rfl
    refine hmark.bind (hheld.bind ?_)
    simp only [if_neg hne, if_true]
    refine hto.bind (h2.bind (heq.bind ?_))
    simp only [bne_self_eq_false, if_true]
    exact hj2
  have hj0 : Ev (fun k => laws_FnExactUndoTable.j0 k l r b l r b false) true := by
    refine Ev.step (f := ?f2) (fun k => ?a2) ?b2
    case a2 => simp only [laws_FnExactUndoTable.j0, Bool.false_eq_true, if_false]; exact rfl
    refine hto.bind (heql.bind ?_)
    simp only [if_true]
    refine hmarkl.bind ?_
    simp only [if_neg hnel]
    refine heq.bind ?_
    simp only [bne_self_eq_false, if_true]
    exact hj1
  unfold laws_FnExactUndoTable.f
  simp only [if_neg (show ¬ ((l.length : Int) > 1048576) by omega)]
  refine hto.bind (h1.bind (hto.bind (h2.bind (heq.bind ?_))))
  simp only [bne_self_eq_false, if_true]
  exact hj0
def okN (x : Int) : Bool := decide (-1000000 ≤ x ∧ x ≤ 1000000)
/-- A table: 1 to 200 numbers, none beyond a million. -/
def isTab (l : List Int) : Bool := decide (1 ≤ l.length ∧ l.length ≤ 200) && l.all okN
theorem rd_in (pre : List Int) (x : Int) (l : List Int) : rd (pre ++ x :: l) (pre.length : Int) = x := by unfold rd; rw [Int.toNat_natCast]; simp
theorem spec_l1All_l : ∀ (suf pre : List Int), (pre ++ suf).length ≤ 4000000000 → Ev (fun k => spec_l1All.l0 k (-1000000) 1000000 (pre ++ suf) ((pre ++ suf).length : Nat) (pre.length : Nat)) (suf.all okN)
  | [], pre, _ => by
    refine Ev.done fun k => ?_
    simp only [spec_l1All.l0]
    rw [if_neg (by simp)]
    rfl
  | x :: suf, pre, hl => by
    have hlen : (pre ++ x :: suf).length = pre.length + 1 + suf.length := by simp; omega
    have ih := spec_l1All_l suf (pre ++ [x]) (by simpa using hl)
    rw [List.append_assoc] at ih
    simp only [List.singleton_append, List.length_append, List.length_singleton] at ih
    by_cases hx : okN x = true
    · rw [List.all_cons, hx, Bool.true_and]
      refine Ev.step (fun k => ?_) ih
      simp only [spec_l1All.l0]
      rw [if_pos (by omega), if_pos (by omega), if_pos (by omega), rd_in, wr_succ (by omega), spec_l1In_eq]
      have : decide (-1000000 ≤ x ∧ x ≤ 1000000) = true := hx
      rw [this]
      simp only [Option.bind_some, if_true, List.length_append]
    · rw [List.all_cons, Bool.eq_false_iff.2 hx, Bool.false_and]
      refine Ev.done fun k => ?_
      simp only [spec_l1All.l0]
      rw [if_pos (by omega), if_pos (by omega), if_pos (by omega), rd_in, spec_l1In_eq]
      have : decide (-1000000 ≤ x ∧ x ≤ 1000000) = false := Bool.eq_false_iff.2 hx
      rw [this]
      simp only [Option.bind_some, Bool.false_eq_true, if_false]
theorem spec_dvIs_ev (l : List Int) : Ev (fun k => spec_dvIs.f k l) (isTab l) := by
  unfold spec_dvIs.f isTab
  simp only [spec_l1In_eq, Option.bind_some]
  by_cases h : 1 ≤ l.length ∧ l.length ≤ 200
  · simp only [decide_eq_true h, decide_eq_true (show (1 : Int) ≤ (l.length : Int) ∧ (l.length : Int) ≤ 200 by omega), if_true, Bool.true_and]
    exact (spec_l1All_l l [] (by simp; omega)).bind (Ev.now _)
  · simp only [decide_eq_false h, decide_eq_false (show ¬ ((1 : Int) ≤ (l.length : Int) ∧ (l.length : Int) ≤ 200) by omega), Bool.false_eq_true, if_false, Bool.false_and]
    exact Ev.now _
theorem impl_isTable_1_eq (x : Int) : impl_isTable_1.f x = some (!okN x) := by
  unfold impl_isTable_1.f okN
  by_cases h : x < -1000000
  · rw [if_pos h, decide_eq_false (by omega)]; rfl
  · rw [if_neg h]
    by_cases h2 : x > 1000000
    · rw [decide_eq_true h2, decide_eq_false (by omega)]; rfl
    · rw [decide_eq_false h2, decide_eq_true (by omega)]; rfl
theorem impl_isTable_l : ∀ (suf pre : List Int), (pre ++ suf).length ≤ 4000000000 → ∃ v : Int, decide (v ≥ 0) = !suf.all okN ∧ Ev (fun k => impl_isTable.l0 k (pre ++ suf) (pre.length : Nat)) v
  | [], pre, _ => by
    refine ⟨-1, rfl, Ev.done fun k => ?_⟩
    simp only [impl_isTable.l0]
    rw [if_neg (by simp)]
  | x :: suf, pre, hl => by
    have hlen : (pre ++ x :: suf).length = pre.length + 1 + suf.length := by simp; omega
    obtain ⟨v, hv, ih⟩ := impl_isTable_l suf (pre ++ [x]) (by simpa using hl)
    rw [List.append_assoc] at ih
    simp only [List.singleton_append, List.length_append, List.length_singleton] at ih
    by_cases hx : okN x = true
    · refine ⟨v, by rw [List.all_cons, hx, Bool.true_and]; exact hv, Ev.step (fun k => ?_) ih⟩
      simp only [impl_isTable.l0]
      rw [if_pos (by omega), if_pos (by omega), rd_in, wr_succ (by omega), impl_isTable_1_eq, hx]
      simp only [Option.bind_some, Bool.not_true, Bool.false_eq_true, if_false]
    · have hx' := Bool.eq_false_iff.2 hx
      refine ⟨(pre.length : Nat), by rw [List.all_cons, hx', Bool.false_and]; exact decide_eq_true (by omega), Ev.done fun k => ?_⟩
      simp only [impl_isTable.l0]
      rw [if_pos (by omega), if_pos (by omega), rd_in, impl_isTable_1_eq, hx']
      simp only [Option.bind_some, Bool.not_false, if_true]
theorem impl_isTable_ev (l : List Int) : Ev (fun k => impl_isTable.f k l) (isTab l) := by
  unfold impl_isTable.f isTab
  by_cases h : 1 ≤ l.length ∧ l.length ≤ 200
  · obtain ⟨v, hv, hev⟩ := impl_isTable_l l [] (by simp; omega)
    simp only [decide_eq_true h, if_pos (show (l.length : Int) ≥ 1 by omega), if_pos (show (l.length : Int) ≤ 200 by omega), Bool.true_and]
    have : l.all okN = !decide (v ≥ 0) := by rw [hv, Bool.not_not]
    rw [this]
    exact hev.bind (Ev.now _)
  · rw [decide_eq_false h, Bool.false_and]
    refine Ev.const fun k => ?_
    by_cases h1 : (l.length : Int) ≥ 1
    · rw [if_pos h1, if_neg (by omega)]
    · rw [if_neg h1]
theorem isTab_len {l : List Int} (ht : isTab l = true) : 1 ≤ l.length ∧ l.length ≤ 200 := by
  unfold isTab at ht
  rw [Bool.and_eq_true] at ht
  exact of_decide_eq_true ht.1
theorem isTab_at {l : List Int} (ht : isTab l = true) (j : Nat) : -1000000 ≤ rd l (j : Int) ∧ rd l (j : Int) ≤ 1000000 := by
  unfold isTab at ht
  rw [Bool.and_eq_true, List.all_eq_true] at ht
  rw [rd_at, List.getD_eq_getElem?_getD]
  cases h : l[j]? with
  | none => simp
  | some x => exact of_decide_eq_true (ht.2 x (List.mem_of_getElem? h))
theorem prod_bd {a b : Int} (ha : -1000000 ≤ a ∧ a ≤ 1000000) (hb : -1000000 ≤ b ∧ b ≤ 1000000) : -1000000000000 ≤ a * b ∧ a * b ≤ 1000000000000 := by
  have h : (a * b).natAbs ≤ 1000000 * 1000000 := by rw [Int.natAbs_mul]; exact Nat.mul_le_mul (by omega) (by omega)
  omega
/-- The divisors, each for its fellow. -/
theorem divs_swap (m : Nat) (h0 : 0 < m) : ((divs m).map (fun d => m / d)).Perm (divs m) := by
  have hinj : ∀ a b, a ∈ divs m → b ∈ divs m → m / a = m / b → a = b := by
    intro a b ha hb h
    rw [mem_divs h0] at ha hb
    have e1 := Nat.div_mul_cancel ha
    have e2 := Nat.div_mul_cancel hb
    rw [h] at e1
    have hp : 0 < m / b := Nat.div_pos (Nat.le_of_dvd h0 hb) (Nat.pos_of_dvd_of_pos hb h0)
    exact Nat.eq_of_mul_eq_mul_left hp (e1.trans e2.symm)
  have hnd : ((divs m).map (fun d => m / d)).Nodup := by
    refine List.pairwise_map.2 ?_
    refine List.Pairwise.imp_of_mem (fun {a b} ha hb hlt he => ?_) (divs_sorted m)
    have := hinj a b ha hb he
    omega
  rw [List.perm_ext_iff_of_nodup hnd ((divs_sorted m).imp fun h => Nat.ne_of_lt h)]
  intro x
  rw [List.mem_map]
  constructor
  · rintro ⟨d, hd, rfl⟩
    rw [mem_divs h0] at hd ⊢
    exact Nat.div_dvd_of_dvd hd
  · intro hx
    have hx' := (mem_divs h0).1 hx
    refine ⟨m / x, (mem_divs h0).2 (Nat.div_dvd_of_dvd hx'), Nat.div_div_self hx' (by omega)⟩
def FU (x0 out : List Int) (m d : Nat) : Int := if d < m then rd out ((d - 1 : Nat) : Int) * rd x0 ((m / d - 1 : Nat) : Int) else 0
def GU (x0 out : List Int) (m d : Nat) : Int := if 1 < d then rd x0 ((d - 1 : Nat) : Int) * rd out ((m / d - 1 : Nat) : Int) else 0
theorem lsum_congr {f g : Nat → Int} : ∀ (l : List Nat), (∀ x ∈ l, f x = g x) → lsum f l = lsum g l
  | [], _ => rfl
  | x :: l, h => by simp only [lsum]; rw [h x (by simp), lsum_congr l (fun y hy => h y (by simp [hy]))]
theorem lsum_map (f : Nat → Int) (g : Nat → Nat) : ∀ (l : List Nat), lsum f (l.map g) = lsum (fun x => f (g x)) l
  | [] => rfl
  | x :: l => by simp only [List.map_cons, lsum, lsum_map f g l]
theorem FG (x0 out : List Int) (m : Nat) (h0 : 0 < m) : lsum (FU x0 out m) (divs m) = lsum (GU x0 out m) (divs m) := by
  rw [← lsum_perm _ (divs_swap m h0), lsum_map]
  refine lsum_congr _ fun d hd => ?_
  have hd' := (mem_divs h0).1 hd
  have hp := Nat.pos_of_dvd_of_pos hd' h0
  unfold FU GU
  by_cases h : 1 < d
  · rw [if_pos h, if_pos (Nat.div_lt_self h0 h), Nat.div_div_self hd' (by omega), Int.mul_comm]
  · have : d = 1 := by omega
    subst this
    rw [Nat.div_one, if_neg (Nat.lt_irrefl _), if_neg h]
theorem rd_left (out z : List Int) (j : Nat) (h : j < out.length) : rd (out ++ z) (j : Int) = rd out (j : Int) := by
  rw [rd_at, rd_at]
  simp [List.getD_eq_getElem?_getD, List.getElem?_append_left h]
theorem spec_undo_in (x0 out z : List Int) (m : Nat) (hm : 1 ≤ m) (hmn : m ≤ x0.length) (hn : x0.length ≤ 200) (ho : out.length = m - 1) (hx : ∀ j : Nat, -1000000 ≤ rd x0 (j : Int) ∧ rd x0 (j : Int) ≤ 1000000) (hb : ∀ j : Nat, -1000000 ≤ rd out (j : Int) ∧ rd out (j : Int) ≤ 1000000) {v : List Int × Bool} (D : List Nat) (hD : ∀ d ∈ D, d ∣ m) (hDl : D.length ≤ 1000) :
    ∀ (suf pre : List Nat) (s : Int), pre ++ suf = D → -1000000000000000 + 1000000000000 * suf.length ≤ s → s ≤ 1000000000000000 - 1000000000000 * suf.length →
    Ev (fun k => spec_UndoTable.l1 k x0 (out ++ z) m (s - lsum (FU x0 out m) suf) (ints D) (D.length : Nat) (D.length : Nat)) v →
    Ev (fun k => spec_UndoTable.l1 k x0 (out ++ z) m s (ints D) (D.length : Nat) (pre.length : Nat)) v := by
  intro suf
  induction suf with
  | nil =>
    intro pre s hp h1 h2 h
    rw [List.append_nil] at hp
    subst hp
    simpa [lsum] using h
  | cons d suf ih =>
    intro pre s hp h1 h2 h
    have hlen : D.length = pre.length + 1 + suf.length := by rw [← hp]; simp; omega
    have hdm := hD d (by rw [← hp]; simp)
    have hdp := Nat.pos_of_dvd_of_pos hdm (by omega)
    have hdle := Nat.le_of_dvd (by omega) hdm
    have hil := ints_len D
    have hget : rd (ints D) (pre.length : Int) = d := by rw [← hp]; exact ints_get pre d suf
    have hcl : ((d :: suf).length : Int) = suf.length + 1 := by rw [List.length_cons]; omega
    rw [hcl] at h1 h2
    have hq1 : 1 ≤ m / d := Nat.div_pos hdle hdp
    have hq2 : m / d ≤ m := Nat.div_le_self _ _
    have hpb := prod_bd (hb (d - 1)) (hx (m / d - 1))
    have ih := ih (pre ++ [d]) (s - FU x0 out m d) (by rw [List.append_assoc]; exact hp) (by unfold FU; split <;> omega) (by unfold FU; split <;> omega) (by
      simp only [lsum] at h
      rw [show s - FU x0 out m d - lsum (FU x0 out m) suf = s - (FU x0 out m d + lsum (FU x0 out m) suf) by omega]
      exact h)
    rw [List.length_append, List.length_singleton] at ih
    refine Ev.step (fun k => ?_) ih
    simp only [spec_UndoTable.l1]
    rw [if_pos (by omega), if_pos (by omega), if_pos (by omega), hget, wr_succ (by omega)]
    unfold FU
    by_cases hlt : d < m
    · have e1 : wrap64 ((d : Int) - 1) = ((d - 1 : Nat) : Int) := by rw [wri (by omega) (by omega)]; omega
      have e2 : wrap64 (wrap64 (Int.tdiv (m : Int) d) - 1) = ((m / d - 1 : Nat) : Int) := by rw [wr_tdiv (by omega), wri (by omega) (by omega)]; omega
      have hol : (out ++ z).length = out.length + z.length := List.length_append
      rw [if_pos (by omega), e1, if_pos (by omega), if_pos (by omega), if_neg (by omega), e2, if_pos (by omega), if_pos (by omega), rd_left out z (d - 1) (by omega), if_pos hlt, wri (a := rd out ((d - 1 : Nat) : Int) * rd x0 ((m / d - 1 : Nat) : Int)) (by omega) (by omega), wri (by omega) (by omega)]
    · rw [if_neg (by omega), if_neg hlt, Int.sub_zero]
theorem impl_undo_in (x0 out : List Int) (m : Nat) (hm : 1 ≤ m) (hmn : m ≤ x0.length) (hn : x0.length ≤ 200) (ho : out.length = m - 1) (hx : ∀ j : Nat, -1000000 ≤ rd x0 (j : Int) ∧ rd x0 (j : Int) ≤ 1000000) (hb : ∀ j : Nat, -1000000 ≤ rd out (j : Int) ∧ rd out (j : Int) ≤ 1000000) {v : List Int × Bool} (D : List Nat) (hD : ∀ d ∈ D, d ∣ m) (hDl : D.length ≤ 1000) :
    ∀ (suf pre : List Nat) (s : Int), pre ++ suf = D → -1000000000000000 + 1000000000000 * suf.length ≤ s → s ≤ 1000000000000000 - 1000000000000 * suf.length →
    Ev (fun k => impl_UndoTable.l1 k x0 out m (s - lsum (GU x0 out m) suf) (ints D) (D.length : Nat) (D.length : Nat)) v →
    Ev (fun k => impl_UndoTable.l1 k x0 out m s (ints D) (D.length : Nat) (pre.length : Nat)) v := by
  intro suf
  induction suf with
  | nil =>
    intro pre s hp h1 h2 h
    rw [List.append_nil] at hp
    subst hp
    simpa [lsum] using h
  | cons d suf ih =>
    intro pre s hp h1 h2 h
    have hlen : D.length = pre.length + 1 + suf.length := by rw [← hp]; simp; omega
    have hdm := hD d (by rw [← hp]; simp)
    have hdp := Nat.pos_of_dvd_of_pos hdm (by omega)
    have hdle := Nat.le_of_dvd (by omega) hdm
    have hil := ints_len D
    have hget : rd (ints D) (pre.length : Int) = d := by rw [← hp]; exact ints_get pre d suf
    have hcl : ((d :: suf).length : Int) = suf.length + 1 := by rw [List.length_cons]; omega
    rw [hcl] at h1 h2
    have hq1 : 1 ≤ m / d := Nat.div_pos hdle hdp
    have hq2 : m / d ≤ m := Nat.div_le_self _ _
    have hpb := prod_bd (hx (d - 1)) (hb (m / d - 1))
    have ih := ih (pre ++ [d]) (s - GU x0 out m d) (by rw [List.append_assoc]; exact hp) (by unfold GU; split <;> omega) (by unfold GU; split <;> omega) (by
      simp only [lsum] at h
      rw [show s - GU x0 out m d - lsum (GU x0 out m) suf = s - (GU x0 out m d + lsum (GU x0 out m) suf) by omega]
      exact h)
    rw [List.length_append, List.length_singleton] at ih
    refine Ev.step (fun k => ?_) ih
    simp only [impl_UndoTable.l1]
    rw [if_pos (by omega), if_pos (by omega), if_pos (by omega), hget, wr_succ (by omega)]
    unfold GU
    by_cases hlt : 1 < d
    · have e1 : wrap64 ((d : Int) - 1) = ((d - 1 : Nat) : Int) := by rw [wri (by omega) (by omega)]; omega
      have e2 : wrap64 (wrap64 (Int.tdiv (m : Int) d) - 1) = ((m / d - 1 : Nat) : Int) := by rw [wr_tdiv (by omega), wri (by omega) (by omega)]; omega
      have hq3 : m / d < m := Nat.div_lt_self (by omega) hlt
      rw [if_pos (by omega), e1, if_pos (by omega), if_pos (by omega), if_neg (by omega), e2, if_pos (by omega), if_pos (by omega), if_pos hlt, wri (a := rd x0 ((d - 1 : Nat) : Int) * rd out ((m / d - 1 : Nat) : Int)) (by omega) (by omega), wri (by omega) (by omega)]
    · rw [if_neg (by omega), if_neg hlt, Int.sub_zero]
theorem spec_undo_end (x0 out : List Int) (m r : Nat) (h1 : 1 ≤ m) (h3 : out.length = m - 1) (hr : m + (r + 1) = x0.length + 1) (hn : x0.length ≤ 200) (val w : Int) (hw : wrap64 (val * rd x0 0) = w) (D : List Int) {v : List Int × Bool}
    (k1 : Ev (fun k => if isTab (out ++ [w]) = true then spec_UndoTable.l0 k x0 (out ++ w :: List.replicate r 0) ((m + 1 : Nat) : Int) else some ([], false)) v) :
    Ev (fun k => spec_UndoTable.l1 k x0 (out ++ (0 : Int) :: List.replicate r 0) m val D (D.length : Nat) (D.length : Nat)) v := by
  have hol : (out ++ (0 : Int) :: List.replicate r 0).length = out.length + (r + 1) := by simp
  have e1 : wrap64 ((m : Int) - 1) = ((m - 1 : Nat) : Int) := by rw [wri (by omega) (by omega)]; omega
  have e2 : wrap64 ((m : Int) + 1) = ((m + 1 : Nat) : Int) := wr_succ (by omega)
  generalize hz : List.replicate r (0 : Int) = z at *
  have eset : (out ++ (0 : Int) :: z).set (m - 1) w = out ++ w :: z := by
    rw [← h3, List.set_append_right _ _ (Nat.le_refl _), Nat.sub_self]; rfl
  have etake : (out ++ w :: z).take m = out ++ [w] := by
    rw [show out ++ w :: z = (out ++ [w]) ++ z by simp]
    exact List.take_left' (by rw [List.length_append, List.length_singleton]; omega)
  refine Ev.step (f := fun k => (spec_dvIs.f k (out ++ [w])).bind fun t => if t = true then spec_UndoTable.l0 k x0 (out ++ w :: z) ((m + 1 : Nat) : Int) else some ([], false)) (fun k => ?_) (Ev.bind (f := fun k t => if t = true then spec_UndoTable.l0 k x0 (out ++ w :: z) ((m + 1 : Nat) : Int) else some ([], false)) (spec_dvIs_ev (out ++ [w])) k1)
  have c1 : ¬ ((D.length : Int) < (D.length : Int)) := by omega
  have c2 : 0 < (x0.length : Int) := by omega
  have c3 : 0 ≤ ((m - 1 : Nat) : Int) := by omega
  have c4 : ((m - 1 : Nat) : Int) < ((out ++ (0 : Int) :: z).length : Int) := by omega
  have c5 : 0 ≤ (m : Int) := by omega
  have c6 : (m : Int) ≤ ((out ++ (0 : Int) :: z).length : Int) := by omega
  simp only [spec_UndoTable.l1, if_neg c1, if_pos c2, e1, if_pos c3, if_pos c4, hw, Int.toNat_natCast, eset, Option.bind_some, if_pos c5, if_pos c6, etake, e2]
theorem impl_undo_end (x0 out : List Int) (m : Nat) (h1 : 1 ≤ m) (h3 : out.length = m - 1) (hr : m ≤ x0.length) (hn : x0.length ≤ 200) (val w : Int) (hw : wrap64 (val * rd x0 0) = w) (D : List Int) {v : List Int × Bool}
    (k2 : Ev (fun k => if isTab (out ++ [w]) = true then impl_UndoTable.l0 k x0 (out ++ [w]) ((m + 1 : Nat) : Int) else some ([], false)) v) :
    Ev (fun k => impl_UndoTable.l1 k x0 out m val D (D.length : Nat) (D.length : Nat)) v := by
  have e2 : wrap64 ((m : Int) + 1) = ((m + 1 : Nat) : Int) := wr_succ (by omega)
  refine Ev.step (f := fun k => (impl_isTable.f k (out ++ [w])).bind fun t => if t = true then impl_UndoTable.l0 k x0 (out ++ [w]) ((m + 1 : Nat) : Int) else some ([], false)) (fun k => ?_) (Ev.bind (f := fun k t => if t = true then impl_UndoTable.l0 k x0 (out ++ [w]) ((m + 1 : Nat) : Int) else some ([], false)) (impl_isTable_ev (out ++ [w])) k2)
  have c1 : ¬ ((D.length : Int) < (D.length : Int)) := by omega
  have c2 : 0 < (x0.length : Int) := by omega
  have c3 : out.length < 17592186044416 := by omega
  simp only [impl_UndoTable.l1, if_neg c1, if_pos c2, if_pos c3, hw, Option.bind_some, e2]
theorem spec_undo_go (x0 out z : List Int) (m : Nat) (s : Int) (h1 : 1 ≤ m) (hm : m ≤ x0.length) (hn : x0.length ≤ 200) (hs : (if (m : Int) = 1 then (1 : Int) else 0) = s) {v : List Int × Bool}
    (h : Ev (fun k => spec_UndoTable.l1 k x0 (out ++ z) m s (ints (divs m)) ((divs m).length : Nat) (([] : List Nat).length : Nat)) v) : Ev (fun k => spec_UndoTable.l0 k x0 (out ++ z) m) v := by
  have hil := ints_len (divs m)
  have hj : Ev (fun k => spec_UndoTable.j2 k x0 (out ++ z) m s) v := by
    refine Ev.step (f := fun k => (spec_dvList.f k m).bind fun t => spec_UndoTable.l1 k x0 (out ++ z) m s t (t.length : Int) 0) (fun k => by simp only [spec_UndoTable.j2]) ((spec_dvList_ev m h1 (by omega)).bind ?_)
    rw [hil]
    exact h
  refine Ev.step (fun k => ?_) hj
  simp only [spec_UndoTable.l0]
  rw [if_pos (by omega), ← hs]
  by_cases hm1 : (m : Int) = 1
  · rw [if_pos hm1, if_pos hm1]
  · rw [if_neg hm1, if_neg hm1]
theorem impl_undo_go (x0 out : List Int) (m : Nat) (s : Int) (h1 : 1 ≤ m) (hm : m ≤ x0.length) (hn : x0.length ≤ 200) (hs : (if (m : Int) = 1 then (1 : Int) else 0) = s) {v : List Int × Bool}
    (h : Ev (fun k => impl_UndoTable.l1 k x0 out m s (ints (divs m)) ((divs m).length : Nat) (([] : List Nat).length : Nat)) v) : Ev (fun k => impl_UndoTable.l0 k x0 out m) v := by
  have hil := ints_len (divs m)
  have hj : Ev (fun k => impl_UndoTable.j2 k x0 out m s) v := by
    refine Ev.step (f := fun k => (impl_divisors.f k m).bind fun t => impl_UndoTable.l1 k x0 out m s t (t.length : Int) 0) (fun k => by simp only [impl_UndoTable.j2]) ((impl_divisors_ev m h1 (by omega)).bind ?_)
    rw [hil]
    exact h
  refine Ev.step (fun k => ?_) hj
  simp only [impl_UndoTable.l0]
  rw [if_pos (by omega), ← hs]
  by_cases hm1 : (m : Int) = 1
  · rw [if_pos hm1, if_pos hm1]
  · rw [if_neg hm1, if_neg hm1]
theorem undo_l (x0 : List Int) (ht : isTab x0 = true) : ∀ (r m : Nat) (out : List Int), 1 ≤ m → m + r = x0.length + 1 → out.length = m - 1 → (∀ j : Nat, -1000000 ≤ rd out (j : Int) ∧ rd out (j : Int) ≤ 1000000) →
    ∃ v : List Int × Bool, v.1.length ≤ 1000 ∧ Ev (fun k => spec_UndoTable.l0 k x0 (out ++ List.replicate r 0) m) v ∧ Ev (fun k => impl_UndoTable.l0 k x0 out m) v := by
  have hl := isTab_len ht
  have hx := isTab_at ht
  intro r
  induction r with
  | zero =>
    intro m out h1 h2 h3 hb
    refine ⟨(out, true), by simp only; omega, Ev.done fun k => ?_, Ev.done fun k => ?_⟩
    · simp only [spec_UndoTable.l0]
      rw [if_neg (by omega)]
      simp
    · simp only [impl_UndoTable.l0]
      rw [if_neg (by omega)]
  | succ r ih =>
    intro m out h1 h2 h3 hb
    have hdl := divs_len (n := m) (by omega)
    have hil := ints_len (divs m)
    have hD : ∀ d ∈ divs m, d ∣ m := fun d hd => (mem_divs (by omega)).1 hd
    have hval := FG x0 out m (by omega)
    obtain ⟨s, hs⟩ : ∃ s, (if (m : Int) = 1 then (1 : Int) else 0) = s := ⟨_, rfl⟩
    have hs1 : 0 ≤ s ∧ s ≤ 1 := by rw [← hs]; split <;> omega
    obtain ⟨w, hw⟩ : ∃ w, wrap64 ((s - lsum (FU x0 out m) (divs m)) * rd x0 0) = w := ⟨_, rfl⟩
    have key : ∃ v : List Int × Bool, v.1.length ≤ 1000 ∧ Ev (fun k => if isTab (out ++ [w]) = true then spec_UndoTable.l0 k x0 (out ++ w :: List.replicate r 0) ((m + 1 : Nat) : Int) else some ([], false)) v ∧ Ev (fun k => if isTab (out ++ [w]) = true then impl_UndoTable.l0 k x0 (out ++ [w]) ((m + 1 : Nat) : Int) else some ([], false)) v := by
      by_cases hi : isTab (out ++ [w]) = true
      · simp only [if_pos hi]
        have := ih (m + 1) (out ++ [w]) (by omega) (by omega) (by rw [List.length_append, List.length_singleton]; omega) (isTab_at hi)
        rw [List.append_assoc] at this
        exact this
      · simp only [if_neg hi]
        exact ⟨([], false), by simp, Ev.now _, Ev.now _⟩
    obtain ⟨v, hv, k1, k2⟩ := key
    have f1 := spec_undo_end x0 out m r h1 h3 h2 hl.2 _ w hw (ints (divs m)) k1
    rw [hval] at hw
    have f2 := impl_undo_end x0 out m h1 h3 (by omega) hl.2 _ w hw (ints (divs m)) k2
    rw [hil] at f1 f2
    have hlo : -1000000000000000 + 1000000000000 * ((divs m).length : Int) ≤ s := by omega
    have hhi : s ≤ 1000000000000000 - 1000000000000 * ((divs m).length : Int) := by omega
    refine ⟨v, hv, ?_, ?_⟩
    · rw [List.replicate_succ]
      exact spec_undo_go x0 out (0 :: List.replicate r 0) m s h1 (by omega) hl.2 hs (spec_undo_in x0 out (0 :: List.replicate r 0) m h1 (by omega) hl.2 h3 hx hb (divs m) hD (by omega) (divs m) [] s rfl hlo hhi f1)
    · exact impl_undo_go x0 out m s h1 (by omega) hl.2 hs (impl_undo_in x0 out m h1 (by omega) hl.2 h3 hx hb (divs m) hD (by omega) (divs m) [] s rfl hlo hhi f2)
theorem spec_no (l : List Int) : Ev (fun k => spec_UndoTable.j0 k l true) ([], false) := Ev.done fun k => by simp only [spec_UndoTable.j0, if_true]
theorem impl_no (l : List Int) : Ev (fun k => impl_UndoTable.j0 k l true) ([], false) := Ev.done fun k => by simp only [impl_UndoTable.j0, if_true]
theorem undo_both (l : List Int) : ∃ v : List Int × Bool, v.1.length ≤ 1000 ∧ Ev (fun k => spec_UndoTable.f k l) v ∧ Ev (fun k => impl_UndoTable.f k l) v := by
  by_cases ht : isTab l = true
  · have hl := isTab_len ht
    have hx := isTab_at ht 0
    rw [show ((0 : Nat) : Int) = 0 from rfl] at hx
    have habs : spec_l1Abs.f (rd l 0) = some (if rd l 0 > -rd l 0 then rd l 0 else -rd l 0) := by
      unfold spec_l1Abs.f spec_l1Most.f
      rw [wri (a := -rd l 0) (by omega) (by omega)]
      split <;> rfl
    by_cases h1 : rd l 0 = 1 ∨ rd l 0 = -1
    · obtain ⟨v, hv, k1, k2⟩ := undo_l l ht l.length 1 [] (by omega) (by omega) rfl (fun j => by simp [rd])
      refine ⟨v, hv, ?_, ?_⟩
      · unfold spec_UndoTable.f
        refine (spec_dvIs_ev l).bind ?_
        have hne : ((if rd l 0 > -rd l 0 then rd l 0 else -rd l 0) != 1) = false := by rw [bne_eq_false_iff_eq]; split <;> omega
        simp only [if_pos ht, if_pos (show 0 < (l.length : Int) by omega), habs, Option.bind_some, hne]
        refine Ev.step (fun k => ?_) k1
        simp only [spec_UndoTable.j0, Bool.false_eq_true, if_false]
        rw [if_pos (by omega), Int.toNat_natCast, if_pos (by omega)]
        rfl
      · unfold impl_UndoTable.f
        refine (impl_isTable_ev l).bind ?_
        have hgo : Ev (fun k => impl_UndoTable.j0 k l false) v := by
          refine Ev.step (fun k => ?_) k2
          simp only [impl_UndoTable.j0, Bool.false_eq_true, if_false]
          rfl
        simp only [if_pos ht, if_pos (show 0 < (l.length : Int) by omega)]
        by_cases h2 : rd l 0 = 1
        · simp only [if_pos h2]; exact hgo
        · have hne : (rd l 0 != -1) = false := by rw [bne_eq_false_iff_eq]; omega
          simp only [if_neg h2, hne]; exact hgo
    · refine ⟨([], false), by simp, ?_, ?_⟩
      · unfold spec_UndoTable.f
        refine (spec_dvIs_ev l).bind ?_
        have hne : ((if rd l 0 > -rd l 0 then rd l 0 else -rd l 0) != 1) = true := by rw [bne_iff_ne]; split <;> omega
        simp only [if_pos ht, if_pos (show 0 < (l.length : Int) by omega), habs, Option.bind_some, hne]
        exact spec_no l
      · unfold impl_UndoTable.f
        refine (impl_isTable_ev l).bind ?_
        have hne : (rd l 0 != -1) = true := by rw [bne_iff_ne]; omega
        simp only [if_pos ht, if_pos (show 0 < (l.length : Int) by omega), if_neg (show ¬ (rd l 0 = 1) by omega), hne]
        exact impl_no l
  · refine ⟨([], false), by simp, ?_, ?_⟩
    · unfold spec_UndoTable.f
      refine (spec_dvIs_ev l).bind ?_
      simp only [if_neg ht]; exact spec_no l
    · unfold impl_UndoTable.f
      refine (impl_isTable_ev l).bind ?_
      simp only [if_neg ht]; exact impl_no l
theorem FnExactUndoTable : laws_FnExactUndoTable.Pure := by
  intro l _ _ _
  apply Ev.rounds
  by_cases hbig : l.length ≤ 1048576
  · obtain ⟨⟨r, b⟩, hv, k1, k2⟩ := undo_both l
    exact law_tail l r b hbig (by simp only at hv; omega) k1 k2
  · refine Ev.const fun k => ?_
    unfold laws_FnExactUndoTable.f
    rw [if_pos (by omega)]
end Go.Proofs.Ytdiaabpmefgppaa.Pure
