/- CountSquareFree answers as the reference does, for every argument. -/
import Derived.Test.YtagnkhoonfbbdaaPFnExactCountSquareFreex2
import Derived.Test.YtagnkhoonfbbdaaNtC
import Derived.Test.YtagnkhoonfbbdaaNtG
namespace Go.Proofs.Ytagnkhoonfbbdaa.Pure
set_option linter.unusedVariables false
open Go Go.RowKit Go.Proofs.Ytagnkhoonfbbdaa.PFnExactCountSquareFree Go.Proofs.YtagnkhoonfbbdaaW.PrintWords Go.Proofs.YtagnkhoonfbbdaaW.PrintLast Go.Proofs.Ytagnkhoonfbbdaa.Nt
theorem Ev.done {α : Type} {g : Nat → Option α} {r : α} (h : ∀ k, g (k + 1) = some r) : Ev g r := Ev.step (f := fun _ => some r) h (Ev.now r)
theorem Ev.const {α : Type} {g : Nat → Option α} {r : α} (h : ∀ k, g k = some r) : Ev g r := Ev.congr (f := fun _ => some r) h (Ev.now r)
theorem wr {a : Nat} (h : a < 9223372036854775808) : wrap64 (a : Int) = a := by unfold wrap64; omega
theorem wri {a : Int} (h0 : -9223372036854775808 ≤ a) (h : a < 9223372036854775808) : wrap64 a = a := by unfold wrap64; omega
theorem wr_mul {a b : Nat} (h : a * b < 9223372036854775808) : wrap64 ((a : Int) * b) = ((a * b : Nat) : Int) := by rw [← Int.natCast_mul]; exact wr h
theorem wr_succ {a : Nat} (h : a < 9223372036854775807) : wrap64 ((a : Int) + 1) = ((a + 1 : Nat) : Int) := wr (a := a + 1) (by omega)
theorem wr_tdiv {a b : Nat} (h : a < 9223372036854775808) : wrap64 (Int.tdiv (a : Int) b) = ((a / b : Nat) : Int) := wr (a := a / b) (Nat.lt_of_le_of_lt (Nat.div_le_self a b) h)
theorem tm (a b : Nat) : Int.tmod (a : Int) b = ((a % b : Nat) : Int) := rfl
theorem sq_lt {a b : Nat} (h : a ≤ 3037000499) (k : b ≤ 3037000499) : a * b < 9223372036854775808 := Nat.lt_of_le_of_lt (Nat.mul_le_mul h k) (by decide)
theorem spec_l1In_eq (a b c : Int) : spec_l1In.f a b c = some (decide (b ≤ a ∧ a ≤ c)) := by
  unfold spec_l1In.f
  by_cases h : a ≥ b
  · rw [if_pos h, decide_eq_decide.2 (show a ≤ c ↔ b ≤ a ∧ a ≤ c from ⟨fun k => ⟨h, k⟩, fun k => k.2⟩)]
  · rw [if_neg h, decide_eq_false (fun k => h k.1)]
theorem spec_sqGood_eq (a : Int) : spec_sqGood.f a = some (decide (1 ≤ a ∧ a ≤ 100000)) := by
  unfold spec_sqGood.f; rw [spec_l1In_eq]; rfl
theorem impl_isAsked_eq (a : Int) : impl_isAsked.f a = some (decide (1 ≤ a ∧ a ≤ 100000)) := by
  unfold impl_isAsked.f
  by_cases h : a ≥ 1
  · rw [if_pos h, decide_eq_decide.2 (show a ≤ 100000 ↔ 1 ≤ a ∧ a ≤ 100000 from ⟨fun k => ⟨h, k⟩, fun k => k.2⟩)]
  · rw [if_neg h, decide_eq_false (fun k => h k.1)]
theorem facs_len : ∀ (n : Nat), (facs n).length ≤ n := by
  intro n
  induction n using Nat.strongRecOn with
  | _ n ih =>
    by_cases h : n < 2
    · rw [facs_small h]; simp
    · have hn : 2 ≤ n := by omega
      have := rs_lt (lf_two_le hn) (by omega) (lf_dvd hn)
      have := ih _ this
      rw [facs_cons hn, List.length_cons]; omega
/-- A list of primes and exponents as the program's rows. -/
def rowsOf (l : List (Nat × Nat)) : List (List Int) := l.map fun f => [(f.1 : Int), (f.2 : Int)]
theorem getD_mid {α : Type} (pre : List α) (x : α) (l : List α) (d : α) : (pre ++ x :: l).getD pre.length d = x := by simp
theorem rows_get (pre : List (Nat × Nat)) (x : Nat × Nat) (l : List (Nat × Nat)) : (rowsOf (pre ++ x :: l)).getD pre.length [] = [(x.1 : Int), (x.2 : Int)] := by
  simp [rowsOf]
theorem rows_len (l : List (Nat × Nat)) : (rowsOf l).length = l.length := by simp [rowsOf]
theorem impl_leastFactor_l (n : Nat) (h2 : 2 ≤ n) (hn : n ≤ 2000000000) : ∀ (j d : Nat), n + 1 ≤ d + j → 2 ≤ d → d ≤ n + 1 → Above d n → Ev (fun k => impl_leastFactor.l0 k n d) (lf n : Int) := by
  have hend : ∀ d : Nat, d ≤ n + 1 → n < d * d → Above d n → Ev (fun k => impl_leastFactor.l0 k n d) (lf n : Int) := by
    intro d hd hlt ha
    rw [lf_eq h2 (isLf_self h2 hlt (fun m hm hmd hmn => by have := ha m hm hmn; omega))]
    refine Ev.done fun k => ?_
    simp only [impl_leastFactor.l0]
    rw [wr_mul (sq_lt (by omega) (by omega)), if_neg (by omega)]
  intro j
  induction j with
  | zero =>
    intro d hj hd2 hd ha
    exact hend d hd (by have := Nat.mul_le_mul_right d hd2; omega) ha
  | succ j ih =>
    intro d hj hd2 hd ha
    by_cases hlt : n < d * d
    · exact hend d hd hlt ha
    · have hdn : d ≤ n := by have := Nat.mul_le_mul_right d hd2; omega
      by_cases hm : n % d = 0
      · rw [(ha.lf hd2 (by omega) (Nat.dvd_of_mod_eq_zero hm)).2]
        refine Ev.done fun k => ?_
        simp only [impl_leastFactor.l0]
        rw [wr_mul (sq_lt (by omega) (by omega)), tm, if_pos (by omega), if_neg (by omega), if_pos (by omega)]
      · refine Ev.step (fun k => ?_) (ih (d + 1) (by omega) (by omega) (by omega) (ha.succ (fun h => hm (Nat.mod_eq_zero_of_dvd h))))
        simp only [impl_leastFactor.l0]
        rw [wr_mul (sq_lt (by omega) (by omega)), tm, if_pos (by omega), if_neg (by omega), if_neg (by omega), wr_succ (by omega)]
theorem impl_leastFactor_ev (n : Nat) (h2 : 2 ≤ n) (hn : n ≤ 2000000000) : Ev (fun k => impl_leastFactor.f k n) (lf n : Int) :=
  impl_leastFactor_l n h2 hn n 2 (by omega) (Nat.le_refl _) (by omega) (Above.two n)
theorem impl_factors_l1 (p : Nat) (hp : 2 ≤ p) : ∀ (n : Nat) (acc : List (List Int)) (e : Nat) {v : List (List Int)}, 0 < n → n ≤ 2000000000 → e + n ≤ 4000000000 → p ≤ 2000000000 → acc.length + 1 ≤ 3000000000 →
    Ev (fun k => impl_factors.l0 k (rs p n) (acc ++ [[(p : Int), ((e + vl p n : Nat) : Int)]])) v → Ev (fun k => impl_factors.l1 k n acc p e) v := by
  intro n
  induction n using Nat.strongRecOn with
  | _ n ih =>
    intro acc e v h0 hn he hpb hl h
    by_cases hd : p ∣ n
    · obtain ⟨c, rfl⟩ := hd
      have hc0 : 0 < c := by
        rcases Nat.eq_zero_or_pos c with h | h
        · subst h; simp at h0
        · exact h
      have hlt : c < p * c := by have := Nat.mul_le_mul_right c hp; omega
      rw [rs_mul_self hp hc0, vl_mul_self hp hc0] at h
      refine Ev.step (fun k => ?_) (ih c hlt acc (e + 1) (v := v) hc0 (by omega) (by omega) hpb hl (by rw [show e + 1 + vl p c = e + (vl p c + 1) by omega]; exact h))
      simp only [impl_factors.l1]
      rw [tm, if_neg (by omega), if_pos (by simp), wr_tdiv (by omega), wr_succ (by omega), Nat.mul_div_cancel_left c (by omega)]
    · rw [rs_of_not_dvd hp h0 hd, vl_zero hp h0 hd] at h
      refine Ev.step (fun k => ?_) h
      simp only [impl_factors.l1]
      have : n % p ≠ 0 := fun hm => hd (Nat.dvd_of_mod_eq_zero hm)
      rw [tm, if_neg (by omega), if_neg (by omega), if_pos (by omega), Nat.add_zero]
theorem impl_factors_l0 : ∀ (n : Nat) (acc : List (List Int)), n ≤ 1000000000 → acc.length + n ≤ 2000000000 → Ev (fun k => impl_factors.l0 k n acc) (acc ++ rowsOf (facs n)) := by
  intro n
  induction n using Nat.strongRecOn with
  | _ n ih =>
    intro acc hn hl
    by_cases h : n < 2
    · rw [facs_small h]
      refine Ev.done fun k => ?_
      simp only [impl_factors.l0]
      rw [if_neg (by omega)]
      simp [rowsOf]
    · have h2 : 2 ≤ n := by omega
      have hp := lf_two_le h2
      have hple := lf_le h2
      have hlt := rs_lt hp (by omega) (lf_dvd h2)
      have key : Ev (fun k => impl_factors.l1 k n acc (lf n) 0) (acc ++ rowsOf (facs n)) := by
        have := ih _ hlt (acc ++ [[(lf n : Int), ((0 + vl (lf n) n : Nat) : Int)]]) (by omega) (by rw [List.length_append, List.length_singleton]; omega)
        refine impl_factors_l1 (lf n) hp n acc 0 (by omega) (by omega) (by omega) (by omega) (by omega) ?_
        rw [facs_cons h2]
        rw [List.append_assoc] at this
        simpa [rowsOf] using this
      refine Ev.step (f := fun k => (impl_leastFactor.f k n).bind fun t => impl_factors.l1 k n acc t 0) (fun k => ?_) ((impl_leastFactor_ev n h2 (by omega)).bind key)
      simp only [impl_factors.l0]
      rw [if_pos (by omega)]
theorem impl_factors_ev (n : Nat) (hn : n ≤ 1000000000) : Ev (fun k => impl_factors.f k n) (rowsOf (facs n)) := by
  have := impl_factors_l0 n [] hn (by simp; omega)
  exact this
theorem impl_signOf_l : ∀ (l pre : List (Nat × Nat)) (s : Int), s = 1 ∨ s = -1 → (pre ++ l).length ≤ 2000000000 → Ev (fun k => impl_signOf.l0 k s (rowsOf (pre ++ l)) ((pre ++ l).length : Int) (pre.length : Int)) (s * sgnL l)
  | [], pre, s, hs, hl => by
    refine Ev.done fun k => ?_
    simp only [impl_signOf.l0]
    rw [if_neg (by simp)]
    simp [sgnL]
  | (p, e) :: l, pre, s, hs, hl => by
    have hlen : (pre ++ (p, e) :: l).length = pre.length + 1 + l.length := by simp; omega
    have hlr := rows_len (pre ++ (p, e) :: l)
    have hget : rd_L1 (rowsOf (pre ++ (p, e) :: l)) (pre.length : Int) = [(p : Int), (e : Int)] := by
      unfold rd_L1; rw [Int.toNat_natCast]; exact rows_get pre (p, e) l
    by_cases he : 1 < e
    · refine Ev.done fun k => ?_
      simp only [impl_signOf.l0]
      rw [if_pos (by omega), if_pos (by omega), if_pos (by omega), hget, if_pos (by simp), if_pos (by simp [rd]; omega)]
      simp [sgnL, he]
    · have ih := impl_signOf_l l (pre ++ [(p, e)]) (-s) (by omega) (by simpa using hl)
      rw [List.append_assoc] at ih
      simp only [List.singleton_append, List.length_append, List.length_singleton] at ih
      have e1 : s * sgnL ((p, e) :: l) = -s * sgnL l := by simp only [sgnL]; rw [if_neg he, Int.mul_neg, Int.neg_mul]
      rw [e1]
      refine Ev.step (fun k => ?_) ih
      simp only [impl_signOf.l0]
      rw [if_pos (by omega), if_pos (by omega), if_pos (by omega), hget, if_pos (by simp), if_neg (by simp [rd]; omega), wri (by omega) (by omega), wr_succ (by omega), List.length_append]
theorem impl_signOf_ev (n : Nat) (hn : n ≤ 1000000000) : Ev (fun k => impl_signOf.f k n) (sgn n) := by
  have hl := facs_len n
  have h := impl_signOf_l (facs n) [] 1 (Or.inl rfl) (by simpa using (by omega : (facs n).length ≤ 2000000000))
  rw [Int.one_mul] at h
  refine (impl_factors_ev n hn).bind ?_
  rw [rows_len]
  exact h
theorem spec_sqKernel_end (n q c d : Nat) (h0 : 0 < n) (hlt : n < d * d) (hd : d ≤ 1000002) (ha : Above d n) (hq : q * rad n ≤ 1000000) (hc : c ≤ 2000000) : Ev (fun k => spec_sqKernel.l0 k n q c d) (((q * rad n : Nat) : Int), ((c + (facs n).length : Nat) : Int)) := by
  have hend : ∀ k, spec_sqKernel.l0 (k + 1) n q c d = if (n : Int) > 1 then some (wrap64 ((q : Int) * n), wrap64 ((c : Int) + 1)) else some ((q : Int), (c : Int)) := by
    intro k
    simp only [spec_sqKernel.l0]
    rw [wr_mul (sq_lt (by omega) (by omega)), if_neg (by omega)]
  rcases ha.last h0 hlt with rfl | ⟨h2, hf⟩
  · rw [rad_one, facs_small (by decide), Nat.mul_one]
    exact Ev.done fun k => by rw [hend, if_neg (by omega)]; rfl
  · have hr : rad n = n := by unfold rad; rw [hf]; simp [radL]
    rw [hr] at hq
    rw [hr, hf]
    exact Ev.done fun k => by rw [hend, if_pos (by omega), wr_mul (by omega), wr_succ (by omega)]; rfl
theorem spec_sqKernel_l1 (d : Nat) (h2 : 2 ≤ d) (hd : d ≤ 1000000) : ∀ (n q c : Nat) {v : Int × Int}, 0 < n → n ≤ 1000000 → Ev (fun k => spec_sqKernel.l0 k (rs d n) q c ((d + 1 : Nat) : Int)) v → Ev (fun k => spec_sqKernel.l1 k n q c d) v := by
  intro n
  induction n using Nat.strongRecOn with
  | _ n ih =>
    intro q c v h0 hn h
    by_cases hdv : d ∣ n
    · obtain ⟨m, rfl⟩ := hdv
      have hm0 : 0 < m := by
        rcases Nat.eq_zero_or_pos m with h | h
        · subst h; simp at h0
        · exact h
      have hlt : m < d * m := by have := Nat.mul_le_mul_right m h2; omega
      rw [rs_mul_self h2 hm0] at h
      refine Ev.step (fun k => ?_) (ih m hlt q c hm0 (by omega) h)
      simp only [spec_sqKernel.l1]
      rw [tm, if_neg (by omega), if_pos (by simp), wr_tdiv (by omega), Nat.mul_div_cancel_left m (by omega)]
    · rw [rs_of_not_dvd h2 h0 hdv] at h
      refine Ev.step (fun k => ?_) h
      have : n % d ≠ 0 := fun hm => hdv (Nat.dvd_of_mod_eq_zero hm)
      simp only [spec_sqKernel.l1]
      rw [tm, if_neg (by omega), if_neg (by omega), wr_succ (by omega)]
theorem spec_sqKernel_l : ∀ (j n q c d : Nat), n + 1 ≤ d + j → 0 < n → n ≤ 1000000 → 2 ≤ d → d ≤ 1000001 → Above d n → q * rad n ≤ 1000000 → c + (facs n).length ≤ 1000000 → Ev (fun k => spec_sqKernel.l0 k n q c d) (((q * rad n : Nat) : Int), ((c + (facs n).length : Nat) : Int)) := by
  intro j
  induction j with
  | zero =>
    intro n q c d hj h0 hn h2 hd ha hq hc
    exact spec_sqKernel_end n q c d h0 (by have := Nat.mul_le_mul_right d h2; omega) (by omega) ha hq (by omega)
  | succ j ih =>
    intro n q c d hj h0 hn h2 hd ha hq hc
    by_cases hlt : n < d * d
    · exact spec_sqKernel_end n q c d h0 hlt (by omega) ha hq (by omega)
    · have hdn : d ≤ n := by have := Nat.mul_le_mul_right d h2; omega
      by_cases hdv : d ∣ n
      · obtain ⟨hn2, hlf⟩ := ha.lf h2 h0 hdv
        have hrad := rad_cons hn2
        have hfacs := facs_cons hn2
        rw [hlf] at hrad hfacs
        have hrs0 := rs_pos h2 h0
        have hrslt := rs_lt h2 h0 hdv
        have hrp := rad_pos hrs0
        have hm : n % d = 0 := Nat.mod_eq_zero_of_dvd hdv
        rw [hrad, ← Nat.mul_assoc] at hq
        have hqd : q * d ≤ 1000000 := by have := Nat.mul_le_mul_left (q * d) hrp; omega
        have hlen : (facs n).length = (facs (rs d n)).length + 1 := by rw [hfacs, List.length_cons]
        have := ih (rs d n) (q * d) (c + 1) (d + 1) (by omega) hrs0 (by omega) (by omega) (by omega) (ha.rs h2 h0) hq (by omega)
        rw [hrad, ← Nat.mul_assoc, hlen, show c + ((facs (rs d n)).length + 1) = c + 1 + (facs (rs d n)).length by omega]
        refine Ev.step (fun k => ?_) (spec_sqKernel_l1 d h2 (by omega) n (q * d) (c + 1) h0 hn this)
        simp only [spec_sqKernel.l0]
        rw [wr_mul (sq_lt (by omega) (by omega)), tm, if_pos (by omega), if_neg (by omega), if_pos (by omega), wr_mul (by omega), wr_succ (by omega)]
      · have hm : n % d ≠ 0 := fun hm => hdv (Nat.dvd_of_mod_eq_zero hm)
        refine Ev.step (fun k => ?_) (ih n q c (d + 1) (by omega) h0 hn (by omega) (by omega) (ha.succ hdv) hq hc)
        simp only [spec_sqKernel.l0]
        rw [wr_mul (sq_lt (by omega) (by omega)), tm, if_pos (by omega), if_neg (by omega), if_neg (by omega), wr_succ (by omega)]
theorem spec_sqKernel_ev (n : Nat) (h0 : 0 < n) (hn : n ≤ 500000) : Ev (fun k => spec_sqKernel.f k n) ((rad n : Int), ((facs n).length : Int)) := by
  have hr := rad_le h0
  have hl := facs_len n
  have := spec_sqKernel_l n n 1 0 2 (by omega) h0 (by omega) (Nat.le_refl _) (by omega) (Above.two n) (by omega) (by omega)
  rw [Nat.one_mul, Nat.zero_add] at this
  exact this
theorem spec_sqSign_ev (n : Nat) (h0 : 0 < n) (hn : n ≤ 500000) : Ev (fun k => spec_sqSign.f k n) (sgn n) := by
  unfold spec_sqSign.f
  refine (spec_sqKernel_ev n h0 hn).bind ?_
  have h := rad_eq_iff h0
  have e : Int.tmod ((facs n).length : Int) 2 = (((facs n).length % 2 : Nat) : Int) := rfl
  rw [sgn_eq]
  by_cases hs : sqf n = true
  · rw [if_pos hs]
    simp only [e, h.2 hs, if_true]
    by_cases hl : (facs n).length % 2 = 0
    · rw [if_pos hl, if_pos (by omega)]; exact Ev.now _
    · rw [if_neg hl, if_neg (by omega)]; exact Ev.now _
  · rw [if_neg hs]
    have : ¬ ((rad n : Int) = n) := fun hc => hs (h.1 (by omega))
    simp only [if_neg this]
    exact Ev.now _
/-- The sum over d up to some number of the sign of d times n / (d d). -/
def qf (n d : Nat) : Int := sgn d * ((n / (d * d) : Nat) : Int)
theorem qf_bd (n k : Nat) : -(n : Int) ≤ qf n k ∧ qf n k ≤ n := by
  have h := Nat.div_le_self n (k * k)
  unfold qf
  generalize n / (k * k) = q at h ⊢
  rcases sgn_range k with e | e | e <;> rw [e] <;> omega
theorem qf_sum (n m : Nat) (hn : n ≤ 100000) (hm : m ≤ 100000) : -10000000000 ≤ sumF (qf n) m ∧ sumF (qf n) m ≤ 10000000000 := by
  have h := sumF_bd (f := qf n) (b := n) m (fun k _ _ => qf_bd n k)
  have h1 : n * m ≤ 100000 * 100000 := Nat.mul_le_mul hn hm
  have h2 : ((n : Int) * m) = ((n * m : Nat) : Int) := by simp
  rw [h2] at h
  omega
theorem qf_zero {n d : Nat} (h : n < d * d) : qf n d = 0 := by unfold qf; rw [Nat.div_eq_of_lt h]; simp
theorem qf_rest (n : Nat) {i : Nat} (h : n < (i + 1) * (i + 1)) : ∀ j, sumF (qf n) (i + j) = sumF (qf n) i
  | 0 => rfl
  | j + 1 => by
    have h1 := Nat.mul_le_mul (show i + 1 ≤ i + j + 1 by omega) (show i + 1 ≤ i + j + 1 by omega)
    have : sumF (qf n) (i + (j + 1)) = sumF (qf n) (i + j) + qf n (i + j + 1) := rfl
    rw [this, qf_rest n h j, qf_zero (by omega), Int.add_zero]
theorem qf_all {n i : Nat} (h : n < (i + 1) * (i + 1)) (hi : i ≤ n) : sumF (qf n) i = sumF (qf n) n := by
  have := qf_rest n h (n - i)
  rw [show i + (n - i) = n by omega] at this
  exact this.symm
theorem qf_term {n d : Nat} (hn : n ≤ 100000) (hd : d ≤ 100001) : wrap64 (sgn d * wrap64 (Int.tdiv (n : Int) (wrap64 ((d : Int) * d)))) = qf n d := by
  rw [wr_mul (sq_lt (by omega) (by omega)), wr_tdiv (by omega)]
  have := qf_bd n d
  unfold qf at this
  rw [wri (by omega) (by omega)]
  rfl
theorem spec_sqCount_l (n : Nat) (h0 : 0 < n) (hn : n ≤ 100000) : ∀ (j i : Nat), n + 1 ≤ i + j → i ≤ n → Ev (fun k => spec_sqCount.l0 k n (sumF (qf n) i) ((i + 1 : Nat) : Int)) (sumF (qf n) n) := by
  intro j
  induction j with
  | zero => intro i h1 h2; omega
  | succ j ih =>
    intro i h1 h2
    have hb := qf_sum n i hn (by omega)
    by_cases hlt : n < (i + 1) * (i + 1)
    · rw [← qf_all hlt h2]
      refine Ev.done fun k => ?_
      simp only [spec_sqCount.l0]
      rw [wr_mul (sq_lt (by omega) (by omega)), if_neg (by omega)]
    · have hi : i + 1 ≤ n := by have := Nat.mul_le_mul_right (i + 1) (show 1 ≤ i + 1 by omega); omega
      have hpos : 0 < (i + 1) * (i + 1) := Nat.mul_pos (by omega) (by omega)
      have hb2 := qf_sum n (i + 1) hn (by omega)
      refine Ev.step (f := fun k => (spec_sqSign.f k ((i + 1 : Nat) : Int)).bind fun t => spec_sqCount.l0 k n (wrap64 (sumF (qf n) i + wrap64 (t * wrap64 (Int.tdiv (n : Int) (wrap64 (((i + 1 : Nat) : Int) * ((i + 1 : Nat) : Int))))))) (wrap64 (((i + 1 : Nat) : Int) + 1))) (fun k => ?_) ?_
      · have e : wrap64 (((i + 1 : Nat) : Int) * ((i + 1 : Nat) : Int)) = (((i + 1) * (i + 1) : Nat) : Int) := wr_mul (sq_lt (by omega) (by omega))
        have hne : ¬ (wrap64 (((i + 1 : Nat) : Int) * ((i + 1 : Nat) : Int)) = 0) := by omega
        simp only [spec_sqCount.l0, if_neg hne]
        rw [if_pos (by omega)]
      · refine (spec_sqSign_ev (i + 1) (by omega) (by omega)).bind ?_
        simp only [sumF] at hb2
        have e : wrap64 (sumF (qf n) i + qf n (i + 1)) = sumF (qf n) (i + 1) := by rw [wri (by omega) (by omega)]; rfl
        simp only [qf_term hn (show i + 1 ≤ 100001 by omega), e]
        rw [wr_succ (by omega)]
        exact ih (i + 1) (by omega) (by omega)
theorem impl_CountSquareFree_l (n : Nat) (h0 : 0 < n) (hn : n ≤ 100000) : ∀ (j i : Nat), n + 1 ≤ i + j → i ≤ n → Ev (fun k => impl_CountSquareFree.l0 k n (sumF (qf n) i) ((i + 1 : Nat) : Int)) (sumF (qf n) n, true) := by
  intro j
  induction j with
  | zero => intro i h1 h2; omega
  | succ j ih =>
    intro i h1 h2
    have hb := qf_sum n i hn (by omega)
    by_cases hlt : n < (i + 1) * (i + 1)
    · rw [← qf_all hlt h2]
      refine Ev.done fun k => ?_
      simp only [impl_CountSquareFree.l0]
      rw [wr_mul (sq_lt (by omega) (by omega)), if_neg (by omega)]
    · have hi : i + 1 ≤ n := by have := Nat.mul_le_mul_right (i + 1) (show 1 ≤ i + 1 by omega); omega
      have hpos : 0 < (i + 1) * (i + 1) := Nat.mul_pos (by omega) (by omega)
      have hb2 := qf_sum n (i + 1) hn (by omega)
      refine Ev.step (f := fun k => (impl_signOf.f k ((i + 1 : Nat) : Int)).bind fun t => impl_CountSquareFree.l0 k n (wrap64 (sumF (qf n) i + wrap64 (t * wrap64 (Int.tdiv (n : Int) (wrap64 (((i + 1 : Nat) : Int) * ((i + 1 : Nat) : Int))))))) (wrap64 (((i + 1 : Nat) : Int) + 1))) (fun k => ?_) ?_
      · have e : wrap64 (((i + 1 : Nat) : Int) * ((i + 1 : Nat) : Int)) = (((i + 1) * (i + 1) : Nat) : Int) := wr_mul (sq_lt (by omega) (by omega))
        have hne : ¬ (wrap64 (((i + 1 : Nat) : Int) * ((i + 1 : Nat) : Int)) = 0) := by omega
        simp only [impl_CountSquareFree.l0, if_neg hne]
        rw [if_pos (by omega)]
      · refine (impl_signOf_ev (i + 1) (by omega)).bind ?_
        simp only [sumF] at hb2
        have e : wrap64 (sumF (qf n) i + qf n (i + 1)) = sumF (qf n) (i + 1) := by rw [wri (by omega) (by omega)]; rfl
        simp only [qf_term hn (show i + 1 ≤ 100001 by omega), e]
        rw [wr_succ (by omega)]
        exact ih (i + 1) (by omega) (by omega)
theorem spec_CountSquareFree_ev (n : Nat) (h0 : 0 < n) (hn : n ≤ 100000) : Ev (fun k => spec_CountSquareFree.f k n) (sumF (qf n) n, true) := by
  unfold spec_CountSquareFree.f
  rw [spec_sqGood_eq, decide_eq_true (by omega)]
  simp only [Option.bind_some, if_true]
  exact (spec_sqCount_l n h0 hn (n + 1) 0 (by omega) (by omega)).bind (Ev.now _)
theorem impl_CountSquareFree_ev (n : Nat) (h0 : 0 < n) (hn : n ≤ 100000) : Ev (fun k => impl_CountSquareFree.f k n) (sumF (qf n) n, true) := by
  unfold impl_CountSquareFree.f
  rw [impl_isAsked_eq, decide_eq_true (by omega)]
  simp only [Option.bind_some, if_true]
  exact impl_CountSquareFree_l n h0 hn (n + 1) 0 (by omega) (by omega)
theorem FnExactCountSquareFree : laws_FnExactCountSquareFree.Pure := by
  intro a _
  apply Ev.rounds
  unfold laws_FnExactCountSquareFree.f
  by_cases h : 1 ≤ a ∧ a ≤ 100000
  · obtain ⟨n, rfl⟩ := Int.eq_ofNat_of_zero_le (show 0 ≤ a by omega)
    refine (spec_CountSquareFree_ev n (by omega) (by omega)).bind ((impl_CountSquareFree_ev n (by omega) (by omega)).bind ?_)
    simp only [bne_self_eq_false, Bool.false_eq_true, if_false, if_true]
    exact Ev.now _
  · refine Ev.const fun k => ?_
    unfold spec_CountSquareFree.f impl_CountSquareFree.f
    rw [spec_sqGood_eq, impl_isAsked_eq, decide_eq_false h]
    rfl
end Go.Proofs.Ytagnkhoonfbbdaa.Pure
