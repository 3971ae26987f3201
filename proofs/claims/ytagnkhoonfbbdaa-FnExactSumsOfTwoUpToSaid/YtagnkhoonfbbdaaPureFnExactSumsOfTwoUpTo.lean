/- SumsOfTwoUpTo answers as the reference does, for every argument. -/
import Derived.Test.YtagnkhoonfbbdaaPFnExactSumsOfTwoUpTox3
import Derived.Test.YtagnkhoonfbbdaaNtC
import Derived.Test.YtagnkhoonfbbdaaNtG
namespace Go.Proofs.Ytagnkhoonfbbdaa.Pure
set_option linter.unusedVariables false
open Go Go.RowKit Go.Proofs.Ytagnkhoonfbbdaa.PFnExactSumsOfTwoUpTo Go.Proofs.YtagnkhoonfbbdaaW.PrintWords Go.Proofs.YtagnkhoonfbbdaaW.PrintLast Go.Proofs.Ytagnkhoonfbbdaa.Nt
theorem Ev.done {α : Type} {g : Nat → Option α} {r : α} (h : ∀ k, g (k + 1) = some r) : Ev g r := Ev.step (f := fun _ => some r) h (Ev.now r)
theorem Ev.const {α : Type} {g : Nat → Option α} {r : α} (h : ∀ k, g k = some r) : Ev g r := Ev.congr (f := fun _ => some r) h (Ev.now r)
theorem wr {a : Nat} (h : a < 9223372036854775808) : wrap64 (a : Int) = a := by unfold wrap64; omega
theorem wri {a : Int} (h0 : -9223372036854775808 ≤ a) (h : a < 9223372036854775808) : wrap64 a = a := by unfold wrap64; omega
theorem wr_mul {a b : Nat} (h : a * b < 9223372036854775808) : wrap64 ((a : Int) * b) = ((a * b : Nat) : Int) := by rw [← Int.natCast_mul]; exact wr h
theorem wr_succ {a : Nat} (h : a < 9223372036854775807) : wrap64 ((a : Int) + 1) = ((a + 1 : Nat) : Int) := wr (a := a + 1) (by omega)
theorem wr_tdiv {a b : Nat} (h : a < 9223372036854775808) : wrap64 (Int.tdiv (a : Int) b) = ((a / b : Nat) : Int) := wr (a := a / b) (Nat.lt_of_le_of_lt (Nat.div_le_self a b) h)
theorem tm (a b : Nat) : Int.tmod (a : Int) b = ((a % b : Nat) : Int) := rfl
theorem sq_lt {a b : Nat} (h : a ≤ 3037000499) (k : b ≤ 3037000499) : a * b < 9223372036854775808 := Nat.lt_of_le_of_lt (Nat.mul_le_mul h k) (by decide)
theorem spec_l1In_eq (a b c : Int) : spec_l1In.f a b c = some (decide (b ≤ a ∧ a ≤ c)) := by
  unfold spec_l1In.f
  by_cases h : a ≥ b
  · rw [if_pos h, decide_eq_decide.2 (show a ≤ c ↔ b ≤ a ∧ a ≤ c from ⟨fun k => ⟨h, k⟩, fun k => k.2⟩)]
  · rw [if_neg h, decide_eq_false (fun k => h k.1)]
theorem facs_len : ∀ (n : Nat), (facs n).length ≤ n := by
  intro n
  induction n using Nat.strongRecOn with
  | _ n ih =>
    by_cases h : n < 2
    · rw [facs_small h]; simp
    · have hn : 2 ≤ n := by omega
      have := rs_lt (lf_two_le hn) (by omega) (lf_dvd hn)
      have := ih _ this
      rw [facs_cons hn, List.length_cons]; omega
/-- A list of primes and exponents as the program's rows. -/
def rowsOf (l : List (Nat × Nat)) : List (List Int) := l.map fun f => [(f.1 : Int), (f.2 : Int)]
theorem getD_mid {α : Type} (pre : List α) (x : α) (l : List α) (d : α) : (pre ++ x :: l).getD pre.length d = x := by simp
theorem rows_get (pre : List (Nat × Nat)) (x : Nat × Nat) (l : List (Nat × Nat)) : (rowsOf (pre ++ x :: l)).getD pre.length [] = [(x.1 : Int), (x.2 : Int)] := by
  simp [rowsOf]
theorem rows_len (l : List (Nat × Nat)) : (rowsOf l).length = l.length := by simp [rowsOf]
theorem impl_leastFactor_l (n : Nat) (h2 : 2 ≤ n) (hn : n ≤ 2000000000) : ∀ (j d : Nat), n + 1 ≤ d + j → 2 ≤ d → d ≤ n + 1 → Above d n → Ev (fun k => impl_leastFactor.l0 k n d) (lf n : Int) := by
  have hend : ∀ d : Nat, d ≤ n + 1 → n < d * d → Above d n → Ev (fun k => impl_leastFactor.l0 k n d) (lf n : Int) := by
    intro d hd hlt ha
    rw [lf_eq h2 (isLf_self h2 hlt (fun m hm hmd hmn => by have := ha m hm hmn; omega))]
    refine Ev.done fun k => ?_
    simp only [impl_leastFactor.l0]
    rw [wr_mul (sq_lt (by omega) (by omega)), if_neg (by omega)]
  intro j
  induction j with
  | zero =>
    intro d hj hd2 hd ha
    exact hend d hd (by have := Nat.mul_le_mul_right d hd2; omega) ha
  | succ j ih =>
    intro d hj hd2 hd ha
    by_cases hlt : n < d * d
    · exact hend d hd hlt ha
    · have hdn : d ≤ n := by have := Nat.mul_le_mul_right d hd2; omega
      by_cases hm : n % d = 0
      · rw [(ha.lf hd2 (by omega) (Nat.dvd_of_mod_eq_zero hm)).2]
        refine Ev.done fun k => ?_
        simp only [impl_leastFactor.l0]
        rw [wr_mul (sq_lt (by omega) (by omega)), tm, if_pos (by omega), if_neg (by omega), if_pos (by omega)]
      · refine Ev.step (fun k => ?_) (ih (d + 1) (by omega) (by omega) (by omega) (ha.succ (fun h => hm (Nat.mod_eq_zero_of_dvd h))))
        simp only [impl_leastFactor.l0]
        rw [wr_mul (sq_lt (by omega) (by omega)), tm, if_pos (by omega), if_neg (by omega), if_neg (by omega), wr_succ (by omega)]
theorem impl_leastFactor_ev (n : Nat) (h2 : 2 ≤ n) (hn : n ≤ 2000000000) : Ev (fun k => impl_leastFactor.f k n) (lf n : Int) :=
  impl_leastFactor_l n h2 hn n 2 (by omega) (Nat.le_refl _) (by omega) (Above.two n)
theorem impl_factors_l1 (p : Nat) (hp : 2 ≤ p) : ∀ (n : Nat) (acc : List (List Int)) (e : Nat) {v : List (List Int)}, 0 < n → n ≤ 2000000000 → e + n ≤ 4000000000 → p ≤ 2000000000 → acc.length + 1 ≤ 3000000000 →
    Ev (fun k => impl_factors.l0 k (rs p n) (acc ++ [[(p : Int), ((e + vl p n : Nat) : Int)]])) v → Ev (fun k => impl_factors.l1 k n acc p e) v := by
  intro n
  induction n using Nat.strongRecOn with
  | _ n ih =>
    intro acc e v h0 hn he hpb hl h
    by_cases hd : p ∣ n
    · obtain ⟨c, rfl⟩ := hd
      have hc0 : 0 < c := by
        rcases Nat.eq_zero_or_pos c with h | h
        · subst h; simp at h0
        · exact h
      have hlt : c < p * c := by have := Nat.mul_le_mul_right c hp; omega
      rw [rs_mul_self hp hc0, vl_mul_self hp hc0] at h
      refine Ev.step (fun k => ?_) (ih c hlt acc (e + 1) (v := v) hc0 (by omega) (by omega) hpb hl (by rw [show e + 1 + vl p c = e + (vl p c + 1) by omega]; exact h))
      simp only [impl_factors.l1]
      rw [tm, if_neg (by omega), if_pos (by simp), wr_tdiv (by omega), wr_succ (by omega), Nat.mul_div_cancel_left c (by omega)]
    · rw [rs_of_not_dvd hp h0 hd, vl_zero hp h0 hd] at h
      refine Ev.step (fun k => ?_) h
      simp only [impl_factors.l1]
      have : n % p ≠ 0 := fun hm => hd (Nat.dvd_of_mod_eq_zero hm)
      rw [tm, if_neg (by omega), if_neg (by omega), if_pos (by omega), Nat.add_zero]
theorem impl_factors_l0 : ∀ (n : Nat) (acc : List (List Int)), n ≤ 1000000000 → acc.length + n ≤ 2000000000 → Ev (fun k => impl_factors.l0 k n acc) (acc ++ rowsOf (facs n)) := by
  intro n
  induction n using Nat.strongRecOn with
  | _ n ih =>
    intro acc hn hl
    by_cases h : n < 2
    · rw [facs_small h]
      refine Ev.done fun k => ?_
      simp only [impl_factors.l0]
      rw [if_neg (by omega)]
      simp [rowsOf]
    · have h2 : 2 ≤ n := by omega
      have hp := lf_two_le h2
      have hple := lf_le h2
      have hlt := rs_lt hp (by omega) (lf_dvd h2)
      have key : Ev (fun k => impl_factors.l1 k n acc (lf n) 0) (acc ++ rowsOf (facs n)) := by
        have := ih _ hlt (acc ++ [[(lf n : Int), ((0 + vl (lf n) n : Nat) : Int)]]) (by omega) (by rw [List.length_append, List.length_singleton]; omega)
        refine impl_factors_l1 (lf n) hp n acc 0 (by omega) (by omega) (by omega) (by omega) (by omega) ?_
        rw [facs_cons h2]
        rw [List.append_assoc] at this
        simpa [rowsOf] using this
      refine Ev.step (f := fun k => (impl_leastFactor.f k n).bind fun t => impl_factors.l1 k n acc t 0) (fun k => ?_) ((impl_leastFactor_ev n h2 (by omega)).bind key)
      simp only [impl_factors.l0]
      rw [if_pos (by omega)]
theorem impl_factors_ev (n : Nat) (hn : n ≤ 1000000000) : Ev (fun k => impl_factors.f k n) (rowsOf (facs n)) := by
  have := impl_factors_l0 n [] hn (by simp; omega)
  exact this
theorem impl_isMost_eq (a : Int) : impl_isMost.f a = some (decide (0 ≤ a ∧ a ≤ 600)) := by
  unfold impl_isMost.f
  by_cases h : a ≥ 0
  · rw [if_pos h, decide_eq_decide.2 (show a ≤ 600 ↔ 0 ≤ a ∧ a ≤ 600 from ⟨fun k => ⟨h, k⟩, fun k => k.2⟩)]
  · rw [if_neg h, decide_eq_false (fun k => h k.1)]
theorem spec_sqMost_eq (a : Int) : spec_sqMost.f a = some (decide (0 ≤ a ∧ a ≤ 600)) := by
  unfold spec_sqMost.f; rw [spec_l1In_eq]; rfl
/-- No prime that is 3 modulo 4 divides n an odd number of times. -/
def twoL (l : List (Nat × Nat)) : Bool := l.all fun f => !(f.1 % 4 == 3 && f.2 % 2 == 1)
def two (n : Nat) : Bool := twoL (facs n)
theorem twoL_cons (p e : Nat) (l : List (Nat × Nat)) : twoL ((p, e) :: l) = (!(p % 4 == 3 && e % 2 == 1) && twoL l) := rfl
theorem spec_sqTwo_end (n d : Nat) (h0 : 0 < n) (hlt : n < d * d) (hd : d ≤ 1000002) (ha : Above d n) : Ev (fun k => spec_sqTwo.l0 k n d) (two n) := by
  have e4 : Int.tmod (n : Int) 4 = ((n % 4 : Nat) : Int) := rfl
  have hend : ∀ k, spec_sqTwo.l0 (k + 1) n d = some ((Int.tmod (n : Int) 4) != 3) := by
    intro k
    simp only [spec_sqTwo.l0]
    rw [wr_mul (sq_lt (by omega) (by omega)), if_neg (by omega)]
  refine Ev.done fun k => ?_
  rw [hend, e4]
  congr 1
  rcases ha.last h0 hlt with rfl | ⟨h2, hf⟩
  · rfl
  · unfold two; rw [hf]
    rw [Bool.eq_iff_iff, bne_iff_ne]
    simp only [twoL, List.all_cons, List.all_nil, Bool.and_true, Bool.not_eq_true', Bool.and_eq_false_iff, beq_eq_false_iff_ne]
    omega
theorem spec_sqTwo_l1 (d : Nat) (h2 : 2 ≤ d) (hd : d ≤ 1000000) : ∀ (n t : Nat) {v : Bool}, 0 < n → n ≤ 1000000 → t + n ≤ 3000000 → Ev (fun k => spec_sqTwo.l0 k (rs d n) ((d + 1 : Nat) : Int)) v → Ev (fun k => spec_sqTwo.l1 k n d t) (!(d % 4 == 3 && (t + vl d n) % 2 == 1) && v) := by
  intro n
  induction n using Nat.strongRecOn with
  | _ n ih =>
    intro t v h0 hn ht h
    by_cases hdv : d ∣ n
    · obtain ⟨m, rfl⟩ := hdv
      have hm0 : 0 < m := by
        rcases Nat.eq_zero_or_pos m with h | h
        · subst h; simp at h0
        · exact h
      have hlt : m < d * m := by have := Nat.mul_le_mul_right m h2; omega
      rw [rs_mul_self h2 hm0] at h
      rw [vl_mul_self h2 hm0, show t + (vl d m + 1) = t + 1 + vl d m by omega]
      refine Ev.step (fun k => ?_) (ih m hlt (t + 1) hm0 (by omega) (by omega) h)
      simp only [spec_sqTwo.l1]
      rw [tm, if_neg (by omega), if_pos (by simp), wr_tdiv (by omega), wr_succ (by omega), Nat.mul_div_cancel_left m (by omega)]
    · rw [rs_of_not_dvd h2 h0 hdv] at h
      rw [vl_zero h2 h0 hdv, Nat.add_zero]
      have hm : n % d ≠ 0 := fun hm => hdv (Nat.dvd_of_mod_eq_zero hm)
      have e1 : Int.tmod (d : Int) 4 = ((d % 4 : Nat) : Int) := rfl
      have e2 : Int.tmod (t : Int) 2 = ((t % 2 : Nat) : Int) := rfl
      by_cases h3 : d % 4 = 3
      · by_cases h4 : t % 2 = 1
        · rw [show (!(d % 4 == 3 && t % 2 == 1) && v) = false by rw [h3, h4]; rfl]
          refine Ev.done fun k => ?_
          simp only [spec_sqTwo.l1]
          rw [tm, e1, e2, if_neg (by omega), if_neg (by omega), if_pos (by omega), if_pos (by omega)]
        · rw [show (!(d % 4 == 3 && t % 2 == 1) && v) = v by rw [show (t % 2 == 1) = false from beq_eq_false_iff_ne.2 h4]; simp]
          refine Ev.step (fun k => ?_) h
          simp only [spec_sqTwo.l1]
          rw [tm, e1, e2, if_neg (by omega), if_neg (by omega), if_pos (by omega), if_neg (by omega), wr_succ (by omega)]
      · rw [show (!(d % 4 == 3 && t % 2 == 1) && v) = v by rw [show (d % 4 == 3) = false from beq_eq_false_iff_ne.2 h3]; simp]
        refine Ev.step (fun k => ?_) h
        simp only [spec_sqTwo.l1]
        rw [tm, e1, if_neg (by omega), if_neg (by omega), if_neg (by omega), wr_succ (by omega)]
theorem spec_sqTwo_l : ∀ (j n d : Nat), n + 1 ≤ d + j → 0 < n → n ≤ 1000000 → 2 ≤ d → d ≤ 1000001 → Above d n → Ev (fun k => spec_sqTwo.l0 k n d) (two n) := by
  intro j
  induction j with
  | zero =>
    intro n d hj h0 hn h2 hd ha
    exact spec_sqTwo_end n d h0 (by have := Nat.mul_le_mul_right d h2; omega) (by omega) ha
  | succ j ih =>
    intro n d hj h0 hn h2 hd ha
    by_cases hlt : n < d * d
    · exact spec_sqTwo_end n d h0 hlt (by omega) ha
    · have hdn : d ≤ n := by have := Nat.mul_le_mul_right d h2; omega
      have hin : ∀ {v : Bool}, Ev (fun k => spec_sqTwo.l1 k n d 0) v → Ev (fun k => spec_sqTwo.l0 k n d) v := fun h => by
        refine Ev.step (fun k => ?_) h
        simp only [spec_sqTwo.l0]
        rw [wr_mul (sq_lt (by omega) (by omega)), if_pos (by omega)]
      by_cases hdv : d ∣ n
      · obtain ⟨hn2, hlf⟩ := ha.lf h2 h0 hdv
        have hfacs := facs_cons hn2
        rw [hlf] at hfacs
        have hrs0 := rs_pos h2 h0
        have hrslt := rs_lt h2 h0 hdv
        have h1 := ih (rs d n) (d + 1) (by omega) hrs0 (by omega) (by omega) (by omega) (ha.rs h2 h0)
        have h2' := spec_sqTwo_l1 d h2 (by omega) n 0 h0 hn (by omega) h1
        rw [Nat.zero_add] at h2'
        have : two n = (!(d % 4 == 3 && vl d n % 2 == 1) && two (rs d n)) := by unfold two twoL; rw [hfacs, List.all_cons]
        rw [this]
        exact hin h2'
      · have h1 := ih n (d + 1) (by omega) h0 hn (by omega) (by omega) (ha.succ hdv)
        have h2' := spec_sqTwo_l1 d h2 (by omega) n 0 h0 hn (by omega) (v := two n) (by rw [rs_of_not_dvd h2 h0 hdv]; exact h1)
        rw [vl_zero h2 h0 hdv] at h2'
        have : (!(d % 4 == 3 && (0 + 0) % 2 == 1) && two n) = two n := by simp
        rw [this] at h2'
        exact hin h2'
theorem spec_sqTwo_ev (n : Nat) (h0 : 0 < n) (hn : n ≤ 1000000) : Ev (fun k => spec_sqTwo.f k n) (two n) :=
  spec_sqTwo_l n n 2 (by omega) h0 hn (Nat.le_refl _) (by omega) (Above.two n)
theorem impl_isSumOfTwo_1_eq (p e : Nat) : impl_isSumOfTwo_1.f [(p : Int), (e : Int)] = some (p % 4 == 3 && e % 2 == 1) := by
  have e1 : Int.tmod (p : Int) 4 = ((p % 4 : Nat) : Int) := rfl
  have e2 : Int.tmod (e : Int) 2 = ((e % 2 : Nat) : Int) := rfl
  have h1 : rd [(p : Int), (e : Int)] 0 = p := rfl
  have h2 : rd [(p : Int), (e : Int)] 1 = e := rfl
  unfold impl_isSumOfTwo_1.f
  rw [if_pos (by simp), h1, h2, e1, e2]
  by_cases h : p % 4 = 3
  · rw [if_pos (by omega), if_pos (by simp), show (p % 4 == 3) = true from beq_iff_eq.2 h, Bool.true_and]
    congr 1
    rw [Bool.eq_iff_iff, beq_iff_eq, beq_iff_eq]; omega
  · rw [if_neg (by omega), show (p % 4 == 3) = false from beq_eq_false_iff_ne.2 h, Bool.false_and]
theorem impl_isSumOfTwo_l : ∀ (l pre : List (Nat × Nat)), (pre ++ l).length ≤ 2000000000 → ∃ i : Int, (i ≥ 0 ↔ twoL l = false) ∧ Ev (fun k => impl_isSumOfTwo.l0 k (rowsOf (pre ++ l)) (pre.length : Int)) i
  | [], pre, hl => by
    refine ⟨-1, by simp [twoL], Ev.done fun k => ?_⟩
    simp only [impl_isSumOfTwo.l0]
    rw [if_neg (by simp [rows_len])]
  | (p, e) :: l, pre, hl => by
    have hlen : (pre ++ (p, e) :: l).length = pre.length + 1 + l.length := by simp; omega
    have hlr := rows_len (pre ++ (p, e) :: l)
    have hget : rd_L1 (rowsOf (pre ++ (p, e) :: l)) (pre.length : Int) = [(p : Int), (e : Int)] := by
      unfold rd_L1; rw [Int.toNat_natCast]; exact rows_get pre (p, e) l
    by_cases hb : (p % 4 == 3 && e % 2 == 1) = true
    · refine ⟨(pre.length : Int), ?_, Ev.done fun k => ?_⟩
      · rw [twoL_cons, hb]; simp
      · simp only [impl_isSumOfTwo.l0]
        rw [if_pos (by omega), if_pos (by omega), hget, impl_isSumOfTwo_1_eq, hb]
        rfl
    · obtain ⟨i, hi, hev⟩ := impl_isSumOfTwo_l l (pre ++ [(p, e)]) (by simpa using hl)
      rw [List.append_assoc] at hev
      simp only [List.singleton_append, List.length_append, List.length_singleton] at hev
      refine ⟨i, ?_, Ev.step (fun k => ?_) hev⟩
      · rw [hi, twoL_cons, Bool.eq_false_iff.2 hb]; simp
      · simp only [impl_isSumOfTwo.l0]
        rw [if_pos (by omega), if_pos (by omega), hget, impl_isSumOfTwo_1_eq, Bool.eq_false_iff.2 hb, wr_succ (by omega)]
        rfl
theorem impl_isSumOfTwo_ev (n : Nat) (hn : n ≤ 1000000000) : Ev (fun k => impl_isSumOfTwo.f k n) (two n) := by
  have hl := facs_len n
  obtain ⟨i, hi, hev⟩ := impl_isSumOfTwo_l (facs n) [] (by simpa using (by omega : (facs n).length ≤ 2000000000))
  unfold impl_isSumOfTwo.f
  refine (impl_factors_ev n hn).bind (hev.bind ?_)
  have : (!decide (i ≥ 0)) = two n := by
    unfold two
    cases ht : twoL (facs n) with
    | true => rw [ht] at hi; simp at hi; simp; omega
    | false => rw [ht] at hi; simp at hi; simp; omega
  rw [this]
  exact Ev.now _
/-- The numbers 1, .., n. -/
def ups (n : Nat) : List Int := (List.range n).map fun i => ((i + 1 : Nat) : Int)
theorem ups_len (n : Nat) : (ups n).length = n := by simp [ups]
theorem ups_succ (n : Nat) : ups (n + 1) = ups n ++ [((n + 1 : Nat) : Int)] := by simp [ups, List.range_succ]
theorem impl_upTo_l (n : Nat) (hn : n ≤ 1000000) : ∀ (j i : Nat), n ≤ i + j → i ≤ n → Ev (fun k => impl_upTo.l0 k n 1 (ups i) ((i + 1 : Nat) : Int)) (ups n) := by
  intro j
  induction j with
  | zero =>
    intro i h1 h2
    obtain rfl : i = n := by omega
    refine Ev.done fun k => ?_
    simp only [impl_upTo.l0]
    rw [if_neg (by omega)]
  | succ j ih =>
    intro i h1 h2
    by_cases h : i < n
    · refine Ev.step (fun k => ?_) (ih (i + 1) (by omega) (by omega))
      have hl := ups_len i
      simp only [impl_upTo.l0]
      rw [if_pos (by omega), if_pos (by omega), wr_succ (by omega), ups_succ]
    · obtain rfl : i = n := by omega
      refine Ev.done fun k => ?_
      simp only [impl_upTo.l0]
      rw [if_neg (by omega)]
theorem impl_upTo_ev (n : Nat) (hn : n ≤ 1000000) : Ev (fun k => impl_upTo.f k 1 n 1) (ups n) :=
  impl_upTo_l n hn n 0 (by omega) (by omega)
/-- What is kept of 1, .., n. -/
def kept (p : Nat → Bool) : Nat → List Int
  | 0 => []
  | n + 1 => if p (n + 1) = true then kept p n else kept p n ++ [((n + 1 : Nat) : Int)]
theorem kept_len (p : Nat → Bool) : ∀ n, (kept p n).length ≤ n
  | 0 => by simp [kept]
  | n + 1 => by
    have := kept_len p n
    simp only [kept]; split
    · omega
    · simp; omega
theorem delKeep_app {q : Int → Option Bool} : ∀ (l : List Int) (x : Int), delKeep q (l ++ [x]) = (delKeep q l).bind fun r => (q x).bind fun b => some (if b = true then r else r ++ [x])
  | [], x => by
    simp only [List.nil_append, delKeep, Option.bind_some]
  | y :: l, x => by
    simp only [List.cons_append, delKeep, delKeep_app l x]
    cases q y with
    | none => rfl
    | some b =>
      simp only [Option.bind_some]
      cases delKeep q l with
      | none => rfl
      | some r =>
        simp only [Option.bind_some]
        cases q x with
        | none => rfl
        | some c =>
          simp only [Option.bind_some]
          cases b <;> cases c <;> rfl
theorem delKeep_ups {q : Nat → Int → Option Bool} {p : Nat → Bool} : ∀ (n : Nat), (∀ m, 0 < m → m ≤ n → Ev (fun k => q k (m : Int)) (p m)) → Ev (fun k => delKeep (q k) (ups n)) (kept p n)
  | 0, _ => Ev.const fun k => rfl
  | n + 1, h => by
    have ih := delKeep_ups n (fun m h1 h2 => h m h1 (by omega))
    refine Ev.congr (f := fun k => (delKeep (q k) (ups n)).bind fun r => (q k ((n + 1 : Nat) : Int)).bind fun b => some (if b = true then r else r ++ [((n + 1 : Nat) : Int)])) (fun k => by rw [ups_succ, delKeep_app]) (ih.bind ((h (n + 1) (by omega) (by omega)).bind ?_))
    exact Ev.now _
def notTwo (n : Nat) : Bool := !two n
theorem spec_SumsOfTwoUpTo_l (n : Nat) (hn : n ≤ 600) : ∀ (j i : Nat), n ≤ i + j → i ≤ n → Ev (fun k => spec_SumsOfTwoUpTo.l0 k n (kept notTwo i) ((i + 1 : Nat) : Int)) (kept notTwo n, true) := by
  have hend : Ev (fun k => spec_SumsOfTwoUpTo.l0 k n (kept notTwo n) ((n + 1 : Nat) : Int)) (kept notTwo n, true) := by
    refine Ev.done fun k => ?_
    simp only [spec_SumsOfTwoUpTo.l0]
    rw [if_neg (by omega)]
  intro j
  induction j with
  | zero =>
    intro i h1 h2
    obtain rfl : i = n := by omega
    exact hend
  | succ j ih =>
    intro i h1 h2
    by_cases h : i < n
    · have hih := ih (i + 1) (by omega) (by omega)
      have hl := kept_len notTwo i
      have e2 : wrap64 (((i + 1 : Nat) : Int) + 1) = ((i + 1 + 1 : Nat) : Int) := wr_succ (by omega)
      refine Ev.step (f := fun k => (spec_sqTwo.f k ((i + 1 : Nat) : Int)).bind fun t => if t = true then spec_SumsOfTwoUpTo.l0 k n (kept notTwo i ++ [((i + 1 : Nat) : Int)]) ((i + 1 + 1 : Nat) : Int) else spec_SumsOfTwoUpTo.l0 k n (kept notTwo i) ((i + 1 + 1 : Nat) : Int)) (fun k => ?_) ((spec_sqTwo_ev (i + 1) (by omega) (by omega)).bind ?_)
      · simp only [spec_SumsOfTwoUpTo.l0]
        have hlt : (kept notTwo i).length < 17592186044416 := by omega
        simp only [if_pos hlt]
        rw [if_pos (by omega), e2]
      · cases hs : two (i + 1) with
        | true =>
          simp only [kept, notTwo, hs, Bool.not_true, Bool.false_eq_true, if_false] at hih
          exact hih
        | false =>
          simp only [kept, notTwo, hs, Bool.not_false, if_true] at hih
          exact hih
    · obtain rfl : i = n := by omega
      exact hend
theorem impl_SumsOfTwoUpTo_1_ev (n : Nat) (hn : n ≤ 1000000000) : Ev (fun k => impl_SumsOfTwoUpTo_1.f k n) (notTwo n) := by
  unfold impl_SumsOfTwoUpTo_1.f
  exact (impl_isSumOfTwo_ev n hn).bind (Ev.now _)
theorem spec_SumsOfTwoUpTo_ev (n : Nat) (hn : n ≤ 600) : Ev (fun k => spec_SumsOfTwoUpTo.f k n) (kept notTwo n, true) := by
  unfold spec_SumsOfTwoUpTo.f
  rw [spec_sqMost_eq, decide_eq_true (by omega)]
  simp only [Option.bind_some, if_true]
  exact spec_SumsOfTwoUpTo_l n hn n 0 (by omega) (by omega)
theorem impl_SumsOfTwoUpTo_ev (n : Nat) (hn : n ≤ 600) : Ev (fun k => impl_SumsOfTwoUpTo.f k n) (kept notTwo n, true) := by
  unfold impl_SumsOfTwoUpTo.f
  rw [impl_isMost_eq, decide_eq_true (by omega)]
  simp only [Option.bind_some, if_true]
  exact (impl_upTo_ev n (by omega)).bind ((delKeep_ups (q := fun k x => impl_SumsOfTwoUpTo_1.f k x) n (fun m _ hm => impl_SumsOfTwoUpTo_1_ev m (by omega))).bind (Ev.now _))
theorem rd_at (l : List Int) (j : Nat) : rd l (j : Int) = l.getD j 0 := by unfold rd; rw [Int.toNat_natCast]
theorem laws_eqIntS_l (l : List Int) (hl : l.length ≤ 4000000000000000000) : ∀ (j i : Nat), l.length ≤ i + j → i ≤ l.length → Ev (fun k => laws_eqIntS.l0 k l l i) true := by
  intro j
  induction j with
  | zero =>
    intro i h1 h2
    refine Ev.done fun k => ?_
    simp only [laws_eqIntS.l0]
    rw [if_neg (by omega)]
  | succ j ih =>
    intro i h1 h2
    by_cases h : i < l.length
    · refine Ev.step (fun k => ?_) (ih (i + 1) (by omega) (by omega))
      simp only [laws_eqIntS.l0]
      rw [if_pos (by omega), if_pos (by omega), if_pos (by omega), if_pos trivial, wr_succ (by omega)]
    · refine Ev.done fun k => ?_
      simp only [laws_eqIntS.l0]
      rw [if_neg (by omega)]
theorem laws_eqIntS_self (l : List Int) (hl : l.length ≤ 4000000000000000000) : Ev (fun k => laws_eqIntS.f k l l) true := by
  unfold laws_eqIntS.f
  refine Ev.congr (fun k => if_pos rfl) (laws_eqIntS_l l hl l.length 0 (by omega) (by omega))
/-- a, a + 1, .., so many. -/
def seqI (a : Int) : Nat → List Int
  | 0 => []
  | n + 1 => a :: seqI (a + 1) n
theorem seqI_len : ∀ (n : Nat) (a : Int), (seqI a n).length = n
  | 0, _ => rfl
  | n + 1, a => by simp [seqI, seqI_len n]
theorem seqI_get : ∀ (n : Nat) (a : Int) (j : Nat), j < n → (seqI a n).getD j 0 = a + j
  | 0, _, _, h => by omega
  | n + 1, a, 0, _ => by simp [seqI]
  | n + 1, a, j + 1, h => by
    have := seqI_get n (a + 1) j (by omega)
    simp only [seqI, List.getD_cons_succ]
    rw [this]; omega
theorem laws_markIntS_l : ∀ (l pre : List Int) (a : Int), (pre ++ l).length ≤ 1000000000000000000 → 0 ≤ a → a ≤ 1000000000000000000 + pre.length → Ev (fun k => laws_markIntS.l0 k (pre ++ l) a (pre.length : Int)) (a + l.length, pre ++ seqI a l.length)
  | [], pre, a, hl, h0, ha => by
    refine Ev.done fun k => ?_
    simp only [laws_markIntS.l0]
    rw [if_neg (by simp)]
    simp [seqI]
  | x :: l, pre, a, hl, h0, ha => by
    have hlen : (pre ++ x :: l).length = pre.length + 1 + l.length := by simp; omega
    have ih := laws_markIntS_l l (pre ++ [a]) (a + 1) (by simp at hl ⊢; omega) (by omega) (by simp; omega)
    have hset : (pre ++ x :: l).set pre.length a = pre ++ a :: l := by simp
    refine Ev.step (f := fun k => laws_markIntS.l0 k (pre ++ [a] ++ l) (a + 1) ((pre ++ [a]).length : Int)) (fun k => ?_) ?_
    · simp only [laws_markIntS.l0]
      rw [if_pos (by omega), if_pos (by omega), Int.toNat_natCast, hset, wri (by omega) (by omega), wr_succ (by omega)]
      simp
    · have e : (a + ((x :: l).length : Int), pre ++ seqI a (x :: l).length) = (a + 1 + (l.length : Int), pre ++ [a] ++ seqI (a + 1) l.length) := by
        simp [seqI]; omega
      rw [e]; exact ih
theorem laws_markIntS_ev (l : List Int) (a : Int) (hl : l.length ≤ 1000000000000000000) (h0 : 0 ≤ a) (h1 : a ≤ 1000000000000000000) : Ev (fun k => laws_markIntS.f k l a) (a + l.length, seqI a l.length) := by
  have := laws_markIntS_l l [] a (by simpa using hl) h0 (by simpa using h1)
  exact this
theorem laws_heldIntS_l (n : Nat) (a : Int) (hn : n ≤ 1000000000000000000) (h0 : 0 ≤ a) (h1 : a ≤ 1000000000000000000) : ∀ (j i : Nat), n ≤ i + j → i ≤ n → Ev (fun k => laws_heldIntS.l0 k (seqI a n) (a + i) i) (a + n) := by
  have hl := seqI_len n a
  intro j
  induction j with
  | zero =>
    intro i h2 h3
    obtain rfl : i = n := by omega
    refine Ev.done fun k => ?_
    simp only [laws_heldIntS.l0]
    rw [if_neg (by omega)]
  | succ j ih =>
    intro i h2 h3
    by_cases h : i < n
    · refine Ev.step (fun k => ?_) (ih (i + 1) (by omega) (by omega))
      have hg : rd (seqI a n) (i : Int) = a + i := by unfold rd; rw [Int.toNat_natCast]; exact seqI_get n a i h
      simp only [laws_heldIntS.l0]
      rw [if_pos (by omega), if_pos (by omega), if_pos hg, wri (by omega) (by omega), wr_succ (by omega)]
      rw [show a + (i : Int) + 1 = a + ((i + 1 : Nat) : Int) by omega]
    · obtain rfl : i = n := by omega
      refine Ev.done fun k => ?_
      simp only [laws_heldIntS.l0]
      rw [if_neg (by omega)]
theorem laws_heldIntS_ev (n : Nat) (a : Int) (hn : n ≤ 1000000000000000000) (h0 : 0 ≤ a) (h1 : a ≤ 1000000000000000000) : Ev (fun k => laws_heldIntS.f k (seqI a n) a) (a + n) := by
  have := laws_heldIntS_l n a hn h0 h1 n 0 (by omega) (by omega)
  unfold laws_heldIntS.f
  simpa using this
/-- The law over a list of ints that both sides come to. -/
theorem law_tail (a : Int) (r : List Int) (b : Bool) (hr : r.length ≤ 1000000000) (h1 : Ev (fun k => spec_SumsOfTwoUpTo.f k a) (r, b)) (h2 : Ev (fun k => impl_SumsOfTwoUpTo.f k a) (r, b)) : Ev (fun k => laws_FnExactSumsOfTwoUpTo.f k a) true := by
  have heq := laws_eqIntS_self r (by omega)
  have hmark := laws_markIntS_ev r 1 (by omega) (by omega) (by omega)
  have hheld := laws_heldIntS_ev r.length 1 (by omega) (by omega) (by omega)
  have hne : ¬ (1 + (r.length : Int) < 0) := by omega
  have hj1 : Ev (fun k => laws_FnExactSumsOfTwoUpTo.j1 k (seqI 1 r.length) (1 + (r.length : Int)) false) true := by
    refine Ev.step (f := fun k => (laws_heldIntS.f k (seqI 1 r.length) 1).bind fun t => if t < 0 then some false else (if t = 1 + (r.length : Int) then some true else some false)) (fun k => by simp only [laws_FnExactSumsOfTwoUpTo.j1]; rfl) (hheld.bind ?_)
    simp only [if_neg hne, if_true]
    exact Ev.now _
  have hj0 : Ev (fun k => laws_FnExactSumsOfTwoUpTo.j0 k a r b r false) true := by
    refine Ev.step (f := fun k => (laws_markIntS.f k r 1).bind fun bt => ((laws_heldIntS.f k bt.2 1).bind fun t => (if t < 0 then (some false) else (if t = bt.1 then ((impl_SumsOfTwoUpTo.f k a).bind fun bt2 => ((laws_eqIntS.f k bt2.1 r).bind fun t2 => (if t2 = true then (laws_FnExactSumsOfTwoUpTo.j1 k bt.2 bt.1 (bt2.2 != b)) else (laws_FnExactSumsOfTwoUpTo.j1 k bt.2 bt.1 true)))) else (some false))))) (fun k => by simp only [laws_FnExactSumsOfTwoUpTo.j0]; rfl) (hmark.bind (hheld.bind ?_))
    simp only [if_neg hne, if_true]
    refine h2.bind (heq.bind ?_)
    simp only [bne_self_eq_false, if_true]
    exact hj1
  unfold laws_FnExactSumsOfTwoUpTo.f
  refine h1.bind (h2.bind (heq.bind ?_))
  simp only [bne_self_eq_false, if_true]
  exact hj0
theorem FnExactSumsOfTwoUpTo : laws_FnExactSumsOfTwoUpTo.Pure := by
  intro a _
  apply Ev.rounds
  by_cases h : 0 ≤ a ∧ a ≤ 600
  · obtain ⟨n, rfl⟩ := Int.eq_ofNat_of_zero_le (show 0 ≤ a by omega)
    exact law_tail n _ true (by have := kept_len notTwo n; omega) (spec_SumsOfTwoUpTo_ev n (by omega)) (impl_SumsOfTwoUpTo_ev n (by omega))
  · refine law_tail a [] false (by simp) (Ev.const fun k => ?_) (Ev.const fun k => ?_)
    · unfold spec_SumsOfTwoUpTo.f
      rw [spec_sqMost_eq, decide_eq_false h]
      rfl
    · unfold impl_SumsOfTwoUpTo.f
      rw [impl_isMost_eq, decide_eq_false h]
      rfl
end Go.Proofs.Ytagnkhoonfbbdaa.Pure
