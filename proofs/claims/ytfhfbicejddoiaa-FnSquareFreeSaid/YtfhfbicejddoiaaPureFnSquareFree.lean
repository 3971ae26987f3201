/- FnSquareFree answers as the reference does, for every argument. -/
import Derived.Test.YtfhfbicejddoiaaPFnSquareFreex7
import Derived.Test.YtfhfbicejddoiaaNtC
import Derived.Test.YtfhfbicejddoiaaNtG
import Derived.Test.YtfhfbicejddoiaaNtS
namespace Go.Proofs.Ytfhfbicejddoiaa.Pure
set_option linter.unusedVariables false
open Go Go.RowKit Go.Proofs.Ytfhfbicejddoiaa.PFnSquareFree Go.Proofs.YtfhfbicejddoiaaW.PrintWords Go.Proofs.YtfhfbicejddoiaaW.PrintLast Go.Proofs.Ytfhfbicejddoiaa.Nt
theorem Ev.done {α : Type} {g : Nat → Option α} {r : α} (h : ∀ k, g (k + 1) = some r) : Ev g r := Ev.step (f := fun _ => some r) h (Ev.now r)
theorem Ev.const {α : Type} {g : Nat → Option α} {r : α} (h : ∀ k, g k = some r) : Ev g r := Ev.congr (f := fun _ => some r) h (Ev.now r)
theorem wr {a : Nat} (h : a < 9223372036854775808) : wrap64 (a : Int) = a := by unfold wrap64; omega
theorem wri {a : Int} (h0 : -9223372036854775808 ≤ a) (h : a < 9223372036854775808) : wrap64 a = a := by unfold wrap64; omega
theorem wr_mul {a b : Nat} (h : a * b < 9223372036854775808) : wrap64 ((a : Int) * b) = ((a * b : Nat) : Int) := by rw [← Int.natCast_mul]; exact wr h
theorem wr_succ {a : Nat} (h : a < 9223372036854775807) : wrap64 ((a : Int) + 1) = ((a + 1 : Nat) : Int) := wr (a := a + 1) (by omega)
theorem wr_tdiv {a b : Nat} (h : a < 9223372036854775808) : wrap64 (Int.tdiv (a : Int) b) = ((a / b : Nat) : Int) := wr (a := a / b) (Nat.lt_of_le_of_lt (Nat.div_le_self a b) h)
theorem tm (a b : Nat) : Int.tmod (a : Int) b = ((a % b : Nat) : Int) := rfl
theorem sq_lt {a b : Nat} (h : a ≤ 3037000499) (k : b ≤ 3037000499) : a * b < 9223372036854775808 := Nat.lt_of_le_of_lt (Nat.mul_le_mul h k) (by decide)
theorem spec_l1In_eq (a b c : Int) : spec_l1In.f a b c = some (decide (b ≤ a ∧ a ≤ c)) := by
  unfold spec_l1In.f
  by_cases h : a ≥ b
  · rw [if_pos h, decide_eq_decide.2 (show a ≤ c ↔ b ≤ a ∧ a ≤ c from ⟨fun k => ⟨h, k⟩, fun k => k.2⟩)]
  · rw [if_neg h, decide_eq_false (fun k => h k.1)]
theorem spec_sqGood_eq (a : Int) : spec_sqGood.f a = some (decide (1 ≤ a ∧ a ≤ 100000)) := by
  unfold spec_sqGood.f; rw [spec_l1In_eq]; rfl
theorem impl_isAsked_eq (a : Int) : impl_isAsked.f a = some (decide (1 ≤ a ∧ a ≤ 100000)) := by
  unfold impl_isAsked.f
  by_cases h : a ≥ 1
  · rw [if_pos h, decide_eq_decide.2 (show a ≤ 100000 ↔ 1 ≤ a ∧ a ≤ 100000 from ⟨fun k => ⟨h, k⟩, fun k => k.2⟩)]
  · rw [if_neg h, decide_eq_false (fun k => h k.1)]
theorem facs_len : ∀ (n : Nat), (facs n).length ≤ n := by
  intro n
  induction n using Nat.strongRecOn with
  | _ n ih =>
    by_cases h : n < 2
    · rw [facs_small h]; simp
    · have hn : 2 ≤ n := by omega
      have := rs_lt (lf_two_le hn) (by omega) (lf_dvd hn)
      have := ih _ this
      rw [facs_cons hn, List.length_cons]; omega
/-- A list of primes and exponents as the program's rows. -/
def rowsOf (l : List (Nat × Nat)) : List (List Int) := l.map fun f => [(f.1 : Int), (f.2 : Int)]
theorem getD_mid {α : Type} (pre : List α) (x : α) (l : List α) (d : α) : (pre ++ x :: l).getD pre.length d = x := by simp
theorem rows_get (pre : List (Nat × Nat)) (x : Nat × Nat) (l : List (Nat × Nat)) : (rowsOf (pre ++ x :: l)).getD pre.length [] = [(x.1 : Int), (x.2 : Int)] := by
  simp [rowsOf]
theorem rows_len (l : List (Nat × Nat)) : (rowsOf l).length = l.length := by simp [rowsOf]
theorem impl_leastFactor_l (n : Nat) (h2 : 2 ≤ n) (hn : n ≤ 2000000000) : ∀ (j d : Nat), n + 1 ≤ d + j → 2 ≤ d → d ≤ n + 1 → Above d n → Ev (fun k => impl_leastFactor.l0 k n d) (lf n : Int) := by
  have hend : ∀ d : Nat, d ≤ n + 1 → n < d * d → Above d n → Ev (fun k => impl_leastFactor.l0 k n d) (lf n : Int) := by
    intro d hd hlt ha
    rw [lf_eq h2 (isLf_self h2 hlt (fun m hm hmd hmn => by have := ha m hm hmn; omega))]
    refine Ev.done fun k => ?_
    simp only [impl_leastFactor.l0]
    rw [wr_mul (sq_lt (by omega) (by omega)), if_neg (by omega)]
  intro j
  induction j with
  | zero =>
    intro d hj hd2 hd ha
    exact hend d hd (by have := Nat.mul_le_mul_right d hd2; omega) ha
  | succ j ih =>
    intro d hj hd2 hd ha
    by_cases hlt : n < d * d
    · exact hend d hd hlt ha
    · have hdn : d ≤ n := by have := Nat.mul_le_mul_right d hd2; omega
      by_cases hm : n % d = 0
      · rw [(ha.lf hd2 (by omega) (Nat.dvd_of_mod_eq_zero hm)).2]
        refine Ev.done fun k => ?_
        simp only [impl_leastFactor.l0]
        rw [wr_mul (sq_lt (by omega) (by omega)), tm, if_pos (by omega), if_neg (by omega), if_pos (by omega)]
      · refine Ev.step (fun k => ?_) (ih (d + 1) (by omega) (by omega) (by omega) (ha.succ (fun h => hm (Nat.mod_eq_zero_of_dvd h))))
        simp only [impl_leastFactor.l0]
        rw [wr_mul (sq_lt (by omega) (by omega)), tm, if_pos (by omega), if_neg (by omega), if_neg (by omega), wr_succ (by omega)]
theorem impl_leastFactor_ev (n : Nat) (h2 : 2 ≤ n) (hn : n ≤ 2000000000) : Ev (fun k => impl_leastFactor.f k n) (lf n : Int) :=
  impl_leastFactor_l n h2 hn n 2 (by omega) (Nat.le_refl _) (by omega) (Above.two n)
theorem impl_factors_l1 (p : Nat) (hp : 2 ≤ p) : ∀ (n : Nat) (acc : List (List Int)) (e : Nat) {v : List (List Int)}, 0 < n → n ≤ 2000000000 → e + n ≤ 4000000000 → p ≤ 2000000000 → acc.length + 1 ≤ 3000000000 →
    Ev (fun k => impl_factors.l0 k (rs p n) (acc ++ [[(p : Int), ((e + vl p n : Nat) : Int)]])) v → Ev (fun k => impl_factors.l1 k n acc p e) v := by
  intro n
  induction n using Nat.strongRecOn with
  | _ n ih =>
    intro acc e v h0 hn he hpb hl h
    by_cases hd : p ∣ n
    · obtain ⟨c, rfl⟩ := hd
      have hc0 : 0 < c := by
        rcases Nat.eq_zero_or_pos c with h | h
        · subst h; simp at h0
        · exact h
      have hlt : c < p * c := by have := Nat.mul_le_mul_right c hp; omega
      rw [rs_mul_self hp hc0, vl_mul_self hp hc0] at h
      refine Ev.step (fun k => ?_) (ih c hlt acc (e + 1) (v := v) hc0 (by omega) (by omega) hpb hl (by rw [show e + 1 + vl p c = e + (vl p c + 1) by omega]; exact h))
      simp only [impl_factors.l1]
      rw [tm, if_neg (by omega), if_pos (by simp), wr_tdiv (by omega), wr_succ (by omega), Nat.mul_div_cancel_left c (by omega)]
    · rw [rs_of_not_dvd hp h0 hd, vl_zero hp h0 hd] at h
      refine Ev.step (fun k => ?_) h
      simp only [impl_factors.l1]
      have : n % p ≠ 0 := fun hm => hd (Nat.dvd_of_mod_eq_zero hm)
      rw [tm, if_neg (by omega), if_neg (by omega), if_pos (by omega), Nat.add_zero]
theorem impl_factors_l0 : ∀ (n : Nat) (acc : List (List Int)), n ≤ 1000000000 → acc.length + n ≤ 2000000000 → Ev (fun k => impl_factors.l0 k n acc) (acc ++ rowsOf (facs n)) := by
  intro n
  induction n using Nat.strongRecOn with
  | _ n ih =>
    intro acc hn hl
    by_cases h : n < 2
    · rw [facs_small h]
      refine Ev.done fun k => ?_
      simp only [impl_factors.l0]
      rw [if_neg (by omega)]
      simp [rowsOf]
    · have h2 : 2 ≤ n := by omega
      have hp := lf_two_le h2
      have hple := lf_le h2
      have hlt := rs_lt hp (by omega) (lf_dvd h2)
      have key : Ev (fun k => impl_factors.l1 k n acc (lf n) 0) (acc ++ rowsOf (facs n)) := by
        have := ih _ hlt (acc ++ [[(lf n : Int), ((0 + vl (lf n) n : Nat) : Int)]]) (by omega) (by rw [List.length_append, List.length_singleton]; omega)
        refine impl_factors_l1 (lf n) hp n acc 0 (by omega) (by omega) (by omega) (by omega) (by omega) ?_
        rw [facs_cons h2]
        rw [List.append_assoc] at this
        simpa [rowsOf] using this
      refine Ev.step (f := fun k => (impl_leastFactor.f k n).bind fun t => impl_factors.l1 k n acc t 0) (fun k => ?_) ((impl_leastFactor_ev n h2 (by omega)).bind key)
      simp only [impl_factors.l0]
      rw [if_pos (by omega)]
theorem impl_factors_ev (n : Nat) (hn : n ≤ 1000000000) : Ev (fun k => impl_factors.f k n) (rowsOf (facs n)) := by
  have := impl_factors_l0 n [] hn (by simp; omega)
  exact this
theorem impl_isMost_eq (a : Int) : impl_isMost.f a = some (decide (0 ≤ a ∧ a ≤ 600)) := by
  unfold impl_isMost.f
  by_cases h : a ≥ 0
  · rw [if_pos h, decide_eq_decide.2 (show a ≤ 600 ↔ 0 ≤ a ∧ a ≤ 600 from ⟨fun k => ⟨h, k⟩, fun k => k.2⟩)]
  · rw [if_neg h, decide_eq_false (fun k => h k.1)]
theorem spec_sqMost_eq (a : Int) : spec_sqMost.f a = some (decide (0 ≤ a ∧ a ≤ 600)) := by
  unfold spec_sqMost.f; rw [spec_l1In_eq]; rfl
theorem impl_signOf_l : ∀ (l pre : List (Nat × Nat)) (s : Int), s = 1 ∨ s = -1 → (pre ++ l).length ≤ 2000000000 → Ev (fun k => impl_signOf.l0 k s (rowsOf (pre ++ l)) ((pre ++ l).length : Int) (pre.length : Int)) (s * sgnL l)
  | [], pre, s, hs, hl => by
    refine Ev.done fun k => ?_
    simp only [impl_signOf.l0]
    rw [if_neg (by simp)]
    simp [sgnL]
  | (p, e) :: l, pre, s, hs, hl => by
    have hlen : (pre ++ (p, e) :: l).length = pre.length + 1 + l.length := by simp; omega
    have hlr := rows_len (pre ++ (p, e) :: l)
    have hget : rd_L2 (rowsOf (pre ++ (p, e) :: l)) (pre.length : Int) = [(p : Int), (e : Int)] := by
      unfold rd_L2; rw [Int.toNat_natCast]; exact rows_get pre (p, e) l
    by_cases he : 1 < e
    · refine Ev.done fun k => ?_
      simp only [impl_signOf.l0]
      rw [if_pos (by omega), if_pos (by omega), if_pos (by omega), hget, if_pos (by simp), if_pos (by simp [rd]; omega)]
      simp [sgnL, he]
    · have ih := impl_signOf_l l (pre ++ [(p, e)]) (-s) (by omega) (by simpa using hl)
      rw [List.append_assoc] at ih
      simp only [List.singleton_append, List.length_append, List.length_singleton] at ih
      have e1 : s * sgnL ((p, e) :: l) = -s * sgnL l := by simp only [sgnL]; rw [if_neg he, Int.mul_neg, Int.neg_mul]
      rw [e1]
      refine Ev.step (fun k => ?_) ih
      simp only [impl_signOf.l0]
      rw [if_pos (by omega), if_pos (by omega), if_pos (by omega), hget, if_pos (by simp), if_neg (by simp [rd]; omega), wri (by omega) (by omega), wr_succ (by omega), List.length_append]
theorem impl_signOf_ev (n : Nat) (hn : n ≤ 1000000000) : Ev (fun k => impl_signOf.f k n) (sgn n) := by
  have hl := facs_len n
  have h := impl_signOf_l (facs n) [] 1 (Or.inl rfl) (by simpa using (by omega : (facs n).length ≤ 2000000000))
  rw [Int.one_mul] at h
  refine (impl_factors_ev n hn).bind ?_
  rw [rows_len]
  exact h
theorem spec_sqPart_end (n p d : Nat) (h : n < d * d) (hd : d ≤ 3037000499) : Ev (fun k => spec_sqPart.l0 k n p d) (p : Int) := by
  refine Ev.done fun k => ?_
  simp only [spec_sqPart.l0]
  rw [wr_mul (sq_lt hd hd), if_neg (by omega)]
theorem spec_sqPart_div (n p d : Nat) {v : Int} (h2 : 2 ≤ d) (hd : d ≤ 1000002) (hm : n % (d * d) = 0) (hn : n ≤ 1000000) (hp : p ≤ 1000000) (h : Ev (fun k => spec_sqPart.l1 k ((n / (d * d) : Nat) : Int) ((p * d : Nat) : Int) d) v) : Ev (fun k => spec_sqPart.l1 k n p d) v := by
  refine Ev.step (fun k => ?_) h
  have h0 : 0 < d * d := Nat.mul_pos (by omega) (by omega)
  simp only [spec_sqPart.l1]
  rw [wr_mul (sq_lt (by omega) (by omega)), tm, if_neg (by omega), if_pos (by omega), wr_tdiv (by omega), wr_mul (sq_lt (by omega) (by omega))]
theorem spec_sqPart_next (n p d : Nat) {v : Int} (h2 : 2 ≤ d) (hd : d ≤ 1000002) (hm : n % (d * d) ≠ 0) (h : Ev (fun k => spec_sqPart.l0 k n p ((d + 1 : Nat) : Int)) v) : Ev (fun k => spec_sqPart.l1 k n p d) v := by
  refine Ev.step (fun k => ?_) h
  have h0 : 0 < d * d := Nat.mul_pos (by omega) (by omega)
  simp only [spec_sqPart.l1]
  rw [wr_mul (sq_lt (by omega) (by omega)), tm, if_neg (by omega), if_neg (by omega), wr_succ (by omega)]
theorem spec_sqPart_in (n p d : Nat) {v : Int} (h : d * d ≤ n) (hd : d ≤ 1000002) (k : Ev (fun k => spec_sqPart.l1 k n p d) v) : Ev (fun k => spec_sqPart.l0 k n p d) v := by
  refine Ev.step (fun k => ?_) k
  simp only [spec_sqPart.l0]
  rw [wr_mul (sq_lt (by omega) (by omega)), if_pos (by omega)]
theorem spec_sqPart_l (n : Nat) : ∀ (j d p r : Nat), n + 1 ≤ d + j → 0 < n → n ≤ 1000000 → 2 ≤ d → d ≤ 1000001 → p * r ≤ 1000000 → IsSqp n r → (∀ c, 2 ≤ c → c < d → ¬ c * c ∣ n) → Ev (fun k => spec_sqPart.l0 k n p d) ((p * r : Nat) : Int) ∧ Ev (fun k => spec_sqPart.l1 k n p d) ((p * r : Nat) : Int) := by
  induction n using Nat.strongRecOn with
  | _ n ih =>
    have hend : ∀ (d p r : Nat), 0 < n → d ≤ 1000002 → n < d * d → IsSqp n r → (∀ c, 2 ≤ c → c < d → ¬ c * c ∣ n) → Ev (fun k => spec_sqPart.l0 k n p d) ((p * r : Nat) : Int) := by
      intro d p r h0 hd hlt hr hc
      rw [hr.unique (IsSqp.one h0 hlt hc), Nat.mul_one]
      exact spec_sqPart_end n p d hlt (by omega)
    intro j
    induction j with
    | zero =>
      intro d p r hj h0 hn h2 hd hpr hr hc
      have hlt : n < d * d := by have := Nat.mul_le_mul_right d h2; omega
      have hlt2 : n < (d + 1) * (d + 1) := by have := Nat.mul_le_mul (show d ≤ d + 1 by omega) (show d ≤ d + 1 by omega); omega
      have hnd : ¬ d * d ∣ n := fun h => by have := Nat.le_of_dvd h0 h; omega
      refine ⟨hend d p r h0 (by omega) hlt hr hc, spec_sqPart_next n p d h2 (by omega) (fun h => hnd (Nat.dvd_of_mod_eq_zero h)) (hend (d + 1) p r h0 (by omega) hlt2 hr fun c hc2 hcd => ?_)⟩
      by_cases he : c = d
      · rw [he]; exact hnd
      · exact hc c hc2 (by omega)
    | succ j ihj =>
      intro d p r hj h0 hn h2 hd hpr hr hc
      have key : Ev (fun k => spec_sqPart.l1 k n p d) ((p * r : Nat) : Int) := by
        by_cases hdv : d * d ∣ n
        · obtain ⟨c, rfl⟩ := hdv
          have hdd : 2 * 2 ≤ d * d := Nat.mul_le_mul h2 h2
          have hc0 : 0 < c := by
            rcases Nat.eq_zero_or_pos c with h | h
            · subst h; simp at h0
            · exact h
          have hlt : c < d * d * c := by have := Nat.mul_le_mul_right c hdd; omega
          obtain ⟨s, hs⟩ := exists_sqp c hc0
          have hrs : r = d * s := hr.unique (hs.mul (by omega))
          have hs0 : 0 < s := by
            rcases Nat.eq_zero_or_pos s with h | h
            · subst h; have := hs.1; simp at this; omega
            · exact h
          have hp1 : p * d ≤ 1000000 := by
            have h1 : p * d * 1 ≤ p * d * s := Nat.mul_le_mul_left _ hs0
            rw [hrs, ← Nat.mul_assoc] at hpr
            omega
          have hpl : p ≤ 1000000 := by
            have : p * 1 ≤ p * d := Nat.mul_le_mul_left p (by omega)
            omega
          refine spec_sqPart_div _ p d h2 (by omega) (Nat.mul_mod_right _ _) hn hpl ?_
          rw [Nat.mul_div_cancel_left c (by omega), hrs, ← Nat.mul_assoc]
          exact (ih c hlt (c + 1) d (p * d) s (by omega) hc0 (by omega) h2 hd (by rw [hrs, ← Nat.mul_assoc] at hpr; exact hpr) hs (fun m hm hmd hmc => hc m hm hmd (Nat.dvd_mul_left_of_dvd hmc _))).2
        · have hc' : ∀ c, 2 ≤ c → c < d + 1 → ¬ c * c ∣ n := fun c hc2 hcd => by
            by_cases he : c = d
            · rw [he]; exact hdv
            · exact hc c hc2 (by omega)
          refine spec_sqPart_next n p d h2 (by omega) (fun h => hdv (Nat.dvd_of_mod_eq_zero h)) ?_
          by_cases hdl : d ≤ 1000000
          · exact (ihj (d + 1) p r (by omega) h0 hn (by omega) (by omega) hpr hr hc').1
          · refine hend (d + 1) p r h0 (by omega) ?_ hr hc'
            have := Nat.mul_le_mul (show 2 ≤ d + 1 by omega) (show 1000000 ≤ d + 1 by omega); omega
      refine ⟨?_, key⟩
      by_cases hlt : n < d * d
      · exact hend d p r h0 (by omega) hlt hr hc
      · exact spec_sqPart_in n p d (by omega) (by omega) key
theorem spec_sqPart_ev (n r : Nat) (h0 : 0 < n) (hn : n ≤ 1000000) (hr : IsSqp n r) : Ev (fun k => spec_sqPart.f k n) (r : Int) := by
  have hrn : r ≤ 1000000 := by
    have h1 := Nat.le_of_dvd h0 hr.1
    rcases Nat.lt_or_ge r 1000001 with h | h
    · omega
    · have := Nat.mul_le_mul h h; omega
  have := (spec_sqPart_l n n 2 1 r (by omega) h0 hn (Nat.le_refl _) (by omega) (by omega) hr (fun c h1 h2 => by omega)).1
  rw [Nat.one_mul] at this
  exact this
theorem spec_IsSquareFree_ev (n r : Nat) (h0 : 0 < n) (hn : n ≤ 100000) (hr : IsSqp n r) : Ev (fun k => spec_IsSquareFree.f k n) (sqf n, true) := by
  unfold spec_IsSquareFree.f
  rw [spec_sqGood_eq, decide_eq_true (by omega)]
  simp only [Option.bind_some, if_true]
  refine (spec_sqPart_ev n r h0 (by omega) hr).bind ?_
  have h1 := hr.eq_one_iff h0
  have : ((r : Int) == 1) = sqf n := by
    rw [Bool.eq_iff_iff, beq_iff_eq, ← h1]; omega
  rw [this]
  exact Ev.now _
theorem impl_IsSquareFree_ev (n : Nat) (h0 : 0 < n) (hn : n ≤ 100000) : Ev (fun k => impl_IsSquareFree.f k n) (sqf n, true) := by
  unfold impl_IsSquareFree.f
  rw [impl_isAsked_eq, decide_eq_true (by omega)]
  simp only [Option.bind_some, if_true]
  refine (impl_signOf_ev n (by omega)).bind ?_
  have : (sgn n != 0) = sqf n := by rw [Bool.eq_iff_iff, bne_iff_ne]; exact sgn_ne n
  rw [this]
  exact Ev.now _
theorem impl_SquarePart_l (n r : Nat) (h0 : 0 < n) (hn : n ≤ 1000000) (hr : IsSqp n r) : ∀ (j d p : Nat), n + 1 ≤ d + j → 2 ≤ d → d ≤ 1000001 → p * p ∣ n → (∀ m, m < d → m * m ∣ n → m ≤ p) → Ev (fun k => impl_SquarePart.l0 k n p d) ((r : Int), true) := by
  have hend : ∀ d p : Nat, d ≤ 1000002 → n < d * d → p * p ∣ n → (∀ m, m < d → m * m ∣ n → m ≤ p) → Ev (fun k => impl_SquarePart.l0 k n p d) ((r : Int), true) := by
    intro d p hd hlt hp hm
    have : r = p := hr.unique (sqp_of_greatest h0 hp fun m hmn => hm m (by
      rcases Nat.lt_or_ge m d with h1 | h1
      · exact h1
      · have := Nat.le_of_dvd h0 hmn
        have := Nat.mul_le_mul h1 h1; omega) hmn)
    rw [this]
    refine Ev.done fun k => ?_
    simp only [impl_SquarePart.l0]
    rw [wr_mul (sq_lt (by omega) (by omega)), if_neg (by omega)]
  intro j
  induction j with
  | zero =>
    intro d p hj h2 hd hp hm
    exact hend d p (by omega) (by have := Nat.mul_le_mul_right d h2; omega) hp hm
  | succ j ih =>
    intro d p hj h2 hd hp hm
    by_cases hlt : n < d * d
    · exact hend d p (by omega) hlt hp hm
    · have hdn : d ≤ n := by have := Nat.mul_le_mul_right d h2; omega
      have hdd : 0 < d * d := Nat.mul_pos (by omega) (by omega)
      by_cases hdv : d * d ∣ n
      · refine Ev.step (fun k => ?_) (ih (d + 1) d (by omega) (by omega) (by omega) hdv (fun m hmd _ => by omega))
        have := Nat.mod_eq_zero_of_dvd hdv
        simp only [impl_SquarePart.l0]
        rw [wr_mul (sq_lt (by omega) (by omega)), tm, if_pos (by omega), if_neg (by omega), if_pos (by omega), wr_succ (by omega)]
      · have : n % (d * d) ≠ 0 := fun h => hdv (Nat.dvd_of_mod_eq_zero h)
        refine Ev.step (fun k => ?_) (ih (d + 1) p (by omega) (by omega) (by omega) hp (fun m hmd hmn => by
          by_cases he : m = d
          · exact absurd (he ▸ hmn) hdv
          · exact hm m (by omega) hmn))
        simp only [impl_SquarePart.l0]
        rw [wr_mul (sq_lt (by omega) (by omega)), tm, if_pos (by omega), if_neg (by omega), if_neg (by omega), wr_succ (by omega)]
theorem impl_SquarePart_ev (n r : Nat) (h0 : 0 < n) (hn : n ≤ 100000) (hr : IsSqp n r) : Ev (fun k => impl_SquarePart.f k n) ((r : Int), true) := by
  unfold impl_SquarePart.f
  rw [impl_isAsked_eq, decide_eq_true (by omega)]
  simp only [Option.bind_some, if_true]
  exact impl_SquarePart_l n r h0 (by omega) hr n 2 1 (by omega) (Nat.le_refl _) (by omega) (by simp) (fun m hm _ => by omega)
theorem spec_SquarePart_ev (n r : Nat) (h0 : 0 < n) (hn : n ≤ 100000) (hr : IsSqp n r) : Ev (fun k => spec_SquarePart.f k n) ((r : Int), true) := by
  unfold spec_SquarePart.f
  rw [spec_sqGood_eq, decide_eq_true (by omega)]
  simp only [Option.bind_some, if_true]
  exact (spec_sqPart_ev n r h0 (by omega) hr).bind (Ev.now _)
theorem spec_sqKernel_end (n q c d : Nat) (h0 : 0 < n) (hlt : n < d * d) (hd : d ≤ 1000002) (ha : Above d n) (hq : q * rad n ≤ 1000000) (hc : c ≤ 2000000) : Ev (fun k => spec_sqKernel.l0 k n q c d) (((q * rad n : Nat) : Int), ((c + (facs n).length : Nat) : Int)) := by
  have hend : ∀ k, spec_sqKernel.l0 (k + 1) n q c d = if (n : Int) > 1 then some (wrap64 ((q : Int) * n), wrap64 ((c : Int) + 1)) else some ((q : Int), (c : Int)) := by
    intro k
    simp only [spec_sqKernel.l0]
    rw [wr_mul (sq_lt (by omega) (by omega)), if_neg (by omega)]
  rcases ha.last h0 hlt with rfl | ⟨h2, hf⟩
  · rw [rad_one, facs_small (by decide), Nat.mul_one]
    exact Ev.done fun k => by rw [hend, if_neg (by omega)]; rfl
  · have hr : rad n = n := by unfold rad; rw [hf]; simp [radL]
    rw [hr] at hq
    rw [hr, hf]
    exact Ev.done fun k => by rw [hend, if_pos (by omega), wr_mul (by omega), wr_succ (by omega)]; rfl
theorem spec_sqKernel_l1 (d : Nat) (h2 : 2 ≤ d) (hd : d ≤ 1000000) : ∀ (n q c : Nat) {v : Int × Int}, 0 < n → n ≤ 1000000 → Ev (fun k => spec_sqKernel.l0 k (rs d n) q c ((d + 1 : Nat) : Int)) v → Ev (fun k => spec_sqKernel.l1 k n q c d) v := by
  intro n
  induction n using Nat.strongRecOn with
  | _ n ih =>
    intro q c v h0 hn h
    by_cases hdv : d ∣ n
    · obtain ⟨m, rfl⟩ := hdv
      have hm0 : 0 < m := by
        rcases Nat.eq_zero_or_pos m with h | h
        · subst h; simp at h0
        · exact h
      have hlt : m < d * m := by have := Nat.mul_le_mul_right m h2; omega
      rw [rs_mul_self h2 hm0] at h
      refine Ev.step (fun k => ?_) (ih m hlt q c hm0 (by omega) h)
      simp only [spec_sqKernel.l1]
      rw [tm, if_neg (by omega), if_pos (by simp), wr_tdiv (by omega), Nat.mul_div_cancel_left m (by omega)]
    · rw [rs_of_not_dvd h2 h0 hdv] at h
      refine Ev.step (fun k => ?_) h
      have : n % d ≠ 0 := fun hm => hdv (Nat.dvd_of_mod_eq_zero hm)
      simp only [spec_sqKernel.l1]
      rw [tm, if_neg (by omega), if_neg (by omega), wr_succ (by omega)]
theorem spec_sqKernel_l : ∀ (j n q c d : Nat), n + 1 ≤ d + j → 0 < n → n ≤ 1000000 → 2 ≤ d → d ≤ 1000001 → Above d n → q * rad n ≤ 1000000 → c + (facs n).length ≤ 1000000 → Ev (fun k => spec_sqKernel.l0 k n q c d) (((q * rad n : Nat) : Int), ((c + (facs n).length : Nat) : Int)) := by
  intro j
  induction j with
  | zero =>
    intro n q c d hj h0 hn h2 hd ha hq hc
    exact spec_sqKernel_end n q c d h0 (by have := Nat.mul_le_mul_right d h2; omega) (by omega) ha hq (by omega)
  | succ j ih =>
    intro n q c d hj h0 hn h2 hd ha hq hc
    by_cases hlt : n < d * d
    · exact spec_sqKernel_end n q c d h0 hlt (by omega) ha hq (by omega)
    · have hdn : d ≤ n := by have := Nat.mul_le_mul_right d h2; omega
      by_cases hdv : d ∣ n
      · obtain ⟨hn2, hlf⟩ := ha.lf h2 h0 hdv
        have hrad := rad_cons hn2
        have hfacs := facs_cons hn2
        rw [hlf] at hrad hfacs
        have hrs0 := rs_pos h2 h0
        have hrslt := rs_lt h2 h0 hdv
        have hrp := rad_pos hrs0
        have hm : n % d = 0 := Nat.mod_eq_zero_of_dvd hdv
        rw [hrad, ← Nat.mul_assoc] at hq
        have hqd : q * d ≤ 1000000 := by have := Nat.mul_le_mul_left (q * d) hrp; omega
        have hlen : (facs n).length = (facs (rs d n)).length + 1 := by rw [hfacs, List.length_cons]
        have := ih (rs d n) (q * d) (c + 1) (d + 1) (by omega) hrs0 (by omega) (by omega) (by omega) (ha.rs h2 h0) hq (by omega)
        rw [hrad, ← Nat.mul_assoc, hlen, show c + ((facs (rs d n)).length + 1) = c + 1 + (facs (rs d n)).length by omega]
        refine Ev.step (fun k => ?_) (spec_sqKernel_l1 d h2 (by omega) n (q * d) (c + 1) h0 hn this)
        simp only [spec_sqKernel.l0]
        rw [wr_mul (sq_lt (by omega) (by omega)), tm, if_pos (by omega), if_neg (by omega), if_pos (by omega), wr_mul (by omega), wr_succ (by omega)]
      · have hm : n % d ≠ 0 := fun hm => hdv (Nat.dvd_of_mod_eq_zero hm)
        refine Ev.step (fun k => ?_) (ih n q c (d + 1) (by omega) h0 hn (by omega) (by omega) (ha.succ hdv) hq hc)
        simp only [spec_sqKernel.l0]
        rw [wr_mul (sq_lt (by omega) (by omega)), tm, if_pos (by omega), if_neg (by omega), if_neg (by omega), wr_succ (by omega)]
theorem spec_sqKernel_ev (n : Nat) (h0 : 0 < n) (hn : n ≤ 500000) : Ev (fun k => spec_sqKernel.f k n) ((rad n : Int), ((facs n).length : Int)) := by
  have hr := rad_le h0
  have hl := facs_len n
  have := spec_sqKernel_l n n 1 0 2 (by omega) h0 (by omega) (Nat.le_refl _) (by omega) (Above.two n) (by omega) (by omega)
  rw [Nat.one_mul, Nat.zero_add] at this
  exact this
theorem impl_radical_l (b : Nat) : ∀ (l pre : List (Nat × Nat)) (s : Nat) {c : Nat}, IsFac c l → s * radL l ≤ 1000000000 → (pre ++ l).length ≤ 2000000000 → b = 0 → Ev (fun k => impl_radical.l0 k s (rowsOf (pre ++ l)) ((pre ++ l).length : Int) (pre.length : Int)) ((s * radL l : Nat) : Int)
  | [], pre, s, _, _, _, hl, _ => by
    refine Ev.done fun k => ?_
    simp only [impl_radical.l0]
    rw [if_neg (by simp)]
    simp [radL]
  | (p, e) :: l, pre, s, _, hf, hs, hl, hb => by
    have hlen : (pre ++ (p, e) :: l).length = pre.length + 1 + l.length := by simp; omega
    have hlr := rows_len (pre ++ (p, e) :: l)
    have hget : rd_L2 (rowsOf (pre ++ (p, e) :: l)) (pre.length : Int) = [(p : Int), (e : Int)] := by
      unfold rd_L2; rw [Int.toNat_natCast]; exact rows_get pre (p, e) l
    have hrd : rd [(p : Int), (e : Int)] 0 = p := rfl
    have hpos := radL_pos hf.2.2.2
    simp only [radL] at hs ⊢
    rw [← Nat.mul_assoc] at hs ⊢
    have hsp : s * p ≤ 1000000000 := by have := Nat.mul_le_mul_left (s * p) hpos; omega
    have ih := impl_radical_l b l (pre ++ [(p, e)]) (s * p) hf.2.2.2 hs (by simpa using hl) hb
    rw [List.append_assoc] at ih
    simp only [List.singleton_append, List.length_append, List.length_singleton] at ih
    refine Ev.step (fun k => ?_) ih
    simp only [impl_radical.l0]
    rw [if_pos (by omega), if_pos (by omega), if_pos (by omega), hget, if_pos (by simp), hrd, wr_mul (by omega), wr_succ (by omega), List.length_append]
theorem impl_radical_ev (n : Nat) (h0 : 0 < n) (hn : n ≤ 1000000000) : Ev (fun k => impl_radical.f k n) (rad n : Int) := by
  have hl := facs_len n
  have hr := rad_le h0
  have h := impl_radical_l 0 (facs n) [] 1 (facs_fac h0) (by show 1 * rad n ≤ _; omega) (by simpa using (by omega : (facs n).length ≤ 2000000000)) rfl
  rw [Nat.one_mul] at h
  refine (impl_factors_ev n hn).bind ?_
  rw [rows_len]
  exact h
theorem spec_KernelOf_ev (n : Nat) (h0 : 0 < n) (hn : n ≤ 100000) : Ev (fun k => spec_KernelOf.f k n) ((rad n : Int), true) := by
  unfold spec_KernelOf.f
  rw [spec_sqGood_eq, decide_eq_true (by omega)]
  simp only [Option.bind_some, if_true]
  exact (spec_sqKernel_ev n h0 (by omega)).bind (Ev.now _)
theorem impl_KernelOf_ev (n : Nat) (h0 : 0 < n) (hn : n ≤ 100000) : Ev (fun k => impl_KernelOf.f k n) ((rad n : Int), true) := by
  unfold impl_KernelOf.f
  rw [impl_isAsked_eq, decide_eq_true (by omega)]
  simp only [Option.bind_some, if_true]
  exact (impl_radical_ev n h0 (by omega)).bind (Ev.now _)
theorem spec_sqSign_ev (n : Nat) (h0 : 0 < n) (hn : n ≤ 500000) : Ev (fun k => spec_sqSign.f k n) (sgn n) := by
  unfold spec_sqSign.f
  refine (spec_sqKernel_ev n h0 hn).bind ?_
  have h := rad_eq_iff h0
  have e : Int.tmod ((facs n).length : Int) 2 = (((facs n).length % 2 : Nat) : Int) := rfl
  rw [sgn_eq]
  by_cases hs : sqf n = true
  · rw [if_pos hs]
    simp only [e, h.2 hs, if_true]
    by_cases hl : (facs n).length % 2 = 0
    · rw [if_pos hl, if_pos (by omega)]; exact Ev.now _
    · rw [if_neg hl, if_neg (by omega)]; exact Ev.now _
  · rw [if_neg hs]
    have : ¬ ((rad n : Int) = n) := fun hc => hs (h.1 (by omega))
    simp only [if_neg this]
    exact Ev.now _
theorem spec_FreeSign_ev (n : Nat) (h0 : 0 < n) (hn : n ≤ 100000) : Ev (fun k => spec_FreeSign.f k n) (sgn n, true) := by
  unfold spec_FreeSign.f
  rw [spec_sqGood_eq, decide_eq_true (by omega)]
  simp only [Option.bind_some, if_true]
  exact (spec_sqSign_ev n h0 (by omega)).bind (Ev.now _)
theorem impl_FreeSign_ev (n : Nat) (h0 : 0 < n) (hn : n ≤ 100000) : Ev (fun k => impl_FreeSign.f k n) (sgn n, true) := by
  unfold impl_FreeSign.f
  rw [impl_isAsked_eq, decide_eq_true (by omega)]
  simp only [Option.bind_some, if_true]
  exact (impl_signOf_ev n (by omega)).bind (Ev.now _)
/-- The sum over d up to some number of the sign of d times n / (d d). -/
def qf (n d : Nat) : Int := sgn d * ((n / (d * d) : Nat) : Int)
theorem qf_bd (n k : Nat) : -(n : Int) ≤ qf n k ∧ qf n k ≤ n := by
  have h := Nat.div_le_self n (k * k)
  unfold qf
  generalize n / (k * k) = q at h ⊢
  rcases sgn_range k with e | e | e <;> rw [e] <;> omega
theorem qf_sum (n m : Nat) (hn : n ≤ 100000) (hm : m ≤ 100000) : -10000000000 ≤ sumF (qf n) m ∧ sumF (qf n) m ≤ 10000000000 := by
  have h := sumF_bd (f := qf n) (b := n) m (fun k _ _ => qf_bd n k)
  have h1 : n * m ≤ 100000 * 100000 := Nat.mul_le_mul hn hm
  have h2 : ((n : Int) * m) = ((n * m : Nat) : Int) := by simp
  rw [h2] at h
  omega
theorem qf_zero {n d : Nat} (h : n < d * d) : qf n d = 0 := by unfold qf; rw [Nat.div_eq_of_lt h]; simp
theorem qf_rest (n : Nat) {i : Nat} (h : n < (i + 1) * (i + 1)) : ∀ j, sumF (qf n) (i + j) = sumF (qf n) i
  | 0 => rfl
  | j + 1 => by
    have h1 := Nat.mul_le_mul (show i + 1 ≤ i + j + 1 by omega) (show i + 1 ≤ i + j + 1 by omega)
    have : sumF (qf n) (i + (j + 1)) = sumF (qf n) (i + j) + qf n (i + j + 1) := rfl
    rw [this, qf_rest n h j, qf_zero (by omega), Int.add_zero]
theorem qf_all {n i : Nat} (h : n < (i + 1) * (i + 1)) (hi : i ≤ n) : sumF (qf n) i = sumF (qf n) n := by
  have := qf_rest n h (n - i)
  rw [show i + (n - i) = n by omega] at this
  exact this.symm
theorem qf_term {n d : Nat} (hn : n ≤ 100000) (hd : d ≤ 100001) : wrap64 (sgn d * wrap64 (Int.tdiv (n : Int) (wrap64 ((d : Int) * d)))) = qf n d := by
  rw [wr_mul (sq_lt (by omega) (by omega)), wr_tdiv (by omega)]
  have := qf_bd n d
  unfold qf at this
  rw [wri (by omega) (by omega)]
  rfl
theorem spec_sqCount_l (n : Nat) (h0 : 0 < n) (hn : n ≤ 100000) : ∀ (j i : Nat), n + 1 ≤ i + j → i ≤ n → Ev (fun k => spec_sqCount.l0 k n (sumF (qf n) i) ((i + 1 : Nat) : Int)) (sumF (qf n) n) := by
  intro j
  induction j with
  | zero => intro i h1 h2; omega
  | succ j ih =>
    intro i h1 h2
    have hb := qf_sum n i hn (by omega)
    by_cases hlt : n < (i + 1) * (i + 1)
    · rw [← qf_all hlt h2]
      refine Ev.done fun k => ?_
      simp only [spec_sqCount.l0]
      rw [wr_mul (sq_lt (by omega) (by omega)), if_neg (by omega)]
    · have hi : i + 1 ≤ n := by have := Nat.mul_le_mul_right (i + 1) (show 1 ≤ i + 1 by omega); omega
      have hpos : 0 < (i + 1) * (i + 1) := Nat.mul_pos (by omega) (by omega)
      have hb2 := qf_sum n (i + 1) hn (by omega)
      refine Ev.step (f := fun k => (spec_sqSign.f k ((i + 1 : Nat) : Int)).bind fun t => spec_sqCount.l0 k n (wrap64 (sumF (qf n) i + wrap64 (t * wrap64 (Int.tdiv (n : Int) (wrap64 (((i + 1 : Nat) : Int) * ((i + 1 : Nat) : Int))))))) (wrap64 (((i + 1 : Nat) : Int) + 1))) (fun k => ?_) ?_
      · have e : wrap64 (((i + 1 : Nat) : Int) * ((i + 1 : Nat) : Int)) = (((i + 1) * (i + 1) : Nat) : Int) := wr_mul (sq_lt (by omega) (by omega))
        have hne : ¬ (wrap64 (((i + 1 : Nat) : Int) * ((i + 1 : Nat) : Int)) = 0) := by omega
        simp only [spec_sqCount.l0, if_neg hne]
        rw [if_pos (by omega)]
      · refine (spec_sqSign_ev (i + 1) (by omega) (by omega)).bind ?_
        simp only [sumF] at hb2
        have e : wrap64 (sumF (qf n) i + qf n (i + 1)) = sumF (qf n) (i + 1) := by rw [wri (by omega) (by omega)]; rfl
        simp only [qf_term hn (show i + 1 ≤ 100001 by omega), e]
        rw [wr_succ (by omega)]
        exact ih (i + 1) (by omega) (by omega)
theorem impl_CountSquareFree_l (n : Nat) (h0 : 0 < n) (hn : n ≤ 100000) : ∀ (j i : Nat), n + 1 ≤ i + j → i ≤ n → Ev (fun k => impl_CountSquareFree.l0 k n (sumF (qf n) i) ((i + 1 : Nat) : Int)) (sumF (qf n) n, true) := by
  intro j
  induction j with
  | zero => intro i h1 h2; omega
  | succ j ih =>
    intro i h1 h2
    have hb := qf_sum n i hn (by omega)
    by_cases hlt : n < (i + 1) * (i + 1)
    · rw [← qf_all hlt h2]
      refine Ev.done fun k => ?_
      simp only [impl_CountSquareFree.l0]
      rw [wr_mul (sq_lt (by omega) (by omega)), if_neg (by omega)]
    · have hi : i + 1 ≤ n := by have := Nat.mul_le_mul_right (i + 1) (show 1 ≤ i + 1 by omega); omega
      have hpos : 0 < (i + 1) * (i + 1) := Nat.mul_pos (by omega) (by omega)
      have hb2 := qf_sum n (i + 1) hn (by omega)
      refine Ev.step (f := fun k => (impl_signOf.f k ((i + 1 : Nat) : Int)).bind fun t => impl_CountSquareFree.l0 k n (wrap64 (sumF (qf n) i + wrap64 (t * wrap64 (Int.tdiv (n : Int) (wrap64 (((i + 1 : Nat) : Int) * ((i + 1 : Nat) : Int))))))) (wrap64 (((i + 1 : Nat) : Int) + 1))) (fun k => ?_) ?_
      · have e : wrap64 (((i + 1 : Nat) : Int) * ((i + 1 : Nat) : Int)) = (((i + 1) * (i + 1) : Nat) : Int) := wr_mul (sq_lt (by omega) (by omega))
        have hne : ¬ (wrap64 (((i + 1 : Nat) : Int) * ((i + 1 : Nat) : Int)) = 0) := by omega
        simp only [impl_CountSquareFree.l0, if_neg hne]
        rw [if_pos (by omega)]
      · refine (impl_signOf_ev (i + 1) (by omega)).bind ?_
        simp only [sumF] at hb2
        have e : wrap64 (sumF (qf n) i + qf n (i + 1)) = sumF (qf n) (i + 1) := by rw [wri (by omega) (by omega)]; rfl
        simp only [qf_term hn (show i + 1 ≤ 100001 by omega), e]
        rw [wr_succ (by omega)]
        exact ih (i + 1) (by omega) (by omega)
theorem spec_CountSquareFree_ev (n : Nat) (h0 : 0 < n) (hn : n ≤ 100000) : Ev (fun k => spec_CountSquareFree.f k n) (sumF (qf n) n, true) := by
  unfold spec_CountSquareFree.f
  rw [spec_sqGood_eq, decide_eq_true (by omega)]
  simp only [Option.bind_some, if_true]
  exact (spec_sqCount_l n h0 hn (n + 1) 0 (by omega) (by omega)).bind (Ev.now _)
theorem impl_CountSquareFree_ev (n : Nat) (h0 : 0 < n) (hn : n ≤ 100000) : Ev (fun k => impl_CountSquareFree.f k n) (sumF (qf n) n, true) := by
  unfold impl_CountSquareFree.f
  rw [impl_isAsked_eq, decide_eq_true (by omega)]
  simp only [Option.bind_some, if_true]
  exact impl_CountSquareFree_l n h0 hn (n + 1) 0 (by omega) (by omega)
theorem sgn_bd (k : Nat) : -1 ≤ sgn k ∧ sgn k ≤ 1 := by rcases sgn_range k with h | h | h <;> rw [h] <;> decide
theorem sgn_sum (n : Nat) : -(n : Int) ≤ sumF sgn n ∧ sumF sgn n ≤ n := by
  have := sumF_bd (f := sgn) (b := 1) n (fun k _ _ => sgn_bd k)
  omega
theorem spec_SumOfSigns_l (n : Nat) (hn : n ≤ 600) : ∀ (j i : Nat), n + 1 ≤ i + j → i ≤ n → Ev (fun k => spec_SumOfSigns.l0 k n (sumF sgn i) ((i + 1 : Nat) : Int)) (sumF sgn n, true) := by
  intro j
  induction j with
  | zero => intro i h1 h2; omega
  | succ j ih =>
    intro i h1 h2
    have hb := sgn_sum i
    by_cases he : i = n
    · subst he
      refine Ev.done fun k => ?_
      simp only [spec_SumOfSigns.l0]
      rw [if_neg (by omega)]
    · have hb2 := sgn_sum (i + 1)
      refine Ev.step (f := fun k => (spec_sqSign.f k ((i + 1 : Nat) : Int)).bind fun t => spec_SumOfSigns.l0 k n (wrap64 (sumF sgn i + t)) (wrap64 (((i + 1 : Nat) : Int) + 1))) (fun k => ?_) ?_
      · simp only [spec_SumOfSigns.l0]
        rw [if_pos (by omega)]
      · refine (spec_sqSign_ev (i + 1) (by omega) (by omega)).bind ?_
        simp only [sumF] at hb2
        have e : wrap64 (sumF sgn i + sgn (i + 1)) = sumF sgn (i + 1) := by
          rw [wri (by omega) (by omega)]; rfl
        simp only [e]
        rw [wr_succ (by omega)]
        exact ih (i + 1) (by omega) (by omega)
theorem impl_SumOfSigns_l (n : Nat) (hn : n ≤ 600) : ∀ (j i : Nat), n + 1 ≤ i + j → i ≤ n → Ev (fun k => impl_SumOfSigns.l0 k n (sumF sgn i) ((i + 1 : Nat) : Int)) (sumF sgn n, true) := by
  intro j
  induction j with
  | zero => intro i h1 h2; omega
  | succ j ih =>
    intro i h1 h2
    have hb := sgn_sum i
    by_cases he : i = n
    · subst he
      refine Ev.done fun k => ?_
      simp only [impl_SumOfSigns.l0]
      rw [if_neg (by omega)]
    · have hb2 := sgn_sum (i + 1)
      refine Ev.step (f := fun k => (impl_signOf.f k ((i + 1 : Nat) : Int)).bind fun t => impl_SumOfSigns.l0 k n (wrap64 (sumF sgn i + t)) (wrap64 (((i + 1 : Nat) : Int) + 1))) (fun k => ?_) ?_
      · simp only [impl_SumOfSigns.l0]
        rw [if_pos (by omega)]
      · refine (impl_signOf_ev (i + 1) (by omega)).bind ?_
        simp only [sumF] at hb2
        have e : wrap64 (sumF sgn i + sgn (i + 1)) = sumF sgn (i + 1) := by
          rw [wri (by omega) (by omega)]; rfl
        simp only [e]
        rw [wr_succ (by omega)]
        exact ih (i + 1) (by omega) (by omega)
theorem spec_SumOfSigns_ev (n : Nat) (h0 : 0 < n) (hn : n ≤ 600) : Ev (fun k => spec_SumOfSigns.f k n) (sumF sgn n, true) := by
  unfold spec_SumOfSigns.f
  rw [spec_l1In_eq, decide_eq_true (by omega)]
  simp only [Option.bind_some, if_true]
  exact spec_SumOfSigns_l n hn (n + 1) 0 (by omega) (by omega)
theorem impl_SumOfSigns_ev (n : Nat) (h0 : 0 < n) (hn : n ≤ 600) : Ev (fun k => impl_SumOfSigns.f k n) (sumF sgn n, true) := by
  unfold impl_SumOfSigns.f
  refine Ev.congr (f := fun k => impl_SumOfSigns.j0 k n false) (fun k => by rw [if_neg (by omega), decide_eq_false (by omega)]) ?_
  refine Ev.step (fun k => ?_) (impl_SumOfSigns_l n hn (n + 1) 0 (by omega) (by omega))
  simp only [impl_SumOfSigns.j0]
  rfl
theorem spec_SumOfSigns_no (a : Int) (h : ¬ (1 ≤ a ∧ a ≤ 600)) : Ev (fun k => spec_SumOfSigns.f k a) (0, false) := by
  refine Ev.const fun k => ?_
  unfold spec_SumOfSigns.f
  rw [spec_l1In_eq, decide_eq_false h]
  rfl
theorem impl_SumOfSigns_no (a : Int) (h : ¬ (1 ≤ a ∧ a ≤ 600)) : Ev (fun k => impl_SumOfSigns.f k a) (0, false) := by
  unfold impl_SumOfSigns.f
  refine Ev.congr (f := fun k => impl_SumOfSigns.j0 k a true) (fun k => ?_) (Ev.done fun k => by simp only [impl_SumOfSigns.j0, if_true])
  by_cases h1 : a < 1
  · rw [if_pos h1]
  · rw [if_neg h1, decide_eq_true (by omega)]
theorem spec_sqNext_l (n : Nat) (hn : n ≤ 100002) : ∀ (j m : Nat), nx n ≤ m + j → n < m → m ≤ nx n → Ev (fun k => spec_sqNext.l0 k m) (nx n : Int) := by
  obtain ⟨hs, hlt, hb, hno⟩ := nx_spec hn
  have hstop : Ev (fun k => spec_sqNext.l0 k (nx n)) (nx n : Int) := by
    obtain ⟨r, hr⟩ := exists_sqp (nx n) (by omega)
    have h1 := (hr.eq_one_iff (by omega)).2 hs
    rw [h1] at hr
    refine Ev.step (f := fun k => (spec_sqPart.f k (nx n)).bind fun t => if t = 1 then some (nx n : Int) else spec_sqNext.l0 k (wrap64 ((nx n : Int) + 1))) (fun k => by simp only [spec_sqNext.l0]) ?_
    refine (spec_sqPart_ev (nx n) 1 (by omega) (by omega) hr).bind ?_
    exact Ev.now _
  intro j
  induction j with
  | zero =>
    intro m h1 h2 h3
    have : m = nx n := by omega
    rw [this]; exact hstop
  | succ j ih =>
    intro m h1 h2 h3
    by_cases he : m = nx n
    · rw [he]; exact hstop
    · obtain ⟨r, hr⟩ := exists_sqp m (by omega)
      have h4 : r ≠ 1 := fun hc => by
        have := (hr.eq_one_iff (by omega)).1 hc
        rw [hno m h2 (by omega)] at this; cases this
      refine Ev.step (f := fun k => (spec_sqPart.f k m).bind fun t => if t = 1 then some (m : Int) else spec_sqNext.l0 k (wrap64 ((m : Int) + 1))) (fun k => by simp only [spec_sqNext.l0]) ?_
      refine (spec_sqPart_ev m r (by omega) (by omega) hr).bind ?_
      have : ¬ ((r : Int) = 1) := by omega
      simp only [if_neg this]
      rw [wr_succ (by omega)]
      exact ih (m + 1) (by omega) (by omega) (by omega)
theorem spec_sqNext_ev (n : Nat) (hn : n ≤ 100002) : Ev (fun k => spec_sqNext.f k n) (nx n : Int) := by
  obtain ⟨hs, hlt, hb, hno⟩ := nx_spec hn
  unfold spec_sqNext.f
  rw [wr_succ (by omega)]
  exact spec_sqNext_l n hn (nx n) (n + 1) (by omega) (by omega) (by omega)
theorem impl_NextSquareFree_l (n : Nat) (hn : n ≤ 100002) : ∀ (j m : Nat), nx n ≤ m + j → n < m → m ≤ nx n → Ev (fun k => impl_NextSquareFree.l0 k m) ((nx n : Int), true) := by
  obtain ⟨hs, hlt, hb, hno⟩ := nx_spec hn
  have step : ∀ (m : Nat) (k : Nat), impl_NextSquareFree.l0 (k + 1) m = (impl_signOf.f k m).bind fun t => if t = 0 then impl_NextSquareFree.l0 k (wrap64 ((m : Int) + 1)) else some ((m : Int), true) := fun m k => by simp only [impl_NextSquareFree.l0]
  have hstop : Ev (fun k => impl_NextSquareFree.l0 k (nx n)) ((nx n : Int), true) := by
    refine Ev.step (step (nx n)) ?_
    refine (impl_signOf_ev (nx n) (by omega)).bind ?_
    simp only [if_neg ((sgn_ne (nx n)).2 hs)]
    exact Ev.now _
  intro j
  induction j with
  | zero =>
    intro m h1 h2 h3
    have : m = nx n := by omega
    rw [this]; exact hstop
  | succ j ih =>
    intro m h1 h2 h3
    by_cases he : m = nx n
    · rw [he]; exact hstop
    · refine Ev.step (step m) ?_
      refine (impl_signOf_ev m (by omega)).bind ?_
      have h4 : sgn m = 0 := by
        by_cases hc : sgn m = 0
        · exact hc
        · have := (sgn_ne m).1 hc
          rw [hno m h2 (by omega)] at this; cases this
      simp only [if_pos h4]
      rw [wr_succ (by omega)]
      exact ih (m + 1) (by omega) (by omega) (by omega)
theorem spec_NextSquareFree_ev (n : Nat) (h0 : 0 < n) (hn : n ≤ 100000) : Ev (fun k => spec_NextSquareFree.f k n) ((nx n : Int), true) := by
  unfold spec_NextSquareFree.f
  rw [spec_sqGood_eq, decide_eq_true (by omega)]
  simp only [Option.bind_some, if_true]
  exact (spec_sqNext_ev n (by omega)).bind (Ev.now _)
theorem impl_NextSquareFree_ev (n : Nat) (h0 : 0 < n) (hn : n ≤ 100000) : Ev (fun k => impl_NextSquareFree.f k n) ((nx n : Int), true) := by
  have := nx_spec (n := n) (by omega)
  unfold impl_NextSquareFree.f
  rw [impl_isAsked_eq, decide_eq_true (by omega)]
  simp only [Option.bind_some, if_true]
  rw [wr_succ (by omega)]
  exact impl_NextSquareFree_l n (by omega) (nx n) (n + 1) (by omega) (by omega) (by omega)
theorem spec_SquareFreeOfRank_l (r : Nat) (hr : r ≤ 300) : ∀ (j i : Nat), r ≤ i + j → i ≤ r → Ev (fun k => spec_SquareFreeOfRank.l0 k ((r - i : Nat) : Int) (nth i : Int)) ((nth r : Int), true) := by
  intro j
  induction j with
  | zero =>
    intro i h1 h2
    obtain rfl : i = r := by omega
    refine Ev.done fun k => ?_
    simp only [spec_SquareFreeOfRank.l0]
    rw [if_neg (by omega)]
  | succ j ih =>
    intro i h1 h2
    by_cases he : i = r
    · subst he
      refine Ev.done fun k => ?_
      simp only [spec_SquareFreeOfRank.l0]
      rw [if_neg (by omega)]
    · have hb := nth_le i (by omega)
      refine Ev.step (f := fun k => (spec_sqNext.f k (nth i : Int)).bind fun t => spec_SquareFreeOfRank.l0 k (wrap64 (((r - i : Nat) : Int) - 1)) t) (fun k => ?_) ((spec_sqNext_ev (nth i) (by omega)).bind ?_)
      · simp only [spec_SquareFreeOfRank.l0]
        rw [if_pos (by omega)]
      · have e : wrap64 (((r - i : Nat) : Int) - 1) = ((r - (i + 1) : Nat) : Int) := by rw [wri (by omega) (by omega)]; omega
        rw [e]
        exact ih (i + 1) (by omega) (by omega)
/-- From m on, i square-free numbers lie before m: the r-th comes. -/
theorem impl_SquareFreeOfRank_l (r : Nat) (hr : r ≤ 300) : ∀ (j i m : Nat), nth r + 1 ≤ m + j → i ≤ r → m ≤ nth i → (∀ c, m ≤ c → c < nth i → sqf c = false) → 0 < m → Ev (fun k => impl_SquareFreeOfRank.l0 k ((r - i : Nat) : Int) (m : Int)) ((nth r : Int), true) := by
  have hmono : ∀ i d, i + d ≤ 301 → nth i + d ≤ nth (i + d) := by
    intro i d
    induction d with
    | zero => intro _; exact Nat.le_refl _
    | succ d ih =>
      intro h
      have h1 := ih (by omega)
      have h2 := (nx_spec (n := nth (i + d)) (by have := nth_le (i + d) (by omega); omega)).2.1
      have : nth (i + (d + 1)) = nx (nth (i + d)) := rfl
      omega
  intro j
  induction j with
  | zero =>
    intro i m h1 h2 h3 h4 h5
    have := hmono i (r - i) (by omega)
    rw [show i + (r - i) = r by omega] at this
    omega
  | succ j ih =>
    intro i m h1 h2 h3 h4 h5
    have hb := nth_le i (by omega)
    refine Ev.step (f := fun k => (impl_signOf.f k (m : Int)).bind fun t => if t = 0 then impl_SquareFreeOfRank.l0 k ((r - i : Nat) : Int) (wrap64 ((m : Int) + 1)) else (if ((r - i : Nat) : Int) = 0 then some ((m : Int), true) else impl_SquareFreeOfRank.l0 k (wrap64 (((r - i : Nat) : Int) - 1)) (wrap64 ((m : Int) + 1)))) (fun k => by simp only [impl_SquareFreeOfRank.l0]) ((impl_signOf_ev m (by omega)).bind ?_)
    by_cases he : m = nth i
    · have hs : ¬ sgn m = 0 := (sgn_ne m).2 (he ▸ nth_sqf i (by omega))
      simp only [if_neg hs]
      by_cases hri : i = r
      · refine Ev.const fun k => ?_
        rw [if_pos (by omega), he, hri]
      · have e : wrap64 (((r - i : Nat) : Int) - 1) = ((r - (i + 1) : Nat) : Int) := by rw [wri (by omega) (by omega)]; omega
        have hnx := nx_spec (n := nth i) (by omega)
        refine Ev.congr (f := fun k => impl_SquareFreeOfRank.l0 k ((r - (i + 1) : Nat) : Int) ((m + 1 : Nat) : Int)) (fun k => by rw [if_neg (by omega), e, wr_succ (by omega)]) ?_
        exact ih (i + 1) (m + 1) (by omega) (by omega) (by show m + 1 ≤ nx (nth i); omega) (fun c h6 h7 => hnx.2.2.2 c (by omega) h7) (by omega)
    · have hs : sgn m = 0 := by
        by_cases hc : sgn m = 0
        · exact hc
        · have := (sgn_ne m).1 hc
          rw [h4 m (Nat.le_refl _) (by omega)] at this; cases this
      simp only [if_pos hs]
      rw [wr_succ (by omega)]
      exact ih i (m + 1) (by omega) h2 (by omega) (fun c h6 h7 => h4 c (by omega) h7) (by omega)
theorem spec_SquareFreeOfRank_ev (r : Nat) (hr : r ≤ 300) : Ev (fun k => spec_SquareFreeOfRank.f k r) ((nth r : Int), true) := by
  unfold spec_SquareFreeOfRank.f
  rw [spec_l1In_eq, decide_eq_true (by omega)]
  simp only [Option.bind_some, if_true]
  exact spec_SquareFreeOfRank_l r hr r 0 (by omega) (by omega)
theorem impl_SquareFreeOfRank_ev (r : Nat) (hr : r ≤ 300) : Ev (fun k => impl_SquareFreeOfRank.f k r) ((nth r : Int), true) := by
  unfold impl_SquareFreeOfRank.f
  refine Ev.congr (f := fun k => impl_SquareFreeOfRank.j0 k r false) (fun k => by rw [if_neg (by omega), decide_eq_false (by omega)]) ?_
  refine Ev.step (fun k => ?_) (impl_SquareFreeOfRank_l r hr (nth r + 1) 0 1 (by omega) (by omega) (by decide) (fun c h1 h2 => by simp only [nth] at h2; omega) (by omega))
  simp only [impl_SquareFreeOfRank.j0]
  rfl
theorem spec_SquareFreeOfRank_no (a : Int) (h : ¬ (0 ≤ a ∧ a ≤ 300)) : Ev (fun k => spec_SquareFreeOfRank.f k a) (0, false) := by
  refine Ev.const fun k => ?_
  unfold spec_SquareFreeOfRank.f
  rw [spec_l1In_eq, decide_eq_false h]
  rfl
theorem impl_SquareFreeOfRank_no (a : Int) (h : ¬ (0 ≤ a ∧ a ≤ 300)) : Ev (fun k => impl_SquareFreeOfRank.f k a) (0, false) := by
  unfold impl_SquareFreeOfRank.f
  refine Ev.congr (f := fun k => impl_SquareFreeOfRank.j0 k a true) (fun k => ?_) (Ev.done fun k => by simp only [impl_SquareFreeOfRank.j0, if_true])
  by_cases h1 : a < 0
  · rw [if_pos h1]
  · rw [if_neg h1, decide_eq_true (by omega)]
/-- The numbers 1, .., n. -/
def ups (n : Nat) : List Int := (List.range n).map fun i => ((i + 1 : Nat) : Int)
theorem ups_len (n : Nat) : (ups n).length = n := by simp [ups]
theorem ups_succ (n : Nat) : ups (n + 1) = ups n ++ [((n + 1 : Nat) : Int)] := by simp [ups, List.range_succ]
theorem impl_upTo_l (n : Nat) (hn : n ≤ 1000000) : ∀ (j i : Nat), n ≤ i + j → i ≤ n → Ev (fun k => impl_upTo.l0 k n 1 (ups i) ((i + 1 : Nat) : Int)) (ups n) := by
  intro j
  induction j with
  | zero =>
    intro i h1 h2
    obtain rfl : i = n := by omega
    refine Ev.done fun k => ?_
    simp only [impl_upTo.l0]
    rw [if_neg (by omega)]
  | succ j ih =>
    intro i h1 h2
    by_cases h : i < n
    · refine Ev.step (fun k => ?_) (ih (i + 1) (by omega) (by omega))
      have hl := ups_len i
      simp only [impl_upTo.l0]
      rw [if_pos (by omega), if_pos (by omega), wr_succ (by omega), ups_succ]
    · obtain rfl : i = n := by omega
      refine Ev.done fun k => ?_
      simp only [impl_upTo.l0]
      rw [if_neg (by omega)]
theorem impl_upTo_ev (n : Nat) (hn : n ≤ 1000000) : Ev (fun k => impl_upTo.f k 1 n 1) (ups n) :=
  impl_upTo_l n hn n 0 (by omega) (by omega)
/-- What is kept of 1, .., n. -/
def kept (p : Nat → Bool) : Nat → List Int
  | 0 => []
  | n + 1 => if p (n + 1) = true then kept p n else kept p n ++ [((n + 1 : Nat) : Int)]
theorem kept_len (p : Nat → Bool) : ∀ n, (kept p n).length ≤ n
  | 0 => by simp [kept]
  | n + 1 => by
    have := kept_len p n
    simp only [kept]; split
    · omega
    · simp; omega
theorem delKeep_app {q : Int → Option Bool} : ∀ (l : List Int) (x : Int), delKeep q (l ++ [x]) = (delKeep q l).bind fun r => (q x).bind fun b => some (if b = true then r else r ++ [x])
  | [], x => by
    simp only [List.nil_append, delKeep, Option.bind_some]
  | y :: l, x => by
    simp only [List.cons_append, delKeep, delKeep_app l x]
    cases q y with
    | none => rfl
    | some b =>
      simp only [Option.bind_some]
      cases delKeep q l with
      | none => rfl
      | some r =>
        simp only [Option.bind_some]
        cases q x with
        | none => rfl
        | some c =>
          simp only [Option.bind_some]
          cases b <;> cases c <;> rfl
theorem delKeep_ups {q : Nat → Int → Option Bool} {p : Nat → Bool} : ∀ (n : Nat), (∀ m, 0 < m → m ≤ n → Ev (fun k => q k (m : Int)) (p m)) → Ev (fun k => delKeep (q k) (ups n)) (kept p n)
  | 0, _ => Ev.const fun k => rfl
  | n + 1, h => by
    have ih := delKeep_ups n (fun m h1 h2 => h m h1 (by omega))
    refine Ev.congr (f := fun k => (delKeep (q k) (ups n)).bind fun r => (q k ((n + 1 : Nat) : Int)).bind fun b => some (if b = true then r else r ++ [((n + 1 : Nat) : Int)])) (fun k => by rw [ups_succ, delKeep_app]) (ih.bind ((h (n + 1) (by omega) (by omega)).bind ?_))
    exact Ev.now _
def notFree (n : Nat) : Bool := !sqf n
theorem spec_SquareFreeUpTo_l (n : Nat) (hn : n ≤ 600) : ∀ (j i : Nat), n ≤ i + j → i ≤ n → Ev (fun k => spec_SquareFreeUpTo.l0 k n (kept notFree i) ((i + 1 : Nat) : Int)) (kept notFree n, true) := by
  have hend : Ev (fun k => spec_SquareFreeUpTo.l0 k n (kept notFree n) ((n + 1 : Nat) : Int)) (kept notFree n, true) := by
    refine Ev.done fun k => ?_
    simp only [spec_SquareFreeUpTo.l0]
    rw [if_neg (by omega)]
  intro j
  induction j with
  | zero =>
    intro i h1 h2
    obtain rfl : i = n := by omega
    exact hend
  | succ j ih =>
    intro i h1 h2
    by_cases h : i < n
    · have hih := ih (i + 1) (by omega) (by omega)
      have hl := kept_len notFree i
      obtain ⟨r, hr⟩ := exists_sqp (i + 1) (by omega)
      have hiff := hr.eq_one_iff (by omega)
      have e2 : wrap64 (((i + 1 : Nat) : Int) + 1) = ((i + 1 + 1 : Nat) : Int) := wr_succ (by omega)
      refine Ev.step (f := fun k => (spec_sqPart.f k ((i + 1 : Nat) : Int)).bind fun t => if t = 1 then spec_SquareFreeUpTo.l0 k n (kept notFree i ++ [((i + 1 : Nat) : Int)]) ((i + 1 + 1 : Nat) : Int) else spec_SquareFreeUpTo.l0 k n (kept notFree i) ((i + 1 + 1 : Nat) : Int)) (fun k => ?_) ((spec_sqPart_ev (i + 1) r (by omega) (by omega) hr).bind ?_)
      · simp only [spec_SquareFreeUpTo.l0]
        have hlt : (kept notFree i).length < 17592186044416 := by omega
        simp only [if_pos hlt]
        rw [if_pos (by omega), e2]
      · by_cases hs : sqf (i + 1) = true
        · have h1 := hiff.2 hs
          simp only [kept, notFree, hs, Bool.not_true, Bool.false_eq_true, if_false] at hih
          simp only [h1]
          exact hih
        · have h1 : ¬ ((r : Int) = 1) := fun hc => hs (hiff.1 (by omega))
          simp only [if_neg h1]
          simp only [kept, notFree, Bool.eq_false_iff.2 hs, Bool.not_false, if_true] at hih
          exact hih
    · obtain rfl : i = n := by omega
      exact hend
theorem impl_SquareFreeUpTo_1_ev (n : Nat) (hn : n ≤ 1000000000) : Ev (fun k => impl_SquareFreeUpTo_1.f k n) (notFree n) := by
  unfold impl_SquareFreeUpTo_1.f
  refine (impl_signOf_ev n hn).bind ?_
  have : (sgn n == 0) = notFree n := by
    unfold notFree
    have := sgn_ne n
    cases h : sqf n with
    | true => rw [h] at this; simp at this; simp [this]
    | false => rw [h] at this; simp at this; simp [this]
  rw [this]
  exact Ev.now _
theorem spec_SquareFreeUpTo_ev (n : Nat) (hn : n ≤ 600) : Ev (fun k => spec_SquareFreeUpTo.f k n) (kept notFree n, true) := by
  unfold spec_SquareFreeUpTo.f
  rw [spec_sqMost_eq, decide_eq_true (by omega)]
  simp only [Option.bind_some, if_true]
  exact spec_SquareFreeUpTo_l n hn n 0 (by omega) (by omega)
theorem impl_SquareFreeUpTo_ev (n : Nat) (hn : n ≤ 600) : Ev (fun k => impl_SquareFreeUpTo.f k n) (kept notFree n, true) := by
  unfold impl_SquareFreeUpTo.f
  rw [impl_isMost_eq, decide_eq_true (by omega)]
  simp only [Option.bind_some, if_true]
  exact (impl_upTo_ev n (by omega)).bind ((delKeep_ups (q := fun k x => impl_SquareFreeUpTo_1.f k x) n (fun m _ hm => impl_SquareFreeUpTo_1_ev m (by omega))).bind (Ev.now _))
/-- The longest run, its first number, and the run that ends at n. -/
def lsq : Nat → Nat × Nat × Nat
  | 0 => (0, 0, 0)
  | n + 1 => if sqf (n + 1) = true then ((lsq n).1, (lsq n).2.1, 0) else if (lsq n).2.2 + 1 > (lsq n).1 then ((lsq n).2.2 + 1, n + 1 - ((lsq n).2.2 + 1) + 1, (lsq n).2.2 + 1) else ((lsq n).1, (lsq n).2.1, (lsq n).2.2 + 1)
theorem lsq_bd : ∀ n, (lsq n).1 ≤ n ∧ (lsq n).2.2 ≤ n
  | 0 => by simp [lsq]
  | n + 1 => by
    have := lsq_bd n
    simp only [lsq]
    split
    · exact ⟨by simp only; omega, by simp only; omega⟩
    · split
      · exact ⟨by simp only; omega, by simp only; omega⟩
      · exact ⟨by simp only; omega, by simp only; omega⟩
theorem spec_LongestSquareful_l (n : Nat) (hn : n ≤ 600) : ∀ (j i : Nat), n + 1 ≤ i + j → i ≤ n → Ev (fun k => spec_LongestSquareful.l0 k n ((lsq i).1 : Int) ((lsq i).2.1 : Int) ((lsq i).2.2 : Int) ((i + 1 : Nat) : Int)) (((lsq n).1 : Int), ((lsq n).2.1 : Int), true) := by
  intro j
  induction j with
  | zero => intro i h1 h2; omega
  | succ j ih =>
    intro i h1 h2
    by_cases he : i = n
    · subst he
      refine Ev.done fun k => ?_
      simp only [spec_LongestSquareful.l0]
      rw [if_neg (by omega)]
    · have hb := lsq_bd i
      obtain ⟨r, hr⟩ := exists_sqp (i + 1) (by omega)
      have hiff := hr.eq_one_iff (by omega)
      have hih := ih (i + 1) (by omega) (by omega)
      have e1 : wrap64 ((((lsq i).2.2 : Nat) : Int) + 1) = (((lsq i).2.2 + 1 : Nat) : Int) := wr_succ (by omega)
      have e2 : wrap64 (((i + 1 : Nat) : Int) + 1) = ((i + 1 + 1 : Nat) : Int) := wr_succ (by omega)
      have e3 : wrap64 (wrap64 (((i + 1 : Nat) : Int) - (((lsq i).2.2 + 1 : Nat) : Int)) + 1) = ((i + 1 - ((lsq i).2.2 + 1) + 1 : Nat) : Int) := by
        have : wrap64 (((i + 1 : Nat) : Int) - (((lsq i).2.2 + 1 : Nat) : Int)) = ((i + 1 - ((lsq i).2.2 + 1) : Nat) : Int) := by rw [wri (by omega) (by omega)]; omega
        rw [this, wr_succ (by omega)]
      refine Ev.step (f := fun k => (spec_sqPart.f k ((i + 1 : Nat) : Int)).bind fun t => if t = 1 then spec_LongestSquareful.l0 k n ((lsq i).1 : Int) ((lsq i).2.1 : Int) 0 ((i + 1 + 1 : Nat) : Int) else (if (((lsq i).2.2 + 1 : Nat) : Int) > ((lsq i).1 : Int) then spec_LongestSquareful.l0 k n (((lsq i).2.2 + 1 : Nat) : Int) ((i + 1 - ((lsq i).2.2 + 1) + 1 : Nat) : Int) (((lsq i).2.2 + 1 : Nat) : Int) ((i + 1 + 1 : Nat) : Int) else spec_LongestSquareful.l0 k n ((lsq i).1 : Int) ((lsq i).2.1 : Int) (((lsq i).2.2 + 1 : Nat) : Int) ((i + 1 + 1 : Nat) : Int))) (fun k => ?_) ((spec_sqPart_ev (i + 1) r (by omega) (by omega) hr).bind ?_)
      · simp only [spec_LongestSquareful.l0]
        rw [if_pos (by omega), e1, e2, e3]
      · by_cases hs : sqf (i + 1) = true
        · have h1 := hiff.2 hs
          simp only [h1, lsq, hs, if_true] at hih ⊢
          exact hih
        · have h1 : ¬ ((r : Int) = 1) := fun hc => hs (hiff.1 (by omega))
          simp only [if_neg h1]
          simp only [lsq, if_neg hs] at hih
          by_cases hg : (lsq i).2.2 + 1 > (lsq i).1
          · simp only [if_pos hg] at hih
            refine Ev.congr (fun k => if_pos (by omega)) hih
          · simp only [if_neg hg] at hih
            refine Ev.congr (fun k => if_neg (by omega)) hih
theorem impl_LongestSquareful_l (n : Nat) (hn : n ≤ 600) : ∀ (j i : Nat), n + 1 ≤ i + j → i ≤ n → Ev (fun k => impl_LongestSquareful.l0 k n ((lsq i).1 : Int) ((lsq i).2.1 : Int) ((lsq i).2.2 : Int) ((i + 1 : Nat) : Int)) (((lsq n).1 : Int), ((lsq n).2.1 : Int), true) := by
  intro j
  induction j with
  | zero => intro i h1 h2; omega
  | succ j ih =>
    intro i h1 h2
    by_cases he : i = n
    · subst he
      refine Ev.done fun k => ?_
      simp only [impl_LongestSquareful.l0]
      rw [if_neg (by omega)]
    · have hb := lsq_bd i
      have hiff := sgn_ne (i + 1)
      have hih := ih (i + 1) (by omega) (by omega)
      have e1 : wrap64 ((((lsq i).2.2 : Nat) : Int) + 1) = (((lsq i).2.2 + 1 : Nat) : Int) := wr_succ (by omega)
      have e2 : wrap64 (((i + 1 : Nat) : Int) + 1) = ((i + 1 + 1 : Nat) : Int) := wr_succ (by omega)
      have e3 : wrap64 (wrap64 (((i + 1 : Nat) : Int) - (((lsq i).2.2 + 1 : Nat) : Int)) + 1) = ((i + 1 - ((lsq i).2.2 + 1) + 1 : Nat) : Int) := by
        have : wrap64 (((i + 1 : Nat) : Int) - (((lsq i).2.2 + 1 : Nat) : Int)) = ((i + 1 - ((lsq i).2.2 + 1) : Nat) : Int) := by rw [wri (by omega) (by omega)]; omega
        rw [this, wr_succ (by omega)]
      refine Ev.step (f := fun k => (impl_signOf.f k ((i + 1 : Nat) : Int)).bind fun t => if t = 0 then (if (((lsq i).2.2 + 1 : Nat) : Int) > ((lsq i).1 : Int) then impl_LongestSquareful.l0 k n (((lsq i).2.2 + 1 : Nat) : Int) ((i + 1 - ((lsq i).2.2 + 1) + 1 : Nat) : Int) (((lsq i).2.2 + 1 : Nat) : Int) ((i + 1 + 1 : Nat) : Int) else impl_LongestSquareful.l0 k n ((lsq i).1 : Int) ((lsq i).2.1 : Int) (((lsq i).2.2 + 1 : Nat) : Int) ((i + 1 + 1 : Nat) : Int)) else impl_LongestSquareful.l0 k n ((lsq i).1 : Int) ((lsq i).2.1 : Int) 0 ((i + 1 + 1 : Nat) : Int)) (fun k => ?_) ((impl_signOf_ev (i + 1) (by omega)).bind ?_)
      · simp only [impl_LongestSquareful.l0]
        have e4 : ¬ ((0 : Int) > ((lsq i).1 : Int)) := by omega
        simp only [if_neg e4]
        rw [if_pos (by omega), e1, e2, e3]
      · by_cases hs : sqf (i + 1) = true
        · have h1 := hiff.2 hs
          simp only [if_neg h1]
          simp only [lsq, hs, if_true] at hih
          exact hih
        · have h1 : sgn (i + 1) = 0 := Classical.byContradiction fun hc => hs (hiff.1 hc)
          simp only [if_pos h1]
          simp only [lsq, if_neg hs] at hih
          by_cases hg : (lsq i).2.2 + 1 > (lsq i).1
          · simp only [if_pos hg] at hih
            refine Ev.congr (fun k => if_pos (by omega)) hih
          · simp only [if_neg hg] at hih
            refine Ev.congr (fun k => if_neg (by omega)) hih
theorem spec_LongestSquareful_ev (n : Nat) (hn : n ≤ 600) : Ev (fun k => spec_LongestSquareful.f k n) (((lsq n).1 : Int), ((lsq n).2.1 : Int), true) := by
  unfold spec_LongestSquareful.f
  rw [spec_sqMost_eq, decide_eq_true (by omega)]
  simp only [Option.bind_some, if_true]
  exact spec_LongestSquareful_l n hn (n + 1) 0 (by omega) (by omega)
theorem impl_LongestSquareful_ev (n : Nat) (hn : n ≤ 600) : Ev (fun k => impl_LongestSquareful.f k n) (((lsq n).1 : Int), ((lsq n).2.1 : Int), true) := by
  unfold impl_LongestSquareful.f
  rw [impl_isMost_eq, decide_eq_true (by omega)]
  simp only [Option.bind_some, if_true]
  exact impl_LongestSquareful_l n hn (n + 1) 0 (by omega) (by omega)
theorem kept_bd (p : Nat → Bool) : ∀ n, ∀ x ∈ kept p n, (1 : Int) ≤ x ∧ x ≤ n
  | 0, x, h => by simp [kept] at h
  | n + 1, x, h => by
    simp only [kept] at h
    split at h
    · have := kept_bd p n x h; omega
    · rcases List.mem_append.1 h with h | h
      · have := kept_bd p n x h; omega
      · rw [List.mem_singleton] at h; omega
theorem kept_sorted (p : Nat → Bool) : ∀ n, (kept p n).Pairwise (· < ·)
  | 0 => by simp [kept]
  | n + 1 => by
    simp only [kept]
    split
    · exact kept_sorted p n
    · rw [List.pairwise_append]
      refine ⟨kept_sorted p n, List.pairwise_singleton _ _, fun a ha b hb => ?_⟩
      rw [List.mem_singleton] at hb
      have := kept_bd p n a ha
      omega
theorem kept_mem (p : Nat → Bool) (n m : Nat) : ((m : Int) ∈ kept p n) ↔ (∃ i, m = i + 1 ∧ i < n ∧ p (i + 1) = false) := by
  induction n with
  | zero => simp [kept]
  | succ n ih =>
    have hno : (∃ i, m = i + 1 ∧ i < n + 1 ∧ p (i + 1) = false) ↔ (∃ i, m = i + 1 ∧ i < n ∧ p (i + 1) = false) ∨ (m = n + 1 ∧ p (n + 1) = false) := by
      constructor
      · rintro ⟨i, h1, h2, h3⟩
        by_cases h : i = n
        · subst h; exact .inr ⟨h1, h3⟩
        · exact .inl ⟨i, h1, by omega, h3⟩
      · rintro (⟨i, h1, h2, h3⟩ | ⟨h1, h3⟩)
        · exact ⟨i, h1, by omega, h3⟩
        · exact ⟨n, h1, by omega, h3⟩
    rw [hno]
    simp only [kept]
    by_cases hc : p (n + 1) = true
    · rw [if_pos hc, ih]
      constructor
      · exact .inl
      · rintro (h | h)
        · exact h
        · rw [hc] at h; exact absurd h.2 (by decide)
    · rw [if_neg hc, List.mem_append, ih, List.mem_singleton]
      constructor
      · rintro (h | h)
        · exact .inl h
        · exact .inr ⟨by omega, by simpa using hc⟩
      · rintro (h | h)
        · exact .inl h
        · exact .inr (by omega)
theorem rd_mid_ (pre : List Int) (x : Int) (l : List Int) : rd (pre ++ x :: l) (pre.length : Int) = x := by unfold rd; rw [Int.toNat_natCast]; simp
theorem laws_tSame_l : ∀ (suf pre : List Int), (pre ++ suf).length ≤ 4000000000 → Ev (fun k => laws_tSame.l0 k (pre ++ suf) (pre ++ suf) ((pre ++ suf).length : Nat) (pre.length : Nat)) true
  | [], pre, _ => by
    refine Ev.done fun k => ?_
    simp only [laws_tSame.l0]
    rw [if_neg (by simp)]
  | x :: suf, pre, hl => by
    have hlen : (pre ++ x :: suf).length = pre.length + 1 + suf.length := by simp; omega
    have ih := laws_tSame_l suf (pre ++ [x]) (by simpa using hl)
    rw [List.append_assoc] at ih
    simp only [List.singleton_append, List.length_append, List.length_singleton] at ih
    refine Ev.step (fun k => ?_) ih
    simp only [laws_tSame.l0]
    rw [if_pos (by omega), if_pos (by omega), if_pos (by omega), if_pos (by omega), if_pos trivial, wr_succ (by omega)]
    simp only [List.length_append]
theorem laws_tSame_self (l : List Int) (hl : l.length ≤ 1000000) : Ev (fun k => laws_tSame.f k l l) true := by
  unfold laws_tSame.f
  simp only [if_true]
  exact laws_tSame_l l [] (by rw [List.nil_append]; omega)
theorem laws_tHas_l (x : Int) : ∀ (suf pre : List Int), (pre ++ suf).length ≤ 4000000000 → Ev (fun k => laws_tHas.l0 k x (pre ++ suf) ((pre ++ suf).length : Nat) (pre.length : Nat)) (decide (x ∈ suf))
  | [], pre, _ => by
    refine Ev.done fun k => ?_
    simp only [laws_tHas.l0]
    rw [if_neg (by simp)]
    simp
  | y :: suf, pre, hl => by
    have hlen : (pre ++ y :: suf).length = pre.length + 1 + suf.length := by simp; omega
    have ih := laws_tHas_l x suf (pre ++ [y]) (by simpa using hl)
    rw [List.append_assoc] at ih
    simp only [List.singleton_append, List.length_append, List.length_singleton] at ih
    by_cases h : y = x
    · rw [decide_eq_true (by rw [h]; simp)]
      refine Ev.done fun k => ?_
      simp only [laws_tHas.l0]
      rw [if_pos (by omega), if_pos (by omega), if_pos (by omega), rd_mid_, if_pos h]
    · rw [decide_eq_decide.2 (show x ∈ y :: suf ↔ x ∈ suf by rw [List.mem_cons]; exact ⟨fun k => k.resolve_left (fun e => h e.symm), .inr⟩)]
      refine Ev.step (fun k => ?_) ih
      simp only [laws_tHas.l0]
      rw [if_pos (by omega), if_pos (by omega), if_pos (by omega), rd_mid_, if_neg h, wr_succ (by omega)]
      simp only [List.length_append]
theorem laws_tHas_ev (l : List Int) (x : Int) (hl : l.length ≤ 1000000) : Ev (fun k => laws_tHas.f k l x) (decide (x ∈ l)) :=
  laws_tHas_l x l [] (by rw [List.nil_append]; omega)
theorem gcd_step (a b : Nat) : Nat.gcd a b = Nat.gcd b (a % b) := by
  rw [Nat.gcd_comm a b, Nat.gcd_rec b a, Nat.gcd_comm]
theorem laws_tCommon_ev : ∀ (b a : Nat), Ev (fun k => laws_tCommon.l0 k a b) ((Nat.gcd a b : Nat) : Int) := by
  intro b
  induction b using Nat.strongRecOn with
  | _ b ih =>
    intro a
    by_cases h : 0 < b
    · rw [gcd_step]
      refine Ev.step (fun k => ?_) (ih (a % b) (Nat.mod_lt _ h) b)
      simp only [laws_tCommon.l0]
      rw [if_pos (by omega), if_neg (by omega), tm]
    · have : b = 0 := by omega
      subst this
      rw [Nat.gcd_zero_right]
      refine Ev.done fun k => ?_
      simp only [laws_tCommon.l0]
      rw [if_neg (by omega)]
theorem sorted_mid {pre suf : List Int} {y x : Int} (h : (pre ++ y :: x :: suf).Pairwise (· < ·)) : y < x := by
  have := (List.pairwise_append.1 h).2.1
  rw [List.pairwise_cons] at this
  exact this.1 x (by simp)
theorem laws_tRises_l (lo hi : Int) (L : List Int) (hl : L.length ≤ 4000000000) (hs : L.Pairwise (· < ·)) (hb : ∀ x ∈ L, lo ≤ x ∧ x ≤ hi) : ∀ (suf pre : List Int), pre ++ suf = L → Ev (fun k => laws_tRises.l0 k L lo hi L (L.length : Nat) (pre.length : Nat)) true := by
  intro suf
  induction suf with
  | nil =>
    intro pre h
    rw [List.append_nil] at h
    subst h
    refine Ev.done fun k => ?_
    simp only [laws_tRises.l0]
    rw [if_neg (Int.lt_irrefl _)]
  | cons x suf ih =>
    intro pre h
    have hlen : L.length = pre.length + 1 + suf.length := by rw [← h]; simp; omega
    have key := ih (pre ++ [x]) (by rw [List.append_assoc]; exact h)
    have hx := hb x (by rw [← h]; simp)
    have hget : rd L (pre.length : Int) = x := by rw [← h]; exact rd_mid_ pre x suf
    have e1 : wrap64 ((pre.length : Int) + 1) = (((pre ++ [x]).length : Nat) : Int) := by rw [wr_succ (by omega), List.length_append, List.length_singleton]
    have c1 : (pre.length : Int) < (L.length : Int) := by omega
    refine Ev.step (fun k => ?_) key
    simp only [laws_tRises.l0]
    rw [if_pos c1, if_pos (Int.natCast_nonneg _), if_pos c1, hget, if_neg (by omega), if_neg (by omega), e1]
    by_cases hp : (pre.length : Int) > 0
    · obtain ⟨q, y, hq⟩ : ∃ q y, pre = q ++ [y] := by
        have hne : pre ≠ [] := by intro h; rw [h] at hp; simp at hp
        exact ⟨pre.dropLast, pre.getLast hne, (List.dropLast_concat_getLast hne).symm⟩
      have hql : pre.length = q.length + 1 := by rw [hq]; simp
      have hL : L = q ++ y :: x :: suf := by rw [← h, hq]; simp
      have hyx : y < x := by rw [hL] at hs; exact sorted_mid hs
      have hgy : rd L (q.length : Int) = y := by rw [hL]; exact rd_mid_ q y _
      have e2 : wrap64 ((pre.length : Int) - 1) = (q.length : Int) := by rw [wri (by omega) (by omega)]; omega
      rw [if_pos hp, e2, if_pos (Int.natCast_nonneg _), if_pos (by omega), hgy, if_neg (by omega)]
    · rw [if_neg hp]
theorem laws_tRises_ev (lo hi : Int) (L : List Int) (hl : L.length ≤ 4000000000) (hs : L.Pairwise (· < ·)) (hb : ∀ x ∈ L, lo ≤ x ∧ x ≤ hi) : Ev (fun k => laws_tRises.f k L lo hi) true :=
  laws_tRises_l lo hi L hl hs hb L [] (List.nil_append _)
/-! facts of square-free numbers -/
theorem sqf_rad : ∀ (n : Nat), 0 < n → sqf (rad n) = true := by
  intro n
  induction n using Nat.strongRecOn with
  | _ n ih =>
    intro h0
    by_cases h2 : n < 2
    · have : n = 1 := by omega
      subst this; rw [rad_one]; decide
    · have hn : 2 ≤ n := by omega
      have hp2 := lf_two_le hn
      have hp := lf_prime hn
      have hr0 := rs_pos hp2 h0
      have hlt := rs_lt hp2 h0 (lf_dvd hn)
      have hnd := not_dvd_rs hp2 h0
      have hi := ih _ hlt hr0
      rw [sqf_iff (rad_pos h0), rad_cons hn]
      rw [sqf_iff (rad_pos hr0)] at hi
      have hrd := rad_dvd hr0
      generalize rs (lf n) n = m at *
      generalize lf n = p at *
      intro q hq hd
      by_cases hqp : q = p
      · subst hqp
        have h3 : q ∣ rad m := Nat.dvd_of_mul_dvd_mul_left hq.pos hd
        exact hnd (Nat.dvd_trans h3 hrd)
      · have hc : Nat.Coprime (q * q) p := Nat.Coprime.mul_left (hq.coprime hp hqp) (hq.coprime hp hqp)
        exact hi q hq (hc.dvd_of_dvd_mul_left hd)
theorem sqf_part {n r : Nat} (h0 : 0 < n) (hr : IsSqp n r) : sqf (n / (r * r)) = true := by
  obtain ⟨q, hq⟩ := hr.1
  have hrr : 0 < r * r := Nat.pos_of_ne_zero fun h => by rw [h] at hq; omega
  have hq0 : 0 < q := Nat.pos_of_ne_zero fun h => by subst h; omega
  rw [hq, Nat.mul_div_cancel_left _ hrr, sqf_iff hq0]
  intro p hp hd
  have h1 : (p * r) * (p * r) ∣ n := by
    rw [hq, show p * r * (p * r) = r * r * (p * p) by simp only [Nat.mul_comm, Nat.mul_left_comm]]
    exact Nat.mul_dvd_mul_left _ hd
  have h2 := hr.2 _ h1
  have hr0 : 0 < r := Nat.pos_of_mul_pos_left hrr
  have h3 := Nat.le_of_dvd hr0 h2
  have h4 := Nat.mul_le_mul_right r hp.two_le
  omega
theorem kept_free {n : Nat} (h : sqf (n + 1) = true) : kept notFree (n + 1) = kept notFree n ++ [((n + 1 : Nat) : Int)] := by
  have hn : notFree (n + 1) = false := by unfold notFree; rw [h]; rfl
  simp only [kept, hn, Bool.false_eq_true, if_false]
theorem kept_not {n : Nat} (h : ¬ sqf (n + 1) = true) : kept notFree (n + 1) = kept notFree n := by
  have hn : notFree (n + 1) = true := by unfold notFree; rw [Bool.eq_false_iff.2 h]; rfl
  simp only [kept, hn, if_true]
theorem kept_freeC : ∀ n, (kept notFree n).length = freeC n
  | 0 => rfl
  | n + 1 => by
    by_cases h : sqf (n + 1) = true
    · rw [kept_free h, List.length_append, kept_freeC n]
      simp only [freeC, if_pos h]
      rfl
    · rw [kept_not h, kept_freeC n]
      simp only [freeC, if_neg h]
      rfl
/-- The square-free number of rank (how many there are up to n) is the next one behind n. -/
theorem nth_next : ∀ n, freeC n ≤ 301 → n < nth (freeC n) ∧ ∀ k, n < k → k < nth (freeC n) → sqf k = false
  | 0, _ => ⟨by decide, fun k h1 h2 => by
      have : nth (freeC 0) = 1 := rfl
      omega⟩
  | n + 1, h => by
    have hle : freeC n ≤ freeC (n + 1) := by simp only [freeC]; omega
    obtain ⟨i1, i2⟩ := nth_next n (by omega)
    have hs := nth_sqf (freeC n) (by omega)
    by_cases hf : sqf (n + 1) = true
    · have e : freeC (n + 1) = freeC n + 1 := by simp only [freeC, if_pos hf]
      have e2 : nth (freeC n) = n + 1 := by
        apply Decidable.byContradiction
        intro hne
        have := i2 (n + 1) (by omega) (by omega)
        rw [hf] at this
        exact absurd this (by decide)
      have hb := nth_le (freeC n) (by omega)
      obtain ⟨_, n2, _, n4⟩ := nx_spec (n := n + 1) (by rw [← e2]; omega)
      rw [e]
      simp only [nth]
      rw [e2]
      exact ⟨n2, n4⟩
    · have e : freeC (n + 1) = freeC n := by simp only [freeC, if_neg hf]; rfl
      have hne : nth (freeC n) ≠ n + 1 := fun h => hf (h ▸ hs)
      rw [e]
      exact ⟨by omega, fun k h1 h2 => i2 k (by omega) h2⟩
theorem kept_nth : ∀ (n i : Nat), i < freeC n → i ≤ 300 → rd (kept notFree n) (i : Int) = (nth i : Int)
  | 0, i, h, _ => by simp [freeC] at h
  | n + 1, i, h, h3 => by
    have hl := kept_freeC n
    by_cases hf : sqf (n + 1) = true
    · have e : freeC (n + 1) = freeC n + 1 := by simp only [freeC, if_pos hf]
      rw [kept_free hf]
      by_cases hi : i < freeC n
      · rw [← kept_nth n i hi h3]
        unfold rd
        rw [Int.toNat_natCast, List.getD_eq_getElem?_getD, List.getD_eq_getElem?_getD, List.getElem?_append_left (by omega)]
      · have hie : i = freeC n := by omega
        subst hie
        have e2 : nth (freeC n) = n + 1 := by
          obtain ⟨i1, i2⟩ := nth_next n (by omega)
          apply Decidable.byContradiction
          intro hne
          have := i2 (n + 1) (by omega) (by omega)
          rw [hf] at this
          exact absurd this (by decide)
        rw [e2, ← hl]
        exact rd_mid_ (kept notFree n) _ []
    · have e : freeC (n + 1) = freeC n := by simp only [freeC, if_neg hf]; rfl
      rw [kept_not hf]
      exact kept_nth n i (by omega) h3
theorem lsq_spec : ∀ n, (lsq n).2.2 ≤ n ∧ (∀ k, n - (lsq n).2.2 < k → k ≤ n → sqf k = false) ∧ (0 < (lsq n).1 → 1 ≤ (lsq n).2.1 ∧ (lsq n).2.1 + (lsq n).1 ≤ n + 1 ∧ ∀ k, k < (lsq n).1 → sqf ((lsq n).2.1 + k) = false)
  | 0 => ⟨Nat.le_refl 0, fun k h1 h2 => by omega, fun h => absurd h (by decide)⟩
  | n + 1 => by
    obtain ⟨h1, h2, h3⟩ := lsq_spec n
    generalize hb : lsq n = L at *
    obtain ⟨b, f, r⟩ := L
    simp only at h1 h2 h3
    by_cases hf : sqf (n + 1) = true
    · have e : lsq (n + 1) = (b, f, 0) := by simp only [lsq, hb, if_pos hf]
      rw [e]
      exact ⟨Nat.zero_le _, fun k a b => by simp only at a; omega, fun h => ⟨(h3 h).1, by have := (h3 h).2.1; simp only; omega, (h3 h).2.2⟩⟩
    · have hrun : ∀ k, n + 1 - (r + 1) < k → k ≤ n + 1 → sqf k = false := fun k a b => by
        by_cases hk : k = n + 1
        · subst hk; simpa using hf
        · exact h2 k (by omega) (by omega)
      by_cases hg : r + 1 > b
      · have e : lsq (n + 1) = (r + 1, n + 1 - (r + 1) + 1, r + 1) := by simp only [lsq, hb, if_neg hf, if_pos hg]
        rw [e]
        exact ⟨by simp only; omega, hrun, fun _ => ⟨by simp only; omega, by simp only; omega, fun k hk => (show sqf (n + 1 - (r + 1) + 1 + k) = false from hrun _ (by omega) (by have : k < r + 1 := hk; omega))⟩⟩
      · have e : lsq (n + 1) = (b, f, r + 1) := by simp only [lsq, hb, if_neg hf, if_neg hg]
        rw [e]
        exact ⟨by simp only; omega, hrun, fun h => ⟨(h3 h).1, by have := (h3 h).2.1; simp only; omega, (h3 h).2.2⟩⟩
theorem qf_free (n m : Nat) (h : n ≤ m) : sumF (qf n) n = (freeC n : Int) := count_free n n (Nat.le_refl n)
/-! a cursor over bytes: it never fails -/
def Bytes (l : List Int) : Prop := ∀ x ∈ l, (0 : Int) ≤ x ∧ x ≤ 255
theorem bytes_of {l : List Int} (h : ∀ x ∈ l, (Lit.int .u8 x).wf = true) : Bytes l := by
  intro x hx
  have := h x hx
  simpa [Lit.wf, IntKind.min, IntKind.max, IntKind.signed, IntKind.bits] using this
theorem and255 (x : Int) : 0 ≤ Go.bits .and .u64 x 255 ∧ Go.bits .and .u64 x 255 ≤ 255 := by
  have hb : (BitVec.ofInt 64 x &&& BitVec.ofInt 64 255).toNat ≤ 255 := by
    rw [BitVec.toNat_and]
    have : (BitVec.ofInt 64 255).toNat = 255 := by decide
    rw [this]
    exact Nat.and_le_right
  have e : Go.bits .and .u64 x 255 = IntKind.u64.wrap ((BitVec.ofInt 64 x &&& BitVec.ofInt 64 255).toNat : Int) := rfl
  rw [e]
  generalize (BitVec.ofInt 64 x &&& BitVec.ofInt 64 255).toNat = m at *
  have e2 : IntKind.u64.wrap (m : Int) = m := by
    have : IntKind.u64.wrap (m : Int) = (m : Int) % 18446744073709551616 := by simp [IntKind.wrap, IntKind.bits, IntKind.signed]
    rw [this]; omega
  rw [e2]; omega
theorem rd_byte {l : List Int} (h : Bytes l) (i : Int) : 0 ≤ rd l i ∧ rd l i ≤ 255 := by
  unfold rd
  rw [List.getD_eq_getElem?_getD]
  cases hg : l[i.toNat]? with
  | none => simp
  | some x => exact h x (List.mem_of_getElem? hg)
theorem wr_byte {x : Int} (h : 0 ≤ x ∧ x ≤ 255) : wrap64 x = x := wri (by omega) (by omega)
/-- The next byte, or what stands for one. -/
theorem next_ok {l : List Int} (h : Bytes l) (a s : Int) (h0 : 0 ≤ a) (h1 : a ≤ 1000000000) : ∃ v s', spec_l1Cur_next.f l a s = some (v, a + 1, s') ∧ 0 ≤ v ∧ v ≤ 255 := by
  have hr := rd_byte h a
  have ea : wrap64 (a + 1) = a + 1 := wri (by omega) (by omega)
  unfold spec_l1Cur_next.f
  rw [ea, if_pos h0]
  by_cases c1 : a < (l.length : Int)
  · rw [if_pos c1]
    by_cases c2 : a + 1 ≤ (l.length : Int)
    · rw [if_pos c2]; exact ⟨_, _, rfl, by rw [wr_byte hr]; exact hr⟩
    · rw [if_neg c2]; exact ⟨_, _, rfl, by rw [wr_byte (and255 _)]; exact and255 _⟩
  · rw [if_neg c1]
    by_cases c2 : a + 1 ≤ (l.length : Int)
    · rw [if_pos c2]; exact ⟨_, _, rfl, by decide⟩
    · rw [if_neg c2]; exact ⟨_, _, rfl, by rw [wr_byte (and255 _)]; exact and255 _⟩
theorem pick_ok {l : List Int} (h : Bytes l) (a s n : Int) (h0 : 0 ≤ a) (h1 : a ≤ 900000000) (hn : n ≤ 1000000) : ∃ v a' s', spec_l1Cur_pick.f l a s n = some (v, a', s') ∧ a ≤ a' ∧ a' ≤ a + 2 ∧ 0 ≤ v ∧ (1 ≤ n → v < n) := by
  unfold spec_l1Cur_pick.f
  by_cases c : n ≤ 1
  · rw [if_pos c]; exact ⟨0, a, s, rfl, Int.le_refl _, by omega, Int.le_refl _, fun _ => by omega⟩
  · rw [if_neg c]
    obtain ⟨v, s1, e1, v0, v1⟩ := next_ok h a s h0 (by omega)
    rw [e1]
    simp only [Option.bind_some]
    have hm : ∀ z : Int, 0 ≤ z → 0 ≤ Int.tmod z n ∧ Int.tmod z n < n := fun z hz => ⟨Int.tmod_nonneg _ hz, Int.tmod_lt_of_pos _ (by omega)⟩
    by_cases c2 : n > 200
    · rw [if_pos c2]
      obtain ⟨u, s2, e2, u0, u1⟩ := next_ok h (a + 1) s1 (by omega) (by omega)
      rw [e2]
      simp only [Option.bind_some]
      rw [if_neg (by omega)]
      have e3 : wrap64 (v * 256) = v * 256 := wri (by omega) (by omega)
      have e4 : wrap64 (v * 256 + u) = v * 256 + u := wri (by omega) (by omega)
      rw [e3, e4]
      exact ⟨_, _, _, rfl, by omega, by omega, (hm _ (by omega)).1, fun _ => (hm _ (by omega)).2⟩
    · rw [if_neg c2, if_neg (by omega)]
      exact ⟨_, _, _, rfl, by omega, by omega, (hm _ v0).1, fun _ => (hm _ v0).2⟩
theorem one_ok {l : List Int} (h : Bytes l) (a s n : Int) (h0 : 0 ≤ a) (h1 : a ≤ 900000000) (hn : n ≤ 1000000) : ∃ v a' s', spec_l1Cur_one.f l a s n = some (v, a', s') ∧ a ≤ a' ∧ a' ≤ a + 2 := by
  obtain ⟨v, a', s', e, k1, k2, _, _⟩ := pick_ok h a s n h0 h1 hn
  unfold spec_l1Cur_one.f
  rw [e]
  exact ⟨_, _, _, rfl, k1, k2⟩
theorem among_ok {l : List Int} (h : Bytes l) (a s : Int) (m : List Int) (h0 : 0 ≤ a) (h1 : a ≤ 900000000) (hm : 1 ≤ m.length) (hn : m.length ≤ 1000000) : ∃ v a' s', spec_l1Cur_among.f l a s m = some (v, a', s') ∧ a ≤ a' ∧ a' ≤ a + 2 := by
  obtain ⟨v, a', s', e, k1, k2, v0, v1⟩ := pick_ok h a s (m.length : Int) h0 h1 (by omega)
  unfold spec_l1Cur_among.f
  rw [e]
  simp only [Option.bind_some]
  rw [if_pos v0, if_pos (v1 (by omega))]
  exact ⟨_, _, _, rfl, k1, k2⟩
theorem upTo_ok {l : List Int} (h : Bytes l) : ∃ v a s, spec_l1Cur_upTo.f l 0 0 = some (v, a, s) := by
  obtain ⟨b, a, s, e, k1, k2⟩ := one_ok h 0 0 12 (by decide) (by decide) (by decide)
  unfold spec_l1Cur_upTo.f
  rw [e]
  simp only [Option.bind_some]
  by_cases c : b = true
  · rw [if_pos c]
    obtain ⟨v, a2, s2, e2, _, _⟩ := among_ok h a s [(-1), 0, 600, 601, 4611686018427387904] (by omega) (by omega) (by decide) (by decide)
    rw [e2]
    exact ⟨_, _, _, rfl⟩
  · rw [if_neg c]
    obtain ⟨v, a2, s2, e2, _, _⟩ := pick_ok h a s 120 (by omega) (by omega) (by decide)
    rw [e2]
    exact ⟨_, _, _, rfl⟩
theorem freeUpTo_ok {l : List Int} (h : Bytes l) : ∃ m, spec_DrawSquareFreeUpTo.f l = some m := by
  obtain ⟨v, a, s, e⟩ := upTo_ok h
  unfold spec_DrawSquareFreeUpTo.f spec_DrawSumOfSigns.f
  rw [e]
  exact ⟨_, rfl⟩
theorem freeRank_ok {l : List Int} (h : Bytes l) : ∃ m, spec_DrawSquareFreeOfRank.f l = some m := by
  obtain ⟨b, a, s, e, k1, k2⟩ := one_ok h 0 0 12 (by decide) (by decide) (by decide)
  unfold spec_DrawSquareFreeOfRank.f
  rw [e]
  simp only [Option.bind_some]
  by_cases c : b = true
  · rw [if_pos c]
    obtain ⟨v, a2, s2, e2, _, _⟩ := among_ok h a s [(-1), 0, 300, 301] (by omega) (by omega) (by decide) (by decide)
    rw [e2]
    exact ⟨_, rfl⟩
  · rw [if_neg c]
    obtain ⟨v, a2, s2, e2, _, _⟩ := pick_ok h a s 80 (by omega) (by omega) (by decide)
    rw [e2]
    exact ⟨_, rfl⟩
theorem asked_ok {l : List Int} (h : Bytes l) : ∃ a, spec_DrawIsSquareFree.f l = some a := by
  obtain ⟨b, a, s, e, k1, k2⟩ := one_ok h 0 0 12 (by decide) (by decide) (by decide)
  unfold spec_DrawIsSquareFree.f spec_l1Cur_asked.f
  rw [e]
  simp only [Option.bind_some]
  by_cases c : b = true
  · rw [if_pos c]
    obtain ⟨v, a2, s2, e2, _, _⟩ := among_ok h a s [(-1), 0, 1, 99999, 100000, 100001, 4611686018427387904] (by omega) (by omega) (by decide) (by decide)
    rw [e2]
    exact ⟨_, rfl⟩
  · rw [if_neg c]
    obtain ⟨b2, a2, s2, e2, k3, k4⟩ := one_ok h a s 3 (by omega) (by omega) (by decide)
    rw [e2]
    simp only [Option.bind_some]
    by_cases c2 : b2 = true
    · rw [if_pos c2]
      obtain ⟨v, a3, s3, e3, _, _⟩ := pick_ok h a2 s2 3000 (by omega) (by omega) (by decide)
      rw [e3]
      exact ⟨_, rfl⟩
    · rw [if_neg c2]
      obtain ⟨v, a3, s3, e3, _, _⟩ := pick_ok h a2 s2 130 (by omega) (by omega) (by decide)
      rw [e3]
      exact ⟨_, rfl⟩
theorem law_l2 (n : Nat) (hn : n ≤ 600) : ∀ (j i : Nat), freeC n ≤ i + j → i ≤ freeC n → Ev (fun k => laws_FnSquareFree.l2 k (kept notFree n) ((kept notFree n).length : Int) (i : Int)) true := by
  have hl := kept_freeC n
  have hfn := freeC_le n
  have hend : ∀ i, i = freeC n → Ev (fun k => laws_FnSquareFree.l2 k (kept notFree n) ((kept notFree n).length : Int) (i : Int)) true := by
    intro i hi
    refine Ev.done fun k => ?_
    simp only [laws_FnSquareFree.l2]
    rw [if_neg (by omega)]
  intro j
  induction j with
  | zero => intro i h1 h2; exact hend i (by omega)
  | succ j ih =>
    intro i h1 h2
    by_cases hi : i = freeC n
    · exact hend i hi
    · by_cases h3 : i ≤ 300
      · have key := ih (i + 1) (by omega) (by omega)
        have hr := kept_nth n i (by omega) h3
        have c1 : (i : Int) < ((kept notFree n).length : Int) := by rw [hl]; omega
        have e1 : wrap64 ((i : Int) + 1) = ((i + 1 : Nat) : Int) := wr_succ (by omega)
        refine Ev.step (f := fun k => (impl_SquareFreeOfRank.f k (i : Int)).bind fun bt => if bt.2 = true then (if bt.1 = (nth i : Int) then laws_FnSquareFree.l2 k (kept notFree n) ((kept notFree n).length : Int) ((i + 1 : Nat) : Int) else some false) else some false) (fun k => ?_) ((impl_SquareFreeOfRank_ev i h3).bind ?_)
        · simp only [laws_FnSquareFree.l2]
          rw [if_pos c1, if_pos (Int.natCast_nonneg _), if_pos c1, if_neg (by omega), hr, e1]
        · simp only [if_true]; exact key
      · refine Ev.done fun k => ?_
        have c1 : (i : Int) < ((kept notFree n).length : Int) := by rw [hl]; omega
        simp only [laws_FnSquareFree.l2]
        rw [if_pos c1, if_pos (Int.natCast_nonneg _), if_pos c1, if_pos (by omega)]
theorem law_j10 (n : Nat) (hn : n ≤ 600) : Ev (fun k => laws_FnSquareFree.j10 k (kept notFree n)) true := by
  refine Ev.step (fun k => ?_) (law_l2 n hn (freeC n) 0 (by omega) (by omega))
  simp only [laws_FnSquareFree.j10]
  rfl
theorem law_count (n : Nat) (hn : n ≤ 600) (run first : Int) (S : Int) (hS : 0 < n → S = sumF sgn n) (i : Int) (hi : ¬ i < run) : Ev (fun k => laws_FnSquareFree.l1 k (n : Int) (kept notFree n) run first S i) true := by
  have hl := kept_freeC n
  have hfn := freeC_le n
  have hj := law_j10 n hn
  by_cases h0 : 0 < n
  · obtain ⟨c, hc1, hc2⟩ := signs_count n
    rw [← hS h0] at hc1
    have hev := impl_CountSquareFree_ev n h0 (by omega)
    rw [qf_free n n (Nat.le_refl n)] at hev
    have e0 : ((freeC n : Nat) : Int) = ((kept notFree n).length : Int) := by rw [hl]
    have e1 : wrap64 (-S) = -S := wri (by omega) (by omega)
    have e2 : Int.tmod (wrap64 (((kept notFree n).length : Int) - S)) 2 = 0 := by
      rw [hl, wri (by omega) (by omega), show ((freeC n : Nat) : Int) - S = ((2 * c : Nat) : Int) by omega]
      show ((2 * c % 2 : Nat) : Int) = 0
      omega
    refine Ev.step (f := ?f0) (fun k => ?a0) ?b0
    case a0 => simp only [laws_FnSquareFree.l1]; rw [if_neg hi, if_pos (show (n : Int) > 0 by omega)]
    refine hev.bind ?_
    simp only [if_true, e0, e1, e2]
    simp only [if_neg (show ¬ S > ((kept notFree n).length : Int) by omega), if_neg (show ¬ -S > ((kept notFree n).length : Int) by omega)]
    exact hj
  · refine Ev.step (fun k => ?_) hj
    simp only [laws_FnSquareFree.l1]
    rw [if_neg hi, if_neg (show ¬ (n : Int) > 0 by omega)]
theorem law_l1 (n : Nat) (hn : n ≤ 600) (S : Int) (hS : 0 < n → S = sumF sgn n) : ∀ (j i : Nat), (lsq n).1 ≤ i + j → i ≤ (lsq n).1 → Ev (fun k => laws_FnSquareFree.l1 k (n : Int) (kept notFree n) ((lsq n).1 : Int) ((lsq n).2.1 : Int) S (i : Int)) true := by
  obtain ⟨_, _, h3⟩ := lsq_spec n
  have hbd := (lsq_bd n).1
  generalize hb : (lsq n).1 = b at *
  generalize hf : (lsq n).2.1 = f at *
  intro j
  induction j with
  | zero => intro i h1 h2; exact law_count n hn b f S hS i (by omega)
  | succ j ih =>
    intro i h1 h2
    by_cases hi : i = b
    · exact law_count n hn b f S hS i (by omega)
    · obtain ⟨g1, g2, g3⟩ := h3 (by omega)
      have key := ih (i + 1) (by omega) (by omega)
      have hno := g3 i (by omega)
      have e1 : wrap64 ((i : Int) + 1) = ((i + 1 : Nat) : Int) := wr_succ (by omega)
      have e2 : wrap64 ((f : Int) + (i : Int)) = ((f + i : Nat) : Int) := by rw [wri (by omega) (by omega)]; omega
      have hmem : decide (((f + i : Nat) : Int) ∈ kept notFree n) = false := by
        apply decide_eq_false
        rw [kept_mem]
        rintro ⟨m, hm1, hm2, hm3⟩
        unfold notFree at hm3
        rw [← hm1, hno] at hm3
        exact absurd hm3 (by decide)
      have hh := laws_tHas_ev (kept notFree n) ((f + i : Nat) : Int) (by have := kept_freeC n; have := freeC_le n; omega)
      rw [hmem] at hh
      refine Ev.step (f := ?f0) (fun k => ?a0) ?b0
      case a0 => simp only [laws_FnSquareFree.l1]; rw [if_pos (show (i : Int) < (b : Int) by omega), e1, e2]
      refine hh.bind ?_
      simp only [Bool.false_eq_true, if_false]
      exact key
theorem law_j8 (n : Nat) (hn : n ≤ 600) (S : Int) (hS : 0 < n → S = sumF sgn n) : Ev (fun k => laws_FnSquareFree.j8 k (n : Int) (kept notFree n) ((lsq n).1 : Int) ((lsq n).2.1 : Int) S false) true := by
  refine Ev.step (fun k => ?_) (law_l1 n hn S hS (lsq n).1 0 (by omega) (by omega))
  simp only [laws_FnSquareFree.j8, Bool.false_eq_true, if_false]
  rfl
theorem law_j7 (n : Nat) (hn : n ≤ 600) (S : Int) (hS : 0 < n → S = sumF sgn n) : Ev (fun k => laws_FnSquareFree.j7 k (n : Int) (kept notFree n) true ((lsq n).1 : Int) ((lsq n).2.1 : Int) S false) true := by
  have hj := law_j8 n hn S hS
  have hr := laws_tRises_ev 1 (n : Int) (kept notFree n) (by have := kept_freeC n; have := freeC_le n; omega) (kept_sorted notFree n) (kept_bd notFree n)
  obtain ⟨_, _, h3⟩ := lsq_spec n
  have hbd := (lsq_bd n).1
  generalize (lsq n).1 = b at *
  generalize (lsq n).2.1 = f at *
  refine Ev.step (f := ?f0) (fun k => ?a0) ?b0
  case a0 => simp only [laws_FnSquareFree.j7, Bool.false_eq_true, if_false, if_true]; exact rfl
  refine hr.bind ?_
  simp only [if_true]
  by_cases hb : (b : Int) > 0
  · obtain ⟨g1, g2, _⟩ := h3 (by omega)
    have e1 : wrap64 ((f : Int) + b) = ((f + b : Nat) : Int) := by rw [wri (by omega) (by omega)]; omega
    have e2 : wrap64 (((f + b : Nat) : Int) - 1) = ((f + b - 1 : Nat) : Int) := by rw [wri (by omega) (by omega)]; omega
    simp only [if_pos hb, if_neg (show ¬ (f : Int) < 1 by omega), e1, e2, decide_eq_false (show ¬ ((f + b - 1 : Nat) : Int) > (n : Int) by omega)]
    exact hj
  · simp only [if_neg hb]
    exact hj
theorem rank_both (r : Int) : ∃ (v : Int) (b : Bool), Ev (fun k => impl_SquareFreeOfRank.f k r) (v, b) ∧ Ev (fun k => spec_SquareFreeOfRank.f k r) (v, b) := by
  by_cases h : 0 ≤ r ∧ r ≤ 300
  · obtain ⟨n, rfl⟩ := Int.eq_ofNat_of_zero_le h.1
    exact ⟨_, _, impl_SquareFreeOfRank_ev n (by omega), spec_SquareFreeOfRank_ev n (by omega)⟩
  · exact ⟨_, _, impl_SquareFreeOfRank_no r h, spec_SquareFreeOfRank_no r h⟩
theorem spec_most_no (m : Int) (h : ¬ (0 ≤ m ∧ m ≤ 600)) : ∀ k, impl_SquareFreeUpTo.f k m = some ([], false) ∧ spec_SquareFreeUpTo.f k m = some ([], false) ∧ impl_LongestSquareful.f k m = some (0, 0, false) ∧ spec_LongestSquareful.f k m = some (0, 0, false) := by
  intro k
  unfold impl_SquareFreeUpTo.f spec_SquareFreeUpTo.f impl_LongestSquareful.f spec_LongestSquareful.f
  rw [impl_isMost_eq, spec_sqMost_eq, decide_eq_false h]
  exact ⟨rfl, rfl, rfl, rfl⟩
theorem law_j6 (z : List Int) (hz : Bytes z) : Ev (fun k => laws_FnSquareFree.j6 k z) true := by
  obtain ⟨m, d1⟩ := freeUpTo_ok hz
  obtain ⟨r, d2⟩ := freeRank_ok hz
  obtain ⟨v, b, q1, q2⟩ := rank_both r
  by_cases h : 0 ≤ m ∧ m ≤ 600
  · obtain ⟨n, rfl⟩ := Int.eq_ofNat_of_zero_le h.1
    have hn : n ≤ 600 := by omega
    have hs : ∃ S, (0 < n → S = sumF sgn n) ∧ Ev (fun k => impl_SumOfSigns.f k (n : Int)) (S, decide ((n : Int) > 0)) ∧ Ev (fun k => spec_SumOfSigns.f k (n : Int)) (S, decide ((n : Int) > 0)) := by
      by_cases h0 : 0 < n
      · rw [decide_eq_true (show (n : Int) > 0 by omega)]
        exact ⟨_, fun _ => rfl, impl_SumOfSigns_ev n h0 hn, spec_SumOfSigns_ev n h0 hn⟩
      · rw [decide_eq_false (show ¬ (n : Int) > 0 by omega)]
        exact ⟨0, fun h => absurd h h0, impl_SumOfSigns_no n (by omega), spec_SumOfSigns_no n (by omega)⟩
    obtain ⟨S, hS, s1, s2⟩ := hs
    have hj := law_j7 n hn S hS
    have ht := laws_tSame_self (kept notFree n) (by have := kept_freeC n; have := freeC_le n; omega)
    refine Ev.step (f := ?f0) (fun k => ?a0) ?b0
    case a0 => simp only [laws_FnSquareFree.j6, d1, d2, Option.bind_some]; exact rfl
    refine (impl_SquareFreeUpTo_ev n hn).bind ((spec_SquareFreeUpTo_ev n hn).bind ((impl_LongestSquareful_ev n hn).bind ((spec_LongestSquareful_ev n hn).bind (s1.bind (s2.bind (q1.bind (q2.bind ?_)))))))
    simp only [bne_self_eq_false, Bool.false_eq_true, if_false]
    refine ht.bind ?_
    simp only [if_true]
    exact hj
  · have hno := spec_most_no m h
    have hn6 : ¬ (1 ≤ m ∧ m ≤ 600) := by omega
    have hj : Ev (fun k => laws_FnSquareFree.j7 k m [] false 0 0 0 false) true := Ev.done fun k => by
      simp only [laws_FnSquareFree.j7, Bool.false_eq_true, if_false]
    have ht := laws_tSame_self [] (by simp)
    refine Ev.step (f := ?f1) (fun k => ?a1) ?b1
    case a1 =>
      obtain ⟨n1, n2, n3, n4⟩ := hno k
      simp only [laws_FnSquareFree.j6, d1, d2, Option.bind_some]
      rw [n1, n2, n3, n4]
    simp only [Option.bind_some]
    refine (impl_SumOfSigns_no m hn6).bind ((spec_SumOfSigns_no m hn6).bind (q1.bind (q2.bind ?_)))
    simp only [bne_self_eq_false, Bool.false_eq_true, if_false]
    refine ht.bind ?_
    simp only [if_true]
    exact hj
theorem law_l0 (n : Nat) (h0 : 0 < n) (hn : n ≤ 100000) (z : List Int) (hz : Bytes z) : ∀ (j i : Nat), 7 ≤ i + j → 1 ≤ i → Ev (fun k => laws_FnSquareFree.l0 k z (n : Int) (sgn n) (i : Int)) true := by
  have hend : ∀ i : Nat, 7 ≤ i → Ev (fun k => laws_FnSquareFree.l0 k z (n : Int) (sgn n) (i : Int)) true := by
    intro i hi
    refine Ev.step (fun k => ?_) (law_j6 z hz)
    simp only [laws_FnSquareFree.l0]
    rw [if_neg (by omega)]
  intro j
  induction j with
  | zero => intro i h1 _; exact hend i (by omega)
  | succ j ih =>
    intro i h1 hi1
    by_cases hi : 7 ≤ i
    · exact hend i hi
    · have key := ih (i + 1) (by omega) (by omega)
      have e1 : wrap64 ((i : Int) + 1) = ((i + 1 : Nat) : Int) := wr_succ (by omega)
      have hskip : Ev (fun k => laws_FnSquareFree.j5 k z (n : Int) (sgn n) (i : Int) true) true := by
        refine Ev.step (fun k => ?_) key
        simp only [laws_FnSquareFree.j5, if_true]
        rw [e1]
      have hg : Ev (fun k => laws_tCommon.f k (n : Int) (i : Int)) ((Nat.gcd n i : Nat) : Int) := laws_tCommon_ev i n
      refine Ev.step (f := ?f0) (fun k => ?a0) ?b0
      case a0 => simp only [laws_FnSquareFree.l0]; rw [if_pos (show (i : Int) ≤ 6 by omega)]
      refine hg.bind ?_
      by_cases hc : Nat.gcd n i = 1
      · simp only [hc, show (((1 : Nat) : Int) = 1) from rfl, if_true, if_neg (show ¬ (i : Int) = 0 by omega)]
        have e2 : wrap64 (Int.tdiv 100000 (i : Int)) = ((100000 / i : Nat) : Int) := wr_tdiv (a := 100000) (b := i) (by decide)
        rw [e2]
        by_cases hb : (n : Int) > ((100000 / i : Nat) : Int)
        · rw [decide_eq_true hb]; exact hskip
        · rw [decide_eq_false hb]
          have hni : n * i ≤ 100000 := Nat.le_trans (Nat.mul_le_mul_right i (show n ≤ 100000 / i by omega)) (Nat.div_mul_le_self _ _)
          have e3 : wrap64 ((n : Int) * (i : Int)) = ((n * i : Nat) : Int) := wr_mul (by omega)
          have e4 : wrap64 (sgn i * sgn n) = sgn (n * i) := by
            rw [sgn_small n i h0 hi1 (by omega) hc]
            have := sgn_bd (n * i)
            exact wri (by omega) (by omega)
          refine Ev.step (f := ?f1) (fun k => ?a1) ?b1
          case a1 => simp only [laws_FnSquareFree.j5, Bool.false_eq_true, if_false]; rw [e3, e1]
          refine (impl_FreeSign_ev i (by omega) (by omega)).bind ((impl_FreeSign_ev (n * i) (Nat.mul_pos h0 (by omega)) hni).bind ?_)
          simp only [if_true, e4]
          exact key
      · simp only [if_neg (show ¬ ((Nat.gcd n i : Nat) : Int) = 1 by omega)]
        exact hskip
theorem law_j3 (n : Nat) (h0 : 0 < n) (hn : n ≤ 100000) (z : List Int) (hz : Bytes z) : Ev (fun k => laws_FnSquareFree.j3 k z (n : Int) (sgn n)) true := by
  refine Ev.step (fun k => ?_) (law_l0 n h0 hn z hz 6 1 (by omega) (by omega))
  simp only [laws_FnSquareFree.j3]
  rfl
theorem law_j2 (n : Nat) (h0 : 0 < n) (hn : n ≤ 100000) (z : List Int) (hz : Bytes z) : Ev (fun k => laws_FnSquareFree.j2 k z (n : Int) (sgn n) (sumF (qf n) n) (nx n : Int) false) true := by
  have hj := law_j3 n h0 hn z hz
  obtain ⟨x1, x2, x3, x4⟩ := nx_spec (n := n) (by omega)
  by_cases hx : (nx n : Int) ≤ 100000
  · have hc := impl_CountSquareFree_ev (nx n) (by omega) (by omega)
    have hf := impl_IsSquareFree_ev (nx n) (by omega) (by omega)
    have hle := freeC_le n
    rw [qf_free (nx n) (nx n) (Nat.le_refl _), freeC_next x2 x1 x4] at hc
    rw [x1] at hf
    have e1 : wrap64 (sumF (qf n) n + 1) = ((freeC n + 1 : Nat) : Int) := by rw [qf_free n n (Nat.le_refl _)]; exact wr_succ (by omega)
    refine Ev.step (f := ?f0) (fun k => ?a0) ?b0
    case a0 => simp only [laws_FnSquareFree.j2, Bool.false_eq_true, if_false]; rw [if_pos hx, e1]
    refine hf.bind (hc.bind ?_)
    simp only [if_true]
    exact hj
  · refine Ev.step (fun k => ?_) hj
    simp only [laws_FnSquareFree.j2, Bool.false_eq_true, if_false]
    rw [if_neg hx]
theorem law_j1 (n p : Nat) (h0 : 0 < n) (hn : n ≤ 100000) (hp : IsSqp n p) (z : List Int) (hz : Bytes z) : Ev (fun k => laws_FnSquareFree.j1 k z (n : Int) (p : Int) (rad n : Int) (sgn n) (sumF (qf n) n) (nx n : Int) false) true := by
  have hj := law_j2 n h0 hn z hz
  have hle := Nat.le_of_dvd h0 hp.1
  have hpos : 0 < p * p := Nat.pos_of_dvd_of_pos hp.1 h0
  have hq0 : 0 < n / (p * p) := Nat.div_pos hle hpos
  have hqn : n / (p * p) ≤ n := Nat.div_le_self _ _
  have e1 : wrap64 ((p : Int) * (p : Int)) = ((p * p : Nat) : Int) := wr_mul (by omega)
  have e2 : wrap64 (Int.tdiv (n : Int) ((p * p : Nat) : Int)) = ((n / (p * p) : Nat) : Int) := wr_tdiv (by omega)
  have f1 := impl_IsSquareFree_ev (n / (p * p)) hq0 (by omega)
  rw [sqf_part h0 hp] at f1
  have f2 := impl_IsSquareFree_ev (rad n) (rad_pos h0) (by have := rad_le h0; omega)
  rw [sqf_rad n h0] at f2
  refine Ev.step (f := ?f0) (fun k => ?a0) ?b0
  case a0 => simp only [laws_FnSquareFree.j1, Bool.false_eq_true, if_false]; rw [e1, if_neg (show ¬ ((p * p : Nat) : Int) = 0 by omega), e2]
  refine f1.bind (f2.bind ?_)
  simp only [if_true, Bool.not_true]
  exact hj
theorem law_j0 (n p : Nat) (h0 : 0 < n) (hn : n ≤ 100000) (hp : IsSqp n p) (z : List Int) (hz : Bytes z) : Ev (fun k => laws_FnSquareFree.j0 k z (n : Int) (sqf n) true (p : Int) (rad n : Int) (sgn n) (sumF (qf n) n) (nx n : Int) false) true := by
  have hj := law_j1 n p h0 hn hp z hz
  have hle := Nat.le_of_dvd h0 hp.1
  have hpos : 0 < p * p := Nat.pos_of_dvd_of_pos hp.1 h0
  have e1 : wrap64 ((p : Int) * (p : Int)) = ((p * p : Nat) : Int) := wr_mul (by omega)
  have b1 : (sqf n != ((p : Int) == 1)) = false := by
    rw [bne_eq_false_iff_eq, Bool.eq_iff_iff, beq_iff_eq, ← hp.eq_one_iff h0]; omega
  have b2 : (sqf n != ((rad n : Int) == (n : Int))) = false := by
    rw [bne_eq_false_iff_eq, Bool.eq_iff_iff, beq_iff_eq, ← rad_eq_iff h0]; omega
  have b3 : (sqf n != (sgn n != 0)) = false := by
    rw [bne_eq_false_iff_eq, Bool.eq_iff_iff, bne_iff_ne]; exact (sgn_ne n).symm
  have m1 : Int.tmod (n : Int) ((p * p : Nat) : Int) = 0 := by rw [tm, Nat.mod_eq_zero_of_dvd hp.1]; rfl
  have m2 : Int.tmod (n : Int) (rad n : Int) = 0 := by rw [tm, Nat.mod_eq_zero_of_dvd (rad_dvd h0)]; rfl
  have hr0 := rad_pos h0
  have hs := sgn_bd n
  obtain ⟨_, x2, _, _⟩ := nx_spec (n := n) (by omega)
  refine Ev.step (fun k => ?_) hj
  simp only [laws_FnSquareFree.j0, Bool.false_eq_true, if_false, if_true]
  rw [b1, b2, b3, e1]
  simp only [Bool.false_eq_true, if_false]
  rw [if_neg (show ¬ ((p * p : Nat) : Int) = 0 by omega), m1, if_pos rfl, if_neg (show ¬ ((rad n : Nat) : Int) = 0 by omega), m2, if_pos rfl, if_neg (by omega), if_neg (by omega), decide_eq_false (show ¬ (nx n : Int) ≤ (n : Int) by omega)]
theorem law_no (a : Int) (h : ¬ (1 ≤ a ∧ a ≤ 100000)) : ∀ k, impl_IsSquareFree.f k a = some (false, false) ∧ spec_IsSquareFree.f k a = some (false, false) ∧ impl_SquarePart.f k a = some (0, false) ∧ spec_SquarePart.f k a = some (0, false) ∧ impl_KernelOf.f k a = some (0, false) ∧ spec_KernelOf.f k a = some (0, false) ∧
    impl_FreeSign.f k a = some (0, false) ∧ spec_FreeSign.f k a = some (0, false) ∧ impl_CountSquareFree.f k a = some (0, false) ∧ spec_CountSquareFree.f k a = some (0, false) ∧ impl_NextSquareFree.f k a = some (0, false) ∧ spec_NextSquareFree.f k a = some (0, false) := by
  intro k
  unfold impl_IsSquareFree.f spec_IsSquareFree.f impl_SquarePart.f spec_SquarePart.f impl_KernelOf.f spec_KernelOf.f impl_FreeSign.f spec_FreeSign.f impl_CountSquareFree.f spec_CountSquareFree.f impl_NextSquareFree.f spec_NextSquareFree.f
  rw [spec_sqGood_eq, impl_isAsked_eq, decide_eq_false h]
  exact ⟨rfl, rfl, rfl, rfl, rfl, rfl, rfl, rfl, rfl, rfl, rfl, rfl⟩
theorem both_free (a : Int) (z : List Int) (hz : Bytes z) : Ev (fun k => ((impl_IsSquareFree.f k a).bind fun bt225 => ((spec_IsSquareFree.f k a).bind fun bt227 => ((impl_SquarePart.f k a).bind fun bt229 => ((spec_SquarePart.f k a).bind fun bt231 => ((impl_KernelOf.f k a).bind fun bt233 => ((spec_KernelOf.f k a).bind fun bt235 => ((impl_FreeSign.f k a).bind fun bt237 => ((spec_FreeSign.f k a).bind fun bt239 => ((impl_CountSquareFree.f k a).bind fun bt241 => ((spec_CountSquareFree.f k a).bind fun bt243 => ((impl_NextSquareFree.f k a).bind fun bt245 => ((spec_NextSquareFree.f k a).bind fun bt247 => (if (bt225.2 != bt227.2) = true then (laws_FnSquareFree.j0 k z a bt225.1 bt225.2 bt229.1 bt233.1 bt237.1 bt241.1 bt245.1 true) else (if (bt225.1 != bt227.1) = true then (laws_FnSquareFree.j0 k z a bt225.1 bt225.2 bt229.1 bt233.1 bt237.1 bt241.1 bt245.1 true) else (if (bt229.2 != bt231.2) = true then (laws_FnSquareFree.j0 k z a bt225.1 bt225.2 bt229.1 bt233.1 bt237.1 bt241.1 bt245.1 true) else (if bt229.1 = bt231.1 then (if (bt233.2 != bt235.2) = true then (laws_FnSquareFree.j0 k z a bt225.1 bt225.2 bt229.1 bt233.1 bt237.1 bt241.1 bt245.1 true) else (if bt233.1 = bt235.1 then (if (bt237.2 != bt239.2) = true then (laws_FnSquareFree.j0 k z a bt225.1 bt225.2 bt229.1 bt233.1 bt237.1 bt241.1 bt245.1 true) else (if bt237.1 = bt239.1 then (if (bt241.2 != bt243.2) = true then (laws_FnSquareFree.j0 k z a bt225.1 bt225.2 bt229.1 bt233.1 bt237.1 bt241.1 bt245.1 true) else (if bt241.1 = bt243.1 then (if (bt245.2 != bt247.2) = true then (laws_FnSquareFree.j0 k z a bt225.1 bt225.2 bt229.1 bt233.1 bt237.1 bt241.1 bt245.1 true) else (if bt245.1 = bt247.1 then (if (bt229.2 != bt225.2) = true then (laws_FnSquareFree.j0 k z a bt225.1 bt225.2 bt229.1 bt233.1 bt237.1 bt241.1 bt245.1 true) else (if (bt233.2 != bt225.2) = true then (laws_FnSquareFree.j0 k z a bt225.1 bt225.2 bt229.1 bt233.1 bt237.1 bt241.1 bt245.1 true) else (if (bt237.2 != bt225.2) = true then (laws_FnSquareFree.j0 k z a bt225.1 bt225.2 bt229.1 bt233.1 bt237.1 bt241.1 bt245.1 true) else (if (bt241.2 != bt225.2) = true then (laws_FnSquareFree.j0 k z a bt225.1 bt225.2 bt229.1 bt233.1 bt237.1 bt241.1 bt245.1 true) else (laws_FnSquareFree.j0 k z a bt225.1 bt225.2 bt229.1 bt233.1 bt237.1 bt241.1 bt245.1 (bt245.2 != bt225.2)))))) else (laws_FnSquareFree.j0 k z a bt225.1 bt225.2 bt229.1 bt233.1 bt237.1 bt241.1 bt245.1 true))) else (laws_FnSquareFree.j0 k z a bt225.1 bt225.2 bt229.1 bt233.1 bt237.1 bt241.1 bt245.1 true))) else (laws_FnSquareFree.j0 k z a bt225.1 bt225.2 bt229.1 bt233.1 bt237.1 bt241.1 bt245.1 true))) else (laws_FnSquareFree.j0 k z a bt225.1 bt225.2 bt229.1 bt233.1 bt237.1 bt241.1 bt245.1 true))) else (laws_FnSquareFree.j0 k z a bt225.1 bt225.2 bt229.1 bt233.1 bt237.1 bt241.1 bt245.1 true)))))))))))))))))) true := by
  by_cases h : 1 ≤ a ∧ a ≤ 100000
  · obtain ⟨n, rfl⟩ := Int.eq_ofNat_of_zero_le (show 0 ≤ a by omega)
    have h0 : 0 < n := by omega
    have hn : n ≤ 100000 := by omega
    obtain ⟨p, hp⟩ := exists_sqp n h0
    refine (impl_IsSquareFree_ev n h0 hn).bind ((spec_IsSquareFree_ev n p h0 hn hp).bind ((impl_SquarePart_ev n p h0 hn hp).bind ((spec_SquarePart_ev n p h0 hn hp).bind ((impl_KernelOf_ev n h0 hn).bind ((spec_KernelOf_ev n h0 hn).bind ((impl_FreeSign_ev n h0 hn).bind ((spec_FreeSign_ev n h0 hn).bind ((impl_CountSquareFree_ev n h0 hn).bind ((spec_CountSquareFree_ev n h0 hn).bind ((impl_NextSquareFree_ev n h0 hn).bind ((spec_NextSquareFree_ev n h0 hn).bind ?_)))))))))))
    simp only [bne_self_eq_false, Bool.false_eq_true, if_false, if_true]
    exact law_j0 n p h0 hn hp z hz
  · have hno := law_no a h
    refine Ev.congr (f := fun k => laws_FnSquareFree.j0 k z a false false 0 0 0 0 0 false) (fun k => ?_) ?_
    · obtain ⟨n1, n2, n3, n4, n5, n6, n7, n8, n9, n10, n11, n12⟩ := hno k
      rw [n1, n2, n3, n4, n5, n6, n7, n8, n9, n10, n11, n12]
      rfl
    · refine Ev.step (fun k => ?_) (law_j6 z hz)
      simp only [laws_FnSquareFree.j0, Bool.false_eq_true, if_false]
theorem FnSquareFree : laws_FnSquareFree.Pure := by
  intro l0 l1 _ _ hb0 _ _ hb1
  apply Ev.rounds
  have b0 := bytes_of hb0
  have b1 := bytes_of hb1
  obtain ⟨v, d0⟩ := asked_ok b0
  unfold laws_FnSquareFree.f laws_big.f
  by_cases hc : (l0.length : Int) > 1048576
  · simp only [if_pos hc, Option.bind_some, if_true]; exact Ev.now _
  · simp only [if_neg hc, Option.bind_some]
    by_cases hc2 : (l1.length : Int) > wrap64 (1048576 - (l0.length : Int))
    · simp only [decide_eq_true hc2, if_true]; exact Ev.now _
    · simp only [decide_eq_false hc2, Bool.false_eq_true, if_false, d0, Option.bind_some]
      exact both_free v l1 b1
end Go.Proofs.Ytfhfbicejddoiaa.Pure
