/- Counting over a whole period: two conditions whose periods have no common divisor are met as often as the product tells. -/
import Derived.Test.YtlbhbncgfhikeaaGreatNtC
namespace Go.Proofs.YtlbhbncgfhikeaaGreat.Nt
/-- How many numbers below n meet f. -/
def cnt (f : Nat → Bool) (n : Nat) : Nat := ((List.range n).filter f).length
theorem cnt_zero (f : Nat → Bool) : cnt f 0 = 0 := rfl
theorem cnt_succ (f : Nat → Bool) (n : Nat) : cnt f (n + 1) = cnt f n + if f n = true then 1 else 0 := by
  unfold cnt
  rw [List.range_succ, List.filter_append, List.length_append]
  congr 1
  by_cases h : f n = true
  · rw [if_pos h, List.filter_cons_of_pos h]; rfl
  · rw [if_neg h, List.filter_cons_of_neg h]; rfl
theorem cnt_congr {f g : Nat → Bool} : ∀ n, (∀ i, i < n → f i = g i) → cnt f n = cnt g n
  | 0, _ => rfl
  | n + 1, h => by rw [cnt_succ, cnt_succ, cnt_congr n fun i hi => h i (by omega), h n (by omega)]
theorem cnt_add (f : Nat → Bool) (a : Nat) : ∀ b, cnt f (a + b) = cnt f a + cnt (fun i => f (a + i)) b
  | 0 => by rw [cnt_zero]; rfl
  | b + 1 => by rw [← Nat.add_assoc, cnt_succ, cnt_add f a b, cnt_succ, Nat.add_assoc]
theorem cnt_le (f : Nat → Bool) (n : Nat) : cnt f n ≤ n := by
  unfold cnt
  exact Nat.le_trans (List.length_filter_le _ _) (by rw [List.length_range]; exact Nat.le_refl _)
theorem cnt_not (f : Nat → Bool) : ∀ n, cnt (fun i => !f i) n = n - cnt f n
  | 0 => rfl
  | n + 1 => by
    rw [cnt_succ, cnt_succ, cnt_not f n]
    have := cnt_le f n
    cases f n <;> simp <;> omega
theorem cnt_perm (f : Nat → Bool) (u : Nat → Nat) (p : Nat) (h : ((List.range p).map u).Perm (List.range p)) : cnt (fun j => f (u j)) p = cnt f p := by
  unfold cnt
  have h1 := (h.filter f).length_eq
  rw [← h1, List.filter_map, List.length_map]
  rfl
/-- A sum of numbers. -/
def sm (g : Nat → Nat) : Nat → Nat
  | 0 => 0
  | n + 1 => sm g n + g n
theorem sm_congr {f g : Nat → Nat} : ∀ n, (∀ i, i < n → f i = g i) → sm f n = sm g n
  | 0, _ => rfl
  | n + 1, h => by rw [sm, sm, sm_congr n fun i hi => h i (by omega), h n (by omega)]
theorem sm_add (f g : Nat → Nat) : ∀ n, sm (fun i => f i + g i) n = sm f n + sm g n
  | 0 => rfl
  | n + 1 => by rw [sm, sm, sm, sm_add f g n]; omega
theorem sm_cnt (f : Nat → Bool) : ∀ n, sm (fun i => if f i = true then 1 else 0) n = cnt f n
  | 0 => rfl
  | n + 1 => by rw [sm, sm_cnt f n, cnt_succ]
theorem sm_zero : ∀ n, sm (fun _ => 0) n = 0
  | 0 => rfl
  | n + 1 => by rw [sm, sm_zero n]
theorem cnt_rows (f : Nat → Bool) (M : Nat) : ∀ p, cnt f (M * p) = sm (fun j => cnt (fun r => f (r + j * M)) M) p
  | 0 => rfl
  | p + 1 => by
    rw [Nat.mul_succ, cnt_add, cnt_rows f M p, sm]
    congr 1
    exact cnt_congr M fun i _ => by rw [Nat.mul_comm M p, Nat.add_comm]
theorem cols (A B : Nat → Bool) (M p c : Nat) (h : ∀ r, cnt (fun j => B (r + j * M)) p = c) : ∀ m, sm (fun j => cnt (fun r => A r && B (r + j * M)) m) p = cnt A m * c
  | 0 => by
    have : sm (fun j => cnt (fun r => A r && B (r + j * M)) 0) p = sm (fun _ => 0) p := sm_congr p fun _ _ => rfl
    rw [this, sm_zero, cnt_zero, Nat.zero_mul]
  | m + 1 => by
    have h1 : sm (fun j => cnt (fun r => A r && B (r + j * M)) (m + 1)) p = sm (fun j => cnt (fun r => A r && B (r + j * M)) m + if (A m && B (m + j * M)) = true then 1 else 0) p := sm_congr p fun j _ => cnt_succ _ _
    rw [h1, sm_add, cols A B M p c h m, cnt_succ, Nat.add_mul]
    congr 1
    cases hA : A m
    · simp only [Bool.false_and, Bool.false_eq_true, if_false, Nat.zero_mul]
      exact sm_zero p
    · simp only [Bool.true_and, if_true, Nat.one_mul]
      rw [sm_cnt (fun j => B (m + j * M)), h]
/-- Both conditions are met as often as the product tells. -/
theorem crt_cnt (A B : Nat → Bool) (M p : Nat) (hA : ∀ n j, A (n + j * M) = A n) (hB : ∀ n, B n = B (n % p)) (hp : ∀ r, r < p → ((List.range p).map fun j => (r + j * M) % p).Perm (List.range p)) (hp0 : 0 < p) : cnt (fun n => A n && B n) (M * p) = cnt A M * cnt B p := by
  rw [cnt_rows]
  have h1 : sm (fun j => cnt (fun r => A (r + j * M) && B (r + j * M)) M) p = sm (fun j => cnt (fun r => A r && B (r + j * M)) M) p := sm_congr p fun j _ => cnt_congr M fun i _ => by rw [hA]
  rw [h1]
  refine cols A B M p (cnt B p) (fun r => ?_) M
  rw [← cnt_perm B _ p (hp (r % p) (Nat.mod_lt _ hp0))]
  refine cnt_congr p fun j _ => ?_
  rw [hB (r + j * M)]
  congr 1
  rw [Nat.add_mod, Nat.add_mod (r % p) (j * M), Nat.mod_mod]
/-- A period may begin at one. -/
theorem cnt_one (f : Nat → Bool) (P : Nat) (h : f P = f 0) : cnt (fun i => f (1 + i)) P = cnt f P := by
  have h1 := cnt_add f 1 P
  have h2 := cnt_succ f P
  have h3 := cnt_succ f 0
  rw [Nat.add_comm 1 P] at h1
  rw [h] at h2
  rw [cnt_zero] at h3
  have h4 : cnt f 1 = if f 0 = true then 1 else 0 := by rw [h3, Nat.zero_add]
  omega
end Go.Proofs.YtlbhbncgfhikeaaGreat.Nt
