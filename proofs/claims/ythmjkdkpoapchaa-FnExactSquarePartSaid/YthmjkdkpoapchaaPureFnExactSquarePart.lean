/- SquarePart answers as the reference does, for every int. -/
import Derived.Test.YthmjkdkpoapchaaPFnExactSquarePartx1
import Derived.Test.YthmjkdkpoapchaaNtC
import Derived.Test.YthmjkdkpoapchaaNtG
namespace Go.Proofs.Ythmjkdkpoapchaa.Pure
set_option linter.unusedVariables false
open Go Go.RowKit Go.Proofs.Ythmjkdkpoapchaa.PFnExactSquarePart Go.Proofs.YthmjkdkpoapchaaW.PrintWords Go.Proofs.YthmjkdkpoapchaaW.PrintLast Go.Proofs.Ythmjkdkpoapchaa.Nt
theorem Ev.done {α : Type} {g : Nat → Option α} {r : α} (h : ∀ k, g (k + 1) = some r) : Ev g r := Ev.step (f := fun _ => some r) h (Ev.now r)
theorem Ev.const {α : Type} {g : Nat → Option α} {r : α} (h : ∀ k, g k = some r) : Ev g r := Ev.congr (f := fun _ => some r) h (Ev.now r)
theorem wr {a : Nat} (h : a < 9223372036854775808) : wrap64 (a : Int) = a := by unfold wrap64; omega
theorem wri {a : Int} (h0 : -9223372036854775808 ≤ a) (h : a < 9223372036854775808) : wrap64 a = a := by unfold wrap64; omega
theorem wr_mul {a b : Nat} (h : a * b < 9223372036854775808) : wrap64 ((a : Int) * b) = ((a * b : Nat) : Int) := by rw [← Int.natCast_mul]; exact wr h
theorem wr_succ {a : Nat} (h : a < 9223372036854775807) : wrap64 ((a : Int) + 1) = ((a + 1 : Nat) : Int) := wr (a := a + 1) (by omega)
theorem wr_tdiv {a b : Nat} (h : a < 9223372036854775808) : wrap64 (Int.tdiv (a : Int) b) = ((a / b : Nat) : Int) := wr (a := a / b) (Nat.lt_of_le_of_lt (Nat.div_le_self a b) h)
theorem tm (a b : Nat) : Int.tmod (a : Int) b = ((a % b : Nat) : Int) := rfl
theorem sq_lt {a b : Nat} (h : a ≤ 3037000499) (k : b ≤ 3037000499) : a * b < 9223372036854775808 := Nat.lt_of_le_of_lt (Nat.mul_le_mul h k) (by decide)
theorem spec_l1In_eq (a b c : Int) : spec_l1In.f a b c = some (decide (b ≤ a ∧ a ≤ c)) := by
  unfold spec_l1In.f
  by_cases h : a ≥ b
  · rw [if_pos h, decide_eq_decide.2 (show a ≤ c ↔ b ≤ a ∧ a ≤ c from ⟨fun k => ⟨h, k⟩, fun k => k.2⟩)]
  · rw [if_neg h, decide_eq_false (fun k => h k.1)]
theorem spec_sqGood_eq (a : Int) : spec_sqGood.f a = some (decide (1 ≤ a ∧ a ≤ 100000)) := by
  unfold spec_sqGood.f; rw [spec_l1In_eq]; rfl
theorem impl_isAsked_eq (a : Int) : impl_isAsked.f a = some (decide (1 ≤ a ∧ a ≤ 100000)) := by
  unfold impl_isAsked.f
  by_cases h : a ≥ 1
  · rw [if_pos h, decide_eq_decide.2 (show a ≤ 100000 ↔ 1 ≤ a ∧ a ≤ 100000 from ⟨fun k => ⟨h, k⟩, fun k => k.2⟩)]
  · rw [if_neg h, decide_eq_false (fun k => h k.1)]
theorem spec_sqPart_end (n p d : Nat) (h : n < d * d) (hd : d ≤ 3037000499) : Ev (fun k => spec_sqPart.l0 k n p d) (p : Int) := by
  refine Ev.done fun k => ?_
  simp only [spec_sqPart.l0]
  rw [wr_mul (sq_lt hd hd), if_neg (by omega)]
theorem spec_sqPart_div (n p d : Nat) {v : Int} (h2 : 2 ≤ d) (hd : d ≤ 1000002) (hm : n % (d * d) = 0) (hn : n ≤ 1000000) (hp : p ≤ 1000000) (h : Ev (fun k => spec_sqPart.l1 k ((n / (d * d) : Nat) : Int) ((p * d : Nat) : Int) d) v) : Ev (fun k => spec_sqPart.l1 k n p d) v := by
  refine Ev.step (fun k => ?_) h
  have h0 : 0 < d * d := Nat.mul_pos (by omega) (by omega)
  simp only [spec_sqPart.l1]
  rw [wr_mul (sq_lt (by omega) (by omega)), tm, if_neg (by omega), if_pos (by omega), wr_tdiv (by omega), wr_mul (sq_lt (by omega) (by omega))]
theorem spec_sqPart_next (n p d : Nat) {v : Int} (h2 : 2 ≤ d) (hd : d ≤ 1000002) (hm : n % (d * d) ≠ 0) (h : Ev (fun k => spec_sqPart.l0 k n p ((d + 1 : Nat) : Int)) v) : Ev (fun k => spec_sqPart.l1 k n p d) v := by
  refine Ev.step (fun k => ?_) h
  have h0 : 0 < d * d := Nat.mul_pos (by omega) (by omega)
  simp only [spec_sqPart.l1]
  rw [wr_mul (sq_lt (by omega) (by omega)), tm, if_neg (by omega), if_neg (by omega), wr_succ (by omega)]
theorem spec_sqPart_in (n p d : Nat) {v : Int} (h : d * d ≤ n) (hd : d ≤ 1000002) (k : Ev (fun k => spec_sqPart.l1 k n p d) v) : Ev (fun k => spec_sqPart.l0 k n p d) v := by
  refine Ev.step (fun k => ?_) k
  simp only [spec_sqPart.l0]
  rw [wr_mul (sq_lt (by omega) (by omega)), if_pos (by omega)]
theorem spec_sqPart_l (n : Nat) : ∀ (j d p r : Nat), n + 1 ≤ d + j → 0 < n → n ≤ 1000000 → 2 ≤ d → d ≤ 1000001 → p * r ≤ 1000000 → IsSqp n r → (∀ c, 2 ≤ c → c < d → ¬ c * c ∣ n) → Ev (fun k => spec_sqPart.l0 k n p d) ((p * r : Nat) : Int) ∧ Ev (fun k => spec_sqPart.l1 k n p d) ((p * r : Nat) : Int) := by
  induction n using Nat.strongRecOn with
  | _ n ih =>
    have hend : ∀ (d p r : Nat), 0 < n → d ≤ 1000002 → n < d * d → IsSqp n r → (∀ c, 2 ≤ c → c < d → ¬ c * c ∣ n) → Ev (fun k => spec_sqPart.l0 k n p d) ((p * r : Nat) : Int) := by
      intro d p r h0 hd hlt hr hc
      rw [hr.unique (IsSqp.one h0 hlt hc), Nat.mul_one]
      exact spec_sqPart_end n p d hlt (by omega)
    intro j
    induction j with
    | zero =>
      intro d p r hj h0 hn h2 hd hpr hr hc
      have hlt : n < d * d := by have := Nat.mul_le_mul_right d h2; omega
      have hlt2 : n < (d + 1) * (d + 1) := by have := Nat.mul_le_mul (show d ≤ d + 1 by omega) (show d ≤ d + 1 by omega); omega
      have hnd : ¬ d * d ∣ n := fun h => by have := Nat.le_of_dvd h0 h; omega
      refine ⟨hend d p r h0 (by omega) hlt hr hc, spec_sqPart_next n p d h2 (by omega) (fun h => hnd (Nat.dvd_of_mod_eq_zero h)) (hend (d + 1) p r h0 (by omega) hlt2 hr fun c hc2 hcd => ?_)⟩
      by_cases he : c = d
      · rw [he]; exact hnd
      · exact hc c hc2 (by omega)
    | succ j ihj =>
      intro d p r hj h0 hn h2 hd hpr hr hc
      have key : Ev (fun k => spec_sqPart.l1 k n p d) ((p * r : Nat) : Int) := by
        by_cases hdv : d * d ∣ n
        · obtain ⟨c, rfl⟩ := hdv
          have hdd : 2 * 2 ≤ d * d := Nat.mul_le_mul h2 h2
          have hc0 : 0 < c := by
            rcases Nat.eq_zero_or_pos c with h | h
            · subst h; simp at h0
            · exact h
          have hlt : c < d * d * c := by have := Nat.mul_le_mul_right c hdd; omega
          obtain ⟨s, hs⟩ := exists_sqp c hc0
          have hrs : r = d * s := hr.unique (hs.mul (by omega))
          have hs0 : 0 < s := by
            rcases Nat.eq_zero_or_pos s with h | h
            · subst h; have := hs.1; simp at this; omega
            · exact h
          have hp1 : p * d ≤ 1000000 := by
            have h1 : p * d * 1 ≤ p * d * s := Nat.mul_le_mul_left _ hs0
            rw [hrs, ← Nat.mul_assoc] at hpr
            omega
          have hpl : p ≤ 1000000 := by
            have : p * 1 ≤ p * d := Nat.mul_le_mul_left p (by omega)
            omega
          refine spec_sqPart_div _ p d h2 (by omega) (Nat.mul_mod_right _ _) hn hpl ?_
          rw [Nat.mul_div_cancel_left c (by omega), hrs, ← Nat.mul_assoc]
          exact (ih c hlt (c + 1) d (p * d) s (by omega) hc0 (by omega) h2 hd (by rw [hrs, ← Nat.mul_assoc] at hpr; exact hpr) hs (fun m hm hmd hmc => hc m hm hmd (Nat.dvd_mul_left_of_dvd hmc _))).2
        · have hc' : ∀ c, 2 ≤ c → c < d + 1 → ¬ c * c ∣ n := fun c hc2 hcd => by
            by_cases he : c = d
            · rw [he]; exact hdv
            · exact hc c hc2 (by omega)
          refine spec_sqPart_next n p d h2 (by omega) (fun h => hdv (Nat.dvd_of_mod_eq_zero h)) ?_
          by_cases hdl : d ≤ 1000000
          · exact (ihj (d + 1) p r (by omega) h0 hn (by omega) (by omega) hpr hr hc').1
          · refine hend (d + 1) p r h0 (by omega) ?_ hr hc'
            have := Nat.mul_le_mul (show 2 ≤ d + 1 by omega) (show 1000000 ≤ d + 1 by omega); omega
      refine ⟨?_, key⟩
      by_cases hlt : n < d * d
      · exact hend d p r h0 (by omega) hlt hr hc
      · exact spec_sqPart_in n p d (by omega) (by omega) key
theorem spec_sqPart_ev (n r : Nat) (h0 : 0 < n) (hn : n ≤ 1000000) (hr : IsSqp n r) : Ev (fun k => spec_sqPart.f k n) (r : Int) := by
  have hrn : r ≤ 1000000 := by
    have h1 := Nat.le_of_dvd h0 hr.1
    rcases Nat.lt_or_ge r 1000001 with h | h
    · omega
    · have := Nat.mul_le_mul h h; omega
  have := (spec_sqPart_l n n 2 1 r (by omega) h0 hn (Nat.le_refl _) (by omega) (by omega) hr (fun c h1 h2 => by omega)).1
  rw [Nat.one_mul] at this
  exact this
theorem impl_SquarePart_l (n r : Nat) (h0 : 0 < n) (hn : n ≤ 1000000) (hr : IsSqp n r) : ∀ (j d p : Nat), n + 1 ≤ d + j → 2 ≤ d → d ≤ 1000001 → p * p ∣ n → (∀ m, m < d → m * m ∣ n → m ≤ p) → Ev (fun k => impl_SquarePart.l0 k n p d) ((r : Int), true) := by
  have hend : ∀ d p : Nat, d ≤ 1000002 → n < d * d → p * p ∣ n → (∀ m, m < d → m * m ∣ n → m ≤ p) → Ev (fun k => impl_SquarePart.l0 k n p d) ((r : Int), true) := by
    intro d p hd hlt hp hm
    have : r = p := hr.unique (sqp_of_greatest h0 hp fun m hmn => hm m (by
      rcases Nat.lt_or_ge m d with h1 | h1
      · exact h1
      · have := Nat.le_of_dvd h0 hmn
        have := Nat.mul_le_mul h1 h1; omega) hmn)
    rw [this]
    refine Ev.done fun k => ?_
    simp only [impl_SquarePart.l0]
    rw [wr_mul (sq_lt (by omega) (by omega)), if_neg (by omega)]
  intro j
  induction j with
  | zero =>
    intro d p hj h2 hd hp hm
    exact hend d p (by omega) (by have := Nat.mul_le_mul_right d h2; omega) hp hm
  | succ j ih =>
    intro d p hj h2 hd hp hm
    by_cases hlt : n < d * d
    · exact hend d p (by omega) hlt hp hm
    · have hdn : d ≤ n := by have := Nat.mul_le_mul_right d h2; omega
      have hdd : 0 < d * d := Nat.mul_pos (by omega) (by omega)
      by_cases hdv : d * d ∣ n
      · refine Ev.step (fun k => ?_) (ih (d + 1) d (by omega) (by omega) (by omega) hdv (fun m hmd _ => by omega))
        have := Nat.mod_eq_zero_of_dvd hdv
        simp only [impl_SquarePart.l0]
        rw [wr_mul (sq_lt (by omega) (by omega)), tm, if_pos (by omega), if_neg (by omega), if_pos (by omega), wr_succ (by omega)]
      · have : n % (d * d) ≠ 0 := fun h => hdv (Nat.dvd_of_mod_eq_zero h)
        refine Ev.step (fun k => ?_) (ih (d + 1) p (by omega) (by omega) (by omega) hp (fun m hmd hmn => by
          by_cases he : m = d
          · exact absurd (he ▸ hmn) hdv
          · exact hm m (by omega) hmn))
        simp only [impl_SquarePart.l0]
        rw [wr_mul (sq_lt (by omega) (by omega)), tm, if_pos (by omega), if_neg (by omega), if_neg (by omega), wr_succ (by omega)]
theorem impl_SquarePart_ev (n r : Nat) (h0 : 0 < n) (hn : n ≤ 100000) (hr : IsSqp n r) : Ev (fun k => impl_SquarePart.f k n) ((r : Int), true) := by
  unfold impl_SquarePart.f
  rw [impl_isAsked_eq, decide_eq_true (by omega)]
  simp only [Option.bind_some, if_true]
  exact impl_SquarePart_l n r h0 (by omega) hr n 2 1 (by omega) (Nat.le_refl _) (by omega) (by simp) (fun m hm _ => by omega)
theorem spec_SquarePart_ev (n r : Nat) (h0 : 0 < n) (hn : n ≤ 100000) (hr : IsSqp n r) : Ev (fun k => spec_SquarePart.f k n) ((r : Int), true) := by
  unfold spec_SquarePart.f
  rw [spec_sqGood_eq, decide_eq_true (by omega)]
  simp only [Option.bind_some, if_true]
  exact (spec_sqPart_ev n r h0 (by omega) hr).bind (Ev.now _)
theorem FnExactSquarePart : laws_FnExactSquarePart.Pure := by
  intro a _
  apply Ev.rounds
  unfold laws_FnExactSquarePart.f
  by_cases h : 1 ≤ a ∧ a ≤ 100000
  · obtain ⟨n, rfl⟩ := Int.eq_ofNat_of_zero_le (show 0 ≤ a by omega)
    obtain ⟨r, hr⟩ := exists_sqp n (by omega)
    refine (spec_SquarePart_ev n r (by omega) (by omega) hr).bind ((impl_SquarePart_ev n r (by omega) (by omega) hr).bind ?_)
    simp only [bne_self_eq_false, Bool.false_eq_true, if_false, if_true]
    exact Ev.now _
  · refine Ev.const fun k => ?_
    unfold spec_SquarePart.f impl_SquarePart.f
    rw [spec_sqGood_eq, impl_isAsked_eq, decide_eq_false h]
    rfl
end Go.Proofs.Ythmjkdkpoapchaa.Pure
