/- NtC,NtQ,NtW -/
import Derived.Test.YtagnkhoonfbbdaaPFnExactFourSquaresx2
import Derived.Test.YtagnkhoonfbbdaaNtC
import Derived.Test.YtagnkhoonfbbdaaNtQ
import Derived.Test.YtagnkhoonfbbdaaNtW
namespace Go.Proofs.Ytagnkhoonfbbdaa.Pure
set_option linter.unusedVariables false
open Go Go.RowKit Go.Proofs.Ytagnkhoonfbbdaa.PFnExactFourSquares Go.Proofs.YtagnkhoonfbbdaaW.PrintWords Go.Proofs.YtagnkhoonfbbdaaW.PrintLast Go.Proofs.Ytagnkhoonfbbdaa.Nt
theorem Ev.done {α : Type} {g : Nat → Option α} {r : α} (h : ∀ k, g (k + 1) = some r) : Ev g r := Ev.step (f := fun _ => some r) h (Ev.now r)
theorem Ev.const {α : Type} {g : Nat → Option α} {r : α} (h : ∀ k, g k = some r) : Ev g r := Ev.congr (f := fun _ => some r) h (Ev.now r)
theorem wr {a : Nat} (h : a < 9223372036854775808) : wrap64 (a : Int) = a := by unfold wrap64; omega
theorem wri {a : Int} (h0 : -9223372036854775808 ≤ a) (h : a < 9223372036854775808) : wrap64 a = a := by unfold wrap64; omega
theorem wr_mul {a b : Nat} (h : a * b < 9223372036854775808) : wrap64 ((a : Int) * b) = ((a * b : Nat) : Int) := by rw [← Int.natCast_mul]; exact wr h
theorem wr_succ {a : Nat} (h : a < 9223372036854775807) : wrap64 ((a : Int) + 1) = ((a + 1 : Nat) : Int) := wr (a := a + 1) (by omega)
theorem wr_tdiv {a b : Nat} (h : a < 9223372036854775808) : wrap64 (Int.tdiv (a : Int) b) = ((a / b : Nat) : Int) := wr (a := a / b) (Nat.lt_of_le_of_lt (Nat.div_le_self a b) h)
theorem tm (a b : Nat) : Int.tmod (a : Int) b = ((a % b : Nat) : Int) := rfl
theorem sq_lt {a b : Nat} (h : a ≤ 3037000499) (k : b ≤ 3037000499) : a * b < 9223372036854775808 := Nat.lt_of_le_of_lt (Nat.mul_le_mul h k) (by decide)
theorem spec_l1In_eq (a b c : Int) : spec_l1In.f a b c = some (decide (b ≤ a ∧ a ≤ c)) := by
  unfold spec_l1In.f
  by_cases h : a ≥ b
  · rw [if_pos h, decide_eq_decide.2 (show a ≤ c ↔ b ≤ a ∧ a ≤ c from ⟨fun k => ⟨h, k⟩, fun k => k.2⟩)]
  · rw [if_neg h, decide_eq_false (fun k => h k.1)]
theorem isq_le (n : Nat) : isq n ≤ n := by
  obtain ⟨h, _⟩ := isq_spec n
  rcases Nat.eq_zero_or_pos (isq n) with h0 | h0
  · omega
  · have := Nat.mul_le_mul_left (isq n) h0; omega
theorem isq_small {n : Nat} (h : n ≤ 1000000) : isq n ≤ 1000 := by
  obtain ⟨h1, _⟩ := isq_spec n
  rcases Nat.lt_or_ge 1000 (isq n) with h2 | h2
  · have := Nat.mul_le_mul (show 1001 ≤ isq n from h2) (show 1001 ≤ isq n from h2); omega
  · exact h2
theorem spec_sqRoot_l (n : Nat) (hn : n ≤ 1000000) : ∀ (j r : Nat), isq n ≤ r + j → r ≤ isq n → Ev (fun k => spec_sqRoot.l0 k n r) (isq n : Int) := by
  obtain ⟨h1, h2⟩ := isq_spec n
  have hs := isq_small hn
  have hend : Ev (fun k => spec_sqRoot.l0 k n (isq n)) (isq n : Int) := by
    refine Ev.done fun k => ?_
    simp only [spec_sqRoot.l0]
    rw [wr_succ (by omega), wr_mul (sq_lt (by omega) (by omega)), if_neg (by omega)]
  intro j
  induction j with
  | zero =>
    intro r h3 h4
    obtain rfl : r = isq n := by omega
    exact hend
  | succ j ih =>
    intro r h3 h4
    by_cases h : r < isq n
    · have h5 : (r + 1) * (r + 1) ≤ n := Nat.le_trans (Nat.mul_le_mul h h) h1
      refine Ev.step (fun k => ?_) (ih (r + 1) (by omega) (by omega))
      simp only [spec_sqRoot.l0]
      rw [wr_succ (by omega), wr_mul (sq_lt (by omega) (by omega)), if_pos (by omega)]
    · obtain rfl : r = isq n := by omega
      exact hend
theorem spec_sqRoot_ev (n : Nat) (hn : n ≤ 1000000) : Ev (fun k => spec_sqRoot.f k n) (isq n : Int) :=
  spec_sqRoot_l n hn (isq n) 0 (by omega) (by omega)
theorem impl_rootOf_eq (n : Nat) (hn : n ≤ 1000000) : impl_rootOf.f n = some (isq n : Int) := by
  unfold impl_rootOf.f
  rw [if_pos (by omega), if_pos (by omega), Int.toNat_natCast]
/-- What is left of n. -/
def sqr3 (n a b c : Nat) : Nat := n - a * a - b * b - c * c
/-- Four squares, in order. -/
def Hit (n a b c : Nat) : Prop := a ≤ b ∧ b ≤ c ∧ a * a + b * b + 2 * c * c ≤ n ∧ isq (sqr3 n a b c) * isq (sqr3 n a b c) = sqr3 n a b c
def First (n a b c : Nat) : Prop := Hit n a b c ∧ (∀ a' b' c', a' < a → ¬ Hit n a' b' c') ∧ (∀ b' c', b' < b → ¬ Hit n a b' c') ∧ ∀ c', c' < c → ¬ Hit n a b c'
theorem least {P : Nat → Prop} : ∀ n, P n → ∃ m, P m ∧ ∀ k, k < m → ¬ P k := by
  intro n
  induction n using Nat.strongRecOn with
  | _ n ih =>
    intro h
    by_cases h1 : ∃ k, k < n ∧ P k
    · obtain ⟨k, hk, hp⟩ := h1
      exact ih k hk hp
    · exact ⟨n, h, fun k hk hp => h1 ⟨k, hk, hp⟩⟩
theorem first_of_hit {n a b c : Nat} (h : Hit n a b c) : ∃ a b c, First n a b c := by
  obtain ⟨a0, ⟨b1, c1, h1⟩, ha⟩ := least (P := fun a => ∃ b c, Hit n a b c) a ⟨b, c, h⟩
  obtain ⟨b0, ⟨c2, h2⟩, hb⟩ := least (P := fun b => ∃ c, Hit n a0 b c) b1 ⟨c1, h1⟩
  obtain ⟨c0, h3, hc⟩ := least (P := fun c => Hit n a0 b0 c) c2 h2
  exact ⟨a0, b0, c0, h3, fun a' b' c' hl hh => ha a' hl ⟨b', c', hh⟩, fun b' c' hl hh => hb b' hl ⟨c', hh⟩, fun c' hl hh => hc c' hl hh⟩
theorem q4 {a : Nat} (h : a ≤ 6000) : wrap64 (wrap64 (4 * (a : Int)) * a) = ((4 * a * a : Nat) : Int) := by
  have e : wrap64 (4 * (a : Int)) = ((4 * a : Nat) : Int) := by rw [wri (by omega) (by omega)]; omega
  rw [e, wr_mul (sq_lt (by omega) (by omega))]
theorem q3 {a : Nat} (h : a ≤ 6000) : wrap64 (wrap64 (3 * (a : Int)) * a) = ((3 * a * a : Nat) : Int) := by
  have e : wrap64 (3 * (a : Int)) = ((3 * a : Nat) : Int) := by rw [wri (by omega) (by omega)]; omega
  rw [e, wr_mul (sq_lt (by omega) (by omega))]
theorem q2 {a : Nat} (h : a ≤ 6000) : wrap64 (wrap64 (2 * (a : Int)) * a) = ((2 * a * a : Nat) : Int) := by
  have e : wrap64 (2 * (a : Int)) = ((2 * a : Nat) : Int) := by rw [wri (by omega) (by omega)]; omega
  rw [e, wr_mul (sq_lt (by omega) (by omega))]
theorem q1 {a : Nat} (h : a ≤ 6000) : wrap64 ((a : Int) * a) = ((a * a : Nat) : Int) := wr_mul (sq_lt (by omega) (by omega))
theorem sq6 {a : Nat} (h : a ≤ 6000) : a * a ≤ 36000000 := Nat.mul_le_mul h h
theorem sq26 {a : Nat} (k : Nat) (h : a ≤ 6000) : k * a * a = k * (a * a) := Nat.mul_assoc _ _ _
theorem g13 {a b : Nat} (ha : a ≤ 6000) (hb : b ≤ 6000) : wrap64 (wrap64 ((a : Int) * a) + wrap64 (wrap64 (3 * (b : Int)) * b)) = ((a * a + 3 * b * b : Nat) : Int) := by
  have h1 := sq6 ha; have h2 := sq6 hb; have h3 := sq26 3 hb
  rw [q1 ha, q3 hb, ← Int.natCast_add, wr (by omega)]
theorem g11 {a b : Nat} (ha : a ≤ 6000) (hb : b ≤ 6000) : wrap64 (wrap64 ((a : Int) * a) + wrap64 ((b : Int) * b)) = ((a * a + b * b : Nat) : Int) := by
  have h1 := sq6 ha; have h2 := sq6 hb
  rw [q1 ha, q1 hb, ← Int.natCast_add, wr (by omega)]
theorem g112 {a b c : Nat} (ha : a ≤ 6000) (hb : b ≤ 6000) (hc : c ≤ 6000) : wrap64 (wrap64 (wrap64 ((a : Int) * a) + wrap64 ((b : Int) * b)) + wrap64 (wrap64 (2 * (c : Int)) * c)) = ((a * a + b * b + 2 * c * c : Nat) : Int) := by
  have h1 := sq6 ha; have h2 := sq6 hb; have h3 := sq6 hc; have h4 := sq26 2 hc
  rw [g11 ha hb, q2 hc, ← Int.natCast_add, wr (by omega)]
theorem grest {n a b c : Nat} (ha : a ≤ 6000) (hb : b ≤ 6000) (hc : c ≤ 6000) (hn : n ≤ 5000) (h : a * a + b * b + c * c ≤ n) : wrap64 (wrap64 (wrap64 ((n : Int) - wrap64 ((a : Int) * a)) - wrap64 ((b : Int) * b)) - wrap64 ((c : Int) * c)) = ((sqr3 n a b c : Nat) : Int) := by
  have e1 : wrap64 ((n : Int) - wrap64 ((a : Int) * a)) = ((n - a * a : Nat) : Int) := by rw [q1 ha, wri (by omega) (by omega)]; omega
  have e2 : wrap64 (((n - a * a : Nat) : Int) - wrap64 ((b : Int) * b)) = ((n - a * a - b * b : Nat) : Int) := by rw [q1 hb, wri (by omega) (by omega)]; omega
  rw [e1, e2, q1 hc, wri (by omega) (by omega)]
  unfold sqr3; omega
theorem isq_sq_bd {m : Nat} (h : m ≤ 5000) : isq m ≤ 6000 := by have := isq_le m; omega
theorem small_of_sq {a n : Nat} (h : a * a ≤ n) (hn : n ≤ 5000) : a ≤ 100 := by
  rcases Nat.lt_or_ge 100 a with h2 | h2
  · have := Nat.mul_le_mul (show 101 ≤ a from h2) (show 101 ≤ a from h2); omega
  · exact h2
theorem spec_l2_hit {n a b : Nat} (hn : n ≤ 5000) {c0 : Nat} (hf : First n a b c0) : ∀ (j c : Nat), c0 ≤ c + j → b ≤ c → c ≤ c0 → Ev (fun k => spec_FourSquares.l2 k n a b c) (([(a : Int), (b : Int), (c0 : Int), (isq (sqr3 n a b c0) : Int)] : List Int), true) := by
  obtain ⟨⟨hab, hbc, hle, hsq⟩, _, _, hno⟩ := hf
  have h2 := Nat.mul_assoc 2 c0 c0
  have hc0 := small_of_sq (a := c0) (n := n) (by omega) hn
  have hend : Ev (fun k => spec_FourSquares.l2 k n a b c0) (([(a : Int), (b : Int), (c0 : Int), (isq (sqr3 n a b c0) : Int)] : List Int), true) := by
    have hr : sqr3 n a b c0 ≤ 5000 := by unfold sqr3; omega
    refine Ev.step (f := fun k => (spec_sqRoot.f k ((sqr3 n a b c0 : Nat) : Int)).bind fun t => if wrap64 (t * t) = ((sqr3 n a b c0 : Nat) : Int) then some (([(a : Int), (b : Int), (c0 : Int), t] : List Int), true) else spec_FourSquares.l2 k n a b (wrap64 ((c0 : Int) + 1))) (fun k => ?_) ((spec_sqRoot_ev _ (by omega)).bind ?_)
    · simp only [spec_FourSquares.l2]
      rw [g112 (by omega) (by omega) (by omega), grest (by omega) (by omega) (by omega) hn (by omega), if_pos (by omega)]
    · have e : wrap64 ((isq (sqr3 n a b c0) : Int) * (isq (sqr3 n a b c0) : Int)) = ((sqr3 n a b c0 : Nat) : Int) := by rw [q1 (isq_sq_bd hr), hsq]
      simp only [e, if_true]
      exact Ev.now _
  intro j
  induction j with
  | zero =>
    intro c h3 h4 h5
    obtain rfl : c = c0 := by omega
    exact hend
  | succ j ih =>
    intro c h3 h4 h5
    by_cases h : c < c0
    · have hcc := Nat.mul_le_mul (Nat.le_of_lt h) (Nat.le_of_lt h)
      have h6 := Nat.mul_assoc 2 c c
      have hr : sqr3 n a b c ≤ 5000 := by unfold sqr3; omega
      have hne : ¬ (isq (sqr3 n a b c) * isq (sqr3 n a b c) = sqr3 n a b c) := fun he => hno c h ⟨hab, h4, by omega, he⟩
      have hih := ih (c + 1) (by omega) (by omega) (by omega)
      refine Ev.step (f := fun k => (spec_sqRoot.f k ((sqr3 n a b c : Nat) : Int)).bind fun t => if wrap64 (t * t) = ((sqr3 n a b c : Nat) : Int) then some (([(a : Int), (b : Int), (c : Int), t] : List Int), true) else spec_FourSquares.l2 k n a b ((c + 1 : Nat) : Int)) (fun k => ?_) ((spec_sqRoot_ev _ (by omega)).bind ?_)
      · simp only [spec_FourSquares.l2]
        rw [g112 (by omega) (by omega) (by omega), grest (by omega) (by omega) (by omega) hn (by omega), if_pos (by omega), wr_succ (by omega)]
      · have e : ¬ (wrap64 ((isq (sqr3 n a b c) : Int) * (isq (sqr3 n a b c) : Int)) = ((sqr3 n a b c : Nat) : Int)) := by rw [q1 (isq_sq_bd hr)]; exact fun h => hne (Int.ofNat_inj.1 h)
        simp only [if_neg e]
        exact hih
    · obtain rfl : c = c0 := by omega
      exact hend
theorem spec_l2_miss {n a b : Nat} (hn : n ≤ 5000) (ha : a ≤ 200) (hab : a ≤ b) (hb : b ≤ 200) (hno : ∀ c, ¬ Hit n a b c) {v : List Int × Bool} (hv : Ev (fun k => spec_FourSquares.l1 k n a ((b + 1 : Nat) : Int)) v) : ∀ (j c : Nat), 201 ≤ c + j → b ≤ c → c ≤ 201 → Ev (fun k => spec_FourSquares.l2 k n a b c) v := by
  have hend : ∀ c, c ≤ 201 → n < a * a + b * b + 2 * c * c → Ev (fun k => spec_FourSquares.l2 k n a b c) v := by
    intro c hc h
    refine Ev.step (fun k => ?_) hv
    simp only [spec_FourSquares.l2]
    rw [g112 (by omega) (by omega) (by omega), if_neg (by omega), wr_succ (by omega)]
  intro j
  induction j with
  | zero =>
    intro c h3 h4 h5
    obtain rfl : c = 201 := by omega
    exact hend 201 (by omega) (by omega)
  | succ j ih =>
    intro c h3 h4 h5
    by_cases hlt : n < a * a + b * b + 2 * c * c
    · exact hend c h5 hlt
    · have h6 := Nat.mul_assoc 2 c c
      have hcs := small_of_sq (a := c) (n := n) (by omega) hn
      have hr : sqr3 n a b c ≤ 5000 := by unfold sqr3; omega
      have hne : ¬ (isq (sqr3 n a b c) * isq (sqr3 n a b c) = sqr3 n a b c) := fun he => hno c ⟨hab, h4, by omega, he⟩
      have hih := ih (c + 1) (by omega) (by omega) (by omega)
      have hc0 := hcs
      refine Ev.step (f := fun k => (spec_sqRoot.f k ((sqr3 n a b c : Nat) : Int)).bind fun t => if wrap64 (t * t) = ((sqr3 n a b c : Nat) : Int) then some (([(a : Int), (b : Int), (c : Int), t] : List Int), true) else spec_FourSquares.l2 k n a b ((c + 1 : Nat) : Int)) (fun k => ?_) ((spec_sqRoot_ev _ (by omega)).bind ?_)
      · simp only [spec_FourSquares.l2]
        rw [g112 (by omega) (by omega) (by omega), grest (by omega) (by omega) (by omega) hn (by omega), if_pos (by omega), wr_succ (by omega)]
      · have e : ¬ (wrap64 ((isq (sqr3 n a b c) : Int) * (isq (sqr3 n a b c) : Int)) = ((sqr3 n a b c : Nat) : Int)) := by rw [q1 (isq_sq_bd hr)]; exact fun h => hne (Int.ofNat_inj.1 h)
        simp only [if_neg e]
        exact hih
theorem spec_l1_hit {n a b0 c0 : Nat} (hn : n ≤ 5000) (hf : First n a b0 c0) : ∀ (j b : Nat), b0 ≤ b + j → a ≤ b → b ≤ b0 → Ev (fun k => spec_FourSquares.l1 k n a b) (([(a : Int), (b0 : Int), (c0 : Int), (isq (sqr3 n a b0 c0) : Int)] : List Int), true) := by
  have hf' := hf
  obtain ⟨⟨hab, hbc, hle, hsq⟩, _, hno, _⟩ := hf
  have h2 := Nat.mul_assoc 2 c0 c0
  have hcc := Nat.mul_le_mul hbc hbc
  have hc0 := small_of_sq (a := c0) (n := n) (by omega) hn
  have hin : ∀ b, b ≤ b0 → ∀ {v : List Int × Bool}, Ev (fun k => spec_FourSquares.l2 k n a b b) v → Ev (fun k => spec_FourSquares.l1 k n a b) v := by
    intro b hb v h
    have hbb := Nat.mul_le_mul hb hb
    have h3 := Nat.mul_assoc 3 b b
    refine Ev.step (fun k => ?_) h
    simp only [spec_FourSquares.l1]
    rw [g13 (by omega) (by omega), if_pos (by omega)]
  intro j
  induction j with
  | zero =>
    intro b h3 h4 h5
    obtain rfl : b = b0 := by omega
    exact hin b (Nat.le_refl _) (spec_l2_hit hn hf' c0 b (by omega) (by omega) hbc)
  | succ j ih =>
    intro b h3 h4 h5
    by_cases h : b < b0
    · exact hin b h5 (spec_l2_miss hn (by omega) h4 (by omega) (fun c => hno b c h) (ih (b + 1) (by omega) (by omega) (by omega)) 201 b (by omega) (by omega) (by omega))
    · obtain rfl : b = b0 := by omega
      exact hin b (Nat.le_refl _) (spec_l2_hit hn hf' c0 b (by omega) (by omega) hbc)
theorem spec_l1_miss {n a : Nat} (hn : n ≤ 5000) (ha : a ≤ 100) (hno : ∀ b c, ¬ Hit n a b c) {v : List Int × Bool} (hv : Ev (fun k => spec_FourSquares.l0 k n ((a + 1 : Nat) : Int)) v) : ∀ (j b : Nat), 201 ≤ b + j → a ≤ b → b ≤ 201 → Ev (fun k => spec_FourSquares.l1 k n a b) v := by
  have hend : ∀ b, b ≤ 201 → n < a * a + 3 * b * b → Ev (fun k => spec_FourSquares.l1 k n a b) v := by
    intro b hb h
    refine Ev.step (fun k => ?_) hv
    simp only [spec_FourSquares.l1]
    rw [g13 (by omega) (by omega), if_neg (by omega), wr_succ (by omega)]
  intro j
  induction j with
  | zero =>
    intro b h3 h4 h5
    obtain rfl : b = 201 := by omega
    exact hend 201 (by omega) (by omega)
  | succ j ih =>
    intro b h3 h4 h5
    by_cases hlt : n < a * a + 3 * b * b
    · exact hend b h5 hlt
    · have h3' := Nat.mul_assoc 3 b b
      have hbs := small_of_sq (a := b) (n := n) (by omega) hn
      refine Ev.step (fun k => ?_) (spec_l2_miss hn (by omega) h4 (by omega) (fun c => hno b c) (ih (b + 1) (by omega) (by omega) (by omega)) 201 b (by omega) (by omega) (by omega))
      simp only [spec_FourSquares.l1]
      rw [g13 (by omega) (by omega), if_pos (by omega)]
theorem spec_l0 {n a0 b0 c0 : Nat} (hn : n ≤ 5000) (hf : First n a0 b0 c0) : ∀ (j a : Nat), a0 ≤ a + j → a ≤ a0 → Ev (fun k => spec_FourSquares.l0 k n a) (([(a0 : Int), (b0 : Int), (c0 : Int), (isq (sqr3 n a0 b0 c0) : Int)] : List Int), true) := by
  have hf' := hf
  obtain ⟨⟨hab, hbc, hle, hsq⟩, hno, _, _⟩ := hf
  have h2 := Nat.mul_assoc 2 c0 c0
  have hcc := Nat.mul_le_mul hbc hbc
  have haa := Nat.mul_le_mul hab hab
  have hc0 := small_of_sq (a := c0) (n := n) (by omega) hn
  have hin : ∀ a, a ≤ a0 → ∀ {v : List Int × Bool}, Ev (fun k => spec_FourSquares.l1 k n a a) v → Ev (fun k => spec_FourSquares.l0 k n a) v := by
    intro a ha v h
    have h3 := Nat.mul_le_mul ha ha
    have h4 := Nat.mul_assoc 4 a a
    refine Ev.step (fun k => ?_) h
    simp only [spec_FourSquares.l0]
    rw [q4 (by omega), if_pos (by omega)]
  intro j
  induction j with
  | zero =>
    intro a h3 h4
    obtain rfl : a = a0 := by omega
    exact hin a (Nat.le_refl _) (spec_l1_hit hn hf' b0 a (by omega) (by omega) hab)
  | succ j ih =>
    intro a h3 h4
    by_cases h : a < a0
    · exact hin a h4 (spec_l1_miss hn (by omega) (fun b c => hno a b c h) (ih (a + 1) (by omega) (by omega)) 201 a (by omega) (by omega) (by omega))
    · obtain rfl : a = a0 := by omega
      exact hin a (Nat.le_refl _) (spec_l1_hit hn hf' b0 a (by omega) (by omega) hab)
theorem impl_l2_hit {n a b : Nat} (hn : n ≤ 5000) {c0 : Nat} (hf : First n a b c0) : ∀ (j c : Nat), c0 ≤ c + j → b ≤ c → c ≤ c0 → Ev (fun k => impl_FourSquares.l2 k n a b c) (([(a : Int), (b : Int), (c0 : Int), (isq (sqr3 n a b c0) : Int)] : List Int), true) := by
  obtain ⟨⟨hab, hbc, hle, hsq⟩, _, _, hno⟩ := hf
  have h2 := Nat.mul_assoc 2 c0 c0
  have hc0 := small_of_sq (a := c0) (n := n) (by omega) hn
  have hend : Ev (fun k => impl_FourSquares.l2 k n a b c0) (([(a : Int), (b : Int), (c0 : Int), (isq (sqr3 n a b c0) : Int)] : List Int), true) := by
    have hr : sqr3 n a b c0 ≤ 5000 := by unfold sqr3; omega
    have e : wrap64 ((isq (sqr3 n a b c0) : Int) * (isq (sqr3 n a b c0) : Int)) = ((sqr3 n a b c0 : Nat) : Int) := by rw [q1 (isq_sq_bd hr), hsq]
    refine Ev.done fun k => ?_
    simp only [impl_FourSquares.l2]
    have hrt := impl_rootOf_eq (sqr3 n a b c0) (Nat.le_trans hr (by decide))
    rw [g112 (by omega) (by omega) (by omega), grest (by omega) (by omega) (by omega) hn (by omega), if_pos (Int.ofNat_le.2 hle), hrt, Option.bind_some, if_pos e]
  intro j
  induction j with
  | zero =>
    intro c h3 h4 h5
    obtain rfl : c = c0 := by omega
    exact hend
  | succ j ih =>
    intro c h3 h4 h5
    by_cases h : c < c0
    · have hcc := Nat.mul_le_mul (Nat.le_of_lt h) (Nat.le_of_lt h)
      have h6 := Nat.mul_assoc 2 c c
      have hr : sqr3 n a b c ≤ 5000 := by unfold sqr3; omega
      have hne : ¬ (isq (sqr3 n a b c) * isq (sqr3 n a b c) = sqr3 n a b c) := fun he => hno c h ⟨hab, h4, by omega, he⟩
      have hih := ih (c + 1) (by omega) (by omega) (by omega)
      have e : ¬ (wrap64 ((isq (sqr3 n a b c) : Int) * (isq (sqr3 n a b c) : Int)) = ((sqr3 n a b c : Nat) : Int)) := by rw [q1 (isq_sq_bd hr)]; exact fun h => hne (Int.ofNat_inj.1 h)
      refine Ev.step (fun k => ?_) hih
      simp only [impl_FourSquares.l2]
      have hrt := impl_rootOf_eq (sqr3 n a b c) (Nat.le_trans hr (by decide))
      have hle2 : a * a + b * b + 2 * c * c ≤ n := by omega
      rw [g112 (by omega) (by omega) (by omega), grest (by omega) (by omega) (by omega) hn (by omega), if_pos (Int.ofNat_le.2 hle2), hrt, Option.bind_some, if_neg e, wr_succ (by omega)]
    · obtain rfl : c = c0 := by omega
      exact hend
theorem impl_l2_miss {n a b : Nat} (hn : n ≤ 5000) (ha : a ≤ 200) (hab : a ≤ b) (hb : b ≤ 200) (hno : ∀ c, ¬ Hit n a b c) {v : List Int × Bool} (hv : Ev (fun k => impl_FourSquares.l1 k n a ((b + 1 : Nat) : Int)) v) : ∀ (j c : Nat), 201 ≤ c + j → b ≤ c → c ≤ 201 → Ev (fun k => impl_FourSquares.l2 k n a b c) v := by
  have hend : ∀ c, c ≤ 201 → n < a * a + b * b + 2 * c * c → Ev (fun k => impl_FourSquares.l2 k n a b c) v := by
    intro c hc h
    refine Ev.step (fun k => ?_) hv
    simp only [impl_FourSquares.l2]
    rw [g112 (by omega) (by omega) (by omega), if_neg (by omega), wr_succ (by omega)]
  intro j
  induction j with
  | zero =>
    intro c h3 h4 h5
    obtain rfl : c = 201 := by omega
    exact hend 201 (by omega) (by omega)
  | succ j ih =>
    intro c h3 h4 h5
    by_cases hlt : n < a * a + b * b + 2 * c * c
    · exact hend c h5 hlt
    · have h6 := Nat.mul_assoc 2 c c
      have hcs := small_of_sq (a := c) (n := n) (by omega) hn
      have hr : sqr3 n a b c ≤ 5000 := by unfold sqr3; omega
      have hne : ¬ (isq (sqr3 n a b c) * isq (sqr3 n a b c) = sqr3 n a b c) := fun he => hno c ⟨hab, h4, by omega, he⟩
      have hih := ih (c + 1) (by omega) (by omega) (by omega)
      have hc0 := hcs
      have e : ¬ (wrap64 ((isq (sqr3 n a b c) : Int) * (isq (sqr3 n a b c) : Int)) = ((sqr3 n a b c : Nat) : Int)) := by rw [q1 (isq_sq_bd hr)]; exact fun h => hne (Int.ofNat_inj.1 h)
      refine Ev.step (fun k => ?_) hih
      simp only [impl_FourSquares.l2]
      have hrt := impl_rootOf_eq (sqr3 n a b c) (Nat.le_trans hr (by decide))
      have hle2 : a * a + b * b + 2 * c * c ≤ n := by omega
      rw [g112 (by omega) (by omega) (by omega), grest (by omega) (by omega) (by omega) hn (by omega), if_pos (Int.ofNat_le.2 hle2), hrt, Option.bind_some, if_neg e, wr_succ (by omega)]
theorem impl_l1_hit {n a b0 c0 : Nat} (hn : n ≤ 5000) (hf : First n a b0 c0) : ∀ (j b : Nat), b0 ≤ b + j → a ≤ b → b ≤ b0 → Ev (fun k => impl_FourSquares.l1 k n a b) (([(a : Int), (b0 : Int), (c0 : Int), (isq (sqr3 n a b0 c0) : Int)] : List Int), true) := by
  have hf' := hf
  obtain ⟨⟨hab, hbc, hle, hsq⟩, _, hno, _⟩ := hf
  have h2 := Nat.mul_assoc 2 c0 c0
  have hcc := Nat.mul_le_mul hbc hbc
  have hc0 := small_of_sq (a := c0) (n := n) (by omega) hn
  have hin : ∀ b, b ≤ b0 → ∀ {v : List Int × Bool}, Ev (fun k => impl_FourSquares.l2 k n a b b) v → Ev (fun k => impl_FourSquares.l1 k n a b) v := by
    intro b hb v h
    have hbb := Nat.mul_le_mul hb hb
    have h3 := Nat.mul_assoc 3 b b
    refine Ev.step (fun k => ?_) h
    simp only [impl_FourSquares.l1]
    rw [g11 (by omega) (by omega), if_pos (by omega)]
  intro j
  induction j with
  | zero =>
    intro b h3 h4 h5
    obtain rfl : b = b0 := by omega
    exact hin b (Nat.le_refl _) (impl_l2_hit hn hf' c0 b (by omega) (by omega) hbc)
  | succ j ih =>
    intro b h3 h4 h5
    by_cases h : b < b0
    · exact hin b h5 (impl_l2_miss hn (by omega) h4 (by omega) (fun c => hno b c h) (ih (b + 1) (by omega) (by omega) (by omega)) 201 b (by omega) (by omega) (by omega))
    · obtain rfl : b = b0 := by omega
      exact hin b (Nat.le_refl _) (impl_l2_hit hn hf' c0 b (by omega) (by omega) hbc)
theorem impl_l1_miss {n a : Nat} (hn : n ≤ 5000) (ha : a ≤ 100) (hno : ∀ b c, ¬ Hit n a b c) {v : List Int × Bool} (hv : Ev (fun k => impl_FourSquares.l0 k n ((a + 1 : Nat) : Int)) v) : ∀ (j b : Nat), 201 ≤ b + j → a ≤ b → b ≤ 201 → Ev (fun k => impl_FourSquares.l1 k n a b) v := by
  have hend : ∀ b, b ≤ 201 → n < a * a + b * b → Ev (fun k => impl_FourSquares.l1 k n a b) v := by
    intro b hb h
    refine Ev.step (fun k => ?_) hv
    simp only [impl_FourSquares.l1]
    rw [g11 (by omega) (by omega), if_neg (by omega), wr_succ (by omega)]
  intro j
  induction j with
  | zero =>
    intro b h3 h4 h5
    obtain rfl : b = 201 := by omega
    exact hend 201 (by omega) (by omega)
  | succ j ih =>
    intro b h3 h4 h5
    by_cases hlt : n < a * a + b * b
    · exact hend b h5 hlt
    · have h3' := Nat.mul_assoc 3 b b
      have hbs := small_of_sq (a := b) (n := n) (by omega) hn
      refine Ev.step (fun k => ?_) (impl_l2_miss hn (by omega) h4 (by omega) (fun c => hno b c) (ih (b + 1) (by omega) (by omega) (by omega)) 201 b (by omega) (by omega) (by omega))
      simp only [impl_FourSquares.l1]
      rw [g11 (by omega) (by omega), if_pos (by omega)]
theorem impl_l0 {n a0 b0 c0 : Nat} (hn : n ≤ 5000) (hf : First n a0 b0 c0) : ∀ (j a : Nat), a0 ≤ a + j → a ≤ a0 → Ev (fun k => impl_FourSquares.l0 k n a) (([(a0 : Int), (b0 : Int), (c0 : Int), (isq (sqr3 n a0 b0 c0) : Int)] : List Int), true) := by
  have hf' := hf
  obtain ⟨⟨hab, hbc, hle, hsq⟩, hno, _, _⟩ := hf
  have h2 := Nat.mul_assoc 2 c0 c0
  have hcc := Nat.mul_le_mul hbc hbc
  have haa := Nat.mul_le_mul hab hab
  have hc0 := small_of_sq (a := c0) (n := n) (by omega) hn
  have hin : ∀ a, a ≤ a0 → ∀ {v : List Int × Bool}, Ev (fun k => impl_FourSquares.l1 k n a a) v → Ev (fun k => impl_FourSquares.l0 k n a) v := by
    intro a ha v h
    have h3 := Nat.mul_le_mul ha ha
    have h4 := Nat.mul_assoc 4 a a
    refine Ev.step (fun k => ?_) h
    simp only [impl_FourSquares.l0]

  intro j
  induction j with
  | zero =>
    intro a h3 h4
    obtain rfl : a = a0 := by omega
    exact hin a (Nat.le_refl _) (impl_l1_hit hn hf' b0 a (by omega) (by omega) hab)
  | succ j ih =>
    intro a h3 h4
    by_cases h : a < a0
    · exact hin a h4 (impl_l1_miss hn (by omega) (fun b c => hno a b c h) (ih (a + 1) (by omega) (by omega)) 201 a (by omega) (by omega) (by omega))
    · obtain rfl : a = a0 := by omega
      exact hin a (Nat.le_refl _) (impl_l1_hit hn hf' b0 a (by omega) (by omega) hab)
theorem spec_FourSquares_ev {n a0 b0 c0 : Nat} (h0 : 0 < n) (hn : n ≤ 5000) (hf : First n a0 b0 c0) : Ev (fun k => spec_FourSquares.f k n) (([(a0 : Int), (b0 : Int), (c0 : Int), (isq (sqr3 n a0 b0 c0) : Int)] : List Int), true) := by
  unfold spec_FourSquares.f
  rw [spec_l1In_eq, decide_eq_true (by omega)]
  simp only [Option.bind_some, if_true]
  exact spec_l0 hn hf a0 0 (by omega) (by omega)
theorem impl_FourSquares_ev {n a0 b0 c0 : Nat} (h0 : 0 < n) (hn : n ≤ 5000) (hf : First n a0 b0 c0) : Ev (fun k => impl_FourSquares.f k n) (([(a0 : Int), (b0 : Int), (c0 : Int), (isq (sqr3 n a0 b0 c0) : Int)] : List Int), true) := by
  unfold impl_FourSquares.f
  refine Ev.congr (f := fun k => impl_FourSquares.j0 k n false) (fun k => by rw [if_neg (by omega), decide_eq_false (by omega)]) ?_
  refine Ev.step (fun k => ?_) (impl_l0 hn hf a0 0 (by omega) (by omega))
  simp only [impl_FourSquares.j0]
  rfl
theorem impl_FourSquares_no (a : Int) (h : ¬ (1 ≤ a ∧ a ≤ 5000)) : Ev (fun k => impl_FourSquares.f k a) (([] : List Int), false) := by
  unfold impl_FourSquares.f
  refine Ev.congr (f := fun k => impl_FourSquares.j0 k a true) (fun k => ?_) (Ev.done fun k => by simp only [impl_FourSquares.j0, if_true])
  by_cases h1 : a < 1
  · rw [if_pos h1]
  · rw [if_neg h1, decide_eq_true (by omega)]
theorem spec_FourSquares_no (a : Int) (h : ¬ (1 ≤ a ∧ a ≤ 5000)) : Ev (fun k => spec_FourSquares.f k a) (([] : List Int), false) := by
  refine Ev.const fun k => ?_
  unfold spec_FourSquares.f
  rw [spec_l1In_eq, decide_eq_false h]
  rfl
theorem hit_wit {n : Nat} (h0 : 0 < n) (hn : n ≤ 5000) : ∃ a b c, Hit n a b c := by
  obtain ⟨a, b, c, d, h1, h2, h3, h4⟩ := wit_four h0 hn
  have hcc := Nat.mul_le_mul h3 h3
  have e2 := Nat.mul_assoc 2 c c
  have hs : sqr3 n a b c = d * d := by unfold sqr3; omega
  have hi : isq (d * d) = d := isq_eq (Nat.le_refl _) (by have := Nat.mul_le_mul_left d (show 1 ≤ 1 by omega); rw [Nat.add_mul, Nat.mul_add]; omega)
  exact ⟨a, b, c, h1, h2, by omega, by rw [hs, hi]⟩
theorem rd_at (l : List Int) (j : Nat) : rd l (j : Int) = l.getD j 0 := by unfold rd; rw [Int.toNat_natCast]
theorem laws_eqIntS_l (l : List Int) (hl : l.length ≤ 4000000000000000000) : ∀ (j i : Nat), l.length ≤ i + j → i ≤ l.length → Ev (fun k => laws_eqIntS.l0 k l l i) true := by
  intro j
  induction j with
  | zero =>
    intro i h1 h2
    refine Ev.done fun k => ?_
    simp only [laws_eqIntS.l0]
    rw [if_neg (by omega)]
  | succ j ih =>
    intro i h1 h2
    by_cases h : i < l.length
    · refine Ev.step (fun k => ?_) (ih (i + 1) (by omega) (by omega))
      simp only [laws_eqIntS.l0]
      rw [if_pos (by omega), if_pos (by omega), if_pos (by omega), if_pos trivial, wr_succ (by omega)]
    · refine Ev.done fun k => ?_
      simp only [laws_eqIntS.l0]
      rw [if_neg (by omega)]
theorem laws_eqIntS_self (l : List Int) (hl : l.length ≤ 4000000000000000000) : Ev (fun k => laws_eqIntS.f k l l) true := by
  unfold laws_eqIntS.f
  refine Ev.congr (fun k => if_pos rfl) (laws_eqIntS_l l hl l.length 0 (by omega) (by omega))
/-- a, a + 1, .., so many. -/
def seqI (a : Int) : Nat → List Int
  | 0 => []
  | n + 1 => a :: seqI (a + 1) n
theorem seqI_len : ∀ (n : Nat) (a : Int), (seqI a n).length = n
  | 0, _ => rfl
  | n + 1, a => by simp [seqI, seqI_len n]
theorem seqI_get : ∀ (n : Nat) (a : Int) (j : Nat), j < n → (seqI a n).getD j 0 = a + j
  | 0, _, _, h => by omega
  | n + 1, a, 0, _ => by simp [seqI]
  | n + 1, a, j + 1, h => by
    have := seqI_get n (a + 1) j (by omega)
    simp only [seqI, List.getD_cons_succ]
    rw [this]; omega
theorem laws_markIntS_l : ∀ (l pre : List Int) (a : Int), (pre ++ l).length ≤ 1000000000000000000 → 0 ≤ a → a ≤ 1000000000000000000 + pre.length → Ev (fun k => laws_markIntS.l0 k (pre ++ l) a (pre.length : Int)) (a + l.length, pre ++ seqI a l.length)
  | [], pre, a, hl, h0, ha => by
    refine Ev.done fun k => ?_
    simp only [laws_markIntS.l0]
    rw [if_neg (by simp)]
    simp [seqI]
  | x :: l, pre, a, hl, h0, ha => by
    have hlen : (pre ++ x :: l).length = pre.length + 1 + l.length := by simp; omega
    have ih := laws_markIntS_l l (pre ++ [a]) (a + 1) (by simp at hl ⊢; omega) (by omega) (by simp; omega)
    have hset : (pre ++ x :: l).set pre.length a = pre ++ a :: l := by simp
    refine Ev.step (f := fun k => laws_markIntS.l0 k (pre ++ [a] ++ l) (a + 1) ((pre ++ [a]).length : Int)) (fun k => ?_) ?_
    · simp only [laws_markIntS.l0]
      rw [if_pos (by omega), if_pos (by omega), Int.toNat_natCast, hset, wri (by omega) (by omega), wr_succ (by omega)]
      simp
    · have e : (a + ((x :: l).length : Int), pre ++ seqI a (x :: l).length) = (a + 1 + (l.length : Int), pre ++ [a] ++ seqI (a + 1) l.length) := by
        simp [seqI]; omega
      rw [e]; exact ih
theorem laws_markIntS_ev (l : List Int) (a : Int) (hl : l.length ≤ 1000000000000000000) (h0 : 0 ≤ a) (h1 : a ≤ 1000000000000000000) : Ev (fun k => laws_markIntS.f k l a) (a + l.length, seqI a l.length) := by
  have := laws_markIntS_l l [] a (by simpa using hl) h0 (by simpa using h1)
  exact this
theorem laws_heldIntS_l (n : Nat) (a : Int) (hn : n ≤ 1000000000000000000) (h0 : 0 ≤ a) (h1 : a ≤ 1000000000000000000) : ∀ (j i : Nat), n ≤ i + j → i ≤ n → Ev (fun k => laws_heldIntS.l0 k (seqI a n) (a + i) i) (a + n) := by
  have hl := seqI_len n a
  intro j
  induction j with
  | zero =>
    intro i h2 h3
    obtain rfl : i = n := by omega
    refine Ev.done fun k => ?_
    simp only [laws_heldIntS.l0]
    rw [if_neg (by omega)]
  | succ j ih =>
    intro i h2 h3
    by_cases h : i < n
    · refine Ev.step (fun k => ?_) (ih (i + 1) (by omega) (by omega))
      have hg : rd (seqI a n) (i : Int) = a + i := by unfold rd; rw [Int.toNat_natCast]; exact seqI_get n a i h
      simp only [laws_heldIntS.l0]
      rw [if_pos (by omega), if_pos (by omega), if_pos hg, wri (by omega) (by omega), wr_succ (by omega)]
      rw [show a + (i : Int) + 1 = a + ((i + 1 : Nat) : Int) by omega]
    · obtain rfl : i = n := by omega
      refine Ev.done fun k => ?_
      simp only [laws_heldIntS.l0]
      rw [if_neg (by omega)]
theorem laws_heldIntS_ev (n : Nat) (a : Int) (hn : n ≤ 1000000000000000000) (h0 : 0 ≤ a) (h1 : a ≤ 1000000000000000000) : Ev (fun k => laws_heldIntS.f k (seqI a n) a) (a + n) := by
  have := laws_heldIntS_l n a hn h0 h1 n 0 (by omega) (by omega)
  unfold laws_heldIntS.f
  simpa using this
/-- The law over a list of ints that both sides come to. -/
theorem law_tail (a : Int) (r : List Int) (b : Bool) (hr : r.length ≤ 1000000000) (h1 : Ev (fun k => spec_FourSquares.f k a) (r, b)) (h2 : Ev (fun k => impl_FourSquares.f k a) (r, b)) : Ev (fun k => laws_FnExactFourSquares.f k a) true := by
  have heq := laws_eqIntS_self r (by omega)
  have hmark := laws_markIntS_ev r 1 (by omega) (by omega) (by omega)
  have hheld := laws_heldIntS_ev r.length 1 (by omega) (by omega) (by omega)
  have hne : ¬ (1 + (r.length : Int) < 0) := by omega
  have hj1 : Ev (fun k => laws_FnExactFourSquares.j1 k (seqI 1 r.length) (1 + (r.length : Int)) false) true := by
    refine Ev.step (f := fun k => (laws_heldIntS.f k (seqI 1 r.length) 1).bind fun t => if t < 0 then some false else (if t = 1 + (r.length : Int) then some true else some false)) (fun k => by simp only [laws_FnExactFourSquares.j1]; rfl) (hheld.bind ?_)
    simp only [if_neg hne, if_true]
    exact Ev.now _
  have hj0 : Ev (fun k => laws_FnExactFourSquares.j0 k a r b r false) true := by
    refine Ev.step (f := fun k => (laws_markIntS.f k r 1).bind fun bt => ((laws_heldIntS.f k bt.2 1).bind fun t => (if t < 0 then (some false) else (if t = bt.1 then ((impl_FourSquares.f k a).bind fun bt2 => ((laws_eqIntS.f k bt2.1 r).bind fun t2 => (if t2 = true then (laws_FnExactFourSquares.j1 k bt.2 bt.1 (bt2.2 != b)) else (laws_FnExactFourSquares.j1 k bt.2 bt.1 true)))) else (some false))))) (fun k => by simp only [laws_FnExactFourSquares.j0]; rfl) (hmark.bind (hheld.bind ?_))
    simp only [if_neg hne, if_true]
    refine h2.bind (heq.bind ?_)
    simp only [bne_self_eq_false, if_true]
    exact hj1
  unfold laws_FnExactFourSquares.f
  refine h1.bind (h2.bind (heq.bind ?_))
  simp only [bne_self_eq_false, if_true]
  exact hj0
theorem FnExactFourSquares : laws_FnExactFourSquares.Pure := by
  intro a _
  apply Ev.rounds
  by_cases h : 1 ≤ a ∧ a ≤ 5000
  · obtain ⟨n, rfl⟩ := Int.eq_ofNat_of_zero_le (show 0 ≤ a by omega)
    obtain ⟨a1, b1, c1, hh⟩ := hit_wit (n := n) (by omega) (by omega)
    obtain ⟨a0, b0, c0, hf⟩ := first_of_hit hh
    exact law_tail n _ true (by simp) (spec_FourSquares_ev (by omega) (by omega) hf) (impl_FourSquares_ev (by omega) (by omega) hf)
  · exact law_tail a [] false (by simp) (spec_FourSquares_no a h) (impl_FourSquares_no a h)
end Go.Proofs.Ytagnkhoonfbbdaa.Pure
