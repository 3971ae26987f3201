/- RulesOfPattern answers as the reference does, for every argument. -/
import Derived.Test.YtncnhgiilolomaaPFnExactRulesOfPatternx5
import Derived.Test.YtncnhgiilolomaaNtC
namespace Go.Proofs.Ytncnhgiilolomaa.Pure
set_option linter.unusedVariables false
open Go Go.RowKit Go.Proofs.Ytncnhgiilolomaa.PFnExactRulesOfPattern Go.Proofs.YtncnhgiilolomaaW.PrintWords Go.Proofs.YtncnhgiilolomaaW.PrintLast Go.Proofs.Ytncnhgiilolomaa.Nt
theorem Ev.done {α : Type} {g : Nat → Option α} {r : α} (h : ∀ k, g (k + 1) = some r) : Ev g r := Ev.step (f := fun _ => some r) h (Ev.now r)
theorem Ev.const {α : Type} {g : Nat → Option α} {r : α} (h : ∀ k, g k = some r) : Ev g r := Ev.congr (f := fun _ => some r) h (Ev.now r)
theorem wr {a : Nat} (h : a < 9223372036854775808) : wrap64 (a : Int) = a := by unfold wrap64; omega
theorem wri {a : Int} (h0 : -9223372036854775808 ≤ a) (h : a < 9223372036854775808) : wrap64 a = a := by unfold wrap64; omega
theorem wr_mul {a b : Nat} (h : a * b < 9223372036854775808) : wrap64 ((a : Int) * b) = ((a * b : Nat) : Int) := by rw [← Int.natCast_mul]; exact wr h
theorem wr_succ {a : Nat} (h : a < 9223372036854775807) : wrap64 ((a : Int) + 1) = ((a + 1 : Nat) : Int) := wr (a := a + 1) (by omega)
theorem wr_tdiv {a b : Nat} (h : a < 9223372036854775808) : wrap64 (Int.tdiv (a : Int) b) = ((a / b : Nat) : Int) := wr (a := a / b) (Nat.lt_of_le_of_lt (Nat.div_le_self a b) h)
theorem tm (a b : Nat) : Int.tmod (a : Int) b = ((a % b : Nat) : Int) := rfl
theorem sq_lt {a b : Nat} (h : a ≤ 3037000499) (k : b ≤ 3037000499) : a * b < 9223372036854775808 := Nat.lt_of_le_of_lt (Nat.mul_le_mul h k) (by decide)
theorem spec_l1In_eq (a b c : Int) : spec_l1In.f a b c = some (decide (b ≤ a ∧ a ≤ c)) := by
  unfold spec_l1In.f
  by_cases h : a ≥ b
  · rw [if_pos h, decide_eq_decide.2 (show a ≤ c ↔ b ≤ a ∧ a ≤ c from ⟨fun k => ⟨h, k⟩, fun k => k.2⟩)]
  · rw [if_neg h, decide_eq_false (fun k => h k.1)]
/-- A list of naturals as the program's ints. -/
def ints (l : List Nat) : List Int := l.map fun d : Nat => (d : Int)
theorem ints_len (l : List Nat) : (ints l).length = l.length := by simp [ints]
theorem ints_app (l m : List Nat) : ints l ++ ints m = ints (l ++ m) := by simp [ints]
theorem ints_get (pre : List Nat) (x : Nat) (l : List Nat) : rd (ints (pre ++ x :: l)) (pre.length : Int) = x := by
  unfold rd
  rw [Int.toNat_natCast]
  simp [ints]
theorem ints_take (l m : List Nat) : (ints (l ++ m)).take ((l.length : Nat) : Int).toNat = ints l := by
  rw [Int.toNat_natCast]
  unfold ints
  rw [List.map_append, List.take_left' (by simp)]
/-- All of so many numbers from i on are as asked. -/
def allF (c : Nat → Bool) : Nat → Nat → Bool
  | 0, _ => true
  | n + 1, i => c i && allF c n (i + 1)
theorem allF_iff (c : Nat → Bool) : ∀ n i, allF c n i = true ↔ ∀ j, i ≤ j → j < i + n → c j = true
  | 0, i => ⟨fun _ j h1 h2 => by omega, fun _ => rfl⟩
  | n + 1, i => by
    have ih := allF_iff c n (i + 1)
    simp only [allF, Bool.and_eq_true]
    rw [ih]
    constructor
    · rintro ⟨h1, h2⟩ j hj hk
      rcases Nat.lt_or_ge i j with h | h
      · exact h2 j (by omega) (by omega)
      · have : j = i := by omega
        rw [this]; exact h1
    · intro h
      exact ⟨h i (by omega) (by omega), fun j hj hk => h j (by omega) (by omega)⟩
/-- What the program asks of the offset with an index. -/
def chkP (l : List Int) (i : Nat) : Bool := decide ((i = 0 → rd l (i : Int) = 0) ∧ (0 < i → rd l ((i - 1 : Nat) : Int) < rd l (i : Int)) ∧ rd l (i : Int) ≤ 60)
def lenP (l : List Int) : Bool := decide (1 ≤ l.length ∧ l.length ≤ 8)
/-- A list of ints is a pattern. -/
def isP (l : List Int) : Bool := allF (chkP l) l.length 0 && lenP l
theorem impl_isPattern_l (l : List Int) (hl : l.length ≤ 4000000000) : ∀ n i, i + n = l.length → Ev (fun k => impl_isPattern.l0 k l l (l.length : Int) (i : Int)) (allF (chkP l) n i && lenP l)
  | 0, i, hi => by
    refine Ev.done fun k => ?_
    simp only [impl_isPattern.l0, allF, Bool.true_and]
    rw [if_neg (by omega)]
    by_cases h : (l.length : Int) ≥ 1
    · rw [if_pos h]
      congr 1
      unfold lenP
      rw [decide_eq_decide]
      omega
    · rw [if_neg h]
      congr 1
      unfold lenP
      rw [decide_eq_false (by omega)]
  | n + 1, i, hi => by
    have ih := impl_isPattern_l l hl n (i + 1) (by omega)
    have hs : wrap64 ((i : Int) + 1) = ((i + 1 : Nat) : Int) := wr_succ (by omega)
    by_cases hc : chkP l i = true
    · have e : (allF (chkP l) (n + 1) i && lenP l) = (allF (chkP l) n (i + 1) && lenP l) := by simp [allF, hc]
      rw [e]
      refine Ev.step (fun k => ?_) ih
      unfold chkP at hc
      rw [decide_eq_true_iff] at hc
      obtain ⟨h1, h2, h3⟩ := hc
      simp only [impl_isPattern.l0]
      rw [if_pos (by omega), if_pos (by omega), if_pos (by omega)]
      by_cases h0 : i = 0
      · rw [if_pos (by omega), if_pos (h1 h0), if_neg (by omega), if_neg (by omega), hs]
      · have hp : wrap64 ((i : Int) - 1) = ((i - 1 : Nat) : Int) := by rw [wri (by omega) (by omega)]; omega
        have h4 := h2 (by omega)
        rw [if_neg (by omega), if_pos (by omega), hp, if_pos (by omega), if_pos (by omega), if_neg (by omega), if_neg (by omega), hs]
    · have e : (allF (chkP l) (n + 1) i && lenP l) = false := by simp [allF, hc]
      rw [e]
      unfold chkP at hc
      rw [decide_eq_true_iff] at hc
      refine Ev.done fun k => ?_
      simp only [impl_isPattern.l0]
      rw [if_pos (by omega), if_pos (by omega), if_pos (by omega)]
      by_cases h0 : i = 0
      · rw [if_pos (by omega)]
        by_cases h1 : rd l (i : Int) = 0
        · exact absurd ⟨fun _ => h1, fun h => by omega, by omega⟩ hc
        · rw [if_neg h1]
      · have hp : wrap64 ((i : Int) - 1) = ((i - 1 : Nat) : Int) := by rw [wri (by omega) (by omega)]; omega
        rw [if_neg (by omega), if_pos (by omega), hp, if_pos (by omega), if_pos (by omega)]
        by_cases h2 : rd l ((i - 1 : Nat) : Int) ≥ rd l (i : Int)
        · rw [if_pos h2]
        · rw [if_neg h2]
          by_cases h3 : rd l (i : Int) > 60
          · rw [if_pos h3]
          · exact absurd ⟨fun h => by omega, fun _ => by omega, by omega⟩ hc
theorem impl_isPattern_ev (l : List Int) (hl : l.length ≤ 4000000000) : Ev (fun k => impl_isPattern.f k l) (isP l) := impl_isPattern_l l hl l.length 0 (by omega)
theorem isP_iff (l : List Int) : isP l = true ↔ (1 ≤ l.length ∧ l.length ≤ 8) ∧ ∀ i, i < l.length → (i = 0 → rd l (i : Int) = 0) ∧ (0 < i → rd l ((i - 1 : Nat) : Int) < rd l (i : Int)) ∧ rd l (i : Int) ≤ 60 := by
  unfold isP lenP
  rw [Bool.and_eq_true, allF_iff, decide_eq_true_iff]
  constructor
  · rintro ⟨h1, h2⟩
    exact ⟨h2, fun i hi => of_decide_eq_true (h1 i (by omega) (by omega))⟩
  · rintro ⟨h1, h2⟩
    exact ⟨fun j _ hj => decide_eq_true (h2 j (by omega)), h1⟩
def chkQ (l : List Int) (i : Nat) : Bool := decide (rd l ((i - 1 : Nat) : Int) < rd l (i : Int))
theorem spec_reGood_l (l : List Int) (hl : l.length ≤ 8) (h1 : 1 ≤ l.length) : ∀ n i, i + n = l.length → 1 ≤ i → Ev (fun k => spec_reGood.l0 k l (i : Int)) (allF (chkQ l) n i && decide (rd l ((l.length - 1 : Nat) : Int) ≤ 60))
  | 0, i, hi, hi1 => by
    have hp : wrap64 ((l.length : Int) - 1) = ((l.length - 1 : Nat) : Int) := by rw [wri (by omega) (by omega)]; omega
    refine Ev.done fun k => ?_
    simp only [spec_reGood.l0, allF, Bool.true_and]
    rw [if_neg (by omega), hp, if_pos (by omega), if_pos (by omega)]
  | n + 1, i, hi, hi1 => by
    have ih := spec_reGood_l l hl h1 n (i + 1) (by omega) (by omega)
    have hs : wrap64 ((i : Int) + 1) = ((i + 1 : Nat) : Int) := wr_succ (by omega)
    have hp : wrap64 ((i : Int) - 1) = ((i - 1 : Nat) : Int) := by rw [wri (by omega) (by omega)]; omega
    by_cases hc : chkQ l i = true
    · have e : (allF (chkQ l) (n + 1) i && decide (rd l ((l.length - 1 : Nat) : Int) ≤ 60)) = (allF (chkQ l) n (i + 1) && decide (rd l ((l.length - 1 : Nat) : Int) ≤ 60)) := by simp [allF, hc]
      rw [e]
      refine Ev.step (fun k => ?_) ih
      have hc' := of_decide_eq_true hc
      simp only [spec_reGood.l0]
      rw [if_pos (by omega), if_pos (by omega), hp, if_pos (by omega), if_pos (by omega), if_neg (by omega), hs]
    · have e : (allF (chkQ l) (n + 1) i && decide (rd l ((l.length - 1 : Nat) : Int) ≤ 60)) = false := by simp [allF, hc]
      rw [e]
      unfold chkQ at hc
      rw [decide_eq_true_iff] at hc
      refine Ev.done fun k => ?_
      simp only [spec_reGood.l0]
      rw [if_pos (by omega), if_pos (by omega), hp, if_pos (by omega), if_pos (by omega), if_pos (by omega)]
theorem spec_reGood_ev (l : List Int) (hl : l.length ≤ 4000000000) : Ev (fun k => spec_reGood.f k l) (isP l) := by
  unfold spec_reGood.f
  rw [spec_l1In_eq]
  by_cases h : 1 ≤ (l.length : Int) ∧ (l.length : Int) ≤ 8
  · rw [decide_eq_true h]
    simp only [Option.bind_some, if_true]
    simp only [if_pos (show 0 < (l.length : Int) by omega)]
    by_cases h0 : rd l 0 = 0
    · have e : isP l = (allF (chkQ l) (l.length - 1) 1 && decide (rd l ((l.length - 1 : Nat) : Int) ≤ 60)) := by
        rw [Bool.eq_iff_iff, isP_iff, Bool.and_eq_true, allF_iff, decide_eq_true_iff]
        constructor
        · rintro ⟨h1, h2⟩
          exact ⟨fun j hj hk => decide_eq_true ((h2 j (by omega)).2.1 (by omega)), (h2 (l.length - 1) (by omega)).2.2⟩
        · rintro ⟨h1, h2⟩
          have hd : ∀ d, d < l.length → rd l ((l.length - 1 - d : Nat) : Int) ≤ 60 := by
            intro d
            induction d with
            | zero => intro _; exact h2
            | succ d ih =>
              intro hd
              have h3 := ih (by omega)
              have h4 := of_decide_eq_true (h1 (l.length - 1 - d) (by omega) (by omega))
              rw [show l.length - 1 - d - 1 = l.length - 1 - (d + 1) by omega] at h4
              omega
          refine ⟨by omega, fun i hi => ⟨fun hz => by rw [hz]; exact h0, fun hz => of_decide_eq_true (h1 i (by omega) (by omega)), ?_⟩⟩
          have := hd (l.length - 1 - i) (by omega)
          rwa [show l.length - 1 - (l.length - 1 - i) = i by omega] at this
      rw [e]
      have hj := spec_reGood_l l (by omega) (by omega) (l.length - 1) 1 (by omega) (by omega)
      refine Ev.step (fun k => ?_) hj
      simp only [spec_reGood.j0]
      rw [if_neg (by simp [h0])]
      rfl
    · have e : isP l = false := by
        rw [← Bool.not_eq_true, isP_iff]
        rintro ⟨_, h2⟩
        exact h0 ((h2 0 (by omega)).1 rfl)
      rw [e]
      refine Ev.done fun k => ?_
      simp only [spec_reGood.j0]
      rw [if_pos (by simp [h0])]
  · have e : isP l = false := by
      rw [← Bool.not_eq_true, isP_iff]
      rintro ⟨h1, _⟩
      omega
    rw [decide_eq_false h, e]
    simp only [Option.bind_some, Bool.false_eq_true, if_false]
    exact Ev.done fun k => by simp only [spec_reGood.j0, if_true]
theorem rd_mem {l : List Int} {x : Int} (h : x ∈ l) : ∃ i, i < l.length ∧ x = rd l (i : Int) := by
  obtain ⟨i, hi, rfl⟩ := List.mem_iff_getElem.1 h
  refine ⟨i, hi, ?_⟩
  unfold rd
  rw [Int.toNat_natCast, List.getD_eq_getElem?_getD, List.getElem?_eq_getElem hi]
  rfl
/-- A pattern as naturals. -/
theorem pat_nat {l : List Int} (h : isP l = true) : ∃ m : List Nat, l = ints m ∧ (∀ x ∈ m, x ≤ 60) ∧ 1 ≤ m.length ∧ m.length ≤ 8 := by
  rw [isP_iff] at h
  obtain ⟨hlen, h⟩ := h
  have h0 : ∀ i, i < l.length → 0 ≤ rd l (i : Int) := by
    intro i
    induction i with
    | zero => intro hi; have := (h 0 hi).1 rfl; omega
    | succ i ih =>
      intro hi
      have h1 := ih (by omega)
      have h2 := (h (i + 1) hi).2.1 (by omega)
      rw [Nat.add_sub_cancel] at h2
      omega
  have hm : ∀ x ∈ l, ((x.toNat : Nat) : Int) = x := by
    intro x hx
    obtain ⟨i, hi, rfl⟩ := rd_mem hx
    have := h0 i hi
    omega
  refine ⟨l.map Int.toNat, ?_, ?_, by rw [List.length_map]; exact hlen.1, by rw [List.length_map]; exact hlen.2⟩
  · unfold ints
    rw [List.map_map]
    conv => lhs; rw [← List.map_id l]
    exact List.map_congr_left fun x hx => (hm x hx).symm
  · intro x hx
    obtain ⟨y, hy, rfl⟩ := List.mem_map.1 hx
    obtain ⟨i, hi, rfl⟩ := rd_mem hy
    have := (h i hi).2.2
    omega
/-- Some offset has this remainder. -/
def hs (m : List Nat) (p r : Nat) : Bool := m.any fun x => x % p == r
theorem hs_iff (m : List Nat) (p r : Nat) : hs m p r = true ↔ ∃ x ∈ m, x % p = r := by
  unfold hs
  rw [List.any_eq_true]
  constructor
  · rintro ⟨x, hx, h⟩; exact ⟨x, hx, beq_iff_eq.1 h⟩
  · rintro ⟨x, hx, h⟩; exact ⟨x, hx, beq_iff_eq.2 h⟩
/-- The remainders that offsets have. -/
def rests (m : List Nat) (p : Nat) : List Nat := (List.range p).filter (hs m p)
theorem rests_len (m : List Nat) (p : Nat) : (rests m p).length ≤ p := Nat.le_trans (List.length_filter_le _ _) (by rw [List.length_range]; exact Nat.le_refl _)
theorem range_filter_succ (q : Nat → Bool) (r : Nat) : (List.range (r + 1)).filter q = (List.range r).filter q ++ (if q r then [r] else []) := by
  rw [List.range_succ, List.filter_append]
  congr 1
  by_cases h : q r <;> simp [h]
theorem spec_reRests_l1 (m : List Nat) (p r : Nat) (acc : List Int) (hp : 0 < p) (hm : m.length ≤ 100) (hacc : acc.length < 17592186044416) (v : List Int) (hr : r < 1000000) : ∀ suf pre, pre ++ suf = m →
    Ev (fun k => spec_reRests.l0 k (ints m) (p : Int) (acc ++ if suf.any (fun x => x % p == r) then [(r : Int)] else []) ((r + 1 : Nat) : Int)) v →
    Ev (fun k => spec_reRests.l1 k (ints m) (p : Int) acc (r : Int) (ints m) ((ints m).length : Int) (pre.length : Int)) v
  | [], pre, e, h => by
    rw [List.append_nil] at e
    subst e
    simp only [List.any_nil, Bool.false_eq_true, if_false, List.append_nil] at h
    refine Ev.step (fun k => ?_) h
    simp only [spec_reRests.l1]
    rw [ints_len, if_neg (by omega), wr_succ (by omega)]
  | x :: suf, pre, e, h => by
    have hlen : (ints m).length = pre.length + 1 + suf.length := by rw [ints_len, ← e]; simp; omega
    have hml : m.length = pre.length + 1 + suf.length := by rw [← e]; simp; omega
    have hg : rd (ints m) (pre.length : Int) = (x : Int) := by rw [← e]; exact ints_get pre x suf
    by_cases hx : x % p = r
    · have hany : (x :: suf).any (fun x => x % p == r) = true := by simp [hx]
      rw [hany] at h
      simp only [if_true] at h
      refine Ev.step (fun k => ?_) h
      simp only [spec_reRests.l1]
      rw [if_pos (by omega), if_pos (by omega), if_pos (by omega), if_neg (by omega), hg, tm, if_pos (by omega), if_pos hacc, wr_succ (by omega)]
    · have hany : (x :: suf).any (fun x => x % p == r) = suf.any (fun x => x % p == r) := by simp [hx]
      rw [hany] at h
      have ih := spec_reRests_l1 m p r acc hp hm hacc v hr suf (pre ++ [x]) (by rw [← e]; simp) h
      have hq : ((pre ++ [x]).length : Int) = ((pre.length + 1 : Nat) : Int) := by simp
      rw [hq] at ih
      refine Ev.step (fun k => ?_) ih
      simp only [spec_reRests.l1]
      rw [if_pos (by omega), if_pos (by omega), if_pos (by omega), if_neg (by omega), hg, tm, if_neg (by omega), wr_succ (by omega)]
theorem spec_reRests_l0 (m : List Nat) (p : Nat) (hp : 0 < p) (hpm : p ≤ 1000) (hm : m.length ≤ 100) : ∀ n r, r + n = p → Ev (fun k => spec_reRests.l0 k (ints m) (p : Int) (ints ((List.range r).filter (hs m p))) (r : Int)) (ints (rests m p))
  | 0, r, e => by
    have e' : r = p := by omega
    subst e'
    refine Ev.done fun k => ?_
    simp only [spec_reRests.l0]
    rw [if_neg (by omega)]
    rfl
  | n + 1, r, e => by
    have ih := spec_reRests_l0 m p hp hpm hm n (r + 1) (by omega)
    have hl : ((List.range r).filter (hs m p)).length ≤ r := Nat.le_trans (List.length_filter_le _ _) (by rw [List.length_range]; exact Nat.le_refl _)
    refine Ev.step (f := fun k => spec_reRests.l1 k (ints m) (p : Int) (ints ((List.range r).filter (hs m p))) (r : Int) (ints m) ((ints m).length : Int) ((([] : List Nat).length : Nat) : Int)) (fun k => ?_) (spec_reRests_l1 m p r _ hp hm (by rw [ints_len]; omega) _ (by omega) m [] rfl ?_)
    · simp only [spec_reRests.l0]
      rw [if_pos (by omega)]
      rfl
    · rw [range_filter_succ, ← ints_app] at ih
      have e2 : ints (if hs m p r then [r] else []) = if m.any (fun x => x % p == r) then [(r : Int)] else [] := by
        unfold hs
        split <;> rfl
      rw [e2] at ih
      exact ih
theorem spec_reRests_ev (m : List Nat) (p : Nat) (hp : 0 < p) (hpm : p ≤ 1000) (hm : m.length ≤ 100) : Ev (fun k => spec_reRests.f k (ints m) (p : Int)) (ints (rests m p)) := by
  have := spec_reRests_l0 m p hp hpm hm p 0 (by omega)
  exact this
theorem spec_l1Has_l (D : List Nat) (v : Nat) (hD : D.length ≤ 1000000) : ∀ suf pre, pre ++ suf = D → Ev (fun k => spec_l1Has.l0 k (v : Int) (ints D) ((ints D).length : Int) (pre.length : Int)) (suf.any fun x => x == v)
  | [], pre, e => by
    rw [List.append_nil] at e
    subst e
    refine Ev.done fun k => ?_
    simp only [spec_l1Has.l0]
    rw [ints_len, if_neg (by omega)]
    rfl
  | x :: suf, pre, e => by
    have hlen : (ints D).length = pre.length + 1 + suf.length := by rw [ints_len, ← e]; simp; omega
    have hDl : D.length = pre.length + 1 + suf.length := by rw [← e]; simp; omega
    have hg : rd (ints D) (pre.length : Int) = (x : Int) := by rw [← e]; exact ints_get pre x suf
    by_cases hx : x = v
    · have hany : (x :: suf).any (fun x => x == v) = true := by simp [hx]
      rw [hany]
      refine Ev.done fun k => ?_
      simp only [spec_l1Has.l0]
      rw [if_pos (by omega), if_pos (by omega), if_pos (by omega), hg, if_pos (by omega)]
    · have hany : (x :: suf).any (fun x => x == v) = suf.any (fun x => x == v) := by simp [hx]
      rw [hany]
      have ih := spec_l1Has_l D v hD suf (pre ++ [x]) (by rw [← e]; simp)
      have hq : ((pre ++ [x]).length : Int) = ((pre.length + 1 : Nat) : Int) := by simp
      rw [hq] at ih
      refine Ev.step (fun k => ?_) ih
      simp only [spec_l1Has.l0]
      rw [if_pos (by omega), if_pos (by omega), if_pos (by omega), hg, if_neg (by omega), wr_succ (by omega)]
theorem spec_l1Has_ev (D : List Nat) (v : Nat) (hD : D.length ≤ 1000000) : Ev (fun k => spec_l1Has.f k (ints D) (v : Int)) (D.any fun x => x == v) := spec_l1Has_l D v hD D [] rfl
/-- The remainder of the number's negative. -/
def ng (p a : Nat) : Nat := if a = 0 then 0 else p - a
theorem ng_lt {p a : Nat} (ha : a < p) : ng p a < p := by unfold ng; split <;> omega
theorem ng_ng {p a : Nat} (ha : a < p) : ng p (ng p a) = a := by
  unfold ng
  by_cases h : a = 0
  · rw [if_pos h, if_pos rfl, h]
  · rw [if_neg h, if_neg (by omega)]; omega
theorem neg_mod (x p : Nat) (hp : 0 < p) (hpm : p ≤ 1000) (hx : x ≤ 1000000) : wrap64 (-(x : Int)) = -(x : Int) ∧ Int.tmod (wrap64 (Int.tmod (-(x : Int)) (p : Int) + (p : Int))) (p : Int) = ((ng p (x % p) : Nat) : Int) := by
  have h1 : Int.tmod (-(x : Int)) (p : Int) = -((x % p : Nat) : Int) := by rw [Int.neg_tmod, tm]
  have hlt : x % p < p := Nat.mod_lt _ hp
  refine ⟨by rw [wri (by omega) (by omega)], ?_⟩
  rw [h1, wri (by omega) (by omega)]
  have h2 : -((x % p : Nat) : Int) + (p : Int) = ((p - x % p : Nat) : Int) := by omega
  rw [h2, tm]
  unfold ng
  by_cases h : x % p = 0
  · rw [if_pos h, h, Nat.sub_zero, Nat.mod_self]
  · rw [if_neg h, Nat.mod_eq_of_lt (by omega)]
theorem spec_siRest_eq (x p : Nat) (hp : 0 < p) (hpm : p ≤ 1000) (hx : x ≤ 1000000) : spec_siRest.f (wrap64 (-(x : Int))) (p : Int) = some ((ng p (x % p) : Nat) : Int) := by
  obtain ⟨h1, h2⟩ := neg_mod x p hp hpm hx
  unfold spec_siRest.f
  rw [if_neg (by omega), h1, h2]
theorem impl_mod_eq (x p : Nat) (hp : 0 < p) (hpm : p ≤ 1000) (hx : x ≤ 1000000) : impl_mod.f (wrap64 (-(x : Int))) (p : Int) = some ((ng p (x % p) : Nat) : Int) := by
  obtain ⟨h1, h2⟩ := neg_mod x p hp hpm hx
  unfold impl_mod.f
  rw [if_neg (by omega), h1, h2]
/-- The prime with an index. -/
def P6 (k : Nat) : Nat := [2, 3, 5, 7, 11, 13].getD k 0
theorem P6_pos : ∀ k, k < 6 → 2 ≤ P6 k ∧ P6 k ≤ 13 := by decide
theorem spec_rePrime_eq : ∀ k : Nat, k < 6 → spec_rePrime.f (k : Int) = some ((P6 k : Nat) : Int) := by decide
/-- The remainders that are crossed out. -/
def outs (m : List Nat) (p : Nat) : List Nat := (List.range p).filter fun r => hs m p (ng p r)
theorem outs_len (m : List Nat) (p : Nat) : (outs m p).length ≤ p := Nat.le_trans (List.length_filter_le _ _) (by rw [List.length_range]; exact Nat.le_refl _)
def rul (p : Nat) (l : List Nat) : List S38 := l.map fun r : Nat => (⟨(p : Int), (r : Int)⟩ : S38)
/-- The rules of the first primes. -/
def RL (m : List Nat) : Nat → List S38
  | 0 => []
  | k + 1 => RL m k ++ rul (P6 k) (outs m (P6 k))
theorem rul_len (p : Nat) (l : List Nat) : (rul p l).length = l.length := by simp [rul]
theorem RL_len (m : List Nat) : ∀ k, k ≤ 6 → (RL m k).length ≤ 13 * k
  | 0, _ => Nat.le_refl _
  | k + 1, h => by
    have h1 := RL_len m k (by omega)
    have h2 := outs_len m (P6 k)
    have h3 := P6_pos k (by omega)
    simp only [RL, List.length_append, rul_len]
    omega
theorem any_rests {m : List Nat} {p a : Nat} (ha : a < p) : ((rests m p).any fun x => x == a) = hs m p a := by
  rw [Bool.eq_iff_iff, List.any_eq_true]
  unfold rests
  constructor
  · rintro ⟨x, hx, he⟩
    rw [List.mem_filter] at hx
    rw [← beq_iff_eq.1 he]; exact hx.2
  · intro h
    exact ⟨a, by rw [List.mem_filter, List.mem_range]; exact ⟨ha, h⟩, beq_iff_eq.2 rfl⟩
theorem rul_snoc (p : Nat) (l : List Nat) (r : Nat) : rul p (l ++ [r]) = rul p l ++ [(⟨(p : Int), (r : Int)⟩ : S38)] := by simp [rul]
theorem spec_Rules_l1 (m : List Nat) (hm : m.length ≤ 100) (n k : Nat) (hk : k < n) (hn : n ≤ 6) (v : List S38 × Bool) (h : Ev (fun z => spec_RulesOfPattern.l0 z (ints m) (n : Int) (RL m (k + 1)) ((k + 1 : Nat) : Int)) v) :
    ∀ c r, r + c = P6 k → Ev (fun z => spec_RulesOfPattern.l1 z (ints m) (n : Int) (RL m k ++ rul (P6 k) ((List.range r).filter fun r => hs m (P6 k) (ng (P6 k) r))) (k : Int) ((P6 k : Nat) : Int) (r : Int)) v
  | 0, r, e => by
    have e' : r = P6 k := by omega
    subst e'
    refine Ev.step (fun z => ?_) h
    simp only [spec_RulesOfPattern.l1]
    rw [if_neg (by omega), wr_succ (by omega)]
    rfl
  | c + 1, r, e => by
    have hP := P6_pos k (by omega)
    have hR := RL_len m k (by omega)
    have ih := spec_Rules_l1 m hm n k hk hn v h c (r + 1) (by omega)
    have hl : ((List.range r).filter fun r => hs m (P6 k) (ng (P6 k) r)).length ≤ r := Nat.le_trans (List.length_filter_le _ _) (by rw [List.length_range]; exact Nat.le_refl _)
    have h1 := spec_reRests_ev m (P6 k) (by omega) (by omega) hm
    have h2 := spec_siRest_eq r (P6 k) (by omega) (by omega) (by omega)
    have h3 := spec_l1Has_ev (rests m (P6 k)) (ng (P6 k) r) (by have := rests_len m (P6 k); omega)
    rw [any_rests (ng_lt (by omega))] at h3
    rw [Nat.mod_eq_of_lt (by omega)] at h2
    have hs_ : wrap64 ((r : Int) + 1) = ((r + 1 : Nat) : Int) := wr_succ (by omega)
    refine Ev.step (f := ?f0) (fun z => ?a0) ?b0
    case a0 =>
      simp only [spec_RulesOfPattern.l1]
      rw [if_pos (by omega), h2, hs_]
    refine h1.bind ?_
    simp only [Option.bind_some]
    refine h3.bind ?_
    rw [range_filter_succ] at ih
    by_cases hq : hs m (P6 k) (ng (P6 k) r) = true
    · simp only [hq, if_true]
      simp only [hq, if_true, rul_snoc, ← List.append_assoc] at ih
      simp only [if_pos (show (RL m k ++ rul (P6 k) ((List.range r).filter fun r => hs m (P6 k) (ng (P6 k) r))).length < 8796093022208 by rw [List.length_append, rul_len]; omega)]
      exact ih
    · simp only [hq, Bool.false_eq_true, if_false, List.append_nil] at ih ⊢
      exact ih
theorem spec_Rules_l0 (m : List Nat) (hm : m.length ≤ 100) (n : Nat) (hn : n ≤ 6) (v : List S38 × Bool) (h : Ev (fun z => (spec_siGood.f z (RL m n)).bind fun t => (if t = true then (some (RL m n, true)) else (some (([] : List (S38)), false)))) v) :
    ∀ c k, k + c = n → Ev (fun z => spec_RulesOfPattern.l0 z (ints m) (n : Int) (RL m k) (k : Int)) v
  | 0, k, e => by
    have e' : k = n := by omega
    subst e'
    refine Ev.step (fun z => ?_) h
    simp only [spec_RulesOfPattern.l0]
    rw [if_neg (by omega)]
  | c + 1, k, e => by
    have ih := spec_Rules_l0 m hm n hn v h c (k + 1) (by omega)
    have h1 := spec_Rules_l1 m hm n k (by omega) hn v ih (P6 k) 0 (by omega)
    refine Ev.step (fun z => ?_) h1
    simp only [spec_RulesOfPattern.l0]
    rw [if_pos (by omega), spec_rePrime_eq k (by omega), Option.bind_some]
    simp [rul]
/-- Each rule is one. -/
def ok38 (l : List S38) : Prop := ∀ x ∈ l, 2 ≤ x.f0 ∧ x.f0 ≤ 60 ∧ 0 ≤ x.f1 ∧ x.f1 < x.f0
theorem RL_ok (m : List Nat) : ∀ k, k ≤ 6 → ok38 (RL m k)
  | 0, _ => fun x hx => by simp [RL] at hx
  | k + 1, h => by
    have h1 := RL_ok m k (by omega)
    have h3 := P6_pos k (by omega)
    intro x hx
    simp only [RL, List.mem_append] at hx
    rcases hx with hx | hx
    · exact h1 x hx
    · simp only [rul, outs, List.mem_map, List.mem_filter, List.mem_range] at hx
      obtain ⟨r, ⟨hr, _⟩, rfl⟩ := hx
      refine ⟨?_, ?_, ?_, ?_⟩ <;> simp only <;> omega
theorem rdT_get (pre : List S38) (x : S38) (l : List S38) : rd_T38 (pre ++ x :: l) (pre.length : Int) = x := by
  unfold rd_T38
  rw [Int.toNat_natCast]
  simp
theorem spec_siRule_eq {x : S38} (h : 2 ≤ x.f0 ∧ x.f0 ≤ 60 ∧ 0 ≤ x.f1 ∧ x.f1 < x.f0) : spec_siRule.f x.f0 x.f1 = some true := by
  unfold spec_siRule.f
  rw [spec_l1In_eq, decide_eq_true ⟨h.1, h.2.1⟩, Option.bind_some]
  simp only [if_true]
  rw [spec_l1In_eq, wri (by omega) (by omega), decide_eq_true ⟨h.2.2.1, by omega⟩]
  rfl
theorem spec_siGood_l (L : List S38) (hL : L.length ≤ 12) (hok : ok38 L) : ∀ suf pre, pre ++ suf = L → Ev (fun k => spec_siGood.l0 k L (L.length : Int) (pre.length : Int)) true
  | [], pre, e => by
    rw [List.append_nil] at e
    subst e
    refine Ev.done fun k => ?_
    simp only [spec_siGood.l0]
    rw [if_neg (by omega)]
  | x :: suf, pre, e => by
    have hlen : L.length = pre.length + 1 + suf.length := by rw [← e]; simp; omega
    have hg : rd_T38 L (pre.length : Int) = x := by rw [← e]; exact rdT_get pre x suf
    have ih := spec_siGood_l L hL hok suf (pre ++ [x]) (by rw [← e]; simp)
    have hq : ((pre ++ [x]).length : Int) = ((pre.length + 1 : Nat) : Int) := by simp
    rw [hq] at ih
    refine Ev.step (fun k => ?_) ih
    simp only [spec_siGood.l0]
    rw [if_pos (by omega), if_pos (by omega), if_pos (by omega), hg, spec_siRule_eq (hok x (by rw [← e]; simp)), Option.bind_some, if_pos rfl, wr_succ (by omega)]
theorem spec_siGood_ev (L : List S38) (hok : ok38 L) : Ev (fun k => spec_siGood.f k L) (decide (L.length ≤ 12)) := by
  unfold spec_siGood.f
  by_cases h : L.length ≤ 12
  · simp only [if_neg (show ¬ (L.length : Int) > 12 by omega)]
    rw [decide_eq_true h]
    exact spec_siGood_l L h hok L [] rfl
  · simp only [if_pos (show (L.length : Int) > 12 by omega)]
    rw [decide_eq_false h]
    exact Ev.now _
theorem impl_isRule_eq {x : S38} (h : 2 ≤ x.f0 ∧ x.f0 ≤ 60 ∧ 0 ≤ x.f1 ∧ x.f1 < x.f0) : impl_areRules_1.f x.f0 x.f1 = some false := by
  unfold impl_areRules_1.f impl_isRule.f
  rw [if_pos h.1, if_pos h.2.1, if_pos h.2.2.1, decide_eq_true h.2.2.2]
  rfl
theorem impl_areRules_l (L : List S38) (hL : L.length ≤ 12) (hok : ok38 L) : ∀ suf pre, pre ++ suf = L → Ev (fun k => impl_areRules.l0 k L (pre.length : Int)) (-1)
  | [], pre, e => by
    rw [List.append_nil] at e
    subst e
    refine Ev.done fun k => ?_
    simp only [impl_areRules.l0]
    rw [if_neg (by omega)]
  | x :: suf, pre, e => by
    have hlen : L.length = pre.length + 1 + suf.length := by rw [← e]; simp; omega
    have hg : rd_T38 L (pre.length : Int) = x := by rw [← e]; exact rdT_get pre x suf
    have ih := impl_areRules_l L hL hok suf (pre ++ [x]) (by rw [← e]; simp)
    have hq : ((pre ++ [x]).length : Int) = ((pre.length + 1 : Nat) : Int) := by simp
    rw [hq] at ih
    refine Ev.step (fun k => ?_) ih
    simp only [impl_areRules.l0]
    rw [if_pos (by omega), if_pos (by omega), hg, impl_isRule_eq (hok x (by rw [← e]; simp)), Option.bind_some, if_neg (by decide), wr_succ (by omega)]
theorem impl_areRules_ev (L : List S38) (hok : ok38 L) : Ev (fun k => impl_areRules.f k L) (decide (L.length ≤ 12)) := by
  unfold impl_areRules.f
  by_cases h : L.length ≤ 12
  · simp only [if_pos (show (L.length : Int) ≤ 12 by omega)]
    rw [decide_eq_true h]
    exact (impl_areRules_l L h hok L [] rfl).bind (f := fun _ t2 => some (!decide (t2 ≥ 0))) (Ev.now _)
  · simp only [if_neg (show ¬ (L.length : Int) ≤ 12 by omega)]
    rw [decide_eq_false h]
    exact Ev.now _
theorem cptA_mem : ∀ (l : List Int) (p x : Int), x ∈ p :: cptA p l ↔ x ∈ p :: l
  | [], _, _ => by simp [cptA]
  | a :: l, p, x => by
    by_cases h : a = p
    · subst h
      have ih := cptA_mem l a x
      simp only [cptA, if_true]
      rw [ih]
      simp
    · have ih := cptA_mem l a x
      simp only [cptA, if_neg h]
      rw [List.mem_cons, ih, List.mem_cons (a := x) (b := p)]
theorem cptA_sorted : ∀ (l : List Int) (p : Int), (p :: l).Pairwise (· ≤ ·) → (p :: cptA p l).Pairwise (· < ·)
  | [], _, _ => by simp [cptA]
  | a :: l, p, hs => by
    rw [List.pairwise_cons] at hs
    obtain ⟨h1, h2⟩ := hs
    by_cases h : a = p
    · subst h
      simp only [cptA, if_true]
      exact cptA_sorted l a h2
    · have ih := cptA_sorted l a h2
      simp only [cptA, if_neg h]
      rw [List.pairwise_cons]
      refine ⟨fun x hx => ?_, ih⟩
      have h3 := (cptA_mem l a x).1 hx
      have h4 := h1 a (by simp)
      rw [List.pairwise_cons] at h2
      rcases List.mem_cons.1 h3 with rfl | h5
      · omega
      · have := h2.1 x h5; omega
theorem cpt_mem (l : List Int) (x : Int) : x ∈ cpt l ↔ x ∈ l := by
  cases l with
  | nil => simp [cpt]
  | cons a l => exact cptA_mem l a x
theorem cpt_sorted (l : List Int) (h : l.Pairwise (· ≤ ·)) : (cpt l).Pairwise (· < ·) := by
  cases l with
  | nil => simp [cpt]
  | cons a l => exact cptA_sorted l a h
theorem sorted_uniqueI : ∀ {l m : List Int}, l.Pairwise (· < ·) → m.Pairwise (· < ·) → (∀ x, x ∈ l ↔ x ∈ m) → l = m
  | [], [], _, _, _ => rfl
  | [], y :: m, _, _, h => by have := (h y).2 (by simp); simp at this
  | x :: l, [], _, _, h => by have := (h x).1 (by simp); simp at this
  | x :: l, y :: m, hl, hm, h => by
    rw [List.pairwise_cons] at hl hm
    have hxy : x = y := by
      have h1 := (h x).1 (by simp)
      have h2 := (h y).2 (by simp)
      rw [List.mem_cons] at h1 h2
      rcases h1 with h1 | h1
      · exact h1
      · rcases h2 with h2 | h2
        · exact h2.symm
        · have := hm.1 x h1; have := hl.1 y h2; omega
    subst hxy
    rw [sorted_uniqueI hl.2 hm.2 fun z => ?_]
    have := h z
    rw [List.mem_cons, List.mem_cons] at this
    constructor
    · intro hz
      rcases this.1 (Or.inr hz) with rfl | h3
      · have := hl.1 z hz; omega
      · exact h3
    · intro hz
      rcases this.2 (Or.inr hz) with rfl | h3
      · have := hm.1 z hz; omega
      · exact h3
/-- Sorted, and of equal ones one: the increasing list of the same numbers. -/
theorem sort_cpt {L F : List Nat} (hF : F.Pairwise (· < ·)) (hm : ∀ x, x ∈ F ↔ x ∈ L) : cpt ((ints L).mergeSort fun x y => decide (x ≤ y)) = ints F := by
  have htr : ∀ a b c : Int, decide (a ≤ b) = true → decide (b ≤ c) = true → decide (a ≤ c) = true := fun a b c h1 h2 => by
    rw [decide_eq_true_iff] at *; omega
  have hto : ∀ a b : Int, (decide (a ≤ b) || decide (b ≤ a)) = true := fun a b => by
    rw [Bool.or_eq_true, decide_eq_true_iff, decide_eq_true_iff]; omega
  have hs := List.pairwise_mergeSort htr hto (ints L)
  have hp := List.mergeSort_perm (ints L) (fun x y => decide (x ≤ y))
  refine sorted_uniqueI (cpt_sorted _ (hs.imp fun h => of_decide_eq_true h)) ?_ fun x => ?_
  · unfold ints
    rw [List.pairwise_map]
    exact hF.imp fun h => by omega
  · rw [cpt_mem, hp.mem_iff]
    unfold ints
    rw [List.mem_map, List.mem_map]
    constructor
    · rintro ⟨a, ha, rfl⟩; exact ⟨a, (hm a).2 ha, rfl⟩
    · rintro ⟨a, ha, rfl⟩; exact ⟨a, (hm a).1 ha, rfl⟩
def PL (n : Nat) : List Int := ([2, 3, 5, 7, 11, 13] : List Int).take n
theorem PL_len : ∀ n, n ≤ 6 → (PL n).length = n := by decide
theorem PL_get : ∀ n, n ≤ 6 → ∀ k, k < n → rd (PL n) ((k : Nat) : Int) = ((P6 k : Nat) : Int) := by decide
theorem outs_sort (m : List Nat) (p : Nat) (hp : 0 < p) : cpt ((ints (m.map fun x => ng p (x % p))).mergeSort fun x y => decide (x ≤ y)) = ints (outs m p) := by
  refine sort_cpt (List.Pairwise.filter _ List.pairwise_lt_range) fun r => ?_
  unfold outs
  rw [List.mem_filter, List.mem_range, hs_iff, List.mem_map]
  constructor
  · rintro ⟨hr, x, hx, he⟩
    exact ⟨x, hx, by rw [he, ng_ng hr]⟩
  · rintro ⟨x, hx, rfl⟩
    have := Nat.mod_lt x hp
    exact ⟨ng_lt this, x, hx, by rw [ng_ng this]⟩
theorem impl_rules_l2 (m : List Nat) (n k : Nat) (hk : k < n) (hn : n ≤ 6) (v : List S38) (h : Ev (fun z => impl_rulesOfPattern.l0 z (ints m) (RL m (k + 1)) (PL n) (n : Int) ((k + 1 : Nat) : Int)) v) :
    ∀ suf pre, pre ++ suf = outs m (P6 k) → Ev (fun z => impl_rulesOfPattern.l2 z (ints m) (RL m k ++ rul (P6 k) pre) ((P6 k : Nat) : Int) (PL n) (n : Int) (k : Int) (ints (outs m (P6 k))) ((ints (outs m (P6 k))).length : Int) (pre.length : Int)) v
  | [], pre, e => by
    rw [List.append_nil] at e
    subst e
    refine Ev.step (fun z => ?_) h
    simp only [impl_rulesOfPattern.l2]
    rw [ints_len, if_neg (by omega), wr_succ (by omega)]
    rfl
  | x :: suf, pre, e => by
    have hP := P6_pos k (by omega)
    have hR := RL_len m k (by omega)
    have ho := outs_len m (P6 k)
    have hlen : (ints (outs m (P6 k))).length = pre.length + 1 + suf.length := by rw [ints_len, ← e]; simp; omega
    have hl : (outs m (P6 k)).length = pre.length + 1 + suf.length := by rw [← e]; simp; omega
    have hg : rd (ints (outs m (P6 k))) (pre.length : Int) = (x : Int) := by rw [← e]; exact ints_get pre x suf
    have ih := impl_rules_l2 m n k hk hn v h suf (pre ++ [x]) (by rw [← e]; simp)
    have hq : ((pre ++ [x]).length : Int) = ((pre.length + 1 : Nat) : Int) := by simp
    rw [hq, rul_snoc, ← List.append_assoc] at ih
    refine Ev.step (fun z => ?_) ih
    simp only [impl_rulesOfPattern.l2]
    rw [if_pos (by omega), if_pos (by omega), if_pos (by omega), if_pos (by rw [List.length_append, rul_len]; omega), hg, wr_succ (by omega)]
theorem impl_rules_l1 (m : List Nat) (hm : m.length ≤ 100) (hx : ∀ x ∈ m, x ≤ 60) (n k : Nat) (hk : k < n) (hn : n ≤ 6) (v : List S38) (h : Ev (fun z => impl_rulesOfPattern.l0 z (ints m) (RL m (k + 1)) (PL n) (n : Int) ((k + 1 : Nat) : Int)) v) :
    ∀ suf pre, pre ++ suf = m → Ev (fun z => impl_rulesOfPattern.l1 z (ints m) (RL m k) ((P6 k : Nat) : Int) (ints (pre.map fun x => ng (P6 k) (x % P6 k))) (PL n) (n : Int) (k : Int) (ints m) ((ints m).length : Int) (pre.length : Int)) v
  | [], pre, e => by
    rw [List.append_nil] at e
    subst e
    have hP := P6_pos k (by omega)
    have h2 := impl_rules_l2 pre n k hk hn v h (outs pre (P6 k)) [] rfl
    have ho := outs_len pre (P6 k)
    have e1 : slices_Sort_int_int.f (ints (pre.map fun x => ng (P6 k) (x % P6 k))) = some ((ints (pre.map fun x => ng (P6 k) (x % P6 k))).mergeSort fun x y => decide (x ≤ y)) := by
      unfold slices_Sort_int_int.f
      rw [if_pos (by rw [ints_len, List.length_map]; omega)]
    have e2 : slices_Compact_int_int.f ((ints (pre.map fun x => ng (P6 k) (x % P6 k))).mergeSort fun x y => decide (x ≤ y)) = some (ints (outs pre (P6 k))) := by
      unfold slices_Compact_int_int.f
      rw [if_pos (by rw [List.length_mergeSort, ints_len, List.length_map]; omega), outs_sort pre (P6 k) (by omega)]
    refine Ev.step (fun z => ?_) h2
    simp only [impl_rulesOfPattern.l1]
    rw [ints_len, if_neg (by omega), e1, Option.bind_some, e2, Option.bind_some]
    simp [rul]
  | x :: suf, pre, e => by
    have hP := P6_pos k (by omega)
    have hlen : (ints m).length = pre.length + 1 + suf.length := by rw [ints_len, ← e]; simp; omega
    have hl : m.length = pre.length + 1 + suf.length := by rw [← e]; simp; omega
    have hg : rd (ints m) (pre.length : Int) = (x : Int) := by rw [← e]; exact ints_get pre x suf
    have hx60 := hx x (by rw [← e]; simp)
    have ih := impl_rules_l1 m hm hx n k hk hn v h suf (pre ++ [x]) (by rw [← e]; simp)
    have hq : ((pre ++ [x]).length : Int) = ((pre.length + 1 : Nat) : Int) := by simp
    have hap : ints ((pre ++ [x]).map fun x => ng (P6 k) (x % P6 k)) = ints (pre.map fun x => ng (P6 k) (x % P6 k)) ++ [((ng (P6 k) (x % P6 k) : Nat) : Int)] := by simp [ints]
    rw [hq, hap] at ih
    have hmod := impl_mod_eq x (P6 k) (by omega) (by omega) (by omega)
    refine Ev.step (fun z => ?_) ih
    simp only [impl_rulesOfPattern.l1]
    rw [if_pos (by omega), if_pos (by omega), if_pos (by omega), hg, hmod, Option.bind_some, if_pos (by rw [ints_len, List.length_map]; omega), wr_succ (by omega)]
theorem impl_rules_l0 (m : List Nat) (hm : m.length ≤ 100) (hx : ∀ x ∈ m, x ≤ 60) (n : Nat) (hn : n ≤ 6) : ∀ c k, k + c = n → Ev (fun z => impl_rulesOfPattern.l0 z (ints m) (RL m k) (PL n) (n : Int) (k : Int)) (RL m n)
  | 0, k, e => by
    have e' : k = n := by omega
    subst e'
    refine Ev.done fun z => ?_
    simp only [impl_rulesOfPattern.l0]
    rw [if_neg (by omega)]
  | c + 1, k, e => by
    have ih := impl_rules_l0 m hm hx n hn c (k + 1) (by omega)
    have h1 := impl_rules_l1 m hm hx n k (by omega) hn _ ih m [] rfl
    have hl := PL_len n hn
    refine Ev.step (fun z => ?_) h1
    simp only [impl_rulesOfPattern.l0]
    rw [if_pos (by omega), if_pos (by omega), if_pos (by omega), PL_get n hn k (by omega)]
    rfl
theorem impl_rules_ev (m : List Nat) (hm : m.length ≤ 100) (hx : ∀ x ∈ m, x ≤ 60) (n : Nat) (hn : n ≤ 6) : Ev (fun z => impl_rulesOfPattern.f z (ints m) (n : Int)) (RL m n) := by
  have h := impl_rules_l0 m hm hx n hn n 0 (by omega)
  unfold impl_rulesOfPattern.f impl_firstSix.f
  simp only [Option.bind_some]
  simp only [if_pos (show 0 ≤ (n : Int) by omega), if_pos (show (n : Int) ≤ (([2, 3, 5, 7, 11, 13] : List Int).length : Int) by simp; omega), Int.toNat_natCast]
  have hl := PL_len n hn
  have e : ((([2, 3, 5, 7, 11, 13] : List Int).take n).length : Int) = (n : Int) := by
    have : (PL n).length = n := hl
    unfold PL at this
    omega
  rw [e]
  exact h
theorem rd_at (l : List Int) (j : Nat) : rd l (j : Int) = l.getD j 0 := by unfold rd; rw [Int.toNat_natCast]
theorem laws_eqIntS_l (l : List Int) (hl : l.length ≤ 4000000000000000000) : ∀ (j i : Nat), l.length ≤ i + j → i ≤ l.length → Ev (fun k => laws_eqIntS.l0 k l l i) true := by
  intro j
  induction j with
  | zero =>
    intro i h1 h2
    refine Ev.done fun k => ?_
    simp only [laws_eqIntS.l0]
    rw [if_neg (by omega)]
  | succ j ih =>
    intro i h1 h2
    by_cases h : i < l.length
    · refine Ev.step (fun k => ?_) (ih (i + 1) (by omega) (by omega))
      simp only [laws_eqIntS.l0]
      rw [if_pos (by omega), if_pos (by omega), if_pos (by omega), if_pos trivial, wr_succ (by omega)]
    · refine Ev.done fun k => ?_
      simp only [laws_eqIntS.l0]
      rw [if_neg (by omega)]
theorem laws_eqIntS_self (l : List Int) (hl : l.length ≤ 4000000000000000000) : Ev (fun k => laws_eqIntS.f k l l) true := by
  unfold laws_eqIntS.f
  refine Ev.congr (fun k => if_pos rfl) (laws_eqIntS_l l hl l.length 0 (by omega) (by omega))
/-- a, a + 1, .., so many. -/
def seqI (a : Int) : Nat → List Int
  | 0 => []
  | n + 1 => a :: seqI (a + 1) n
theorem seqI_len : ∀ (n : Nat) (a : Int), (seqI a n).length = n
  | 0, _ => rfl
  | n + 1, a => by simp [seqI, seqI_len n]
theorem seqI_get : ∀ (n : Nat) (a : Int) (j : Nat), j < n → (seqI a n).getD j 0 = a + j
  | 0, _, _, h => by omega
  | n + 1, a, 0, _ => by simp [seqI]
  | n + 1, a, j + 1, h => by
    have := seqI_get n (a + 1) j (by omega)
    simp only [seqI, List.getD_cons_succ]
    rw [this]; omega
theorem laws_markIntS_l : ∀ (l pre : List Int) (a : Int), (pre ++ l).length ≤ 1000000000000000000 → 0 ≤ a → a ≤ 1000000000000000000 + pre.length → Ev (fun k => laws_markIntS.l0 k (pre ++ l) a (pre.length : Int)) (a + l.length, pre ++ seqI a l.length)
  | [], pre, a, hl, h0, ha => by
    refine Ev.done fun k => ?_
    simp only [laws_markIntS.l0]
    rw [if_neg (by simp)]
    simp [seqI]
  | x :: l, pre, a, hl, h0, ha => by
    have hlen : (pre ++ x :: l).length = pre.length + 1 + l.length := by simp; omega
    have ih := laws_markIntS_l l (pre ++ [a]) (a + 1) (by simp at hl ⊢; omega) (by omega) (by simp; omega)
    have hset : (pre ++ x :: l).set pre.length a = pre ++ a :: l := by simp
    refine Ev.step (f := fun k => laws_markIntS.l0 k (pre ++ [a] ++ l) (a + 1) ((pre ++ [a]).length : Int)) (fun k => ?_) ?_
    · simp only [laws_markIntS.l0]
      rw [if_pos (by omega), if_pos (by omega), Int.toNat_natCast, hset, wri (by omega) (by omega), wr_succ (by omega)]
      simp
    · have e : (a + ((x :: l).length : Int), pre ++ seqI a (x :: l).length) = (a + 1 + (l.length : Int), pre ++ [a] ++ seqI (a + 1) l.length) := by
        simp [seqI]; omega
      rw [e]; exact ih
theorem laws_markIntS_ev (l : List Int) (a : Int) (hl : l.length ≤ 1000000000000000000) (h0 : 0 ≤ a) (h1 : a ≤ 1000000000000000000) : Ev (fun k => laws_markIntS.f k l a) (a + l.length, seqI a l.length) := by
  have := laws_markIntS_l l [] a (by simpa using hl) h0 (by simpa using h1)
  exact this
theorem laws_toIntS_l : ∀ (suf pre z : List Int), z.length = suf.length → (pre ++ suf).length ≤ 4000000000 → Ev (fun k => laws_toIntS.l0 k (pre ++ suf) (pre ++ z) (pre.length : Nat)) (pre ++ suf)
  | [], pre, z, hz, _ => by
    have : z = [] := List.eq_nil_of_length_eq_zero hz
    subst this
    refine Ev.done fun k => ?_
    simp only [laws_toIntS.l0]
    rw [if_neg (by simp)]
  | x :: suf, pre, [], hz, _ => by simp at hz
  | x :: suf, pre, y :: z, hz, hl => by
    have hlen : (pre ++ x :: suf).length = pre.length + 1 + suf.length := by simp; omega
    have hlen2 : (pre ++ y :: z).length = pre.length + 1 + z.length := by simp; omega
    have ih := laws_toIntS_l suf (pre ++ [x]) z (by simpa using hz) (by simpa using hl)
    rw [List.append_assoc, List.append_assoc] at ih
    simp only [List.singleton_append, List.length_append, List.length_singleton] at ih
    have hrd : rd (pre ++ x :: suf) (pre.length : Int) = x := by unfold rd; rw [Int.toNat_natCast]; simp
    refine Ev.step (fun k => ?_) ih
    simp only [laws_toIntS.l0]
    rw [if_pos (by omega), if_pos (by omega), if_pos (by omega), hrd, wr_succ (by omega), Int.toNat_natCast, List.set_append_right _ _ (Nat.le_refl _), Nat.sub_self]
    rfl
theorem laws_toIntS_ev (l : List Int) (h : l.length ≤ 1048576) : Ev (fun k => laws_toIntS.f k l) l := by
  unfold laws_toIntS.f
  simp only [if_pos (show 0 ≤ (l.length : Int) by omega), Int.toNat_natCast, if_pos (show l.length ≤ 35184372088832 by omega)]
  exact laws_toIntS_l l [] (List.replicate l.length 0) (by simp) (by simp; omega)
/-- The rules with a, a + 1, .. in their fields. -/
def seqR (a : Int) : Nat → List S38
  | 0 => []
  | n + 1 => ⟨a, a + 1⟩ :: seqR (a + 2) n
theorem laws_eqRuleS_l (L : List S38) (hL : L.length ≤ 1000000000) : ∀ suf pre, pre ++ suf = L → Ev (fun k => laws_eqRuleS.l0 k L L (pre.length : Int)) true
  | [], pre, e => by
    rw [List.append_nil] at e
    subst e
    refine Ev.done fun k => ?_
    simp only [laws_eqRuleS.l0]
    rw [if_neg (by omega)]
  | x :: suf, pre, e => by
    have hlen : L.length = pre.length + 1 + suf.length := by rw [← e]; simp; omega
    have ih := laws_eqRuleS_l L hL suf (pre ++ [x]) (by rw [← e]; simp)
    have hq : ((pre ++ [x]).length : Int) = ((pre.length + 1 : Nat) : Int) := by simp
    rw [hq] at ih
    have hr : laws_eqRule.f (rd_T38 L (pre.length : Int)).f0 (rd_T38 L (pre.length : Int)).f1 (rd_T38 L (pre.length : Int)).f0 (rd_T38 L (pre.length : Int)).f1 = some true := by
      unfold laws_eqRule.f
      rw [if_pos rfl, if_pos rfl]
    refine Ev.step (fun k => ?_) ih
    simp only [laws_eqRuleS.l0]
    rw [if_pos (by omega), if_pos (by omega), if_pos (by omega), hr, Option.bind_some, if_pos rfl, wr_succ (by omega)]
theorem laws_eqRuleS_self (L : List S38) (hL : L.length ≤ 1000000000) : Ev (fun k => laws_eqRuleS.f k L L) true := by
  unfold laws_eqRuleS.f
  exact Ev.congr (fun k => if_pos rfl) (laws_eqRuleS_l L hL L [] rfl)
theorem laws_markRuleS_l : ∀ (l pre : List S38) (a : Int), (pre ++ l).length ≤ 1000000000 → 0 ≤ a → a + 2 * l.length ≤ 1000000000000 → Ev (fun k => laws_markRuleS.l0 k (pre ++ l) a (pre.length : Int)) (a + 2 * l.length, pre ++ seqR a l.length)
  | [], pre, a, hl, h0, ha => by
    refine Ev.done fun k => ?_
    simp only [laws_markRuleS.l0]
    rw [if_neg (by simp)]
    simp [seqR]
  | x :: l, pre, a, hl, h0, ha => by
    have hlen : (pre ++ x :: l).length = pre.length + 1 + l.length := by simp; omega
    have hll : (x :: l).length = l.length + 1 := rfl
    have ih := laws_markRuleS_l l (pre ++ [(⟨a, a + 1⟩ : S38)]) (a + 2) (by simp at hl ⊢; omega) (by omega) (by omega)
    have hset : ∀ y : S38, (pre ++ x :: l).set pre.length y = pre ++ y :: l := fun y => by simp
    have hset2 : ∀ z y : S38, (pre ++ z :: l).set pre.length y = pre ++ [y] ++ l := fun z y => by simp
    have hp : ((pre ++ [(⟨a, a + 1⟩ : S38)]).length : Int) = ((pre.length + 1 : Nat) : Int) := by simp
    have e : ((a + 2 * ((x :: l).length : Int), pre ++ seqR a (x :: l).length) : Int × List S38) = (a + 2 + 2 * (l.length : Int), pre ++ [(⟨a, a + 1⟩ : S38)] ++ seqR (a + 2) l.length) := by
      simp only [List.length_cons, seqR, List.append_assoc, List.cons_append, List.nil_append, Prod.mk.injEq, and_true]
      omega
    rw [hp] at ih
    rw [e]
    have w1 : wrap64 (a + 1) = a + 1 := wri (by omega) (by omega)
    have w2 : wrap64 (a + 1 + 1) = a + 2 := by rw [wri (by omega) (by omega)]; omega
    refine Ev.step (fun k => ?_) ih
    simp only [laws_markRuleS.l0]
    rw [if_pos (by omega), if_pos (by omega), Int.toNat_natCast, hset, Option.bind_some, hset2, rdT_get, w1, w2, wr_succ (by omega)]
theorem laws_markRuleS_ev (l : List S38) (hl : l.length ≤ 1000000000) : Ev (fun k => laws_markRuleS.f k l 1) (1 + 2 * l.length, seqR 1 l.length) := by
  have := laws_markRuleS_l l [] 1 (by simpa using hl) (by omega) (by omega)
  exact this
theorem laws_heldRuleS_l : ∀ (n : Nat) (pre : List S38) (a : Int), pre.length + n ≤ 1000000000 → 0 ≤ a → a + 2 * n ≤ 1000000000000 → (seqR a n).length = n ∧ Ev (fun k => laws_heldRuleS.l0 k (pre ++ seqR a n) a (pre.length : Int)) (a + 2 * n)
  | 0, pre, a, hl, h0, ha => by
    refine ⟨rfl, Ev.done fun k => ?_⟩
    simp only [laws_heldRuleS.l0]
    rw [if_neg (by simp [seqR])]
    simp
  | n + 1, pre, a, hl, h0, ha => by
    obtain ⟨hsl, ih⟩ := laws_heldRuleS_l n (pre ++ [(⟨a, a + 1⟩ : S38)]) (a + 2) (by simp; omega) (by omega) (by omega)
    have hlen : (pre ++ (⟨a, a + 1⟩ : S38) :: seqR (a + 2) n).length = pre.length + 1 + n := by rw [List.length_append, List.length_cons, hsl]; omega
    have hp : ((pre ++ [(⟨a, a + 1⟩ : S38)]).length : Int) = ((pre.length + 1 : Nat) : Int) := by simp
    rw [hp, List.append_assoc, List.cons_append, List.nil_append] at ih
    have e : a + 2 * ((n + 1 : Nat) : Int) = a + 2 + 2 * (n : Int) := by omega
    have w1 : wrap64 (a + 1) = a + 1 := wri (by omega) (by omega)
    have w2 : wrap64 (a + 1 + 1) = a + 2 := by rw [wri (by omega) (by omega)]; omega
    refine ⟨by simp only [seqR, List.length_cons, hsl], ?_⟩
    rw [e]
    show Ev (fun k => laws_heldRuleS.l0 k (pre ++ (⟨a, a + 1⟩ : S38) :: seqR (a + 2) n) a (pre.length : Int)) _
    refine Ev.step (fun k => ?_) ih
    simp only [laws_heldRuleS.l0]
    rw [if_pos (by omega), if_pos (by omega), rdT_get, if_pos rfl, w1, if_pos rfl, w2, wr_succ (by omega)]
theorem laws_heldRuleS_ev (n : Nat) (hl : n ≤ 1000000000) : Ev (fun k => laws_heldRuleS.f k (seqR 1 n) 1) (1 + 2 * n) := by
  have := (laws_heldRuleS_l n [] 1 (by simpa using hl) (by omega) (by omega)).2
  exact this
theorem law_tail (l : List Int) (a : Int) (r : List S38) (b : Bool) (hl : l.length ≤ 1048576) (hr : r.length ≤ 1000000) (h1 : Ev (fun k => spec_RulesOfPattern.f k l a) (r, b)) (h2 : Ev (fun k => impl_RulesOfPattern.f k l a) (r, b)) : Ev (fun k => laws_FnExactRulesOfPattern.f k l a) true := by
  have hto := laws_toIntS_ev l hl
  have heq := laws_eqRuleS_self r (by omega)
  have heql := laws_eqIntS_self l (by omega)
  have hmark := laws_markRuleS_ev r (by omega)
  have hmarkl := laws_markIntS_ev l 1 (by omega) (by omega) (by omega)
  have hheld := laws_heldRuleS_ev r.length (by omega)
  have hne : ¬ (1 + 2 * (r.length : Int) < 0) := by omega
  have hnel : ¬ (1 + (l.length : Int) < 0) := by omega
  have hj2 : Ev (fun k => laws_FnExactRulesOfPattern.j2 k (seqR 1 r.length) (1 + 2 * (r.length : Int)) false) true := by
    refine Ev.step (f := ?f0) (fun k => ?a0) ?b0
    case a0 => simp only [laws_FnExactRulesOfPattern.j2, Bool.false_eq_true, if_false]; exact rfl
    refine hheld.bind ?_
    simp only [if_neg hne, if_true]
    exact Ev.now _
  have hj1 : Ev (fun k => laws_FnExactRulesOfPattern.j1 k l a r b r false) true := by
    refine Ev.step (f := ?f1) (fun k => ?a1) ?b1
    case a1 => simp only [laws_FnExactRulesOfPattern.j1, Bool.false_eq_true, if_false]; exact rfl
    refine hmark.bind (hheld.bind ?_)
    simp only [if_neg hne, if_true]
    refine hto.bind (h2.bind (heq.bind ?_))
    simp only [bne_self_eq_false, if_true]
    exact hj2
  have hj0 : Ev (fun k => laws_FnExactRulesOfPattern.j0 k l a r b l r b false) true := by
    refine Ev.step (f := ?f2) (fun k => ?a2) ?b2
    case a2 => simp only [laws_FnExactRulesOfPattern.j0, Bool.false_eq_true, if_false]; exact rfl
    refine hto.bind (heql.bind ?_)
    simp only [if_true]
    refine hmarkl.bind ?_
    simp only [if_neg hnel]
    refine heq.bind ?_
    simp only [bne_self_eq_false, if_true]
    exact hj1
  unfold laws_FnExactRulesOfPattern.f
  simp only [if_neg (show ¬ ((l.length : Int) > 1048576) by omega)]
  refine hto.bind (h1.bind (hto.bind (h2.bind (heq.bind ?_))))
  simp only [bne_self_eq_false, if_true]
  exact hj0
theorem spec_reAsked_ev (l : List Int) (a : Int) (hl : l.length ≤ 4000000000) : Ev (fun k => spec_reAsked.f k l a) (isP l && decide (0 ≤ a ∧ a ≤ 6)) := by
  unfold spec_reAsked.f
  refine (spec_reGood_ev l hl).bind ?_
  rw [spec_l1In_eq]
  cases isP l
  · exact Ev.now _
  · exact Ev.now _
theorem impl_Rules_no (l : List Int) (a : Int) (hl : l.length ≤ 4000000000) (h : (isP l && decide (0 ≤ a ∧ a ≤ 6)) = false) : Ev (fun k => impl_RulesOfPattern.f k l a) (([] : List S38), false) := by
  have hj : Ev (fun k => impl_RulesOfPattern.j0 k l a true) (([] : List S38), false) := Ev.done fun k => by simp only [impl_RulesOfPattern.j0, if_true]
  unfold impl_RulesOfPattern.f
  refine (impl_isPattern_ev l hl).bind ?_
  cases hp : isP l
  · simp only [Bool.false_eq_true, if_false]
    exact hj
  · rw [hp, Bool.true_and, decide_eq_false_iff_not] at h
    simp only [if_true]
    by_cases ha : a < 0
    · simp only [if_pos ha]
      exact hj
    · simp only [if_neg ha]
      rw [decide_eq_true (show a > 6 by omega)]
      exact hj
theorem FnExactRulesOfPattern : laws_FnExactRulesOfPattern.Pure := by
  intro l a _ _ _ _
  apply Ev.rounds
  by_cases hlen : (l.length : Int) > 1048576
  · refine Ev.const fun k => ?_
    unfold laws_FnExactRulesOfPattern.f
    rw [if_pos hlen]
  · have hl : l.length ≤ 1048576 := by omega
    cases hq : (isP l && decide (0 ≤ a ∧ a ≤ 6))
    · refine law_tail l a [] false hl (by simp) ?_ (impl_Rules_no l a (by omega) hq)
      unfold spec_RulesOfPattern.f
      refine (spec_reAsked_ev l a (by omega)).bind ?_
      rw [hq]
      simp only [Bool.false_eq_true, if_false]
      exact Ev.now _
    · rw [Bool.and_eq_true, decide_eq_true_iff] at hq
      obtain ⟨hp, ha⟩ := hq
      obtain ⟨n, rfl⟩ := Int.eq_ofNat_of_zero_le ha.1
      have hn : n ≤ 6 := by omega
      obtain ⟨m, rfl, hx, hm1, hm8⟩ := pat_nat hp
      have hok := RL_ok m n hn
      have hlenR := RL_len m n hn
      have hsi := spec_siGood_ev (RL m n) hok
      have har := impl_areRules_ev (RL m n) hok
      have hif : Ev (fun _ : Nat => if decide ((RL m n).length ≤ 12) = true then some (RL m n, true) else some (([] : List S38), false)) (if (RL m n).length ≤ 12 then (RL m n, true) else (([] : List S38), false)) := by
        by_cases h : (RL m n).length ≤ 12
        · simp only [h, decide_true, if_true]
          exact Ev.now _
        · simp only [h, decide_false, Bool.false_eq_true, if_false]
          exact Ev.now _
      have h1 : Ev (fun k => spec_RulesOfPattern.f k (ints m) (n : Int)) (if (RL m n).length ≤ 12 then (RL m n, true) else (([] : List S38), false)) := by
        unfold spec_RulesOfPattern.f
        refine (spec_reAsked_ev (ints m) (n : Int) (by omega)).bind ?_
        rw [hp, decide_eq_true ha, Bool.true_and]
        simp only [if_true]
        exact spec_Rules_l0 m (by omega) n hn _ (hsi.bind hif) n 0 (by omega)
      have h2 : Ev (fun k => impl_RulesOfPattern.f k (ints m) (n : Int)) (if (RL m n).length ≤ 12 then (RL m n, true) else (([] : List S38), false)) := by
        unfold impl_RulesOfPattern.f
        refine (impl_isPattern_ev (ints m) (by omega)).bind ?_
        rw [hp]
        simp only [if_true, if_neg (show ¬ (n : Int) < 0 by omega)]
        rw [decide_eq_false (show ¬ (n : Int) > 6 by omega)]
        refine Ev.step (f := ?f0) (fun k => ?a0) ?b0
        case a0 => simp only [impl_RulesOfPattern.j0, Bool.false_eq_true, if_false]; exact rfl
        exact (impl_rules_ev m (by omega) hx n hn).bind (har.bind hif)
      by_cases h : (RL m n).length ≤ 12
      · rw [if_pos h] at h1 h2
        exact law_tail (ints m) n _ true hl (by omega) h1 h2
      · rw [if_neg h] at h1 h2
        exact law_tail (ints m) n _ false hl (by simp) h1 h2
end Go.Proofs.Ytncnhgiilolomaa.Pure
