/- The law that speaks of places of patterns (as many in a period as the product tells, rules leave just them, remainders tell one number) answers true for every code. -/
import Derived.Test.YtlbhbncgfhikeaaGreatPFnPlacesOfPatternsx14
import Derived.Test.YtlbhbncgfhikeaaGreatNtC
import Derived.Test.YtlbhbncgfhikeaaGreatNtP
namespace Go.Proofs.YtlbhbncgfhikeaaGreat.Pure
set_option linter.unusedVariables false
open Go Go.RowKit Go.Proofs.YtlbhbncgfhikeaaGreat.PFnPlacesOfPatterns Go.Proofs.YtlbhbncgfhikeaaGreatW.PrintWords Go.Proofs.YtlbhbncgfhikeaaGreatW.PrintLast Go.Proofs.YtlbhbncgfhikeaaGreat.Nt
theorem Ev.done {α : Type} {g : Nat → Option α} {r : α} (h : ∀ k, g (k + 1) = some r) : Ev g r := Ev.step (f := fun _ => some r) h (Ev.now r)
theorem Ev.const {α : Type} {g : Nat → Option α} {r : α} (h : ∀ k, g k = some r) : Ev g r := Ev.congr (f := fun _ => some r) h (Ev.now r)
theorem wr {a : Nat} (h : a < 9223372036854775808) : wrap64 (a : Int) = a := by unfold wrap64; omega
theorem wri {a : Int} (h0 : -9223372036854775808 ≤ a) (h : a < 9223372036854775808) : wrap64 a = a := by unfold wrap64; omega
theorem wr_mul {a b : Nat} (h : a * b < 9223372036854775808) : wrap64 ((a : Int) * b) = ((a * b : Nat) : Int) := by rw [← Int.natCast_mul]; exact wr h
theorem wr_succ {a : Nat} (h : a < 9223372036854775807) : wrap64 ((a : Int) + 1) = ((a + 1 : Nat) : Int) := wr (a := a + 1) (by omega)
theorem wr_tdiv {a b : Nat} (h : a < 9223372036854775808) : wrap64 (Int.tdiv (a : Int) b) = ((a / b : Nat) : Int) := wr (a := a / b) (Nat.lt_of_le_of_lt (Nat.div_le_self a b) h)
theorem tm (a b : Nat) : Int.tmod (a : Int) b = ((a % b : Nat) : Int) := rfl
theorem sq_lt {a b : Nat} (h : a ≤ 3037000499) (k : b ≤ 3037000499) : a * b < 9223372036854775808 := Nat.lt_of_le_of_lt (Nat.mul_le_mul h k) (by decide)
theorem spec_l1In_eq (a b c : Int) : spec_l1In.f a b c = some (decide (b ≤ a ∧ a ≤ c)) := by
  unfold spec_l1In.f
  by_cases h : a ≥ b
  · rw [if_pos h, decide_eq_decide.2 (show a ≤ c ↔ b ≤ a ∧ a ≤ c from ⟨fun k => ⟨h, k⟩, fun k => k.2⟩)]
  · rw [if_neg h, decide_eq_false (fun k => h k.1)]
/-- A list of naturals as the program's ints. -/
def ints (l : List Nat) : List Int := l.map fun d : Nat => (d : Int)
theorem ints_len (l : List Nat) : (ints l).length = l.length := by simp [ints]
theorem ints_app (l m : List Nat) : ints l ++ ints m = ints (l ++ m) := by simp [ints]
theorem ints_get (pre : List Nat) (x : Nat) (l : List Nat) : rd (ints (pre ++ x :: l)) (pre.length : Int) = x := by
  unfold rd
  rw [Int.toNat_natCast]
  simp [ints]
theorem ints_take (l m : List Nat) : (ints (l ++ m)).take ((l.length : Nat) : Int).toNat = ints l := by
  rw [Int.toNat_natCast]
  unfold ints
  rw [List.map_append, List.take_left' (by simp)]
/-- All of so many numbers from i on are as asked. -/
def allF (c : Nat → Bool) : Nat → Nat → Bool
  | 0, _ => true
  | n + 1, i => c i && allF c n (i + 1)
theorem allF_iff (c : Nat → Bool) : ∀ n i, allF c n i = true ↔ ∀ j, i ≤ j → j < i + n → c j = true
  | 0, i => ⟨fun _ j h1 h2 => by omega, fun _ => rfl⟩
  | n + 1, i => by
    have ih := allF_iff c n (i + 1)
    simp only [allF, Bool.and_eq_true]
    rw [ih]
    constructor
    · rintro ⟨h1, h2⟩ j hj hk
      rcases Nat.lt_or_ge i j with h | h
      · exact h2 j (by omega) (by omega)
      · have : j = i := by omega
        rw [this]; exact h1
    · intro h
      exact ⟨h i (by omega) (by omega), fun j hj hk => h j (by omega) (by omega)⟩
/-- What the program asks of the offset with an index. -/
def chkP (l : List Int) (i : Nat) : Bool := decide ((i = 0 → rd l (i : Int) = 0) ∧ (0 < i → rd l ((i - 1 : Nat) : Int) < rd l (i : Int)) ∧ rd l (i : Int) ≤ 60)
def lenP (l : List Int) : Bool := decide (1 ≤ l.length ∧ l.length ≤ 8)
/-- A list of ints is a pattern. -/
def isP (l : List Int) : Bool := allF (chkP l) l.length 0 && lenP l
theorem impl_isPattern_l (l : List Int) (hl : l.length ≤ 4000000000) : ∀ n i, i + n = l.length → Ev (fun k => impl_isPattern.l0 k l l (l.length : Int) (i : Int)) (allF (chkP l) n i && lenP l)
  | 0, i, hi => by
    refine Ev.done fun k => ?_
    simp only [impl_isPattern.l0, allF, Bool.true_and]
    rw [if_neg (by omega)]
    by_cases h : (l.length : Int) ≥ 1
    · rw [if_pos h]
      congr 1
      unfold lenP
      rw [decide_eq_decide]
      omega
    · rw [if_neg h]
      congr 1
      unfold lenP
      rw [decide_eq_false (by omega)]
  | n + 1, i, hi => by
    have ih := impl_isPattern_l l hl n (i + 1) (by omega)
    have hs : wrap64 ((i : Int) + 1) = ((i + 1 : Nat) : Int) := wr_succ (by omega)
    by_cases hc : chkP l i = true
    · have e : (allF (chkP l) (n + 1) i && lenP l) = (allF (chkP l) n (i + 1) && lenP l) := by simp [allF, hc]
      rw [e]
      refine Ev.step (fun k => ?_) ih
      unfold chkP at hc
      rw [decide_eq_true_iff] at hc
      obtain ⟨h1, h2, h3⟩ := hc
      simp only [impl_isPattern.l0]
      rw [if_pos (by omega), if_pos (by omega), if_pos (by omega)]
      by_cases h0 : i = 0
      · rw [if_pos (by omega), if_pos (h1 h0), if_neg (by omega), if_neg (by omega), hs]
      · have hp : wrap64 ((i : Int) - 1) = ((i - 1 : Nat) : Int) := by rw [wri (by omega) (by omega)]; omega
        have h4 := h2 (by omega)
        rw [if_neg (by omega), if_pos (by omega), hp, if_pos (by omega), if_pos (by omega), if_neg (by omega), if_neg (by omega), hs]
    · have e : (allF (chkP l) (n + 1) i && lenP l) = false := by simp [allF, hc]
      rw [e]
      unfold chkP at hc
      rw [decide_eq_true_iff] at hc
      refine Ev.done fun k => ?_
      simp only [impl_isPattern.l0]
      rw [if_pos (by omega), if_pos (by omega), if_pos (by omega)]
      by_cases h0 : i = 0
      · rw [if_pos (by omega)]
        by_cases h1 : rd l (i : Int) = 0
        · exact absurd ⟨fun _ => h1, fun h => by omega, by omega⟩ hc
        · rw [if_neg h1]
      · have hp : wrap64 ((i : Int) - 1) = ((i - 1 : Nat) : Int) := by rw [wri (by omega) (by omega)]; omega
        rw [if_neg (by omega), if_pos (by omega), hp, if_pos (by omega), if_pos (by omega)]
        by_cases h2 : rd l ((i - 1 : Nat) : Int) ≥ rd l (i : Int)
        · rw [if_pos h2]
        · rw [if_neg h2]
          by_cases h3 : rd l (i : Int) > 60
          · rw [if_pos h3]
          · exact absurd ⟨fun h => by omega, fun _ => by omega, by omega⟩ hc
theorem impl_isPattern_ev (l : List Int) (hl : l.length ≤ 4000000000) : Ev (fun k => impl_isPattern.f k l) (isP l) := impl_isPattern_l l hl l.length 0 (by omega)
theorem isP_iff (l : List Int) : isP l = true ↔ (1 ≤ l.length ∧ l.length ≤ 8) ∧ ∀ i, i < l.length → (i = 0 → rd l (i : Int) = 0) ∧ (0 < i → rd l ((i - 1 : Nat) : Int) < rd l (i : Int)) ∧ rd l (i : Int) ≤ 60 := by
  unfold isP lenP
  rw [Bool.and_eq_true, allF_iff, decide_eq_true_iff]
  constructor
  · rintro ⟨h1, h2⟩
    exact ⟨h2, fun i hi => of_decide_eq_true (h1 i (by omega) (by omega))⟩
  · rintro ⟨h1, h2⟩
    exact ⟨fun j _ hj => decide_eq_true (h2 j (by omega)), h1⟩
def chkQ (l : List Int) (i : Nat) : Bool := decide (rd l ((i - 1 : Nat) : Int) < rd l (i : Int))
theorem spec_reGood_l (l : List Int) (hl : l.length ≤ 8) (h1 : 1 ≤ l.length) : ∀ n i, i + n = l.length → 1 ≤ i → Ev (fun k => spec_reGood.l0 k l (i : Int)) (allF (chkQ l) n i && decide (rd l ((l.length - 1 : Nat) : Int) ≤ 60))
  | 0, i, hi, hi1 => by
    have hp : wrap64 ((l.length : Int) - 1) = ((l.length - 1 : Nat) : Int) := by rw [wri (by omega) (by omega)]; omega
    refine Ev.done fun k => ?_
    simp only [spec_reGood.l0, allF, Bool.true_and]
    rw [if_neg (by omega), hp, if_pos (by omega), if_pos (by omega)]
  | n + 1, i, hi, hi1 => by
    have ih := spec_reGood_l l hl h1 n (i + 1) (by omega) (by omega)
    have hs : wrap64 ((i : Int) + 1) = ((i + 1 : Nat) : Int) := wr_succ (by omega)
    have hp : wrap64 ((i : Int) - 1) = ((i - 1 : Nat) : Int) := by rw [wri (by omega) (by omega)]; omega
    by_cases hc : chkQ l i = true
    · have e : (allF (chkQ l) (n + 1) i && decide (rd l ((l.length - 1 : Nat) : Int) ≤ 60)) = (allF (chkQ l) n (i + 1) && decide (rd l ((l.length - 1 : Nat) : Int) ≤ 60)) := by simp [allF, hc]
      rw [e]
      refine Ev.step (fun k => ?_) ih
      have hc' := of_decide_eq_true hc
      simp only [spec_reGood.l0]
      rw [if_pos (by omega), if_pos (by omega), hp, if_pos (by omega), if_pos (by omega), if_neg (by omega), hs]
    · have e : (allF (chkQ l) (n + 1) i && decide (rd l ((l.length - 1 : Nat) : Int) ≤ 60)) = false := by simp [allF, hc]
      rw [e]
      unfold chkQ at hc
      rw [decide_eq_true_iff] at hc
      refine Ev.done fun k => ?_
      simp only [spec_reGood.l0]
      rw [if_pos (by omega), if_pos (by omega), hp, if_pos (by omega), if_pos (by omega), if_pos (by omega)]
theorem spec_reGood_ev (l : List Int) (hl : l.length ≤ 4000000000) : Ev (fun k => spec_reGood.f k l) (isP l) := by
  unfold spec_reGood.f
  rw [spec_l1In_eq]
  by_cases h : 1 ≤ (l.length : Int) ∧ (l.length : Int) ≤ 8
  · rw [decide_eq_true h]
    simp only [Option.bind_some, if_true]
    simp only [if_pos (show 0 < (l.length : Int) by omega)]
    by_cases h0 : rd l 0 = 0
    · have e : isP l = (allF (chkQ l) (l.length - 1) 1 && decide (rd l ((l.length - 1 : Nat) : Int) ≤ 60)) := by
        rw [Bool.eq_iff_iff, isP_iff, Bool.and_eq_true, allF_iff, decide_eq_true_iff]
        constructor
        · rintro ⟨h1, h2⟩
          exact ⟨fun j hj hk => decide_eq_true ((h2 j (by omega)).2.1 (by omega)), (h2 (l.length - 1) (by omega)).2.2⟩
        · rintro ⟨h1, h2⟩
          have hd : ∀ d, d < l.length → rd l ((l.length - 1 - d : Nat) : Int) ≤ 60 := by
            intro d
            induction d with
            | zero => intro _; exact h2
            | succ d ih =>
              intro hd
              have h3 := ih (by omega)
              have h4 := of_decide_eq_true (h1 (l.length - 1 - d) (by omega) (by omega))
              rw [show l.length - 1 - d - 1 = l.length - 1 - (d + 1) by omega] at h4
              omega
          refine ⟨by omega, fun i hi => ⟨fun hz => by rw [hz]; exact h0, fun hz => of_decide_eq_true (h1 i (by omega) (by omega)), ?_⟩⟩
          have := hd (l.length - 1 - i) (by omega)
          rwa [show l.length - 1 - (l.length - 1 - i) = i by omega] at this
      rw [e]
      have hj := spec_reGood_l l (by omega) (by omega) (l.length - 1) 1 (by omega) (by omega)
      refine Ev.step (fun k => ?_) hj
      simp only [spec_reGood.j0]
      rw [if_neg (by simp [h0])]
      rfl
    · have e : isP l = false := by
        rw [← Bool.not_eq_true, isP_iff]
        rintro ⟨_, h2⟩
        exact h0 ((h2 0 (by omega)).1 rfl)
      rw [e]
      refine Ev.done fun k => ?_
      simp only [spec_reGood.j0]
      rw [if_pos (by simp [h0])]
  · have e : isP l = false := by
      rw [← Bool.not_eq_true, isP_iff]
      rintro ⟨h1, _⟩
      omega
    rw [decide_eq_false h, e]
    simp only [Option.bind_some, Bool.false_eq_true, if_false]
    exact Ev.done fun k => by simp only [spec_reGood.j0, if_true]
theorem rd_mem {l : List Int} {x : Int} (h : x ∈ l) : ∃ i, i < l.length ∧ x = rd l (i : Int) := by
  obtain ⟨i, hi, rfl⟩ := List.mem_iff_getElem.1 h
  refine ⟨i, hi, ?_⟩
  unfold rd
  rw [Int.toNat_natCast, List.getD_eq_getElem?_getD, List.getElem?_eq_getElem hi]
  rfl
/-- A pattern as naturals. -/
theorem pat_nat {l : List Int} (h : isP l = true) : ∃ m : List Nat, l = ints m ∧ (∀ x ∈ m, x ≤ 60) ∧ 1 ≤ m.length ∧ m.length ≤ 8 := by
  rw [isP_iff] at h
  obtain ⟨hlen, h⟩ := h
  have h0 : ∀ i, i < l.length → 0 ≤ rd l (i : Int) := by
    intro i
    induction i with
    | zero => intro hi; have := (h 0 hi).1 rfl; omega
    | succ i ih =>
      intro hi
      have h1 := ih (by omega)
      have h2 := (h (i + 1) hi).2.1 (by omega)
      rw [Nat.add_sub_cancel] at h2
      omega
  have hm : ∀ x ∈ l, ((x.toNat : Nat) : Int) = x := by
    intro x hx
    obtain ⟨i, hi, rfl⟩ := rd_mem hx
    have := h0 i hi
    omega
  refine ⟨l.map Int.toNat, ?_, ?_, by rw [List.length_map]; exact hlen.1, by rw [List.length_map]; exact hlen.2⟩
  · unfold ints
    rw [List.map_map]
    conv => lhs; rw [← List.map_id l]
    exact List.map_congr_left fun x hx => (hm x hx).symm
  · intro x hx
    obtain ⟨y, hy, rfl⟩ := List.mem_map.1 hx
    obtain ⟨i, hi, rfl⟩ := rd_mem hy
    have := (h i hi).2.2
    omega
/-- Some offset has this remainder. -/
def hs (m : List Nat) (p r : Nat) : Bool := m.any fun x => x % p == r
theorem hs_iff (m : List Nat) (p r : Nat) : hs m p r = true ↔ ∃ x ∈ m, x % p = r := by
  unfold hs
  rw [List.any_eq_true]
  constructor
  · rintro ⟨x, hx, h⟩; exact ⟨x, hx, beq_iff_eq.1 h⟩
  · rintro ⟨x, hx, h⟩; exact ⟨x, hx, beq_iff_eq.2 h⟩
/-- The remainders that offsets have. -/
def rests (m : List Nat) (p : Nat) : List Nat := (List.range p).filter (hs m p)
theorem rests_len (m : List Nat) (p : Nat) : (rests m p).length ≤ p := Nat.le_trans (List.length_filter_le _ _) (by rw [List.length_range]; exact Nat.le_refl _)
theorem range_filter_succ (q : Nat → Bool) (r : Nat) : (List.range (r + 1)).filter q = (List.range r).filter q ++ (if q r then [r] else []) := by
  rw [List.range_succ, List.filter_append]
  congr 1
  by_cases h : q r <;> simp [h]
theorem spec_reRests_l1 (m : List Nat) (p r : Nat) (acc : List Int) (hp : 0 < p) (hm : m.length ≤ 100) (hacc : acc.length < 17592186044416) (v : List Int) (hr : r < 1000000) : ∀ suf pre, pre ++ suf = m →
    Ev (fun k => spec_reRests.l0 k (ints m) (p : Int) (acc ++ if suf.any (fun x => x % p == r) then [(r : Int)] else []) ((r + 1 : Nat) : Int)) v →
    Ev (fun k => spec_reRests.l1 k (ints m) (p : Int) acc (r : Int) (ints m) ((ints m).length : Int) (pre.length : Int)) v
  | [], pre, e, h => by
    rw [List.append_nil] at e
    subst e
    simp only [List.any_nil, Bool.false_eq_true, if_false, List.append_nil] at h
    refine Ev.step (fun k => ?_) h
    simp only [spec_reRests.l1]
    rw [ints_len, if_neg (by omega), wr_succ (by omega)]
  | x :: suf, pre, e, h => by
    have hlen : (ints m).length = pre.length + 1 + suf.length := by rw [ints_len, ← e]; simp; omega
    have hml : m.length = pre.length + 1 + suf.length := by rw [← e]; simp; omega
    have hg : rd (ints m) (pre.length : Int) = (x : Int) := by rw [← e]; exact ints_get pre x suf
    by_cases hx : x % p = r
    · have hany : (x :: suf).any (fun x => x % p == r) = true := by simp [hx]
      rw [hany] at h
      simp only [if_true] at h
      refine Ev.step (fun k => ?_) h
      simp only [spec_reRests.l1]
      rw [if_pos (by omega), if_pos (by omega), if_pos (by omega), if_neg (by omega), hg, tm, if_pos (by omega), if_pos hacc, wr_succ (by omega)]
    · have hany : (x :: suf).any (fun x => x % p == r) = suf.any (fun x => x % p == r) := by simp [hx]
      rw [hany] at h
      have ih := spec_reRests_l1 m p r acc hp hm hacc v hr suf (pre ++ [x]) (by rw [← e]; simp) h
      have hq : ((pre ++ [x]).length : Int) = ((pre.length + 1 : Nat) : Int) := by simp
      rw [hq] at ih
      refine Ev.step (fun k => ?_) ih
      simp only [spec_reRests.l1]
      rw [if_pos (by omega), if_pos (by omega), if_pos (by omega), if_neg (by omega), hg, tm, if_neg (by omega), wr_succ (by omega)]
theorem spec_reRests_l0 (m : List Nat) (p : Nat) (hp : 0 < p) (hpm : p ≤ 1000) (hm : m.length ≤ 100) : ∀ n r, r + n = p → Ev (fun k => spec_reRests.l0 k (ints m) (p : Int) (ints ((List.range r).filter (hs m p))) (r : Int)) (ints (rests m p))
  | 0, r, e => by
    have e' : r = p := by omega
    subst e'
    refine Ev.done fun k => ?_
    simp only [spec_reRests.l0]
    rw [if_neg (by omega)]
    rfl
  | n + 1, r, e => by
    have ih := spec_reRests_l0 m p hp hpm hm n (r + 1) (by omega)
    have hl : ((List.range r).filter (hs m p)).length ≤ r := Nat.le_trans (List.length_filter_le _ _) (by rw [List.length_range]; exact Nat.le_refl _)
    refine Ev.step (f := fun k => spec_reRests.l1 k (ints m) (p : Int) (ints ((List.range r).filter (hs m p))) (r : Int) (ints m) ((ints m).length : Int) ((([] : List Nat).length : Nat) : Int)) (fun k => ?_) (spec_reRests_l1 m p r _ hp hm (by rw [ints_len]; omega) _ (by omega) m [] rfl ?_)
    · simp only [spec_reRests.l0]
      rw [if_pos (by omega)]
      rfl
    · rw [range_filter_succ, ← ints_app] at ih
      have e2 : ints (if hs m p r then [r] else []) = if m.any (fun x => x % p == r) then [(r : Int)] else [] := by
        unfold hs
        split <;> rfl
      rw [e2] at ih
      exact ih
theorem spec_reRests_ev (m : List Nat) (p : Nat) (hp : 0 < p) (hpm : p ≤ 1000) (hm : m.length ≤ 100) : Ev (fun k => spec_reRests.f k (ints m) (p : Int)) (ints (rests m p)) := by
  have := spec_reRests_l0 m p hp hpm hm p 0 (by omega)
  exact this
theorem spec_l1Has_l (D : List Nat) (v : Nat) (hD : D.length ≤ 1000000) : ∀ suf pre, pre ++ suf = D → Ev (fun k => spec_l1Has.l0 k (v : Int) (ints D) ((ints D).length : Int) (pre.length : Int)) (suf.any fun x => x == v)
  | [], pre, e => by
    rw [List.append_nil] at e
    subst e
    refine Ev.done fun k => ?_
    simp only [spec_l1Has.l0]
    rw [ints_len, if_neg (by omega)]
    rfl
  | x :: suf, pre, e => by
    have hlen : (ints D).length = pre.length + 1 + suf.length := by rw [ints_len, ← e]; simp; omega
    have hDl : D.length = pre.length + 1 + suf.length := by rw [← e]; simp; omega
    have hg : rd (ints D) (pre.length : Int) = (x : Int) := by rw [← e]; exact ints_get pre x suf
    by_cases hx : x = v
    · have hany : (x :: suf).any (fun x => x == v) = true := by simp [hx]
      rw [hany]
      refine Ev.done fun k => ?_
      simp only [spec_l1Has.l0]
      rw [if_pos (by omega), if_pos (by omega), if_pos (by omega), hg, if_pos (by omega)]
    · have hany : (x :: suf).any (fun x => x == v) = suf.any (fun x => x == v) := by simp [hx]
      rw [hany]
      have ih := spec_l1Has_l D v hD suf (pre ++ [x]) (by rw [← e]; simp)
      have hq : ((pre ++ [x]).length : Int) = ((pre.length + 1 : Nat) : Int) := by simp
      rw [hq] at ih
      refine Ev.step (fun k => ?_) ih
      simp only [spec_l1Has.l0]
      rw [if_pos (by omega), if_pos (by omega), if_pos (by omega), hg, if_neg (by omega), wr_succ (by omega)]
theorem spec_l1Has_ev (D : List Nat) (v : Nat) (hD : D.length ≤ 1000000) : Ev (fun k => spec_l1Has.f k (ints D) (v : Int)) (D.any fun x => x == v) := spec_l1Has_l D v hD D [] rfl
/-- The prime with an index. -/
def P6 (k : Nat) : Nat := [2, 3, 5, 7, 11, 13].getD k 0
theorem P6_pos : ∀ k, k < 6 → 2 ≤ P6 k ∧ P6 k ≤ 13 := by decide
theorem spec_rePrime_eq : ∀ k : Nat, k < 6 → spec_rePrime.f (k : Int) = some ((P6 k : Nat) : Int) := by decide
def PL (n : Nat) : List Int := ([2, 3, 5, 7, 11, 13] : List Int).take n
theorem PL_len : ∀ n, n ≤ 6 → (PL n).length = n := by decide
theorem PL_get : ∀ n, n ≤ 6 → ∀ k, k < n → rd (PL n) ((k : Nat) : Int) = ((P6 k : Nat) : Int) := by decide
/-- The remainder of the number's negative. -/
def ng (p a : Nat) : Nat := if a = 0 then 0 else p - a
theorem ng_lt {p a : Nat} (ha : a < p) : ng p a < p := by unfold ng; split <;> omega
theorem ng_ng {p a : Nat} (ha : a < p) : ng p (ng p a) = a := by
  unfold ng
  by_cases h : a = 0
  · rw [if_pos h, if_pos rfl, h]
  · rw [if_neg h, if_neg (by omega)]; omega
theorem neg_mod (x p : Nat) (hp : 0 < p) (hpm : p ≤ 1000) (hx : x ≤ 1000000) : wrap64 (-(x : Int)) = -(x : Int) ∧ Int.tmod (wrap64 (Int.tmod (-(x : Int)) (p : Int) + (p : Int))) (p : Int) = ((ng p (x % p) : Nat) : Int) := by
  have h1 : Int.tmod (-(x : Int)) (p : Int) = -((x % p : Nat) : Int) := by rw [Int.neg_tmod, tm]
  have hlt : x % p < p := Nat.mod_lt _ hp
  refine ⟨by rw [wri (by omega) (by omega)], ?_⟩
  rw [h1, wri (by omega) (by omega)]
  have h2 : -((x % p : Nat) : Int) + (p : Int) = ((p - x % p : Nat) : Int) := by omega
  rw [h2, tm]
  unfold ng
  by_cases h : x % p = 0
  · rw [if_pos h, h, Nat.sub_zero, Nat.mod_self]
  · rw [if_neg h, Nat.mod_eq_of_lt (by omega)]
theorem spec_siRest_eq (x p : Nat) (hp : 0 < p) (hpm : p ≤ 1000) (hx : x ≤ 1000000) : spec_siRest.f (wrap64 (-(x : Int))) (p : Int) = some ((ng p (x % p) : Nat) : Int) := by
  obtain ⟨h1, h2⟩ := neg_mod x p hp hpm hx
  unfold spec_siRest.f
  rw [if_neg (by omega), h1, h2]
theorem impl_mod_eq (x p : Nat) (hp : 0 < p) (hpm : p ≤ 1000) (hx : x ≤ 1000000) : impl_mod.f (wrap64 (-(x : Int))) (p : Int) = some ((ng p (x % p) : Nat) : Int) := by
  obtain ⟨h1, h2⟩ := neg_mod x p hp hpm hx
  unfold impl_mod.f
  rw [if_neg (by omega), h1, h2]
/-- The remainders that are crossed out. -/
def outs (m : List Nat) (p : Nat) : List Nat := (List.range p).filter fun r => hs m p (ng p r)
theorem outs_len (m : List Nat) (p : Nat) : (outs m p).length ≤ p := Nat.le_trans (List.length_filter_le _ _) (by rw [List.length_range]; exact Nat.le_refl _)
def rul (p : Nat) (l : List Nat) : List S65 := l.map fun r : Nat => (⟨(p : Int), (r : Int)⟩ : S65)
/-- The rules of the first primes. -/
def RL (m : List Nat) : Nat → List S65
  | 0 => []
  | k + 1 => RL m k ++ rul (P6 k) (outs m (P6 k))
theorem rul_len (p : Nat) (l : List Nat) : (rul p l).length = l.length := by simp [rul]
theorem RL_len (m : List Nat) : ∀ k, k ≤ 6 → (RL m k).length ≤ 13 * k
  | 0, _ => Nat.le_refl _
  | k + 1, h => by
    have h1 := RL_len m k (by omega)
    have h2 := outs_len m (P6 k)
    have h3 := P6_pos k (by omega)
    simp only [RL, List.length_append, rul_len]
    omega
theorem any_rests {m : List Nat} {p a : Nat} (ha : a < p) : ((rests m p).any fun x => x == a) = hs m p a := by
  rw [Bool.eq_iff_iff, List.any_eq_true]
  unfold rests
  constructor
  · rintro ⟨x, hx, he⟩
    rw [List.mem_filter] at hx
    rw [← beq_iff_eq.1 he]; exact hx.2
  · intro h
    exact ⟨a, by rw [List.mem_filter, List.mem_range]; exact ⟨ha, h⟩, beq_iff_eq.2 rfl⟩
theorem rul_snoc (p : Nat) (l : List Nat) (r : Nat) : rul p (l ++ [r]) = rul p l ++ [(⟨(p : Int), (r : Int)⟩ : S65)] := by simp [rul]
theorem spec_Rules_l1 (m : List Nat) (hm : m.length ≤ 100) (n k : Nat) (hk : k < n) (hn : n ≤ 6) (v : List S65 × Bool) (h : Ev (fun z => spec_RulesOfPattern.l0 z (ints m) (n : Int) (RL m (k + 1)) ((k + 1 : Nat) : Int)) v) :
    ∀ c r, r + c = P6 k → Ev (fun z => spec_RulesOfPattern.l1 z (ints m) (n : Int) (RL m k ++ rul (P6 k) ((List.range r).filter fun r => hs m (P6 k) (ng (P6 k) r))) (k : Int) ((P6 k : Nat) : Int) (r : Int)) v
  | 0, r, e => by
    have e' : r = P6 k := by omega
    subst e'
    refine Ev.step (fun z => ?_) h
    simp only [spec_RulesOfPattern.l1]
    rw [if_neg (by omega), wr_succ (by omega)]
    rfl
  | c + 1, r, e => by
    have hP := P6_pos k (by omega)
    have hR := RL_len m k (by omega)
    have ih := spec_Rules_l1 m hm n k hk hn v h c (r + 1) (by omega)
    have hl : ((List.range r).filter fun r => hs m (P6 k) (ng (P6 k) r)).length ≤ r := Nat.le_trans (List.length_filter_le _ _) (by rw [List.length_range]; exact Nat.le_refl _)
    have h1 := spec_reRests_ev m (P6 k) (by omega) (by omega) hm
    have h2 := spec_siRest_eq r (P6 k) (by omega) (by omega) (by omega)
    have h3 := spec_l1Has_ev (rests m (P6 k)) (ng (P6 k) r) (by have := rests_len m (P6 k); omega)
    rw [any_rests (ng_lt (by omega))] at h3
    rw [Nat.mod_eq_of_lt (by omega)] at h2
    have hs_ : wrap64 ((r : Int) + 1) = ((r + 1 : Nat) : Int) := wr_succ (by omega)
    refine Ev.step (f := ?f0) (fun z => ?a0) ?b0
    case a0 =>
      simp only [spec_RulesOfPattern.l1]
      rw [if_pos (by omega), h2, hs_]
    refine h1.bind ?_
    simp only [Option.bind_some]
    refine h3.bind ?_
    rw [range_filter_succ] at ih
    by_cases hq : hs m (P6 k) (ng (P6 k) r) = true
    · simp only [hq, if_true]
      simp only [hq, if_true, rul_snoc, ← List.append_assoc] at ih
      simp only [if_pos (show (RL m k ++ rul (P6 k) ((List.range r).filter fun r => hs m (P6 k) (ng (P6 k) r))).length < 8796093022208 by rw [List.length_append, rul_len]; omega)]
      exact ih
    · simp only [hq, Bool.false_eq_true, if_false, List.append_nil] at ih ⊢
      exact ih
theorem spec_Rules_l0 (m : List Nat) (hm : m.length ≤ 100) (n : Nat) (hn : n ≤ 6) (v : List S65 × Bool) (h : Ev (fun z => (spec_siGood.f z (RL m n)).bind fun t => (if t = true then (some (RL m n, true)) else (some (([] : List (S65)), false)))) v) :
    ∀ c k, k + c = n → Ev (fun z => spec_RulesOfPattern.l0 z (ints m) (n : Int) (RL m k) (k : Int)) v
  | 0, k, e => by
    have e' : k = n := by omega
    subst e'
    refine Ev.step (fun z => ?_) h
    simp only [spec_RulesOfPattern.l0]
    rw [if_neg (by omega)]
  | c + 1, k, e => by
    have ih := spec_Rules_l0 m hm n hn v h c (k + 1) (by omega)
    have h1 := spec_Rules_l1 m hm n k (by omega) hn v ih (P6 k) 0 (by omega)
    refine Ev.step (fun z => ?_) h1
    simp only [spec_RulesOfPattern.l0]
    rw [if_pos (by omega), spec_rePrime_eq k (by omega), Option.bind_some]
    simp [rul]
/-- Each rule is one. -/
def ok38 (l : List S65) : Prop := ∀ x ∈ l, 2 ≤ x.f0 ∧ x.f0 ≤ 60 ∧ 0 ≤ x.f1 ∧ x.f1 < x.f0
theorem RL_ok (m : List Nat) : ∀ k, k ≤ 6 → ok38 (RL m k)
  | 0, _ => fun x hx => by simp [RL] at hx
  | k + 1, h => by
    have h1 := RL_ok m k (by omega)
    have h3 := P6_pos k (by omega)
    intro x hx
    simp only [RL, List.mem_append] at hx
    rcases hx with hx | hx
    · exact h1 x hx
    · simp only [rul, outs, List.mem_map, List.mem_filter, List.mem_range] at hx
      obtain ⟨r, ⟨hr, _⟩, rfl⟩ := hx
      refine ⟨?_, ?_, ?_, ?_⟩ <;> simp only <;> omega
theorem rdT_get (pre : List S65) (x : S65) (l : List S65) : rd_T65 (pre ++ x :: l) (pre.length : Int) = x := by
  unfold rd_T65
  rw [Int.toNat_natCast]
  simp
theorem spec_siRule_eq {x : S65} (h : 2 ≤ x.f0 ∧ x.f0 ≤ 60 ∧ 0 ≤ x.f1 ∧ x.f1 < x.f0) : spec_siRule.f x.f0 x.f1 = some true := by
  unfold spec_siRule.f
  rw [spec_l1In_eq, decide_eq_true ⟨h.1, h.2.1⟩, Option.bind_some]
  simp only [if_true]
  rw [spec_l1In_eq, wri (by omega) (by omega), decide_eq_true ⟨h.2.2.1, by omega⟩]
  rfl
theorem spec_siGood_l (L : List S65) (hL : L.length ≤ 12) (hok : ok38 L) : ∀ suf pre, pre ++ suf = L → Ev (fun k => spec_siGood.l0 k L (L.length : Int) (pre.length : Int)) true
  | [], pre, e => by
    rw [List.append_nil] at e
    subst e
    refine Ev.done fun k => ?_
    simp only [spec_siGood.l0]
    rw [if_neg (by omega)]
  | x :: suf, pre, e => by
    have hlen : L.length = pre.length + 1 + suf.length := by rw [← e]; simp; omega
    have hg : rd_T65 L (pre.length : Int) = x := by rw [← e]; exact rdT_get pre x suf
    have ih := spec_siGood_l L hL hok suf (pre ++ [x]) (by rw [← e]; simp)
    have hq : ((pre ++ [x]).length : Int) = ((pre.length + 1 : Nat) : Int) := by simp
    rw [hq] at ih
    refine Ev.step (fun k => ?_) ih
    simp only [spec_siGood.l0]
    rw [if_pos (by omega), if_pos (by omega), if_pos (by omega), hg, spec_siRule_eq (hok x (by rw [← e]; simp)), Option.bind_some, if_pos rfl, wr_succ (by omega)]
theorem spec_siGood_ev (L : List S65) (hok : ok38 L) : Ev (fun k => spec_siGood.f k L) (decide (L.length ≤ 12)) := by
  unfold spec_siGood.f
  by_cases h : L.length ≤ 12
  · simp only [if_neg (show ¬ (L.length : Int) > 12 by omega)]
    rw [decide_eq_true h]
    exact spec_siGood_l L h hok L [] rfl
  · simp only [if_pos (show (L.length : Int) > 12 by omega)]
    rw [decide_eq_false h]
    exact Ev.now _
theorem impl_isRule_eq {x : S65} (h : 2 ≤ x.f0 ∧ x.f0 ≤ 60 ∧ 0 ≤ x.f1 ∧ x.f1 < x.f0) : impl_areRules_1.f x.f0 x.f1 = some false := by
  unfold impl_areRules_1.f impl_isRule.f
  rw [if_pos h.1, if_pos h.2.1, if_pos h.2.2.1, decide_eq_true h.2.2.2]
  rfl
theorem impl_areRules_l (L : List S65) (hL : L.length ≤ 12) (hok : ok38 L) : ∀ suf pre, pre ++ suf = L → Ev (fun k => impl_areRules.l0 k L (pre.length : Int)) (-1)
  | [], pre, e => by
    rw [List.append_nil] at e
    subst e
    refine Ev.done fun k => ?_
    simp only [impl_areRules.l0]
    rw [if_neg (by omega)]
  | x :: suf, pre, e => by
    have hlen : L.length = pre.length + 1 + suf.length := by rw [← e]; simp; omega
    have hg : rd_T65 L (pre.length : Int) = x := by rw [← e]; exact rdT_get pre x suf
    have ih := impl_areRules_l L hL hok suf (pre ++ [x]) (by rw [← e]; simp)
    have hq : ((pre ++ [x]).length : Int) = ((pre.length + 1 : Nat) : Int) := by simp
    rw [hq] at ih
    refine Ev.step (fun k => ?_) ih
    simp only [impl_areRules.l0]
    rw [if_pos (by omega), if_pos (by omega), hg, impl_isRule_eq (hok x (by rw [← e]; simp)), Option.bind_some, if_neg (by decide), wr_succ (by omega)]
theorem impl_areRules_ev (L : List S65) (hok : ok38 L) : Ev (fun k => impl_areRules.f k L) (decide (L.length ≤ 12)) := by
  unfold impl_areRules.f
  by_cases h : L.length ≤ 12
  · simp only [if_pos (show (L.length : Int) ≤ 12 by omega)]
    rw [decide_eq_true h]
    exact (impl_areRules_l L h hok L [] rfl).bind (f := fun _ t2 => some (!decide (t2 ≥ 0))) (Ev.now _)
  · simp only [if_neg (show ¬ (L.length : Int) ≤ 12 by omega)]
    rw [decide_eq_false h]
    exact Ev.now _
theorem cptA_mem : ∀ (l : List Int) (p x : Int), x ∈ p :: cptA p l ↔ x ∈ p :: l
  | [], _, _ => by simp [cptA]
  | a :: l, p, x => by
    by_cases h : a = p
    · subst h
      have ih := cptA_mem l a x
      simp only [cptA, if_true]
      rw [ih]
      simp
    · have ih := cptA_mem l a x
      simp only [cptA, if_neg h]
      rw [List.mem_cons, ih, List.mem_cons (a := x) (b := p)]
theorem cptA_sorted : ∀ (l : List Int) (p : Int), (p :: l).Pairwise (· ≤ ·) → (p :: cptA p l).Pairwise (· < ·)
  | [], _, _ => by simp [cptA]
  | a :: l, p, hs => by
    rw [List.pairwise_cons] at hs
    obtain ⟨h1, h2⟩ := hs
    by_cases h : a = p
    · subst h
      simp only [cptA, if_true]
      exact cptA_sorted l a h2
    · have ih := cptA_sorted l a h2
      simp only [cptA, if_neg h]
      rw [List.pairwise_cons]
      refine ⟨fun x hx => ?_, ih⟩
      have h3 := (cptA_mem l a x).1 hx
      have h4 := h1 a (by simp)
      rw [List.pairwise_cons] at h2
      rcases List.mem_cons.1 h3 with rfl | h5
      · omega
      · have := h2.1 x h5; omega
theorem cpt_mem (l : List Int) (x : Int) : x ∈ cpt l ↔ x ∈ l := by
  cases l with
  | nil => simp [cpt]
  | cons a l => exact cptA_mem l a x
theorem cpt_sorted (l : List Int) (h : l.Pairwise (· ≤ ·)) : (cpt l).Pairwise (· < ·) := by
  cases l with
  | nil => simp [cpt]
  | cons a l => exact cptA_sorted l a h
theorem sorted_uniqueI : ∀ {l m : List Int}, l.Pairwise (· < ·) → m.Pairwise (· < ·) → (∀ x, x ∈ l ↔ x ∈ m) → l = m
  | [], [], _, _, _ => rfl
  | [], y :: m, _, _, h => by have := (h y).2 (by simp); simp at this
  | x :: l, [], _, _, h => by have := (h x).1 (by simp); simp at this
  | x :: l, y :: m, hl, hm, h => by
    rw [List.pairwise_cons] at hl hm
    have hxy : x = y := by
      have h1 := (h x).1 (by simp)
      have h2 := (h y).2 (by simp)
      rw [List.mem_cons] at h1 h2
      rcases h1 with h1 | h1
      · exact h1
      · rcases h2 with h2 | h2
        · exact h2.symm
        · have := hm.1 x h1; have := hl.1 y h2; omega
    subst hxy
    rw [sorted_uniqueI hl.2 hm.2 fun z => ?_]
    have := h z
    rw [List.mem_cons, List.mem_cons] at this
    constructor
    · intro hz
      rcases this.1 (Or.inr hz) with rfl | h3
      · have := hl.1 z hz; omega
      · exact h3
    · intro hz
      rcases this.2 (Or.inr hz) with rfl | h3
      · have := hm.1 z hz; omega
      · exact h3
/-- Sorted, and of equal ones one: the increasing list of the same numbers. -/
theorem sort_cpt {L F : List Nat} (hF : F.Pairwise (· < ·)) (hm : ∀ x, x ∈ F ↔ x ∈ L) : cpt ((ints L).mergeSort fun x y => decide (x ≤ y)) = ints F := by
  have htr : ∀ a b c : Int, decide (a ≤ b) = true → decide (b ≤ c) = true → decide (a ≤ c) = true := fun a b c h1 h2 => by
    rw [decide_eq_true_iff] at *; omega
  have hto : ∀ a b : Int, (decide (a ≤ b) || decide (b ≤ a)) = true := fun a b => by
    rw [Bool.or_eq_true, decide_eq_true_iff, decide_eq_true_iff]; omega
  have hs := List.pairwise_mergeSort htr hto (ints L)
  have hp := List.mergeSort_perm (ints L) (fun x y => decide (x ≤ y))
  refine sorted_uniqueI (cpt_sorted _ (hs.imp fun h => of_decide_eq_true h)) ?_ fun x => ?_
  · unfold ints
    rw [List.pairwise_map]
    exact hF.imp fun h => by omega
  · rw [cpt_mem, hp.mem_iff]
    unfold ints
    rw [List.mem_map, List.mem_map]
    constructor
    · rintro ⟨a, ha, rfl⟩; exact ⟨a, (hm a).2 ha, rfl⟩
    · rintro ⟨a, ha, rfl⟩; exact ⟨a, (hm a).1 ha, rfl⟩
theorem outs_sort (m : List Nat) (p : Nat) (hp : 0 < p) : cpt ((ints (m.map fun x => ng p (x % p))).mergeSort fun x y => decide (x ≤ y)) = ints (outs m p) := by
  refine sort_cpt (List.Pairwise.filter _ List.pairwise_lt_range) fun r => ?_
  unfold outs
  rw [List.mem_filter, List.mem_range, hs_iff, List.mem_map]
  constructor
  · rintro ⟨hr, x, hx, he⟩
    exact ⟨x, hx, by rw [he, ng_ng hr]⟩
  · rintro ⟨x, hx, rfl⟩
    have := Nat.mod_lt x hp
    exact ⟨ng_lt this, x, hx, by rw [ng_ng this]⟩
theorem impl_rules_l2 (m : List Nat) (n k : Nat) (hk : k < n) (hn : n ≤ 6) (v : List S65) (h : Ev (fun z => impl_rulesOfPattern.l0 z (ints m) (RL m (k + 1)) (PL n) (n : Int) ((k + 1 : Nat) : Int)) v) :
    ∀ suf pre, pre ++ suf = outs m (P6 k) → Ev (fun z => impl_rulesOfPattern.l2 z (ints m) (RL m k ++ rul (P6 k) pre) ((P6 k : Nat) : Int) (PL n) (n : Int) (k : Int) (ints (outs m (P6 k))) ((ints (outs m (P6 k))).length : Int) (pre.length : Int)) v
  | [], pre, e => by
    rw [List.append_nil] at e
    subst e
    refine Ev.step (fun z => ?_) h
    simp only [impl_rulesOfPattern.l2]
    rw [ints_len, if_neg (by omega), wr_succ (by omega)]
    rfl
  | x :: suf, pre, e => by
    have hP := P6_pos k (by omega)
    have hR := RL_len m k (by omega)
    have ho := outs_len m (P6 k)
    have hlen : (ints (outs m (P6 k))).length = pre.length + 1 + suf.length := by rw [ints_len, ← e]; simp; omega
    have hl : (outs m (P6 k)).length = pre.length + 1 + suf.length := by rw [← e]; simp; omega
    have hg : rd (ints (outs m (P6 k))) (pre.length : Int) = (x : Int) := by rw [← e]; exact ints_get pre x suf
    have ih := impl_rules_l2 m n k hk hn v h suf (pre ++ [x]) (by rw [← e]; simp)
    have hq : ((pre ++ [x]).length : Int) = ((pre.length + 1 : Nat) : Int) := by simp
    rw [hq, rul_snoc, ← List.append_assoc] at ih
    refine Ev.step (fun z => ?_) ih
    simp only [impl_rulesOfPattern.l2]
    rw [if_pos (by omega), if_pos (by omega), if_pos (by omega), if_pos (by rw [List.length_append, rul_len]; omega), hg, wr_succ (by omega)]
theorem impl_rules_l1 (m : List Nat) (hm : m.length ≤ 100) (hx : ∀ x ∈ m, x ≤ 60) (n k : Nat) (hk : k < n) (hn : n ≤ 6) (v : List S65) (h : Ev (fun z => impl_rulesOfPattern.l0 z (ints m) (RL m (k + 1)) (PL n) (n : Int) ((k + 1 : Nat) : Int)) v) :
    ∀ suf pre, pre ++ suf = m → Ev (fun z => impl_rulesOfPattern.l1 z (ints m) (RL m k) ((P6 k : Nat) : Int) (ints (pre.map fun x => ng (P6 k) (x % P6 k))) (PL n) (n : Int) (k : Int) (ints m) ((ints m).length : Int) (pre.length : Int)) v
  | [], pre, e => by
    rw [List.append_nil] at e
    subst e
    have hP := P6_pos k (by omega)
    have h2 := impl_rules_l2 pre n k hk hn v h (outs pre (P6 k)) [] rfl
    have ho := outs_len pre (P6 k)
    have e1 : slices_Sort_int_int.f (ints (pre.map fun x => ng (P6 k) (x % P6 k))) = some ((ints (pre.map fun x => ng (P6 k) (x % P6 k))).mergeSort fun x y => decide (x ≤ y)) := by
      unfold slices_Sort_int_int.f
      rw [if_pos (by rw [ints_len, List.length_map]; omega)]
    have e2 : slices_Compact_int_int.f ((ints (pre.map fun x => ng (P6 k) (x % P6 k))).mergeSort fun x y => decide (x ≤ y)) = some (ints (outs pre (P6 k))) := by
      unfold slices_Compact_int_int.f
      rw [if_pos (by rw [List.length_mergeSort, ints_len, List.length_map]; omega), outs_sort pre (P6 k) (by omega)]
    refine Ev.step (fun z => ?_) h2
    simp only [impl_rulesOfPattern.l1]
    rw [ints_len, if_neg (by omega), e1, Option.bind_some, e2, Option.bind_some]
    simp [rul]
  | x :: suf, pre, e => by
    have hP := P6_pos k (by omega)
    have hlen : (ints m).length = pre.length + 1 + suf.length := by rw [ints_len, ← e]; simp; omega
    have hl : m.length = pre.length + 1 + suf.length := by rw [← e]; simp; omega
    have hg : rd (ints m) (pre.length : Int) = (x : Int) := by rw [← e]; exact ints_get pre x suf
    have hx60 := hx x (by rw [← e]; simp)
    have ih := impl_rules_l1 m hm hx n k hk hn v h suf (pre ++ [x]) (by rw [← e]; simp)
    have hq : ((pre ++ [x]).length : Int) = ((pre.length + 1 : Nat) : Int) := by simp
    have hap : ints ((pre ++ [x]).map fun x => ng (P6 k) (x % P6 k)) = ints (pre.map fun x => ng (P6 k) (x % P6 k)) ++ [((ng (P6 k) (x % P6 k) : Nat) : Int)] := by simp [ints]
    rw [hq, hap] at ih
    have hmod := impl_mod_eq x (P6 k) (by omega) (by omega) (by omega)
    refine Ev.step (fun z => ?_) ih
    simp only [impl_rulesOfPattern.l1]
    rw [if_pos (by omega), if_pos (by omega), if_pos (by omega), hg, hmod, Option.bind_some, if_pos (by rw [ints_len, List.length_map]; omega), wr_succ (by omega)]
theorem impl_rules_l0 (m : List Nat) (hm : m.length ≤ 100) (hx : ∀ x ∈ m, x ≤ 60) (n : Nat) (hn : n ≤ 6) : ∀ c k, k + c = n → Ev (fun z => impl_rulesOfPattern.l0 z (ints m) (RL m k) (PL n) (n : Int) (k : Int)) (RL m n)
  | 0, k, e => by
    have e' : k = n := by omega
    subst e'
    refine Ev.done fun z => ?_
    simp only [impl_rulesOfPattern.l0]
    rw [if_neg (by omega)]
  | c + 1, k, e => by
    have ih := impl_rules_l0 m hm hx n hn c (k + 1) (by omega)
    have h1 := impl_rules_l1 m hm hx n k (by omega) hn _ ih m [] rfl
    have hl := PL_len n hn
    refine Ev.step (fun z => ?_) h1
    simp only [impl_rulesOfPattern.l0]
    rw [if_pos (by omega), if_pos (by omega), if_pos (by omega), PL_get n hn k (by omega)]
    rfl
theorem impl_rules_ev (m : List Nat) (hm : m.length ≤ 100) (hx : ∀ x ∈ m, x ≤ 60) (n : Nat) (hn : n ≤ 6) : Ev (fun z => impl_rulesOfPattern.f z (ints m) (n : Int)) (RL m n) := by
  have h := impl_rules_l0 m hm hx n hn n 0 (by omega)
  unfold impl_rulesOfPattern.f impl_firstSix.f
  simp only [Option.bind_some]
  simp only [if_pos (show 0 ≤ (n : Int) by omega), if_pos (show (n : Int) ≤ (([2, 3, 5, 7, 11, 13] : List Int).length : Int) by simp; omega), Int.toNat_natCast]
  have hl := PL_len n hn
  have e : ((([2, 3, 5, 7, 11, 13] : List Int).take n).length : Int) = (n : Int) := by
    have : (PL n).length = n := hl
    unfold PL at this
    omega
  rw [e]
  exact h
theorem mod_sort (m : List Nat) (p : Nat) (hp : 0 < p) : cpt ((ints (m.map fun x => x % p)).mergeSort fun x y => decide (x ≤ y)) = ints (rests m p) := by
  refine sort_cpt (List.Pairwise.filter _ List.pairwise_lt_range) fun r => ?_
  unfold rests
  rw [List.mem_filter, List.mem_range, hs_iff, List.mem_map]
  constructor
  · rintro ⟨_, x, hx, he⟩; exact ⟨x, hx, he⟩
  · rintro ⟨x, hx, rfl⟩; exact ⟨Nat.mod_lt x hp, x, hx, rfl⟩
theorem impl_restsOf_l (m : List Nat) (hm : m.length ≤ 100) (p : Nat) (hp : 0 < p) (hpm : p ≤ 1000) : ∀ suf pre, pre ++ suf = m → Ev (fun z => impl_restsOf.l0 z (p : Int) (ints (pre.map fun x => x % p)) (ints m) ((ints m).length : Int) (pre.length : Int)) (ints (rests m p))
  | [], pre, e => by
    rw [List.append_nil] at e
    subst e
    have e1 : slices_Sort_int_int.f (ints (pre.map fun x => x % p)) = some ((ints (pre.map fun x => x % p)).mergeSort fun x y => decide (x ≤ y)) := by
      unfold slices_Sort_int_int.f
      rw [if_pos (by rw [ints_len, List.length_map]; omega)]
    have e2 : slices_Compact_int_int.f ((ints (pre.map fun x => x % p)).mergeSort fun x y => decide (x ≤ y)) = some (ints (rests pre p)) := by
      unfold slices_Compact_int_int.f
      rw [if_pos (by rw [List.length_mergeSort, ints_len, List.length_map]; omega), mod_sort pre p hp]
    refine Ev.done fun z => ?_
    simp only [impl_restsOf.l0]
    rw [ints_len, if_neg (by omega), e1, Option.bind_some, e2, Option.bind_some]
  | x :: suf, pre, e => by
    have hlen : (ints m).length = pre.length + 1 + suf.length := by rw [ints_len, ← e]; simp; omega
    have hl : m.length = pre.length + 1 + suf.length := by rw [← e]; simp; omega
    have hg : rd (ints m) (pre.length : Int) = (x : Int) := by rw [← e]; exact ints_get pre x suf
    have ih := impl_restsOf_l m hm p hp hpm suf (pre ++ [x]) (by rw [← e]; simp)
    have hq : ((pre ++ [x]).length : Int) = ((pre.length + 1 : Nat) : Int) := by simp
    have hap : ints ((pre ++ [x]).map fun x => x % p) = ints (pre.map fun x => x % p) ++ [((x % p : Nat) : Int)] := by simp [ints]
    rw [hq, hap] at ih
    refine Ev.step (fun z => ?_) ih
    simp only [impl_restsOf.l0]
    rw [if_pos (by omega), if_pos (by omega), if_pos (by omega), if_neg (by omega), if_pos (by rw [ints_len, List.length_map]; omega), hg, tm, wr_succ (by omega)]
theorem impl_restsOf_ev (m : List Nat) (hm : m.length ≤ 100) (p : Nat) (hp : 0 < p) (hpm : p ≤ 1000) : Ev (fun z => impl_restsOf.f z (ints m) (p : Int)) (ints (rests m p)) := impl_restsOf_l m hm p hp hpm m [] rfl
/-- The least prime, from one with an index on, that closes. -/
def clF (m : List Nat) : Nat → Nat → Nat
  | 0, _ => 0
  | c + 1, k => if (rests m (P6 k)).length = P6 k then P6 k else clF m c (k + 1)
/-- No prime closes. -/
def opn (m : List Nat) : Bool := clF m 6 0 == 0
theorem impl_closing_l (m : List Nat) (hm : m.length ≤ 100) : ∀ c k : Nat, k + c = 6 → Ev (fun z => impl_closing.l0 z (ints m) (PL 6) 6 (k : Int)) ((clF m c k : Nat) : Int)
  | 0, k, e => by
    refine Ev.done fun z => ?_
    simp only [impl_closing.l0]
    rw [if_neg (by omega)]
    rfl
  | c + 1, k, e => by
    have ih := impl_closing_l m hm c (k + 1) (by omega)
    have hP := P6_pos k (by omega)
    have hg := PL_get 6 (by omega) k (by omega)
    have hl := PL_len 6 (by omega)
    have hr := impl_restsOf_ev m hm (P6 k) (by omega) (by omega)
    refine Ev.step (f := ?f0) (fun z => ?a0) ?b0
    case a0 =>
      simp only [impl_closing.l0]
      rw [if_pos (by omega), if_pos (by omega), if_pos (by omega), hg, wr_succ (by omega)]
    refine hr.bind ?_
    by_cases h : (rests m (P6 k)).length = P6 k
    · have e1 : clF m (c + 1) k = P6 k := by simp only [clF]; rw [if_pos h]
      rw [e1]
      simp only [if_pos (show ((ints (rests m (P6 k))).length : Int) = ((P6 k : Nat) : Int) by rw [ints_len]; omega)]
      exact Ev.now _
    · have e1 : clF m (c + 1) k = clF m c (k + 1) := by simp only [clF]; rw [if_neg h]
      rw [e1]
      simp only [if_neg (show ¬ ((ints (rests m (P6 k))).length : Int) = ((P6 k : Nat) : Int) by rw [ints_len]; omega)]
      exact ih
theorem impl_closing_ev (m : List Nat) (hm : m.length ≤ 100) : Ev (fun z => impl_closing.f z (ints m)) ((clF m 6 0 : Nat) : Int) := by
  unfold impl_closing.f impl_firstSix.f
  simp only [Option.bind_some]
  exact impl_closing_l m hm 6 0 rfl
theorem impl_isOpen_ev (m : List Nat) (hm : m.length ≤ 100) : Ev (fun z => impl_isOpen.f z (ints m)) (opn m) := by
  unfold impl_isOpen.f
  refine (impl_closing_ev m hm).bind ?_
  have e : (((clF m 6 0 : Nat) : Int) == 0) = opn m := by
    unfold opn
    rw [Bool.eq_iff_iff, beq_iff_eq, beq_iff_eq]
    omega
  rw [e]
  exact Ev.now _
theorem one_len (c : Nat) : ∀ p, ((List.range p).filter fun r => c == r).length ≤ 1
  | 0 => by simp
  | p + 1 => by
    have ih := one_len c p
    rw [range_filter_succ, List.length_append]
    by_cases h : c = p
    · subst h
      have h0 : ((List.range c).filter fun r => c == r) = [] := by
        rw [List.filter_eq_nil_iff]
        intro a ha he
        have := List.mem_range.1 ha
        have := beq_iff_eq.1 he
        omega
      rw [h0]
      simp
    · have h0 : (c == p) = false := beq_eq_false_iff_ne.2 h
      rw [h0]
      simpa using ih
theorem or_len (a b : Nat → Bool) : ∀ l : List Nat, (l.filter fun r => a r || b r).length ≤ (l.filter a).length + (l.filter b).length
  | [] => by simp
  | x :: l => by
    have ih := or_len a b l
    cases ha : a x <;> cases hb : b x <;> simp [ha, hb] <;> omega
theorem rests_le (p : Nat) : ∀ m : List Nat, (rests m p).length ≤ m.length
  | [] => by simp [rests, hs]
  | x :: m => by
    have ih := rests_le p m
    have h1 := one_len (x % p) p
    have h2 := or_len (fun r => x % p == r) (hs m p) (List.range p)
    have e : rests (x :: m) p = (List.range p).filter fun r => (x % p == r) || hs m p r := rfl
    rw [e, List.length_cons]
    unfold rests at ih
    omega
/-- The product of the first k primes. -/
def PD : Nat → Nat
  | 0 => 1
  | k + 1 => PD k * P6 k
theorem PD_pos : ∀ k, k ≤ 6 → 0 < PD k ∧ PD k ≤ 30030 := by decide
theorem PD_dvd : ∀ k, k ≤ 6 → ∀ i, i < k → PD k % P6 i = 0 := by decide
set_option maxRecDepth 20000 in
theorem PD_permB : ∀ k, k < 6 → ∀ r, r < P6 k → ((List.range (P6 k)).map fun j => (r + j * PD k) % P6 k).isPerm (List.range (P6 k)) = true := by decide
set_option maxRecDepth 20000 in
theorem ng_permB : ∀ k, k < 6 → ((List.range (P6 k)).map (ng (P6 k))).isPerm (List.range (P6 k)) = true := by decide
/-- No offset's number is divided by p. -/
def gd (m : List Nat) (p n : Nat) : Bool := !(m.any fun x => (n + x) % p == 0)
/-- .. by none of the first k primes. -/
def gds (m : List Nat) : Nat → Nat → Bool
  | 0, _ => true
  | k + 1, n => gds m k n && gd m (P6 k) n
/-- The product that tells the places of a period. -/
def plc (m : List Nat) : Nat → Nat
  | 0 => 1
  | k + 1 => plc m k * (P6 k - (rests m (P6 k)).length)
theorem ng_iff (n x p : Nat) (hp : 0 < p) : (n + x) % p = 0 ↔ x % p = ng p (n % p) := by
  have h1 := Nat.mod_lt n hp
  have h2 := Nat.mod_lt x hp
  rw [Nat.add_mod]
  unfold ng
  by_cases h : n % p = 0
  · rw [if_pos h, h, Nat.zero_add, Nat.mod_mod]
  · rw [if_neg h]
    by_cases h3 : n % p + x % p < p
    · rw [Nat.mod_eq_of_lt h3]; omega
    · rw [Nat.mod_eq_sub_mod (by omega), Nat.mod_eq_of_lt (by omega)]; omega
theorem gd_hs (m : List Nat) (p n : Nat) (hp : 0 < p) : gd m p n = !hs m p (ng p (n % p)) := by
  unfold gd hs
  congr 1
  rw [Bool.eq_iff_iff, List.any_eq_true, List.any_eq_true]
  refine ⟨fun ⟨x, hx, h⟩ => ⟨x, hx, ?_⟩, fun ⟨x, hx, h⟩ => ⟨x, hx, ?_⟩⟩
  · rw [beq_iff_eq] at h ⊢; exact (ng_iff n x p hp).1 h
  · rw [beq_iff_eq] at h ⊢; exact (ng_iff n x p hp).2 h
theorem gd_mod (m : List Nat) (p n : Nat) (hp : 0 < p) : gd m p n = gd m p (n % p) := by rw [gd_hs m p n hp, gd_hs m p _ hp, Nat.mod_mod]
theorem gd_cnt (m : List Nat) (k : Nat) (hk : k < 6) : cnt (gd m (P6 k)) (P6 k) = P6 k - (rests m (P6 k)).length := by
  have hp := (P6_pos k hk).1
  have h1 : cnt (gd m (P6 k)) (P6 k) = cnt (fun i => !hs m (P6 k) (ng (P6 k) i)) (P6 k) := cnt_congr _ fun i hi => by rw [gd_hs m _ _ (by omega), Nat.mod_eq_of_lt hi]
  rw [h1, cnt_not (fun i => hs m (P6 k) (ng (P6 k) i)), cnt_perm (hs m (P6 k)) (ng (P6 k)) (P6 k) (List.isPerm_iff.1 (ng_permB k hk))]
  rfl
theorem gds_add (m : List Nat) (K : Nat) (hK : K ≤ 6) (n j : Nat) : ∀ k, k ≤ K → gds m k (n + j * PD K) = gds m k n
  | 0, _ => rfl
  | k + 1, h => by
    have hp := (P6_pos k (by omega)).1
    show (gds m k (n + j * PD K) && gd m (P6 k) (n + j * PD K)) = (gds m k n && gd m (P6 k) n)
    rw [gds_add m K hK n j k (by omega), gd_mod m _ (n + j * PD K) (by omega), gd_mod m _ n (by omega)]
    congr 2
    rw [Nat.add_mod, Nat.mul_mod, PD_dvd K hK k h, Nat.mul_zero, Nat.zero_mod, Nat.add_zero, Nat.mod_mod]
theorem gds_cnt (m : List Nat) : ∀ k, k ≤ 6 → cnt (gds m k) (PD k) = plc m k
  | 0, _ => rfl
  | k + 1, h => by
    have hp := (P6_pos k (by omega)).1
    show cnt (fun n => gds m k n && gd m (P6 k) n) (PD k * P6 k) = _
    rw [crt_cnt (gds m k) (gd m (P6 k)) (PD k) (P6 k) (fun n j => gds_add m k (by omega) n j k (Nat.le_refl k)) (fun n => gd_mod m _ n (by omega)) (fun r hr => List.isPerm_iff.1 (PD_permB k (by omega) r hr)) (by omega), gds_cnt m k (by omega), gd_cnt m k (by omega)]
    rfl
theorem gds_one (m : List Nat) (k : Nat) (hk : k ≤ 6) : cnt (fun i => gds m k (1 + i)) (PD k) = plc m k := by
  rw [cnt_one, gds_cnt m k hk]
  have := gds_add m k hk 0 1 k (Nat.le_refl k)
  rwa [Nat.zero_add, Nat.one_mul] at this
theorem plc_le (m : List Nat) : ∀ k, k ≤ 6 → plc m k ≤ PD k
  | 0, _ => Nat.le_refl _
  | k + 1, h => Nat.mul_le_mul (plc_le m k (by omega)) (Nat.sub_le _ _)
theorem gcd_step (a b : Nat) : Nat.gcd a b = Nat.gcd b (a % b) := by
  rw [Nat.gcd_comm a b, Nat.gcd_rec b a, Nat.gcd_comm]
theorem spec_siCommon_ev : ∀ (b a : Nat), Ev (fun k => spec_siCommon.l0 k a b) ((Nat.gcd a b : Nat) : Int) := by
  intro b
  induction b using Nat.strongRecOn with
  | _ b ih =>
    intro a
    by_cases h : 0 < b
    · rw [gcd_step]
      refine Ev.step (fun k => ?_) (ih (a % b) (Nat.mod_lt _ h) b)
      simp only [spec_siCommon.l0]
      rw [if_pos (by omega), if_neg (by omega), tm]
    · have : b = 0 := by omega
      subst this
      rw [Nat.gcd_zero_right]
      refine Ev.done fun k => ?_
      simp only [spec_siCommon.l0]
      rw [if_neg (by omega)]
theorem impl_gcd_ev : ∀ (b a : Nat), Ev (fun k => impl_gcd.l0 k a b) ((Nat.gcd a b : Nat) : Int) := by
  intro b
  induction b using Nat.strongRecOn with
  | _ b ih =>
    intro a
    by_cases h : 0 < b
    · rw [gcd_step]
      refine Ev.step (fun k => ?_) (ih (a % b) (Nat.mod_lt _ h) b)
      simp only [impl_gcd.l0]
      rw [if_pos (by omega), if_neg (by omega), tm]
    · have : b = 0 := by omega
      subst this
      rw [Nat.gcd_zero_right]
      refine Ev.done fun k => ?_
      simp only [impl_gcd.l0]
      rw [if_neg (by omega)]
theorem pl_step (m : List Nat) (k : Nat) (hk : k < 6) : wrap64 (((plc m k : Nat) : Int) * wrap64 (((P6 k : Nat) : Int) - ((ints (rests m (P6 k))).length : Int))) = ((plc m (k + 1) : Nat) : Int) ∧ wrap64 (((PD k : Nat) : Int) * ((P6 k : Nat) : Int)) = ((PD (k + 1) : Nat) : Int) := by
  have h1 := rests_len m (P6 k)
  have h2 := P6_pos k hk
  have h3 := plc_le m (k + 1) (by omega)
  have h4 := PD_pos (k + 1) (by omega)
  rw [ints_len]
  have e : ((P6 k : Nat) : Int) - ((rests m (P6 k)).length : Int) = ((P6 k - (rests m (P6 k)).length : Nat) : Int) := by omega
  have h5 : plc m k * (P6 k - (rests m (P6 k)).length) = plc m (k + 1) := rfl
  have h6 : PD k * P6 k = PD (k + 1) := rfl
  rw [e, wr (by omega), wr_mul (by rw [h5]; omega), wr_mul (by rw [h6]; omega), h5, h6]
  exact ⟨rfl, rfl⟩
theorem impl_placesIn_l (m : List Nat) (hm : m.length ≤ 100) (n : Nat) (hn : n ≤ 6) : ∀ c k, k + c = n → Ev (fun z => impl_placesIn.l0 z (ints m) ((plc m k : Nat) : Int) ((PD k : Nat) : Int) (PL n) (n : Int) (k : Int)) (((plc m n : Nat) : Int), ((PD n : Nat) : Int))
  | 0, k, e => by
    have e' : k = n := by omega
    subst e'
    refine Ev.done fun z => ?_
    simp only [impl_placesIn.l0]
    rw [if_neg (by omega)]
  | c + 1, k, e => by
    have ih := impl_placesIn_l m hm n hn c (k + 1) (by omega)
    obtain ⟨s1, s2⟩ := pl_step m k (by omega)
    have hl := PL_len n hn
    have hp := P6_pos k (by omega)
    refine Ev.step (f := ?f0) (fun z => ?a0) ?b0
    case a0 =>
      simp only [impl_placesIn.l0]
      rw [if_pos (by omega), if_pos (by omega), if_pos (by omega), PL_get n hn k (by omega)]
    refine (impl_restsOf_ev m hm (P6 k) (by omega) (by omega)).bind ?_
    simp only [s1, s2, wr_succ (show k < 9223372036854775807 by omega)]
    exact ih
theorem PL_eq (n : Nat) (hn : n ≤ 6) : ((([2, 3, 5, 7, 11, 13] : List Int).take n).length : Int) = (n : Int) := by
  have : (PL n).length = n := PL_len n hn
  unfold PL at this
  omega
theorem impl_placesIn_ev (m : List Nat) (hm : m.length ≤ 100) (n : Nat) (hn : n ≤ 6) : Ev (fun z => impl_placesIn.f z (ints m) (n : Int)) (((plc m n : Nat) : Int), ((PD n : Nat) : Int)) := by
  have h := impl_placesIn_l m hm n hn n 0 (by omega)
  unfold impl_placesIn.f impl_firstSix.f
  simp only [Option.bind_some]
  simp only [if_pos (show 0 ≤ (n : Int) by omega), if_pos (show (n : Int) ≤ (([2, 3, 5, 7, 11, 13] : List Int).length : Int) by simp; omega), Int.toNat_natCast]
  rw [PL_eq n hn]
  exact h
theorem spec_rePlaces_l (m : List Nat) (hm : m.length ≤ 100) (n : Nat) (hn : n ≤ 6) : ∀ c k, k + c = n → Ev (fun z => spec_rePlaces.l0 z (ints m) (n : Int) ((plc m k : Nat) : Int) ((PD k : Nat) : Int) (k : Int)) (((plc m n : Nat) : Int), ((PD n : Nat) : Int))
  | 0, k, e => by
    have e' : k = n := by omega
    subst e'
    refine Ev.done fun z => ?_
    simp only [spec_rePlaces.l0]
    rw [if_neg (by omega)]
  | c + 1, k, e => by
    have ih := spec_rePlaces_l m hm n hn c (k + 1) (by omega)
    obtain ⟨s1, s2⟩ := pl_step m k (by omega)
    have hp := P6_pos k (by omega)
    have hr := spec_rePrime_eq k (by omega)
    refine Ev.step (f := ?f0) (fun z => ?a0) ?b0
    case a0 =>
      simp only [spec_rePlaces.l0]
      rw [if_pos (by omega), hr]
    refine (Ev.now _).bind ((Ev.now _).bind ?_)
    refine (spec_reRests_ev m (P6 k) (by omega) (by omega) hm).bind ?_
    simp only [Option.bind_some, s1, s2, wr_succ (show k < 9223372036854775807 by omega)]
    exact ih
theorem spec_rePlaces_ev (m : List Nat) (hm : m.length ≤ 100) (n : Nat) (hn : n ≤ 6) : Ev (fun z => spec_rePlaces.f z (ints m) (n : Int)) (((plc m n : Nat) : Int), ((PD n : Nat) : Int)) := spec_rePlaces_l m hm n hn n 0 (by omega)
theorem spec_reAsked_ev (l : List Int) (a : Int) (hl : l.length ≤ 4000000000) : Ev (fun k => spec_reAsked.f k l a) (isP l && decide (0 ≤ a ∧ a ≤ 6)) := by
  unfold spec_reAsked.f
  refine (spec_reGood_ev l hl).bind ?_
  rw [spec_l1In_eq]
  cases isP l
  · exact Ev.now _
  · exact Ev.now _
/-- Told or not: the three that ask the same. -/
theorem asked_no (l : List Int) (a : Int) (hl : l.length ≤ 4000000000) (h : (isP l && decide (0 ≤ a ∧ a ≤ 6)) = false) :
    Ev (fun k => impl_PlacesInPeriod.f k l a) (0, false) ∧ Ev (fun k => spec_PlacesInPeriod.f k l a) (0, false) ∧ Ev (fun k => impl_ShareOfPlaces.f k l a) (0, 0, false) ∧ Ev (fun k => spec_ShareOfPlaces.f k l a) (0, 0, false) := by
  have hs := spec_reAsked_ev l a hl
  rw [h] at hs
  have hp := impl_isPattern_ev l hl
  have hj : Ev (fun k => impl_ShareOfPlaces.j0 k l a true) (0, 0, false) := Ev.done fun k => by simp only [impl_ShareOfPlaces.j0, if_true]
  refine ⟨?_, ?_, ?_, ?_⟩
  · unfold impl_PlacesInPeriod.f
    refine hp.bind ?_
    cases e : isP l
    · simp only [Bool.false_eq_true, if_false]; exact Ev.now _
    · rw [e, Bool.true_and, decide_eq_false_iff_not] at h
      simp only [if_true]
      by_cases ha : a < 0
      · simp only [if_pos ha]; exact Ev.now _
      · simp only [if_neg ha, if_pos (show a > 6 by omega)]; exact Ev.now _
  · unfold spec_PlacesInPeriod.f
    refine hs.bind ?_
    simp only [Bool.false_eq_true, if_false]; exact Ev.now _
  · unfold impl_ShareOfPlaces.f
    refine hp.bind ?_
    cases e : isP l
    · simp only [Bool.false_eq_true, if_false]; exact hj
    · rw [e, Bool.true_and, decide_eq_false_iff_not] at h
      simp only [if_true]
      by_cases ha : a < 0
      · simp only [if_pos ha]; exact hj
      · simp only [if_neg ha]; rw [decide_eq_true (show a > 6 by omega)]; exact hj
  · unfold spec_ShareOfPlaces.f
    refine hs.bind ?_
    simp only [Bool.false_eq_true, if_false]; exact Ev.now _
/-- The greatest number that divides places and period. -/
def gp (m : List Nat) (n : Nat) : Nat := Nat.gcd (plc m n) (PD n)
theorem gp_pos (m : List Nat) (n : Nat) (hn : n ≤ 6) : 0 < gp m n ∧ gp m n ≤ 30030 := by
  have h := PD_pos n hn
  refine ⟨Nat.gcd_pos_of_pos_right _ h.1, Nat.le_trans (Nat.le_of_dvd h.1 (Nat.gcd_dvd_right _ _)) h.2⟩
theorem asked_yes (m : List Nat) (n : Nat) (hm : m.length ≤ 100) (hn : n ≤ 6) (hP : isP (ints m) = true) :
    Ev (fun k => impl_PlacesInPeriod.f k (ints m) (n : Int)) (((plc m n : Nat) : Int), true) ∧ Ev (fun k => spec_PlacesInPeriod.f k (ints m) (n : Int)) (((plc m n : Nat) : Int), true)
    ∧ Ev (fun k => impl_ShareOfPlaces.f k (ints m) (n : Int)) (((plc m n / gp m n : Nat) : Int), ((PD n / gp m n : Nat) : Int), true) ∧ Ev (fun k => spec_ShareOfPlaces.f k (ints m) (n : Int)) (((plc m n / gp m n : Nat) : Int), ((PD n / gp m n : Nat) : Int), true) := by
  have hl : (ints m).length ≤ 4000000000 := by rw [ints_len]; omega
  have hs := spec_reAsked_ev (ints m) (n : Int) hl
  rw [hP, decide_eq_true (show 0 ≤ (n : Int) ∧ (n : Int) ≤ 6 by omega), Bool.true_and] at hs
  have hp := impl_isPattern_ev (ints m) hl
  rw [hP] at hp
  have h1 := impl_placesIn_ev m hm n hn
  have h2 := spec_rePlaces_ev m hm n hn
  obtain ⟨g1, g2⟩ := gp_pos m n hn
  have g3 := plc_le m n hn
  have g4 := PD_pos n hn
  have g5 : ¬ ((gp m n : Nat) : Int) = 0 := by omega
  refine ⟨?_, ?_, ?_, ?_⟩
  · unfold impl_PlacesInPeriod.f
    refine hp.bind ?_
    simp only [if_true, if_neg (show ¬ (n : Int) < 0 by omega), if_neg (show ¬ (n : Int) > 6 by omega)]
    exact h1.bind (Ev.now _)
  · unfold spec_PlacesInPeriod.f
    refine hs.bind ?_
    simp only [if_true]
    exact h2.bind (Ev.now _)
  · unfold impl_ShareOfPlaces.f
    refine hp.bind ?_
    simp only [if_true, if_neg (show ¬ (n : Int) < 0 by omega)]
    rw [decide_eq_false (show ¬ (n : Int) > 6 by omega)]
    refine Ev.step (f := ?f0) (fun k => ?a0) ?b0
    case a0 => simp only [impl_ShareOfPlaces.j0, Bool.false_eq_true, if_false]; exact rfl
    refine h1.bind ((impl_gcd_ev (PD n) (plc m n)).bind ?_)
    show Ev (fun k => if ((gp m n : Nat) : Int) = 0 then none else some (wrap64 (Int.tdiv ((plc m n : Nat) : Int) ((gp m n : Nat) : Int)), wrap64 (Int.tdiv ((PD n : Nat) : Int) ((gp m n : Nat) : Int)), true)) _
    simp only [if_neg g5, wr_tdiv (show plc m n < 9223372036854775808 by omega), wr_tdiv (show PD n < 9223372036854775808 by omega)]
    exact Ev.now _
  · unfold spec_ShareOfPlaces.f
    refine hs.bind ?_
    simp only [if_true]
    refine h2.bind ((spec_siCommon_ev (PD n) (plc m n)).bind ?_)
    show Ev (fun k => if ((gp m n : Nat) : Int) = 0 then none else some (wrap64 (Int.tdiv ((plc m n : Nat) : Int) ((gp m n : Nat) : Int)), wrap64 (Int.tdiv ((PD n : Nat) : Int) ((gp m n : Nat) : Int)), true)) _
    simp only [if_neg g5, wr_tdiv (show plc m n < 9223372036854775808 by omega), wr_tdiv (show PD n < 9223372036854775808 by omega)]
    exact Ev.now _
/-- The numbers 1, .., n. -/
def ups (n : Nat) : List Int := (List.range n).map fun i => ((i + 1 : Nat) : Int)
theorem ups_len (n : Nat) : (ups n).length = n := by simp [ups]
theorem ups_succ (n : Nat) : ups (n + 1) = ups n ++ [((n + 1 : Nat) : Int)] := by simp [ups, List.range_succ]
theorem impl_upTo_l (n : Nat) (hn : n ≤ 1000000) : ∀ (j i : Nat), n ≤ i + j → i ≤ n → Ev (fun k => impl_upTo.l0 k n 1 (ups i) ((i + 1 : Nat) : Int)) (ups n) := by
  intro j
  induction j with
  | zero =>
    intro i h1 h2
    obtain rfl : i = n := by omega
    refine Ev.done fun k => ?_
    simp only [impl_upTo.l0]
    rw [if_neg (by omega)]
  | succ j ih =>
    intro i h1 h2
    by_cases h : i < n
    · refine Ev.step (fun k => ?_) (ih (i + 1) (by omega) (by omega))
      have hl := ups_len i
      simp only [impl_upTo.l0]
      rw [if_pos (by omega), if_pos (by omega), wr_succ (by omega), ups_succ]
    · obtain rfl : i = n := by omega
      refine Ev.done fun k => ?_
      simp only [impl_upTo.l0]
      rw [if_neg (by omega)]
theorem impl_upTo_ev (n : Nat) (hn : n ≤ 1000000) : Ev (fun k => impl_upTo.f k 1 n 1) (ups n) :=
  impl_upTo_l n hn n 0 (by omega) (by omega)
/-- What is kept of 1, .., n. -/
def kept (p : Nat → Bool) : Nat → List Int
  | 0 => []
  | n + 1 => if p (n + 1) = true then kept p n else kept p n ++ [((n + 1 : Nat) : Int)]
theorem kept_len (p : Nat → Bool) : ∀ n, (kept p n).length ≤ n
  | 0 => by simp [kept]
  | n + 1 => by
    have := kept_len p n
    simp only [kept]; split
    · omega
    · simp; omega
theorem delKeep_app {q : Int → Option Bool} : ∀ (l : List Int) (x : Int), delKeep q (l ++ [x]) = (delKeep q l).bind fun r => (q x).bind fun b => some (if b = true then r else r ++ [x])
  | [], x => by
    simp only [List.nil_append, delKeep, Option.bind_some]
  | y :: l, x => by
    simp only [List.cons_append, delKeep, delKeep_app l x]
    cases q y with
    | none => rfl
    | some b =>
      simp only [Option.bind_some]
      cases delKeep q l with
      | none => rfl
      | some r =>
        simp only [Option.bind_some]
        cases q x with
        | none => rfl
        | some c =>
          simp only [Option.bind_some]
          cases b <;> cases c <;> rfl
theorem delKeep_ups {q : Nat → Int → Option Bool} {p : Nat → Bool} : ∀ (n : Nat), (∀ m, 0 < m → m ≤ n → Ev (fun k => q k (m : Int)) (p m)) → Ev (fun k => delKeep (q k) (ups n)) (kept p n)
  | 0, _ => Ev.const fun k => rfl
  | n + 1, h => by
    have ih := delKeep_ups n (fun m h1 h2 => h m h1 (by omega))
    refine Ev.congr (f := fun k => (delKeep (q k) (ups n)).bind fun r => (q k ((n + 1 : Nat) : Int)).bind fun b => some (if b = true then r else r ++ [((n + 1 : Nat) : Int)])) (fun k => by rw [ups_succ, delKeep_app]) (ih.bind ((h (n + 1) (by omega) (by omega)).bind ?_))
    exact Ev.now _
theorem impl_isMost_eq (a : Int) : impl_isMost.f a = some (decide (0 ≤ a ∧ a ≤ 600)) := by
  unfold impl_isMost.f
  by_cases h : a ≥ 0
  · rw [if_pos h, decide_eq_decide.2 (show a ≤ 600 ↔ 0 ≤ a ∧ a ≤ 600 from ⟨fun k => ⟨h, k⟩, fun k => k.2⟩)]
  · rw [if_neg h, decide_eq_false (fun k => h k.1)]
theorem kept_congr {p q : Nat → Bool} : ∀ n, (∀ i, 1 ≤ i → i ≤ n → p i = q i) → kept p n = kept q n
  | 0, _ => rfl
  | n + 1, h => by
    rw [kept, kept, kept_congr n fun i h1 h2 => h i h1 (by omega), h (n + 1) (by omega) (Nat.le_refl _)]
theorem kept_cnt (p : Nat → Bool) : ∀ n, (kept p n).length = cnt (fun i => !p (1 + i)) n
  | 0 => rfl
  | n + 1 => by
    rw [kept, cnt_succ, ← kept_cnt p n, Nat.add_comm 1 n]
    cases p (n + 1) <;> simp
theorem kept_mem (p : Nat → Bool) (x : Int) : ∀ n, x ∈ kept p n → ∃ i : Nat, x = (i : Int) ∧ 1 ≤ i ∧ i ≤ n ∧ p i = false
  | 0, h => by simp [kept] at h
  | n + 1, h => by
    rw [kept] at h
    split at h
    · obtain ⟨i, h1, h2, h3, h4⟩ := kept_mem p x n h
      exact ⟨i, h1, h2, by omega, h4⟩
    · rename_i hp
      rcases List.mem_append.1 h with h | h
      · obtain ⟨i, h1, h2, h3, h4⟩ := kept_mem p x n h
        exact ⟨i, h1, h2, by omega, h4⟩
      · rw [List.mem_singleton] at h
        exact ⟨n + 1, h, by omega, Nat.le_refl _, Bool.eq_false_iff.2 hp⟩
theorem kept_sorted (p : Nat → Bool) : ∀ n, (kept p n).Pairwise (· < ·)
  | 0 => List.Pairwise.nil
  | n + 1 => by
    rw [kept]
    split
    · exact kept_sorted p n
    · rw [List.pairwise_append]
      refine ⟨kept_sorted p n, List.pairwise_singleton _ _, fun x hx y hy => ?_⟩
      obtain ⟨i, h1, h2, h3, _⟩ := kept_mem p x n hx
      rw [List.mem_singleton] at hy
      omega
/-- A rule crosses a number out. -/
def cross (n : Nat) (x : S65) : Bool := decide (((n % x.f0.toNat : Nat) : Int) = x.f1)
theorem rule_one {x : S65} (h : 2 ≤ x.f0 ∧ x.f0 ≤ 60 ∧ 0 ≤ x.f1 ∧ x.f1 < x.f0) (n : Nat) (hn : n ≤ 1000000) : impl_firstRule_1.f (n : Int) x.f0 x.f1 = some (cross n x) := by
  obtain ⟨e, r⟩ := x
  obtain ⟨E, rfl⟩ := Int.eq_ofNat_of_zero_le (show 0 ≤ e by have := h.1; simp only at this; omega)
  have h1 : 2 ≤ E := by have := h.1; simp only at this; omega
  have h2 : E ≤ 60 := by have := h.2.1; simp only at this; omega
  have h3 := Nat.mod_lt n (show 0 < E by omega)
  unfold impl_firstRule_1.f impl_mod.f cross
  simp only [if_neg (show ¬ (E : Int) = 0 by omega), Option.bind_some, tm, ← Int.natCast_add, wr (show n % E + E < 9223372036854775808 by omega), Nat.add_mod_right, Nat.mod_mod, Int.toNat_natCast]
theorem impl_firstRule_l (L : List S65) (hok : ok38 L) (hL : L.length ≤ 1000) (n : Nat) (hn : n ≤ 1000000) : ∀ suf pre, pre ++ suf = L → ∃ r : Int, Ev (fun k => impl_firstRule.l0 k L (n : Int) (pre.length : Int)) r ∧ decide (r < 0) = !(suf.any (cross n))
  | [], pre, e => by
    have hl : L.length = pre.length := by rw [← e]; simp
    refine ⟨-1, Ev.done fun k => ?_, rfl⟩
    simp only [impl_firstRule.l0]
    rw [if_neg (by omega)]
  | x :: suf, pre, e => by
    have hl : L.length = pre.length + 1 + suf.length := by rw [← e]; simp; omega
    have hg : rd_T65 L (pre.length : Int) = x := by rw [← e]; exact rdT_get pre x suf
    have hx := rule_one (hok x (by rw [← e]; simp)) n hn
    obtain ⟨r, h1, h2⟩ := impl_firstRule_l L hok hL n hn suf (pre ++ [x]) (by rw [← e]; simp)
    cases hc : cross n x
    · refine ⟨r, Ev.step (fun k => ?_) h1, by rw [h2, List.any_cons, hc, Bool.false_or]⟩
      simp only [impl_firstRule.l0]
      rw [if_pos (by omega), if_pos (by omega), hg, hx, hc]
      simp only [Option.bind_some, Bool.false_eq_true, if_false]
      rw [wr_succ (by omega), List.length_append, List.length_singleton]
    · refine ⟨(pre.length : Int), Ev.done fun k => ?_, by rw [List.any_cons, hc, Bool.true_or, decide_eq_false (by omega)]; rfl⟩
      simp only [impl_firstRule.l0]
      rw [if_pos (by omega), if_pos (by omega), hg, hx, hc]
      simp only [Option.bind_some, if_true]
theorem impl_isLeft_ev (L : List S65) (hok : ok38 L) (hL : L.length ≤ 1000) (n : Nat) (hn : n ≤ 1000000) : Ev (fun k => impl_isLeft.f k L (n : Int)) (!(L.any (cross n))) := by
  obtain ⟨r, h1, h2⟩ := impl_firstRule_l L hok hL n hn L [] rfl
  rw [← h2]
  have h3 : Ev (fun k => impl_firstRule.f k L (n : Int)) r := h1
  unfold impl_isLeft.f
  exact h3.bind (Ev.now _)
theorem impl_leftBetween_l (L : List S65) (hok : ok38 L) (hL : L.length ≤ 1000) (N : Nat) (hN : N ≤ 100000) : ∀ j i, i + j = N → Ev (fun k => impl_leftBetween.l0 k L (N : Int) (kept (fun n => L.any (cross n)) i) ((i + 1 : Nat) : Int)) (kept (fun n => L.any (cross n)) N)
  | 0, i, e => by
    have e' : i = N := by omega
    subst e'
    refine Ev.done fun k => ?_
    simp only [impl_leftBetween.l0]
    rw [if_neg (by omega)]
  | j + 1, i, e => by
    have ih := impl_leftBetween_l L hok hL N hN j (i + 1) (by omega)
    have hk := kept_len (fun n => L.any (cross n)) i
    refine Ev.step (f := ?f0) (fun z => ?a0) ?b0
    case a0 =>
      simp only [impl_leftBetween.l0]
      rw [if_pos (by omega)]
    refine (impl_isLeft_ev L hok hL (i + 1) (by omega)).bind ?_
    rw [kept] at ih
    cases hc : L.any (cross (i + 1))
    · simp only [Bool.not_false, if_true, if_pos (show (kept (fun n => L.any (cross n)) i).length < 17592186044416 by omega), wr_succ (show i + 1 < 9223372036854775807 by omega)]
      simp only [hc, Bool.false_eq_true, if_false] at ih
      exact ih
    · simp only [Bool.not_true, Bool.false_eq_true, if_false, wr_succ (show i + 1 < 9223372036854775807 by omega)]
      simp only [hc, if_true] at ih
      exact ih
theorem impl_leftBetween_ev (L : List S65) (hok : ok38 L) (hL : L.length ≤ 1000) (N : Nat) (hN : N ≤ 100000) : Ev (fun k => impl_leftBetween.f k L 1 (N : Int)) (kept (fun n => L.any (cross n)) N) := impl_leftBetween_l L hok hL N hN N 0 (by omega)
/-- The rules of a pattern leave just its places. -/
theorem RL_any (m : List Nat) (n : Nat) : ∀ k, k ≤ 6 → ((RL m k).any (cross n)) = !gds m k n
  | 0, _ => rfl
  | k + 1, h => by
    have hp := P6_pos k (by omega)
    have h1 : ((rul (P6 k) (outs m (P6 k))).any (cross n)) = !gd m (P6 k) n := by
      rw [gd_hs m (P6 k) n (by omega), Bool.not_not, Bool.eq_iff_iff, List.any_eq_true]
      unfold rul
      constructor
      · rintro ⟨x, hx, hc⟩
        obtain ⟨r, hr, rfl⟩ := List.mem_map.1 hx
        have h2 := of_decide_eq_true hc
        simp only [Int.toNat_natCast] at h2
        have h3 : n % P6 k = r := by omega
        rw [h3]
        exact (List.mem_filter.1 hr).2
      · intro hh
        refine ⟨⟨(P6 k : Int), ((n % P6 k : Nat) : Int)⟩, List.mem_map.2 ⟨n % P6 k, List.mem_filter.2 ⟨List.mem_range.2 (Nat.mod_lt _ (by omega)), hh⟩, rfl⟩, ?_⟩
        exact decide_eq_true (by simp only [Int.toNat_natCast])
    show ((RL m k ++ rul (P6 k) (outs m (P6 k))).any (cross n)) = !(gds m k n && gd m (P6 k) n)
    rw [List.any_append, RL_any m n k (by omega), h1, Bool.not_and]
/-- The places up to a number. -/
def pls (m : List Nat) (k N : Nat) : List Int := kept (fun n => !gds m k n) N
theorem left_pls (m : List Nat) (k N : Nat) (hk : k ≤ 6) (hN : N ≤ 100000) : Ev (fun z => impl_leftBetween.f z (RL m k) 1 (N : Int)) (pls m k N) := by
  have h := impl_leftBetween_ev (RL m k) (RL_ok m k hk) (by have := RL_len m k hk; omega) N hN
  rwa [kept_congr N fun i _ _ => RL_any m i k hk] at h
theorem pls_period (m : List Nat) (k : Nat) (hk : k ≤ 6) : (pls m k (PD k)).length = plc m k := by
  unfold pls
  rw [kept_cnt, ← gds_one m k hk]
  exact cnt_congr _ fun i _ => by rw [Bool.not_not]
theorem spec_rePlace_l1 (m : List Nat) (hm : m.length ≤ 100) (n : Nat) (hn : n ≤ 100000) (hx : ∀ x ∈ m, x ≤ 60) (K k : Nat) (hk : k < K) (hK : K ≤ 6) (r : Bool) (h : Ev (fun z => spec_rePlace.l0 z (ints m) (K : Int) (n : Int) ((k + 1 : Nat) : Int)) r) :
    ∀ suf pre, pre ++ suf = m → Ev (fun z => spec_rePlace.l1 z (ints m) (K : Int) (n : Int) (k : Int) (ints m) ((ints m).length : Int) (pre.length : Int)) (if (suf.any fun x => (n + x) % P6 k == 0) = true then false else r)
  | [], pre, e => by
    have hl : m.length = pre.length := by rw [← e]; simp
    simp only [List.any_nil, Bool.false_eq_true, if_false]
    refine Ev.step (fun z => ?_) h
    simp only [spec_rePlace.l1]
    rw [ints_len, if_neg (by omega), wr_succ (by omega)]
  | x :: suf, pre, e => by
    have hl : m.length = pre.length + 1 + suf.length := by rw [← e]; simp; omega
    have hg : rd (ints m) (pre.length : Int) = (x : Int) := by rw [← e]; exact ints_get pre x suf
    have hx60 := hx x (by rw [← e]; simp)
    have hp := P6_pos k (by omega)
    have hr := spec_rePrime_eq k (by omega)
    have ih := spec_rePlace_l1 m hm n hn hx K k hk hK r h suf (pre ++ [x]) (by rw [← e]; simp)
    have hw : wrap64 ((n : Int) + (x : Int)) = ((n + x : Nat) : Int) := by rw [← Int.natCast_add]; exact wr (by omega)
    by_cases hc : (n + x) % P6 k = 0
    · have e1 : ((x :: suf).any fun x => (n + x) % P6 k == 0) = true := by rw [List.any_cons, beq_iff_eq.2 hc, Bool.true_or]
      rw [if_pos e1]
      refine Ev.done fun z => ?_
      simp only [spec_rePlace.l1]
      rw [ints_len, if_pos (by omega), if_pos (by omega), if_pos (by omega), hr, hg, hw]
      simp only [Option.bind_some, tm]
      rw [if_neg (by omega), if_pos (by omega)]
    · have e1 : ((x :: suf).any fun x => (n + x) % P6 k == 0) = (suf.any fun x => (n + x) % P6 k == 0) := by rw [List.any_cons, beq_eq_false_iff_ne.2 hc, Bool.false_or]
      rw [e1]
      refine Ev.step (fun z => ?_) ih
      simp only [spec_rePlace.l1]
      rw [ints_len, if_pos (by omega), if_pos (by omega), if_pos (by omega), hr, hg, hw]
      simp only [Option.bind_some, tm]
      rw [if_neg (by omega), if_neg (by omega), wr_succ (by omega), List.length_append, List.length_singleton]
/-- No prime from k on divides. -/
def gdF (m : List Nat) (n : Nat) : Nat → Nat → Bool
  | 0, _ => true
  | c + 1, k => if (m.any fun x => (n + x) % P6 k == 0) = true then false else gdF m n c (k + 1)
theorem gdF_eq (m : List Nat) (n K : Nat) : ∀ c k, k + c = K → (gds m k n && gdF m n c k) = gds m K n
  | 0, k, e => by rw [show k = K by omega]; exact Bool.and_true _
  | c + 1, k, e => by
    rw [← gdF_eq m n K c (k + 1) (by omega)]
    show (gds m k n && gdF m n (c + 1) k) = ((gds m k n && gd m (P6 k) n) && gdF m n c (k + 1))
    rw [gdF, Bool.and_assoc]
    congr 1
    unfold gd
    cases (m.any fun x => (n + x) % P6 k == 0) <;> simp
theorem spec_rePlace_l0 (m : List Nat) (hm : m.length ≤ 100) (n : Nat) (hn : n ≤ 100000) (hx : ∀ x ∈ m, x ≤ 60) (K : Nat) (hK : K ≤ 6) : ∀ c k, k + c = K → Ev (fun z => spec_rePlace.l0 z (ints m) (K : Int) (n : Int) (k : Int)) (gdF m n c k)
  | 0, k, e => by
    refine Ev.done fun z => ?_
    simp only [spec_rePlace.l0]
    rw [if_neg (by omega)]
    rfl
  | c + 1, k, e => by
    have ih := spec_rePlace_l0 m hm n hn hx K hK c (k + 1) (by omega)
    refine Ev.step (fun z => ?_) (spec_rePlace_l1 m hm n hn hx K k (by omega) hK _ ih m [] rfl)
    simp only [spec_rePlace.l0]
    rw [if_pos (by omega)]
    rfl
theorem spec_rePlace_ev (m : List Nat) (hm : m.length ≤ 100) (n : Nat) (hn : n ≤ 100000) (hx : ∀ x ∈ m, x ≤ 60) (K : Nat) (hK : K ≤ 6) : Ev (fun z => spec_rePlace.f z (ints m) (K : Int) (n : Int)) (gds m K n) := by
  rw [← gdF_eq m n K K 0 (by omega)]
  exact spec_rePlace_l0 m hm n hn hx K hK K 0 (by omega)
theorem spec_FirstPlaces_l (m : List Nat) (hm : m.length ≤ 100) (hx : ∀ x ∈ m, x ≤ 60) (K : Nat) (hK : K ≤ 6) (N : Nat) (hN : N ≤ 10000) : ∀ j i, i + j = N → Ev (fun z => spec_FirstPlaces.l0 z (ints m) (K : Int) (N : Int) (pls m K i) ((i + 1 : Nat) : Int)) (pls m K N, true)
  | 0, i, e => by
    have e' : i = N := by omega
    subst e'
    refine Ev.done fun k => ?_
    simp only [spec_FirstPlaces.l0]
    rw [if_neg (by omega)]
  | j + 1, i, e => by
    have ih := spec_FirstPlaces_l m hm hx K hK N hN j (i + 1) (by omega)
    have hk : (pls m K i).length ≤ i := kept_len _ i
    have hs : pls m K (i + 1) = if (!gds m K (i + 1)) = true then pls m K i else pls m K i ++ [((i + 1 : Nat) : Int)] := rfl
    refine Ev.step (f := ?f0) (fun z => ?a0) ?b0
    case a0 =>
      simp only [spec_FirstPlaces.l0]
      rw [if_pos (by omega)]
    refine (spec_rePlace_ev m hm (i + 1) (by omega) hx K hK).bind ?_
    rw [hs] at ih
    cases hc : gds m K (i + 1)
    · simp only [Bool.false_eq_true, if_false, wr_succ (show i + 1 < 9223372036854775807 by omega)]
      simp only [hc, Bool.not_false, if_true] at ih
      exact ih
    · simp only [if_true, if_pos (show (pls m K i).length < 17592186044416 by omega), wr_succ (show i + 1 < 9223372036854775807 by omega)]
      simp only [hc, Bool.not_true, Bool.false_eq_true, if_false] at ih
      exact ih
theorem first_yes (m : List Nat) (hm : m.length ≤ 100) (hx : ∀ x ∈ m, x ≤ 60) (hP : isP (ints m) = true) (K : Nat) (hK : K ≤ 6) (N : Nat) (hN : N ≤ 600) :
    Ev (fun z => impl_FirstPlaces.f z (ints m) (K : Int) (N : Int)) (pls m K N, true) ∧ Ev (fun z => spec_FirstPlaces.f z (ints m) (K : Int) (N : Int)) (pls m K N, true) := by
  have hl : (ints m).length ≤ 4000000000 := by rw [ints_len]; omega
  have hs := spec_reAsked_ev (ints m) (K : Int) hl
  rw [hP, decide_eq_true (show 0 ≤ (K : Int) ∧ (K : Int) ≤ 6 by omega), Bool.true_and] at hs
  have hp := impl_isPattern_ev (ints m) hl
  rw [hP] at hp
  constructor
  · unfold impl_FirstPlaces.f
    refine hp.bind ?_
    simp only [if_true, if_neg (show ¬ (K : Int) < 0 by omega), if_neg (show ¬ (K : Int) > 6 by omega), impl_isMost_eq, Option.bind_some, decide_eq_true (show 0 ≤ (N : Int) ∧ (N : Int) ≤ 600 by omega), Bool.not_true]
    refine Ev.step (f := ?f0) (fun k => ?a0) ?b0
    case a0 => simp only [impl_FirstPlaces.j0, Bool.false_eq_true, if_false]; exact rfl
    exact (impl_rules_ev m hm hx K hK).bind ((left_pls m K N hK (by omega)).bind (Ev.now _))
  · unfold spec_FirstPlaces.f
    refine hs.bind ?_
    simp only [if_true, spec_l1In_eq, Option.bind_some, decide_eq_true (show 0 ≤ (N : Int) ∧ (N : Int) ≤ 600 by omega), Bool.not_true]
    refine Ev.step (fun k => ?_) (spec_FirstPlaces_l m hm hx K hK N (by omega) N 0 (by omega))
    simp only [spec_FirstPlaces.j0, Bool.false_eq_true, if_false]
    rfl
theorem first_no (l : List Int) (a b : Int) (hl : l.length ≤ 4000000000) (h : (isP l && decide (0 ≤ a ∧ a ≤ 6) && decide (0 ≤ b ∧ b ≤ 600)) = false) :
    Ev (fun z => impl_FirstPlaces.f z l a b) ([], false) ∧ Ev (fun z => spec_FirstPlaces.f z l a b) ([], false) := by
  have hs := spec_reAsked_ev l a hl
  have hp := impl_isPattern_ev l hl
  have hj : Ev (fun k => impl_FirstPlaces.j0 k l a b true) ([], false) := Ev.done fun k => by simp only [impl_FirstPlaces.j0, if_true]
  have hj2 : Ev (fun k => spec_FirstPlaces.j0 k l a b true) ([], false) := Ev.done fun k => by simp only [spec_FirstPlaces.j0, if_true]
  constructor
  · unfold impl_FirstPlaces.f
    refine hp.bind ?_
    cases e : isP l
    · simp only [Bool.false_eq_true, if_false]; exact hj
    · rw [e, Bool.true_and] at h
      simp only [if_true]
      by_cases ha : a < 0
      · simp only [if_pos ha]; exact hj
      · simp only [if_neg ha]
        by_cases ha2 : a > 6
        · simp only [if_pos ha2]; exact hj
        · simp only [if_neg ha2, impl_isMost_eq, Option.bind_some]
          rw [decide_eq_true (show 0 ≤ a ∧ a ≤ 6 by omega), Bool.true_and] at h
          rw [h]; exact hj
  · unfold spec_FirstPlaces.f
    refine hs.bind ?_
    cases e : (isP l && decide (0 ≤ a ∧ a ≤ 6))
    · simp only [Bool.false_eq_true, if_false]; exact hj2
    · rw [e, Bool.true_and] at h
      simp only [if_true, spec_l1In_eq, Option.bind_some]
      rw [h]; exact hj2
/-- The least number that all rules' numbers divide, on from s. -/
def lc (s : Nat) (l : List S65) : Nat := l.foldl (fun s x => Nat.lcm s x.f0.toNat) s
theorem lc_dvd : ∀ (l : List S65) (s : Nat), s ∣ lc s l
  | [], s => Nat.dvd_refl _
  | x :: l, s => Nat.dvd_trans (Nat.dvd_lcm_left _ _) (lc_dvd l (Nat.lcm s x.f0.toNat))
theorem lc_pos : ∀ (l : List S65) (s : Nat), ok38 l → 0 < s → 0 < lc s l
  | [], s, _, h => h
  | x :: l, s, hok, h => by
    have hx := hok x (by simp)
    exact lc_pos l _ (fun y hy => hok y (by simp [hy])) (Nat.lcm_pos h (by omega))
theorem impl_lcmOf_l (L : List S65) (hok : ok38 L) (hL : L.length ≤ 1000) : ∀ suf pre (s : Nat), pre ++ suf = L → 0 < s → lc s suf ≤ 100000 → Ev (fun k => impl_lcmOf.l0 k (s : Int) L (L.length : Int) (pre.length : Int)) (((lc s suf : Nat) : Int), true)
  | [], pre, s, e, h0, h1 => by
    have hl : L.length = pre.length := by rw [← e]; simp
    refine Ev.done fun k => ?_
    simp only [impl_lcmOf.l0]
    rw [if_neg (by omega)]
    rfl
  | x :: suf, pre, s, e, h0, h1 => by
    have hl : L.length = pre.length + 1 + suf.length := by rw [← e]; simp; omega
    have hg : rd_T65 L (pre.length : Int) = x := by rw [← e]; exact rdT_get pre x suf
    have hx := hok x (by rw [← e]; simp)
    have hoks : ok38 suf := fun y hy => hok y (by rw [← e]; simp [hy])
    obtain ⟨E, hE⟩ := Int.eq_ofNat_of_zero_le (show 0 ≤ x.f0 by omega)
    have hEn : x.f0.toNat = E := by rw [hE, Int.toNat_natCast]
    have hE1 : 2 ≤ E ∧ E ≤ 60 := by omega
    have hpos : 0 < Nat.lcm s E := Nat.lcm_pos h0 (by omega)
    have h1' : lc (Nat.lcm s E) suf ≤ 100000 := by rw [← hEn]; exact h1
    have hle : Nat.lcm s E ≤ 100000 := Nat.le_trans (Nat.le_of_dvd (lc_pos suf _ hoks hpos) (lc_dvd suf _)) h1'
    have hs100 : s ≤ 100000 := Nat.le_trans (Nat.le_of_dvd hpos (Nat.dvd_lcm_left s E)) hle
    have ih := impl_lcmOf_l L hok hL suf (pre ++ [x]) (Nat.lcm s E) (by rw [← e]; simp) hpos h1'
    have hgp : 0 < Nat.gcd s E := Nat.gcd_pos_of_pos_left _ h0
    have hlcm : s / Nat.gcd s E * E = Nat.lcm s E := by
      unfold Nat.lcm
      rw [Nat.mul_comm s E, Nat.mul_div_assoc _ (Nat.gcd_dvd_left s E), Nat.mul_comm]
    have hv : lc s (x :: suf) = lc (Nat.lcm s E) suf := by rw [← hEn]; rfl
    rw [hv]
    refine Ev.step (f := ?f0) (fun z => ?a0) ?b0
    case a0 =>
      simp only [impl_lcmOf.l0]
      rw [if_pos (by omega), if_pos (by omega), if_pos (by omega), hg, hE]
    refine (impl_gcd_ev E s).bind ?_
    simp only [if_neg (show ¬ ((Nat.gcd s E : Nat) : Int) = 0 by omega), wr_tdiv (show s < 9223372036854775808 by omega), wr_mul (show s / Nat.gcd s E * E < 9223372036854775808 by rw [hlcm]; omega), hlcm, if_neg (show ¬ ((Nat.lcm s E : Nat) : Int) > 100000 by omega), wr_succ (show pre.length < 9223372036854775807 by omega)]
    rw [List.length_append, List.length_singleton] at ih
    exact ih
theorem lc_app (a b : List S65) (s : Nat) : lc s (a ++ b) = lc (lc s a) b := List.foldl_append
theorem lc_rul (p : Nat) : ∀ (l : List Nat) (s : Nat), lc s (rul p l) = if l = [] then s else Nat.lcm s p
  | [], s => rfl
  | r :: l, s => by
    show lc (Nat.lcm s (p : Int).toNat) (rul p l) = _
    rw [Int.toNat_natCast, lc_rul p l, if_neg (show ¬ (r :: l = []) by simp)]
    split
    · rfl
    · rw [Nat.lcm_assoc, Nat.lcm_self]
theorem PD_lcm : ∀ k, k < 6 → Nat.lcm (PD k) (P6 k) = PD (k + 1) := by decide
theorem lc_RL (m : List Nat) (h0 : 0 ∈ m) : ∀ k, k ≤ 6 → lc 1 (RL m k) = PD k
  | 0, _ => rfl
  | k + 1, h => by
    have hp := P6_pos k (by omega)
    show lc 1 (RL m k ++ rul (P6 k) (outs m (P6 k))) = _
    rw [lc_app, lc_RL m h0 k (by omega), lc_rul, if_neg, PD_lcm k (by omega)]
    intro he
    have : (0 : Nat) ∈ outs m (P6 k) := List.mem_filter.2 ⟨List.mem_range.2 (by omega), (hs_iff m (P6 k) _).2 ⟨0, h0, by rw [Nat.zero_mod]; rfl⟩⟩
    rw [he] at this
    cases this
theorem period_ev (m : List Nat) (h0 : 0 ∈ m) (k : Nat) (hk : k ≤ 6) (h12 : (RL m k).length ≤ 12) : Ev (fun z => impl_periodOf.f z (RL m k)) (((PD k : Nat) : Int), true) := by
  have hok := RL_ok m k hk
  have hP := PD_pos k hk
  have h1 := impl_areRules_ev (RL m k) hok
  rw [decide_eq_true h12] at h1
  have h2 := impl_lcmOf_l (RL m k) hok (by omega) (RL m k) [] 1 rfl (by omega) (by rw [lc_RL m h0 k hk]; omega)
  rw [lc_RL m h0 k hk] at h2
  have h3 : Ev (fun z => impl_lcmOf.f z (RL m k)) (((PD k : Nat) : Int), true) := h2
  unfold impl_periodOf.f
  refine h1.bind ?_
  simp only [if_true]
  exact h3.bind (Ev.now _)
theorem inperiod_ev (m : List Nat) (h0 : 0 ∈ m) (k : Nat) (hk : k ≤ 6) (h12 : (RL m k).length ≤ 12) : Ev (fun z => impl_LeftInPeriod.f z (RL m k)) (((plc m k : Nat) : Int), true) ∧ Ev (fun z => impl_PeriodOfRules.f z (RL m k)) (((PD k : Nat) : Int), true) := by
  have h := period_ev m h0 k hk h12
  have hP := PD_pos k hk
  constructor
  · unfold impl_LeftInPeriod.f
    refine h.bind ?_
    simp only [if_true]
    refine (left_pls m k (PD k) hk (by omega)).bind ?_
    rw [pls_period m k hk]
    exact Ev.now _
  · unfold impl_PeriodOfRules.f
    exact h.bind (Ev.now _)
theorem upto_ev (m : List Nat) (k : Nat) (hk : k ≤ 6) (h12 : (RL m k).length ≤ 12) (N : Nat) (hN : N ≤ 600) : Ev (fun z => impl_LeftUpTo.f z (RL m k) (N : Int)) (pls m k N, true) := by
  have h1 := impl_areRules_ev (RL m k) (RL_ok m k hk)
  rw [decide_eq_true h12] at h1
  unfold impl_LeftUpTo.f
  refine h1.bind ?_
  simp only [if_true, impl_isMost_eq, Option.bind_some, decide_eq_true (show 0 ≤ (N : Int) ∧ (N : Int) ≤ 600 by omega)]
  exact (left_pls m k N hk (by omega)).bind (Ev.now _)
theorem facs_len : ∀ (n : Nat), (facs n).length ≤ n := by
  intro n
  induction n using Nat.strongRecOn with
  | _ n ih =>
    by_cases h : n < 2
    · rw [facs_small h]; simp
    · have hn : 2 ≤ n := by omega
      have := rs_lt (lf_two_le hn) (by omega) (lf_dvd hn)
      have := ih _ this
      rw [facs_cons hn, List.length_cons]; omega
/-- A list of primes and exponents as the program's rows. -/
def rowsOf (l : List (Nat × Nat)) : List (List Int) := l.map fun f => [(f.1 : Int), (f.2 : Int)]
theorem getD_mid {α : Type} (pre : List α) (x : α) (l : List α) (d : α) : (pre ++ x :: l).getD pre.length d = x := by simp
theorem rows_get (pre : List (Nat × Nat)) (x : Nat × Nat) (l : List (Nat × Nat)) : (rowsOf (pre ++ x :: l)).getD pre.length [] = [(x.1 : Int), (x.2 : Int)] := by
  simp [rowsOf]
theorem rows_len (l : List (Nat × Nat)) : (rowsOf l).length = l.length := by simp [rowsOf]
theorem impl_leastFactor_l (n : Nat) (h2 : 2 ≤ n) (hn : n ≤ 2000000000) : ∀ (j d : Nat), n + 1 ≤ d + j → 2 ≤ d → d ≤ n + 1 → Above d n → Ev (fun k => impl_leastFactor.l0 k n d) (lf n : Int) := by
  have hend : ∀ d : Nat, d ≤ n + 1 → n < d * d → Above d n → Ev (fun k => impl_leastFactor.l0 k n d) (lf n : Int) := by
    intro d hd hlt ha
    rw [lf_eq h2 (isLf_self h2 hlt (fun m hm hmd hmn => by have := ha m hm hmn; omega))]
    refine Ev.done fun k => ?_
    simp only [impl_leastFactor.l0]
    rw [wr_mul (sq_lt (by omega) (by omega)), if_neg (by omega)]
  intro j
  induction j with
  | zero =>
    intro d hj hd2 hd ha
    exact hend d hd (by have := Nat.mul_le_mul_right d hd2; omega) ha
  | succ j ih =>
    intro d hj hd2 hd ha
    by_cases hlt : n < d * d
    · exact hend d hd hlt ha
    · have hdn : d ≤ n := by have := Nat.mul_le_mul_right d hd2; omega
      by_cases hm : n % d = 0
      · rw [(ha.lf hd2 (by omega) (Nat.dvd_of_mod_eq_zero hm)).2]
        refine Ev.done fun k => ?_
        simp only [impl_leastFactor.l0]
        rw [wr_mul (sq_lt (by omega) (by omega)), tm, if_pos (by omega), if_neg (by omega), if_pos (by omega)]
      · refine Ev.step (fun k => ?_) (ih (d + 1) (by omega) (by omega) (by omega) (ha.succ (fun h => hm (Nat.mod_eq_zero_of_dvd h))))
        simp only [impl_leastFactor.l0]
        rw [wr_mul (sq_lt (by omega) (by omega)), tm, if_pos (by omega), if_neg (by omega), if_neg (by omega), wr_succ (by omega)]
theorem impl_leastFactor_ev (n : Nat) (h2 : 2 ≤ n) (hn : n ≤ 2000000000) : Ev (fun k => impl_leastFactor.f k n) (lf n : Int) :=
  impl_leastFactor_l n h2 hn n 2 (by omega) (Nat.le_refl _) (by omega) (Above.two n)
theorem rd_mid_ (pre : List Int) (x : Int) (l : List Int) : rd (pre ++ x :: l) (pre.length : Int) = x := by unfold rd; rw [Int.toNat_natCast]; simp
theorem laws_tSame_l : ∀ (suf pre : List Int), (pre ++ suf).length ≤ 4000000000 → Ev (fun k => laws_tSame.l0 k (pre ++ suf) (pre ++ suf) ((pre ++ suf).length : Nat) (pre.length : Nat)) true
  | [], pre, _ => by
    refine Ev.done fun k => ?_
    simp only [laws_tSame.l0]
    rw [if_neg (by simp)]
  | x :: suf, pre, hl => by
    have hlen : (pre ++ x :: suf).length = pre.length + 1 + suf.length := by simp; omega
    have ih := laws_tSame_l suf (pre ++ [x]) (by simpa using hl)
    rw [List.append_assoc] at ih
    simp only [List.singleton_append, List.length_append, List.length_singleton] at ih
    refine Ev.step (fun k => ?_) ih
    simp only [laws_tSame.l0]
    rw [if_pos (by omega), if_pos (by omega), if_pos (by omega), if_pos (by omega), if_pos trivial, wr_succ (by omega)]
    simp only [List.length_append]
theorem laws_tSame_self (l : List Int) (hl : l.length ≤ 1000000) : Ev (fun k => laws_tSame.f k l l) true := by
  unfold laws_tSame.f
  simp only [if_true]
  exact laws_tSame_l l [] (by rw [List.nil_append]; omega)
theorem sorted_mid {pre suf : List Int} {y x : Int} (h : (pre ++ y :: x :: suf).Pairwise (· < ·)) : y < x := by
  have := (List.pairwise_append.1 h).2.1
  rw [List.pairwise_cons] at this
  exact this.1 x (by simp)
theorem laws_tRises_l (lo hi : Int) (L : List Int) (hl : L.length ≤ 4000000000) (hs : L.Pairwise (· < ·)) (hb : ∀ x ∈ L, lo ≤ x ∧ x ≤ hi) : ∀ (suf pre : List Int), pre ++ suf = L → Ev (fun k => laws_tRises.l0 k L lo hi L (L.length : Nat) (pre.length : Nat)) true := by
  intro suf
  induction suf with
  | nil =>
    intro pre h
    rw [List.append_nil] at h
    subst h
    refine Ev.done fun k => ?_
    simp only [laws_tRises.l0]
    rw [if_neg (Int.lt_irrefl _)]
  | cons x suf ih =>
    intro pre h
    have hlen : L.length = pre.length + 1 + suf.length := by rw [← h]; simp; omega
    have key := ih (pre ++ [x]) (by rw [List.append_assoc]; exact h)
    have hx := hb x (by rw [← h]; simp)
    have hget : rd L (pre.length : Int) = x := by rw [← h]; exact rd_mid_ pre x suf
    have e1 : wrap64 ((pre.length : Int) + 1) = (((pre ++ [x]).length : Nat) : Int) := by rw [wr_succ (by omega), List.length_append, List.length_singleton]
    have c1 : (pre.length : Int) < (L.length : Int) := by omega
    refine Ev.step (fun k => ?_) key
    simp only [laws_tRises.l0]
    rw [if_pos c1, if_pos (Int.natCast_nonneg _), if_pos c1, hget, if_neg (by omega), if_neg (by omega), e1]
    by_cases hp : (pre.length : Int) > 0
    · obtain ⟨q, y, hq⟩ : ∃ q y, pre = q ++ [y] := by
        have hne : pre ≠ [] := by intro h; rw [h] at hp; simp at hp
        exact ⟨pre.dropLast, pre.getLast hne, (List.dropLast_concat_getLast hne).symm⟩
      have hql : pre.length = q.length + 1 := by rw [hq]; simp
      have hL : L = q ++ y :: x :: suf := by rw [← h, hq]; simp
      have hyx : y < x := by rw [hL] at hs; exact sorted_mid hs
      have hgy : rd L (q.length : Int) = y := by rw [hL]; exact rd_mid_ q y _
      have e2 : wrap64 ((pre.length : Int) - 1) = (q.length : Int) := by rw [wri (by omega) (by omega)]; omega
      rw [if_pos hp, e2, if_pos (Int.natCast_nonneg _), if_pos (by omega), hgy, if_neg (by omega)]
    · rw [if_neg hp]
theorem laws_tRises_ev (lo hi : Int) (L : List Int) (hl : L.length ≤ 4000000000) (hs : L.Pairwise (· < ·)) (hb : ∀ x ∈ L, lo ≤ x ∧ x ≤ hi) : Ev (fun k => laws_tRises.f k L lo hi) true :=
  laws_tRises_l lo hi L hl hs hb L [] (List.nil_append _)
/-- A prime. -/
def pr (n : Nat) : Bool := decide (2 ≤ n) && (lf n == n)
theorem beq_cast (a b : Nat) : ((a : Int) == (b : Int)) = (a == b) := by
  rw [Bool.eq_iff_iff, beq_iff_eq, beq_iff_eq]
  omega
theorem pr_lt {n : Nat} (h : ¬ 2 ≤ n) : pr n = false := by unfold pr; rw [decide_eq_false h, Bool.false_and]
theorem pr_ge {n : Nat} (h : 2 ≤ n) : pr n = (lf n == n) := by unfold pr; rw [decide_eq_true h, Bool.true_and]
theorem impl_isPrime_ev (n : Nat) (hn : n ≤ 2000000000) : Ev (fun k => impl_isPrime.f k (n : Int)) (pr n) := by
  unfold impl_isPrime.f
  by_cases h : 2 ≤ n
  · simp only [if_pos (show (n : Int) ≥ 2 by omega)]
    refine (impl_leastFactor_ev n h hn).bind ?_
    rw [pr_ge h]
    simp only [beq_cast]
    exact Ev.now _
  · simp only [if_neg (show ¬ (n : Int) ≥ 2 by omega)]
    rw [pr_lt h]
    exact Ev.now _
theorem lf_big {n d : Nat} (h2 : 2 ≤ n) (hlt : n < d * d) (ha : Above d n) : lf n = n := lf_eq h2 (isLf_self h2 hlt (fun m hm hmd hmn => by have := ha m hm hmn; omega))
theorem spec_reIsPrime_l (n : Nat) (h2 : 2 ≤ n) (hn : n ≤ 2000000000) : ∀ (j d : Nat), n + 1 ≤ d + j → 2 ≤ d → d ≤ n + 1 → Above d n → Ev (fun k => spec_reIsPrime.l0 k n d) (lf n == n) := by
  have hend : ∀ d : Nat, d ≤ n + 1 → n < d * d → Above d n → Ev (fun k => spec_reIsPrime.l0 k n d) (lf n == n) := by
    intro d hd hlt ha
    rw [lf_big h2 hlt ha, beq_self_eq_true]
    refine Ev.done fun k => ?_
    simp only [spec_reIsPrime.l0]
    rw [wr_mul (sq_lt (by omega) (by omega)), if_neg (by omega)]
  intro j
  induction j with
  | zero =>
    intro d hj hd2 hd ha
    exact hend d hd (by have := Nat.mul_le_mul_right d hd2; omega) ha
  | succ j ih =>
    intro d hj hd2 hd ha
    by_cases hlt : n < d * d
    · exact hend d hd hlt ha
    · have hdn : d ≤ n := by have := Nat.mul_le_mul_right d hd2; omega
      by_cases hm : n % d = 0
      · rw [(ha.lf hd2 (by omega) (Nat.dvd_of_mod_eq_zero hm)).2, beq_eq_false_iff_ne.2 (show d ≠ n by have := Nat.mul_le_mul_right d hd2; omega)]
        refine Ev.done fun k => ?_
        simp only [spec_reIsPrime.l0]
        rw [wr_mul (sq_lt (by omega) (by omega)), tm, if_pos (by omega), if_neg (by omega), if_pos (by omega)]
      · refine Ev.step (fun k => ?_) (ih (d + 1) (by omega) (by omega) (by omega) (ha.succ (fun h => hm (Nat.mod_eq_zero_of_dvd h))))
        simp only [spec_reIsPrime.l0]
        rw [wr_mul (sq_lt (by omega) (by omega)), tm, if_pos (by omega), if_neg (by omega), if_neg (by omega), wr_succ (by omega)]
theorem spec_reIsPrime_ev (n : Nat) (hn : n ≤ 2000000000) : Ev (fun k => spec_reIsPrime.f k (n : Int)) (pr n) := by
  unfold spec_reIsPrime.f
  by_cases h : 2 ≤ n
  · simp only [if_neg (show ¬ (n : Int) < 2 by omega)]
    rw [pr_ge h]
    exact spec_reIsPrime_l n h hn n 2 (by omega) (Nat.le_refl _) (by omega) (Above.two n)
  · simp only [if_pos (show (n : Int) < 2 by omega)]
    rw [pr_lt h]
    exact Ev.now _
theorem laws_tPrime_l (n : Nat) (h2 : 2 ≤ n) (hn : n ≤ 2000000000) : ∀ (j d : Nat), n + 1 ≤ d + j → 2 ≤ d → d ≤ n + 1 → Above d n → Ev (fun k => laws_tPrime.l0 k n d) (lf n == n) := by
  have hend : ∀ d : Nat, d ≤ n + 1 → n < d * d → Above d n → Ev (fun k => laws_tPrime.l0 k n d) (lf n == n) := by
    intro d hd hlt ha
    rw [lf_big h2 hlt ha, beq_self_eq_true]
    refine Ev.done fun k => ?_
    simp only [laws_tPrime.l0]
    rw [wr_mul (sq_lt (by omega) (by omega)), if_neg (by omega), decide_eq_true (by omega)]
  intro j
  induction j with
  | zero =>
    intro d hj hd2 hd ha
    exact hend d hd (by have := Nat.mul_le_mul_right d hd2; omega) ha
  | succ j ih =>
    intro d hj hd2 hd ha
    by_cases hlt : n < d * d
    · exact hend d hd hlt ha
    · have hdn : d ≤ n := by have := Nat.mul_le_mul_right d hd2; omega
      by_cases hm : n % d = 0
      · rw [(ha.lf hd2 (by omega) (Nat.dvd_of_mod_eq_zero hm)).2, beq_eq_false_iff_ne.2 (show d ≠ n by have := Nat.mul_le_mul_right d hd2; omega)]
        refine Ev.done fun k => ?_
        simp only [laws_tPrime.l0]
        rw [wr_mul (sq_lt (by omega) (by omega)), tm, if_pos (by omega), if_neg (by omega), if_pos (by omega)]
      · refine Ev.step (fun k => ?_) (ih (d + 1) (by omega) (by omega) (by omega) (ha.succ (fun h => hm (Nat.mod_eq_zero_of_dvd h))))
        simp only [laws_tPrime.l0]
        rw [wr_mul (sq_lt (by omega) (by omega)), tm, if_pos (by omega), if_neg (by omega), if_neg (by omega), wr_succ (by omega)]
theorem laws_tPrime_ev (n : Nat) (hn : n ≤ 2000000000) (h : pr n = true) : Ev (fun k => laws_tPrime.f k (n : Int)) true := by
  have h2 : 2 ≤ n := by
    apply Decidable.byContradiction
    intro hh
    rw [pr_lt hh] at h
    cases h
  have h3 := laws_tPrime_l n h2 hn n 2 (by omega) (Nat.le_refl _) (by omega) (Above.two n)
  rw [← pr_ge h2, h] at h3
  exact h3
/-- n and each offset together are primes. -/
def ppB (m : List Nat) (n : Nat) : Bool := m.all fun x => pr (n + x)
def ppl (m : List Nat) (N : Nat) : List Int := kept (fun n => !ppB m n) N
theorem ppOne_ev (n x : Nat) (hn : n ≤ 10000) (hx : x ≤ 60) : Ev (fun k => ppOne k (n : Int) (x : Int)) (!pr (n + x)) := by
  unfold ppOne
  rw [← Int.natCast_add, wr (by omega)]
  exact (impl_isPrime_ev (n + x) (by omega)).bind (Ev.now _)
theorem ppDel_ev (n : Nat) (hn : n ≤ 10000) : ∀ m : List Nat, (∀ x ∈ m, x ≤ 60) → Ev (fun k => delKeep (ppOne k (n : Int)) (ints m)) (ints (m.filter fun x => pr (n + x)))
  | [], _ => Ev.const fun _ => rfl
  | x :: m, hx => by
    have h1 := ppOne_ev n x hn (hx x (by simp))
    have ih := ppDel_ev n hn m fun y hy => hx y (by simp [hy])
    show Ev (fun k => (ppOne k (n : Int) (x : Int)).bind fun b => (delKeep (ppOne k (n : Int)) (ints m)).bind fun r => some (if b = true then r else (x : Int) :: r)) _
    refine h1.bind (ih.bind ?_)
    cases hp : pr (n + x)
    · rw [List.filter_cons_of_neg (by simp [hp])]; exact Ev.now _
    · rw [List.filter_cons_of_pos (by simp [hp])]; exact Ev.now _
theorem ppAny_ev (m : List Nat) (hx : ∀ x ∈ m, x ≤ 60) (n : Nat) (hn : n ≤ 10000) : Ev (fun k => ppAny k (ints m) (n : Int)) (!ppB m n) := by
  have e : (!ppB m n) = decide ((ints (m.filter fun x => pr (n + x))).length < (ints m).length) := by
    rw [ints_len, ints_len, Bool.eq_iff_iff, decide_eq_true_iff, List.length_filter_lt_length_iff_exists]
    unfold ppB
    rw [Bool.not_eq_true', List.all_eq_false]
  rw [e]
  unfold ppAny
  exact (ppDel_ev n hn m hx).bind (Ev.now _)
theorem spec_PP_l1 (m : List Nat) (hm : m.length ≤ 100) (hx : ∀ x ∈ m, x ≤ 60) (n N : Nat) (hn : n ≤ 10000) (acc : List Int) (hacc : acc.length ≤ 100000) (v : List Int × Bool) (h : Ev (fun k => spec_PrimePlaces.l0 k (ints m) (N : Int) (if ppB m n = true then acc ++ [(n : Int)] else acc) ((n + 1 : Nat) : Int)) v) :
    ∀ suf pre (b : Bool), pre ++ suf = m → (b && suf.all fun x => pr (n + x)) = ppB m n → Ev (fun k => spec_PrimePlaces.l1 k (ints m) (N : Int) acc (n : Int) b (ints m) ((ints m).length : Int) (pre.length : Int)) v
  | [], pre, b, e, hb => by
    have hl : m.length = pre.length := by rw [← e]; simp
    rw [List.all_nil, Bool.and_true] at hb
    rw [← hb] at h
    refine Ev.step (fun z => ?_) h
    simp only [spec_PrimePlaces.l1]
    rw [ints_len, if_neg (by omega), if_pos (show acc.length < 17592186044416 by omega), wr_succ (by omega)]
    cases b <;> rfl
  | x :: suf, pre, b, e, hb => by
    have hl : m.length = pre.length + 1 + suf.length := by rw [← e]; simp; omega
    have hg : rd (ints m) (pre.length : Int) = (x : Int) := by rw [← e]; exact ints_get pre x suf
    have hx60 := hx x (by rw [← e]; simp)
    have hw : wrap64 ((n : Int) + (x : Int)) = ((n + x : Nat) : Int) := by rw [← Int.natCast_add]; exact wr (by omega)
    have ih := fun b' hb' => spec_PP_l1 m hm hx n N hn acc hacc v h suf (pre ++ [x]) b' (by rw [← e]; simp) hb'
    simp only [List.length_append, List.length_singleton] at ih
    rw [List.all_cons] at hb
    cases b with
    | true =>
      refine Ev.step (f := ?f0) (fun z => ?a0) ?b0
      case a0 =>
        simp only [spec_PrimePlaces.l1, if_true]
        rw [ints_len, if_pos (by omega), if_pos (by omega), if_pos (by omega), hg, hw, wr_succ (by omega), ← ints_len m]
      refine (spec_reIsPrime_ev (n + x) (by omega)).bind ?_
      exact ih (pr (n + x)) (by rw [← hb, Bool.true_and])
    | false =>
      refine Ev.step (fun z => ?_) (ih false (by rw [← hb]; rfl))
      simp only [spec_PrimePlaces.l1, Bool.false_eq_true, if_false]
      rw [ints_len, if_pos (by omega), if_pos (by omega), if_pos (by omega), wr_succ (by omega)]
theorem spec_PP_l0 (m : List Nat) (hm : m.length ≤ 100) (hx : ∀ x ∈ m, x ≤ 60) (N : Nat) (hN : N ≤ 1000) : ∀ j i, i + j = N → Ev (fun k => spec_PrimePlaces.l0 k (ints m) (N : Int) (ppl m i) ((i + 1 : Nat) : Int)) (ppl m N, true)
  | 0, i, e => by
    have e' : i = N := by omega
    subst e'
    refine Ev.done fun k => ?_
    simp only [spec_PrimePlaces.l0]
    rw [if_neg (by omega)]
  | j + 1, i, e => by
    have ih := spec_PP_l0 m hm hx N hN j (i + 1) (by omega)
    have hk : (ppl m i).length ≤ i := kept_len _ i
    have hs : ppl m (i + 1) = if ppB m (i + 1) = true then ppl m i ++ [((i + 1 : Nat) : Int)] else ppl m i := by
      show (if (!ppB m (i + 1)) = true then ppl m i else ppl m i ++ [((i + 1 : Nat) : Int)]) = _
      cases ppB m (i + 1) <;> rfl
    rw [hs] at ih
    refine Ev.step (fun z => ?_) (spec_PP_l1 m hm hx (i + 1) N (by omega) (ppl m i) (by omega) _ ih m [] true rfl (by rw [Bool.true_and]; rfl))
    simp only [spec_PrimePlaces.l0]
    rw [if_pos (by omega)]
    rfl
theorem pp_yes (m : List Nat) (hm : m.length ≤ 100) (hx : ∀ x ∈ m, x ≤ 60) (hP : isP (ints m) = true) (N : Nat) (hN : N ≤ 600) :
    Ev (fun z => impl_PrimePlaces.f z (ints m) (N : Int)) (ppl m N, true) ∧ Ev (fun z => spec_PrimePlaces.f z (ints m) (N : Int)) (ppl m N, true) := by
  have hl : (ints m).length ≤ 4000000000 := by rw [ints_len]; omega
  have hs := spec_reGood_ev (ints m) hl
  rw [hP] at hs
  have hp := impl_isPattern_ev (ints m) hl
  rw [hP] at hp
  constructor
  · unfold impl_PrimePlaces.f
    refine hp.bind ?_
    simp only [if_true, impl_isMost_eq, Option.bind_some, decide_eq_true (show 0 ≤ (N : Int) ∧ (N : Int) ≤ 600 by omega)]
    exact (impl_upTo_ev N (by omega)).bind ((delKeep_ups N fun i h1 h2 => ppAny_ev m hx i (by omega)).bind (Ev.now _))
  · unfold spec_PrimePlaces.f
    refine hs.bind ?_
    simp only [if_true, spec_l1In_eq, Option.bind_some, decide_eq_true (show 0 ≤ (N : Int) ∧ (N : Int) ≤ 600 by omega), Bool.not_true]
    refine Ev.step (fun k => ?_) (spec_PP_l0 m hm hx N (by omega) N 0 (by omega))
    simp only [spec_PrimePlaces.j0, Bool.false_eq_true, if_false]
    rfl
theorem pp_no (l : List Int) (b : Int) (hl : l.length ≤ 4000000000) (h : (isP l && decide (0 ≤ b ∧ b ≤ 600)) = false) :
    Ev (fun z => impl_PrimePlaces.f z l b) ([], false) ∧ Ev (fun z => spec_PrimePlaces.f z l b) ([], false) := by
  have hs := spec_reGood_ev l hl
  have hp := impl_isPattern_ev l hl
  have hj2 : Ev (fun k => spec_PrimePlaces.j0 k l b true) ([], false) := Ev.done fun k => by simp only [spec_PrimePlaces.j0, if_true]
  constructor
  · unfold impl_PrimePlaces.f
    refine hp.bind ?_
    cases e : isP l
    · simp only [Bool.false_eq_true, if_false]; exact Ev.now _
    · rw [e, Bool.true_and] at h
      simp only [if_true, impl_isMost_eq, Option.bind_some]
      rw [h]
      simp only [Bool.false_eq_true, if_false]; exact Ev.now _
  · unfold spec_PrimePlaces.f
    refine hs.bind ?_
    cases e : isP l
    · simp only [Bool.false_eq_true, if_false]; exact hj2
    · rw [e, Bool.true_and] at h
      simp only [if_true, spec_l1In_eq, Option.bind_some]
      rw [h]; exact hj2
theorem len_le_of : ∀ (l L : List Int), l.Pairwise (· < ·) → (∀ x ∈ l, x ∈ L) → l.length ≤ L.length
  | [], L, _, _ => Nat.zero_le _
  | x :: l, L, hs, h => by
    rw [List.pairwise_cons] at hs
    have h1 := h x (by simp)
    have h2 := len_le_of l (L.erase x) hs.2 fun y hy => (List.mem_erase_of_ne (by have := hs.1 y hy; omega)).2 (h y (by simp [hy]))
    have h3 := List.length_erase_of_mem h1
    have h4 := List.length_pos_of_mem h1
    rw [List.length_cons]
    omega
theorem clF_some (m : List Nat) : ∀ c k, k + c = 6 → clF m c k ≠ 0 → ∃ i, i < 6 ∧ (rests m (P6 i)).length = P6 i
  | 0, _, _, h => absurd rfl h
  | c + 1, k, e, h => by
    by_cases hc : (rests m (P6 k)).length = P6 k
    · exact ⟨k, by omega, hc⟩
    · refine clF_some m c (k + 1) (by omega) ?_
      intro h2
      apply h
      simp only [clF]
      rw [if_neg hc]
      exact h2
theorem pr_dvd {p q : Nat} (hp : 2 ≤ p) (hq : pr q = true) (h : p ∣ q) (h0 : 0 < q) : p = q := by
  have h2 : 2 ≤ q := by have := Nat.le_of_dvd h0 h; omega
  rw [pr_ge h2, beq_iff_eq] at hq
  have h3 := (lf_isLf h2).2.2 p hp h
  have := Nat.le_of_dvd h0 h
  omega
/-- Where a prime closes the pattern, few numbers are left. -/
theorem closed_few (m : List Nat) (N : Nat) (h : opn m = false) : (ppl m N).length ≤ m.length := by
  have h1 : clF m 6 0 ≠ 0 := by
    unfold opn at h
    exact fun e => by rw [e] at h; cases h
  obtain ⟨i, hi, hr⟩ := clF_some m 6 0 rfl h1
  have hp := P6_pos i hi
  have h2 : ∀ r, r < P6 i → hs m (P6 i) r = true := by
    have h3 : ((List.range (P6 i)).filter (hs m (P6 i))).length = (List.range (P6 i)).length := by rw [List.length_range]; exact hr
    rw [List.length_filter_eq_length_iff] at h3
    exact fun r hr => h3 r (List.mem_range.2 hr)
  have h4 := len_le_of (ppl m N) (m.map fun x : Nat => ((P6 i : Nat) : Int) - (x : Int)) (kept_sorted _ N) (fun y hy => by
    obtain ⟨n, rfl, n1, n2, n3⟩ := kept_mem _ y N hy
    have hb : ppB m n = true := by simpa using n3
    have hng : ng (P6 i) (n % P6 i) < P6 i := ng_lt (Nat.mod_lt _ (by omega))
    obtain ⟨x, hx, hxr⟩ := (hs_iff m _ _).1 (h2 _ hng)
    have hd := (ng_iff n x (P6 i) (by omega)).2 hxr
    have hq := List.all_eq_true.1 hb x hx
    have he := pr_dvd hp.1 hq (Nat.dvd_of_mod_eq_zero hd) (by omega)
    refine List.mem_map.2 ⟨x, hx, ?_⟩
    omega)
  rwa [List.length_map] at h4
/-- The first six primes. -/
def S6 : List Int := [2, 3, 5, 7, 11, 13]
theorem slices_Index_l (l : List Int) (hl : l.length ≤ 1000000) (x : Int) : ∀ suf pre, pre ++ suf = l → ∃ r : Int, Ev (fun k => slices_Index_int_int.l0 k l x (l.length : Int) (pre.length : Int)) r ∧ decide (r ≥ 0) = decide (x ∈ suf)
  | [], pre, e => by
    have h1 : l.length = pre.length := by rw [← e]; simp
    refine ⟨-1, Ev.done fun k => ?_, by simp⟩
    simp only [slices_Index_int_int.l0]
    rw [if_neg (by omega)]
  | y :: suf, pre, e => by
    have h1 : l.length = pre.length + 1 + suf.length := by rw [← e]; simp; omega
    have hg : rd l (pre.length : Int) = y := by rw [← e]; exact rd_mid_ pre y suf
    obtain ⟨r, h2, h3⟩ := slices_Index_l l hl x suf (pre ++ [y]) (by rw [← e]; simp)
    by_cases hx : x = y
    · refine ⟨(pre.length : Int), Ev.done fun k => ?_, by rw [decide_eq_true (by omega), decide_eq_true (by rw [hx]; simp)]⟩
      simp only [slices_Index_int_int.l0]
      rw [if_pos (by omega), if_pos (by omega), if_pos (by omega), hg, if_pos hx]
    · refine ⟨r, Ev.step (fun k => ?_) h2, by rw [h3]; simp [hx]⟩
      simp only [slices_Index_int_int.l0]
      rw [if_pos (by omega), if_pos (by omega), if_pos (by omega), hg, if_neg hx, wr_succ (by omega), List.length_append, List.length_singleton]
theorem slices_Contains_ev (l : List Int) (hl : l.length ≤ 1000000) (x : Int) : Ev (fun k => slices_Contains_int_int.f k l x) (decide (x ∈ l)) := by
  obtain ⟨r, h1, h2⟩ := slices_Index_l l hl x l [] rfl
  have h3 : Ev (fun k => slices_Index_int_int.f k l x) r := h1
  unfold slices_Contains_int_int.f
  rw [← h2]
  exact h3.bind (Ev.now _)
theorem impl_isOneOfSix_ev (x : Int) : Ev (fun k => impl_isOneOfSix.f k x) (decide (x ∈ S6)) := by
  unfold impl_isOneOfSix.f impl_firstSix.f
  simp only [Option.bind_some]
  exact (slices_Contains_ev S6 (by decide) x).bind (Ev.now _)
theorem spec_l1Has_li (l : List Int) (hl : l.length ≤ 1000000) (x : Int) : ∀ suf pre, pre ++ suf = l → Ev (fun k => spec_l1Has.l0 k x l (l.length : Int) (pre.length : Int)) (decide (x ∈ suf))
  | [], pre, e => by
    have h1 : l.length = pre.length := by rw [← e]; simp
    refine Ev.done fun k => ?_
    simp only [spec_l1Has.l0]
    rw [if_neg (by omega)]
    simp
  | y :: suf, pre, e => by
    have h1 : l.length = pre.length + 1 + suf.length := by rw [← e]; simp; omega
    have hg : rd l (pre.length : Int) = y := by rw [← e]; exact rd_mid_ pre y suf
    have ih := spec_l1Has_li l hl x suf (pre ++ [y]) (by rw [← e]; simp)
    by_cases hx : y = x
    · rw [decide_eq_true (show x ∈ y :: suf by rw [hx]; simp)]
      refine Ev.done fun k => ?_
      simp only [spec_l1Has.l0]
      rw [if_pos (by omega), if_pos (by omega), if_pos (by omega), hg, if_pos hx]
    · have e2 : decide (x ∈ y :: suf) = decide (x ∈ suf) := by simp [show ¬ x = y from fun h => hx h.symm]
      rw [e2]
      refine Ev.step (fun k => ?_) ih
      simp only [spec_l1Has.l0]
      rw [if_pos (by omega), if_pos (by omega), if_pos (by omega), hg, if_neg hx, wr_succ (by omega), List.length_append, List.length_singleton]
theorem S6_drop : ∀ k : Nat, k < 6 → S6.drop k = ((P6 k : Nat) : Int) :: S6.drop (k + 1) := by decide
theorem spec_reIs_l (x : Int) : ∀ c k : Nat, k + c = 6 → Ev (fun z => spec_reIs.l0 z x (k : Int)) (decide (x ∈ S6.drop k))
  | 0, k, e => by
    obtain rfl : k = 6 := by omega
    refine Ev.done fun z => ?_
    simp only [spec_reIs.l0]
    rw [if_neg (by omega)]
    simp [S6]
  | c + 1, k, e => by
    have ih := spec_reIs_l x c (k + 1) (by omega)
    have hr := spec_rePrime_eq k (by omega)
    rw [S6_drop k (by omega)]
    by_cases hx : ((P6 k : Nat) : Int) = x
    · rw [decide_eq_true (show x ∈ ((P6 k : Nat) : Int) :: S6.drop (k + 1) by rw [hx]; simp)]
      refine Ev.done fun z => ?_
      simp only [spec_reIs.l0]
      rw [if_pos (by omega), hr]
      simp only [Option.bind_some]
      rw [if_pos hx]
    · have e2 : decide (x ∈ ((P6 k : Nat) : Int) :: S6.drop (k + 1)) = decide (x ∈ S6.drop (k + 1)) := by simp [show ¬ x = ((P6 k : Nat) : Int) from fun h => hx h.symm]
      rw [e2]
      refine Ev.step (fun z => ?_) ih
      simp only [spec_reIs.l0]
      rw [if_pos (by omega), hr]
      simp only [Option.bind_some]
      rw [if_neg hx, wr_succ (by omega)]
theorem spec_reIs_ev (x : Int) : Ev (fun z => spec_reIs.f z x) (decide (x ∈ S6)) := spec_reIs_l x 6 0 rfl
/-- Different ones of the six, on behind some. -/
def dif : List Int → List Int → Bool
  | _, [] => true
  | pre, x :: suf => if decide (x ∈ S6) = true then (if decide (x ∈ pre) = true then false else dif (pre ++ [x]) suf) else false
theorem take_pre (pre suf l : List Int) (e : pre ++ suf = l) : l.take ((pre.length : Nat) : Int).toNat = pre := by rw [← e, Int.toNat_natCast, List.take_left]
theorem impl_areDifferent_l (l : List Int) (hl : l.length ≤ 1000000) : ∀ suf pre, pre ++ suf = l → Ev (fun k => impl_areDifferent.l0 k l l (l.length : Int) (pre.length : Int)) (dif pre suf)
  | [], pre, e => by
    have h1 : l.length = pre.length := by rw [← e]; simp
    refine Ev.done fun k => ?_
    simp only [impl_areDifferent.l0]
    rw [if_neg (by omega)]
    rfl
  | y :: suf, pre, e => by
    have h1 : l.length = pre.length + 1 + suf.length := by rw [← e]; simp; omega
    have hg : rd l (pre.length : Int) = y := by rw [← e]; exact rd_mid_ pre y suf
    have ih := impl_areDifferent_l l hl suf (pre ++ [y]) (by rw [← e]; simp)
    refine Ev.step (f := ?f0) (fun z => ?a0) ?b0
    case a0 =>
      simp only [impl_areDifferent.l0]
      rw [if_pos (by omega), if_pos (by omega), if_pos (by omega), hg, take_pre pre (y :: suf) l e]
    refine (impl_isOneOfSix_ev y).bind ?_
    rw [dif]
    by_cases hs : y ∈ S6
    · simp only [decide_eq_true hs, if_true, if_pos (show (pre.length : Int) ≤ (l.length : Int) by omega)]
      refine (slices_Contains_ev pre (by omega) y).bind ?_
      by_cases hp : y ∈ pre
      · simp only [decide_eq_true hp, if_true]; exact Ev.now _
      · simp only [decide_eq_false hp, Bool.false_eq_true, if_false, wr_succ (show pre.length < 9223372036854775807 by omega)]
        rw [List.length_append, List.length_singleton] at ih
        exact ih
    · simp only [decide_eq_false hs, Bool.false_eq_true, if_false]
      exact Ev.now _
theorem spec_rePrimes_l (l : List Int) (hl : l.length ≤ 1000000) : ∀ suf pre, pre ++ suf = l → Ev (fun k => spec_rePrimes.l0 k l l (l.length : Int) (pre.length : Int)) (dif pre suf)
  | [], pre, e => by
    have h1 : l.length = pre.length := by rw [← e]; simp
    refine Ev.done fun k => ?_
    simp only [spec_rePrimes.l0]
    rw [if_neg (by omega)]
    rfl
  | y :: suf, pre, e => by
    have h1 : l.length = pre.length + 1 + suf.length := by rw [← e]; simp; omega
    have hg : rd l (pre.length : Int) = y := by rw [← e]; exact rd_mid_ pre y suf
    have ih := spec_rePrimes_l l hl suf (pre ++ [y]) (by rw [← e]; simp)
    refine Ev.step (f := ?f0) (fun z => ?a0) ?b0
    case a0 =>
      simp only [spec_rePrimes.l0]
      rw [if_pos (by omega), if_pos (by omega), if_pos (by omega), hg, take_pre pre (y :: suf) l e]
    refine (spec_reIs_ev y).bind ?_
    rw [dif]
    by_cases hs : y ∈ S6
    · simp only [decide_eq_true hs, if_true, if_pos (show (pre.length : Int) ≤ (l.length : Int) by omega)]
      refine Ev.bind (a := decide (y ∈ pre)) (spec_l1Has_li pre (by omega) y pre [] rfl) ?_
      by_cases hp : y ∈ pre
      · simp only [decide_eq_true hp, if_true]; exact Ev.now _
      · simp only [decide_eq_false hp, Bool.false_eq_true, if_false, wr_succ (show pre.length < 9223372036854775807 by omega)]
        rw [List.length_append, List.length_singleton] at ih
        exact ih
    · simp only [decide_eq_false hs, Bool.false_eq_true, if_false]
      exact Ev.now _
theorem dif_spec : ∀ suf pre : List Int, pre.Nodup → (∀ x ∈ pre, x ∈ S6) → dif pre suf = true → (pre ++ suf).Nodup ∧ ∀ x ∈ pre ++ suf, x ∈ S6
  | [], pre, h1, h2, _ => by rw [List.append_nil]; exact ⟨h1, h2⟩
  | y :: suf, pre, h1, h2, h => by
    rw [dif] at h
    by_cases hs : y ∈ S6
    · rw [if_pos (decide_eq_true hs)] at h
      by_cases hp : y ∈ pre
      · rw [if_pos (decide_eq_true hp)] at h; cases h
      · rw [decide_eq_false hp, if_neg Bool.false_ne_true] at h
        have h3 := dif_spec suf (pre ++ [y]) (List.nodup_append.2 ⟨h1, by simp, fun a ha b hb => by rw [List.mem_singleton] at hb; intro e; rw [e, hb] at ha; exact hp ha⟩) (fun x hx => by
          rcases List.mem_append.1 hx with hx | hx
          · exact h2 x hx
          · rw [List.mem_singleton] at hx; rw [hx]; exact hs) h
        rwa [List.append_assoc] at h3
    · rw [decide_eq_false hs, if_neg Bool.false_ne_true] at h; cases h
theorem nodup_len : ∀ (l L : List Int), l.Nodup → (∀ x ∈ l, x ∈ L) → l.length ≤ L.length
  | [], L, _, _ => Nat.zero_le _
  | x :: l, L, hs, h => by
    rw [List.nodup_cons] at hs
    have h1 := h x (by simp)
    have h2 := nodup_len l (L.erase x) hs.2 fun y hy => (List.mem_erase_of_ne (fun e => hs.1 (by rw [← e]; exact hy))).2 (h y (by simp [hy]))
    have h3 := List.length_erase_of_mem h1
    have h4 := List.length_pos_of_mem h1
    rw [List.length_cons]
    omega
theorem dif_len (l : List Int) (h : dif [] l = true) : l.length ≤ 6 := by
  obtain ⟨h1, h2⟩ := dif_spec l [] List.nodup_nil (by simp) h
  exact nodup_len l S6 h1 h2
theorem dif_both (l : List Int) (hl : l.length ≤ 1000000) : Ev (fun k => impl_areDifferent.f k l) (dif [] l) ∧ Ev (fun k => spec_rePrimes.f k l) (dif [] l) := by
  refine ⟨impl_areDifferent_l l hl l [] rfl, ?_⟩
  unfold spec_rePrimes.f
  by_cases h : (l.length : Int) > 6
  · simp only [if_pos h]
    have : dif [] l = false := by
      cases hd : dif [] l
      · rfl
      · have := dif_len l hd; omega
    rw [this]; exact Ev.now _
  · simp only [if_neg h]
    exact spec_rePrimes_l l hl l [] rfl
def SN : List Nat := [2, 3, 5, 7, 11, 13]
/-- A product. -/
def pd : List Nat → Nat
  | [] => 1
  | p :: l => p * pd l
theorem pd_app (l : List Nat) (p : Nat) : pd (l ++ [p]) = pd l * p := by
  induction l with
  | nil => show p * 1 = 1 * p; omega
  | cons q l ih => show q * pd (l ++ [p]) = q * pd l * p; rw [ih, Nat.mul_assoc]
theorem pd_mod {l : List Nat} {q : Nat} (h : q ∈ l) : pd l % q = 0 := by
  induction l with
  | nil => cases h
  | cons p l ih =>
    show (p * pd l) % q = 0
    rcases List.mem_cons.1 h with rfl | h
    · exact Nat.mul_mod_right _ _
    · rw [Nat.mul_mod, ih h, Nat.mul_zero, Nat.zero_mod]
theorem pd_perm {l m : List Nat} (h : l.Perm m) : pd l = pd m := by
  induction h with
  | nil => rfl
  | cons x _ ih => show x * _ = x * _; rw [ih]
  | swap x y l => show y * (x * pd l) = x * (y * pd l); rw [← Nat.mul_assoc, ← Nat.mul_assoc, Nat.mul_comm y x]
  | trans _ _ h1 h2 => exact h1.trans h2
theorem pd_le : ∀ (l L : List Nat), l.Nodup → (∀ x ∈ l, x ∈ L) → (∀ x ∈ L, 1 ≤ x) → pd l ≤ pd L
  | [], [], _, _, _ => Nat.le_refl _
  | [], p :: L, _, _, h => by
    have h1 := pd_le [] L List.nodup_nil (by simp) fun x hx => h x (by simp [hx])
    have h2 := h p (by simp)
    show 1 ≤ p * pd L
    exact Nat.mul_pos h2 h1
  | x :: l, L, hs, h, h1 => by
    rw [List.nodup_cons] at hs
    have h2 := pd_le l (L.erase x) hs.2 (fun y hy => (List.mem_erase_of_ne (fun e => hs.1 (by rw [← e]; exact hy))).2 (h y (by simp [hy]))) fun y hy => h1 y (List.mem_of_mem_erase hy)
    rw [pd_perm (List.perm_cons_erase (h x (by simp)))]
    exact Nat.mul_le_mul (Nat.le_refl x) h2
theorem SN_pos : ∀ p ∈ SN, 2 ≤ p ∧ p ≤ 13 := by decide
theorem SN_cop : ∀ p ∈ SN, ∀ q ∈ SN, p ≠ q → Nat.gcd q p = 1 := by decide
set_option maxRecDepth 20000 in
theorem SN_perm : ∀ p ∈ SN, ∀ a, a < p → Nat.gcd a p = 1 → ((List.range p).map fun j => (j * a) % p).isPerm (List.range p) = true := by decide
theorem pd_cop (p : Nat) (hp : p ∈ SN) : ∀ l : List Nat, (∀ x ∈ l, x ∈ SN) → p ∉ l → Nat.gcd (pd l) p = 1
  | [], _, _ => Nat.gcd_one_left p
  | q :: l, h, hn => by
    have h1 := pd_cop p hp l (fun x hx => h x (by simp [hx])) (fun hx => hn (by simp [hx]))
    have h2 := SN_cop p hp q (h q (by simp)) (fun e => hn (by simp [e]))
    exact Nat.Coprime.mul_left h2 h1
theorem SN_le {ps : List Nat} (hn : ps.Nodup) (h : ∀ p ∈ ps, p ∈ SN) : pd ps ≤ 30030 := pd_le ps SN hn h fun x hx => by have := SN_pos x hx; omega
theorem step_ex (p : Nat) (hp : p ∈ SN) (M n r : Nat) (hr : r < p) (hc : Nat.gcd M p = 1) : ∃ j, j < p ∧ (n + j * M) % p = r := by
  have hx := Nat.mod_lt n (show 0 < p by omega)
  have hm := Nat.mod_lt M (show 0 < p by omega)
  have hg : Nat.gcd (M % p) p = 1 := by rw [← Nat.gcd_rec, Nat.gcd_comm]; exact hc
  have hP := List.isPerm_iff.1 (SN_perm p hp (M % p) hm hg)
  obtain ⟨t, ht⟩ : ∃ t, t = if n % p ≤ r then r - n % p else r + p - n % p := ⟨_, rfl⟩
  have ht1 : t < p := by rw [ht]; split <;> omega
  obtain ⟨j, hj, he⟩ := List.mem_map.1 (hP.mem_iff.2 (List.mem_range.2 ht1))
  refine ⟨j, List.mem_range.1 hj, ?_⟩
  have h1 : (j * M) % p = t := by rw [Nat.mul_mod, ← he, Nat.mul_mod j (M % p), Nat.mod_mod]
  rw [Nat.add_mod, h1, ht]
  by_cases hle : n % p ≤ r
  · rw [if_pos hle, Nat.mod_eq_of_lt (by omega)]; omega
  · rw [if_neg hle, show n % p + (r + p - n % p) = r + p by omega, Nat.add_mod_right, Nat.mod_eq_of_lt hr]
theorem dvd_all {a b : Nat} : ∀ l : List Nat, l.Nodup → (∀ p ∈ l, p ∈ SN) → (∀ p ∈ l, a % p = b % p) → pd l ∣ b - a
  | [], _, _, _ => Nat.one_dvd _
  | p :: l, hn, hs, h => by
    rw [List.nodup_cons] at hn
    have h1 := dvd_all l hn.2 (fun q hq => hs q (by simp [hq])) fun q hq => h q (by simp [hq])
    have h2 := pd_cop p (hs p (by simp)) l (fun q hq => hs q (by simp [hq])) hn.1
    have h3 : p ∣ b - a := Nat.dvd_of_mod_eq_zero (Nat.sub_mod_eq_zero_of_mod_eq (h p (by simp)).symm)
    exact Nat.Coprime.mul_dvd_of_dvd_of_dvd ((Nat.gcd_comm _ _).trans h2) h3 h1
theorem map_mods {ps : List Nat} {a b : Nat} (h : ps.map (a % ·) = ps.map (b % ·)) : ∀ p ∈ ps, a % p = b % p := by
  intro p hp
  exact List.map_inj_left.1 h p hp
theorem sat_unique {ps : List Nat} (hn : ps.Nodup) (hs : ∀ p ∈ ps, p ∈ SN) {a b : Nat} (ha : a < pd ps) (hb : b < pd ps) (h : ps.map (a % ·) = ps.map (b % ·)) : a = b := by
  have h1 := dvd_all ps hn hs (map_mods h)
  have h2 := dvd_all ps hn hs (map_mods h.symm)
  rcases Nat.lt_trichotomy a b with hlt | rfl | hlt
  · have := Nat.le_of_dvd (by omega) h1; omega
  · rfl
  · have := Nat.le_of_dvd (by omega) h2; omega
theorem ints_back {l : List Int} (h : ∀ x ∈ l, 0 ≤ x) : l = ints (l.map Int.toNat) := by
  induction l with
  | nil => rfl
  | cons x l ih =>
    have h1 := h x (by simp)
    have h2 := ih fun y hy => h y (by simp [hy])
    show x :: l = ((x.toNat : Nat) : Int) :: ints (l.map Int.toNat)
    rw [← h2, Int.toNat_of_nonneg h1]
theorem S6_nat : ∀ x ∈ S6, 0 ≤ x ∧ x.toNat ∈ SN := by decide
theorem dif_nat {l : List Int} (h : dif [] l = true) : ∃ ps : List Nat, l = ints ps ∧ ps.Nodup ∧ (∀ p ∈ ps, p ∈ SN) ∧ ps.length ≤ 6 := by
  obtain ⟨h1, h2⟩ := dif_spec l [] List.nodup_nil (by simp) h
  rw [List.nil_append] at h1 h2
  have h3 := ints_back fun x hx => (S6_nat x (h2 x hx)).1
  refine ⟨l.map Int.toNat, h3, ?_, fun p hp => ?_, by rw [List.length_map]; exact dif_len l h⟩
  · rw [h3] at h1
    unfold ints at h1
    exact List.Pairwise.of_map _ (fun a b hab e => hab (by rw [e])) h1
  · obtain ⟨x, hx, rfl⟩ := List.mem_map.1 hp
    exact (S6_nat x (h2 x hx)).2
theorem impl_restsBy_l (ps : List Nat) (hs : ∀ p ∈ ps, p ∈ SN) (hl : ps.length ≤ 6) (n : Nat) : ∀ suf pre, pre ++ suf = ps → Ev (fun k => impl_restsBy.l0 k (n : Int) (ints (pre.map (n % ·))) (ints ps) ((ints ps).length : Int) (pre.length : Int)) (ints (ps.map (n % ·)))
  | [], pre, e => by
    have h1 : ps.length = pre.length := by rw [← e]; simp
    have h2 : pre = ps := by rw [← e, List.append_nil]
    refine Ev.done fun k => ?_
    simp only [impl_restsBy.l0]
    rw [ints_len, if_neg (by omega), h2]
  | p :: suf, pre, e => by
    have h1 : ps.length = pre.length + 1 + suf.length := by rw [← e]; simp; omega
    have hg : rd (ints ps) (pre.length : Int) = (p : Int) := by rw [← e]; exact ints_get pre p suf
    have hp := SN_pos p (hs p (by rw [← e]; simp))
    have ih := impl_restsBy_l ps hs hl n suf (pre ++ [p]) (by rw [← e]; simp)
    have h3 : (ints (pre.map (n % ·))).length = pre.length := by rw [ints_len, List.length_map]
    have h4 : ints ((pre ++ [p]).map (n % ·)) = ints (pre.map (n % ·)) ++ [((n % p : Nat) : Int)] := by unfold ints; simp
    rw [h4] at ih
    refine Ev.step (fun k => ?_) ih
    simp only [impl_restsBy.l0]
    rw [ints_len, if_pos (by omega), if_pos (by omega), if_pos (by omega), hg, if_neg (by omega), if_pos (by omega), tm, wr_succ (by omega), List.length_append, List.length_singleton]
theorem impl_restsBy_ev (ps : List Nat) (hs : ∀ p ∈ ps, p ∈ SN) (hl : ps.length ≤ 6) (n : Nat) : Ev (fun k => impl_restsBy.f k (ints ps) (n : Int)) (ints (ps.map (n % ·))) := impl_restsBy_l ps hs hl n ps [] rfl
theorem spec_Rests_l (ps : List Nat) (hs : ∀ p ∈ ps, p ∈ SN) (hl : ps.length ≤ 6) (n : Nat) : ∀ suf pre, pre ++ suf = ps → Ev (fun k => spec_RestsOfNumber.l0 k (n : Int) (ints (pre.map (n % ·))) (ints ps) ((ints ps).length : Int) (pre.length : Int)) (ints (ps.map (n % ·)), true)
  | [], pre, e => by
    have h1 : ps.length = pre.length := by rw [← e]; simp
    have h2 : pre = ps := by rw [← e, List.append_nil]
    refine Ev.done fun k => ?_
    simp only [spec_RestsOfNumber.l0]
    rw [ints_len, if_neg (by omega), h2]
  | p :: suf, pre, e => by
    have h1 : ps.length = pre.length + 1 + suf.length := by rw [← e]; simp; omega
    have hg : rd (ints ps) (pre.length : Int) = (p : Int) := by rw [← e]; exact ints_get pre p suf
    have hp := SN_pos p (hs p (by rw [← e]; simp))
    have ih := spec_Rests_l ps hs hl n suf (pre ++ [p]) (by rw [← e]; simp)
    have h3 : (ints (pre.map (n % ·))).length = pre.length := by rw [ints_len, List.length_map]
    have h4 : ints ((pre ++ [p]).map (n % ·)) = ints (pre.map (n % ·)) ++ [((n % p : Nat) : Int)] := by unfold ints; simp
    rw [h4] at ih
    refine Ev.step (fun k => ?_) ih
    simp only [spec_RestsOfNumber.l0]
    rw [ints_len, if_pos (by omega), if_pos (by omega), if_pos (by omega), hg, if_neg (by omega), if_pos (by omega), tm, wr_succ (by omega), List.length_append, List.length_singleton]
theorem ron_yes (ps : List Nat) (hd : dif [] (ints ps) = true) (hs : ∀ p ∈ ps, p ∈ SN) (hl : ps.length ≤ 6) (n : Nat) (hn : n ≤ 1000000000) :
    Ev (fun k => impl_RestsOfNumber.f k (ints ps) (n : Int)) (ints (ps.map (n % ·)), true) ∧ Ev (fun k => spec_RestsOfNumber.f k (ints ps) (n : Int)) (ints (ps.map (n % ·)), true) := by
  obtain ⟨h1, h2⟩ := dif_both (ints ps) (by rw [ints_len]; omega)
  rw [hd] at h1 h2
  constructor
  · unfold impl_RestsOfNumber.f
    refine h1.bind ?_
    simp only [if_true, if_neg (show ¬ (n : Int) < 0 by omega), if_neg (show ¬ (n : Int) > 1000000000 by omega)]
    exact (impl_restsBy_ev ps hs hl n).bind (Ev.now _)
  · unfold spec_RestsOfNumber.f
    refine h2.bind ?_
    simp only [if_true, spec_l1In_eq, Option.bind_some, decide_eq_true (show 0 ≤ (n : Int) ∧ (n : Int) ≤ 1000000000 by omega), Bool.not_true]
    refine Ev.step (fun k => ?_) (spec_Rests_l ps hs hl n ps [] rfl)
    simp only [spec_RestsOfNumber.j0, Bool.false_eq_true, if_false]
    rfl
theorem ron_no (l : List Int) (hl : l.length ≤ 1000000) (a : Int) (h : (dif [] l && decide (0 ≤ a ∧ a ≤ 1000000000)) = false) :
    Ev (fun k => impl_RestsOfNumber.f k l a) ([], false) ∧ Ev (fun k => spec_RestsOfNumber.f k l a) ([], false) := by
  obtain ⟨h1, h2⟩ := dif_both l hl
  have hj : Ev (fun k => spec_RestsOfNumber.j0 k l a true) ([], false) := Ev.done fun k => by simp only [spec_RestsOfNumber.j0, if_true]
  constructor
  · unfold impl_RestsOfNumber.f
    refine h1.bind ?_
    cases e : dif [] l
    · simp only [Bool.false_eq_true, if_false]; exact Ev.now _
    · rw [e, Bool.true_and, decide_eq_false_iff_not] at h
      simp only [if_true]
      by_cases ha : a < 0
      · simp only [if_pos ha]; exact Ev.now _
      · simp only [if_neg ha, if_pos (show a > 1000000000 by omega)]; exact Ev.now _
  · unfold spec_RestsOfNumber.f
    refine h2.bind ?_
    cases e : dif [] l
    · simp only [Bool.false_eq_true, if_false]; exact hj
    · rw [e, Bool.true_and] at h
      simp only [if_true, spec_l1In_eq, Option.bind_some]
      rw [h]; exact hj
/-- Each remainder is one of its prime's. -/
def okR : List Int → List Int → Bool
  | p :: ps, r :: rs => if decide (0 ≤ r ∧ r < p) = true then okR ps rs else false
  | _, _ => true
theorem impl_N_l0 (P R : List Int) (hP : P.length ≤ 6) (hPR : R.length = P.length) (v : Int × Bool) (h : Ev (fun k => impl_NumberWithRests.l1 k P R 0) v) : ∀ ps rs pp rp, pp ++ ps = P → rp ++ rs = R → pp.length = rp.length → Ev (fun k => impl_NumberWithRests.l0 k P R P (P.length : Int) (pp.length : Int)) (if okR ps rs = true then v else (0, false))
  | [], rs, pp, rp, e1, e2, e3 => by
    have h1 : P.length = pp.length := by rw [← e1]; simp
    have : okR [] rs = true := by cases rs <;> rfl
    rw [if_pos this]
    refine Ev.step (fun k => ?_) h
    simp only [impl_NumberWithRests.l0]
    rw [if_neg (by omega)]
  | p :: ps, [], pp, rp, e1, e2, e3 => by
    exfalso
    have h1 : P.length = pp.length + 1 + ps.length := by rw [← e1]; simp; omega
    have h2 : R.length = rp.length := by rw [← e2]; simp
    omega
  | p :: ps, r :: rs, pp, rp, e1, e2, e3 => by
    have h1 : P.length = pp.length + 1 + ps.length := by rw [← e1]; simp; omega
    have g1 : rd P (pp.length : Int) = p := by rw [← e1]; exact rd_mid_ pp p ps
    have g2 : rd R (pp.length : Int) = r := by rw [← e2, e3]; exact rd_mid_ rp r rs
    have ih := impl_N_l0 P R hP hPR v h ps rs (pp ++ [p]) (rp ++ [r]) (by rw [← e1]; simp) (by rw [← e2]; simp) (by simp [e3])
    rw [okR]
    by_cases hr : 0 ≤ r ∧ r < p
    · rw [if_pos (decide_eq_true hr)]
      refine Ev.step (fun k => ?_) ih
      simp only [impl_NumberWithRests.l0]
      rw [if_pos (by omega), if_pos (by omega), if_pos (by omega), if_pos (by omega), g1, g2, if_neg (by omega), if_neg (by omega), wr_succ (by omega), List.length_append, List.length_singleton]
    · rw [decide_eq_false hr]
      refine Ev.done fun k => ?_
      simp only [impl_NumberWithRests.l0]
      rw [if_pos (by omega), if_pos (by omega), if_pos (by omega), if_pos (by omega), g1, g2]
      by_cases h0 : r < 0
      · rw [if_pos h0]; rfl
      · rw [if_neg h0, if_pos (by omega)]; rfl
theorem spec_N_l0 (P R : List Int) (hP : P.length ≤ 6) (hPR : R.length = P.length) (hw : ∀ p ∈ P, 2 ≤ p ∧ p ≤ 13) (v : Int × Bool) (h : Ev (fun k => spec_NumberWithRests.l1 k R 0 1 P (P.length : Int) 0) v) : ∀ ps rs pp rp, pp ++ ps = P → rp ++ rs = R → pp.length = rp.length → Ev (fun k => spec_NumberWithRests.l0 k P R R (R.length : Int) (pp.length : Int)) (if okR ps rs = true then v else (0, false))
  | [], rs, pp, rp, e1, e2, e3 => by
    have h1 : P.length = pp.length := by rw [← e1]; simp
    have : okR [] rs = true := by cases rs <;> rfl
    rw [if_pos this]
    refine Ev.step (fun k => ?_) h
    simp only [spec_NumberWithRests.l0]
    rw [if_neg (by omega)]
  | p :: ps, [], pp, rp, e1, e2, e3 => by
    exfalso
    have h1 : P.length = pp.length + 1 + ps.length := by rw [← e1]; simp; omega
    have h2 : R.length = rp.length := by rw [← e2]; simp
    omega
  | p :: ps, r :: rs, pp, rp, e1, e2, e3 => by
    have h1 : P.length = pp.length + 1 + ps.length := by rw [← e1]; simp; omega
    have g1 : rd P (pp.length : Int) = p := by rw [← e1]; exact rd_mid_ pp p ps
    have g2 : rd R (pp.length : Int) = r := by rw [← e2, e3]; exact rd_mid_ rp r rs
    have hp := hw p (by rw [← e1]; simp)
    have ih := spec_N_l0 P R hP hPR hw v h ps rs (pp ++ [p]) (rp ++ [r]) (by rw [← e1]; simp) (by rw [← e2]; simp) (by simp [e3])
    rw [okR]
    by_cases hr : 0 ≤ r ∧ r < p
    · rw [if_pos (decide_eq_true hr)]
      refine Ev.step (fun k => ?_) ih
      simp only [spec_NumberWithRests.l0]
      rw [if_pos (by omega), if_pos (by omega), if_pos (by omega), if_pos (by omega), g1, g2, wri (show -9223372036854775808 ≤ p - 1 by omega) (by omega), spec_l1In_eq, decide_eq_true (show 0 ≤ r ∧ r ≤ p - 1 by omega)]
      simp only [Option.bind_some, if_true]
      rw [wr_succ (by omega), List.length_append, List.length_singleton]
    · rw [decide_eq_false hr]
      refine Ev.done fun k => ?_
      simp only [spec_NumberWithRests.l0]
      rw [if_pos (by omega), if_pos (by omega), if_pos (by omega), if_pos (by omega), g1, g2, wri (show -9223372036854775808 ≤ p - 1 by omega) (by omega), spec_l1In_eq, decide_eq_false (show ¬ (0 ≤ r ∧ r ≤ p - 1) by omega)]
      simp only [Option.bind_some, Bool.false_eq_true, if_false]
/-- The reference's way: one prime after the other. -/
theorem spec_N_l1 (ps : List Nat) (hn : ps.Nodup) (hs : ∀ p ∈ ps, p ∈ SN) (hl : ps.length ≤ 6) (rs : List Nat) (hlen : rs.length = ps.length) : ∀ (psuf rsuf ppre rpre : List Nat) (n : Nat), ppre ++ psuf = ps → rpre ++ rsuf = rs → ppre.length = rpre.length → okR (ints psuf) (ints rsuf) = true → n < pd ppre → ppre.map (n % ·) = rpre →
    ∃ N, N < pd ps ∧ ps.map (N % ·) = rs ∧ Ev (fun k => spec_NumberWithRests.l1 k (ints rs) (n : Int) ((pd ppre : Nat) : Int) (ints ps) ((ints ps).length : Int) (ppre.length : Int)) ((N : Int), true)
  | [], rsuf, ppre, rpre, n, e1, e2, e3, hok, hlt, hmap => by
    have h1 : ps.length = ppre.length := by rw [← e1]; simp
    have h2 : rsuf = [] := by
      have : rs.length = rpre.length + rsuf.length := by rw [← e2]; simp
      exact List.eq_nil_of_length_eq_zero (by omega)
    subst h2
    rw [List.append_nil] at e1 e2
    subst e1 e2
    refine ⟨n, hlt, hmap, Ev.done fun k => ?_⟩
    simp only [spec_NumberWithRests.l1]
    rw [ints_len, if_neg (by omega)]
  | p :: psuf, [], ppre, rpre, n, e1, e2, e3, hok, hlt, hmap => by
    exfalso
    have h1 : ps.length = ppre.length + 1 + psuf.length := by rw [← e1]; simp; omega
    have h2 : rs.length = rpre.length := by rw [← e2]; simp
    omega
  | p :: psuf, r :: rsuf, ppre, rpre, n, e1, e2, e3, hok, hlt, hmap => by
    have h1 : ps.length = ppre.length + 1 + psuf.length := by rw [← e1]; simp; omega
    have g1 : rd (ints ps) (ppre.length : Int) = (p : Int) := by rw [← e1]; exact ints_get ppre p psuf
    have g2 : rd (ints rs) (ppre.length : Int) = (r : Int) := by rw [← e2, e3]; exact ints_get rpre r rsuf
    have hpS := hs p (by rw [← e1]; simp)
    have hp := SN_pos p hpS
    have hok' : decide (0 ≤ (r : Int) ∧ (r : Int) < (p : Int)) = true ∧ okR (ints psuf) (ints rsuf) = true := by
      have h2 : (if decide (0 ≤ (r : Int) ∧ (r : Int) < (p : Int)) = true then okR (ints psuf) (ints rsuf) else false) = true := hok
      by_cases hc : decide (0 ≤ (r : Int) ∧ (r : Int) < (p : Int)) = true
      · rw [if_pos hc] at h2; exact ⟨hc, h2⟩
      · rw [if_neg hc] at h2; cases h2
    have hr : r < p := by have := of_decide_eq_true hok'.1; omega
    have hnp : p ∉ ppre := by
      rw [← e1] at hn
      intro hp'
      exact (List.nodup_append.1 hn).2.2 p hp' p (by simp) rfl
    have hcop := pd_cop p hpS ppre (fun x hx => hs x (by rw [← e1]; simp [hx])) hnp
    obtain ⟨j, hj, hjr⟩ := step_ex p hpS (pd ppre) n r hr hcop
    have hM : pd ppre * p ≤ 30030 := by
      rw [← pd_app]
      have hsub : (ppre ++ [p]).Nodup ∧ ∀ q ∈ ppre ++ [p], q ∈ SN := by
        have e4 : ps = (ppre ++ [p]) ++ psuf := by rw [← e1]; simp
        rw [e4] at hn hs
        exact ⟨(List.nodup_append.1 hn).1, fun q hq => hs q (List.mem_append_left _ hq)⟩
      exact SN_le hsub.1 hsub.2
    have hin : ∀ d t, (∃ j, t ≤ j ∧ j < t + d ∧ (n + j * pd ppre) % p = r) → t + d ≤ p → ∃ N, N < pd ps ∧ ps.map (N % ·) = rs ∧ Ev (fun k => spec_NumberWithRests.l2 k (ints rs) ((n + t * pd ppre : Nat) : Int) ((pd ppre : Nat) : Int) (ppre.length : Int) (p : Int) (ints ps) ((ints ps).length : Int) (ppre.length : Int)) ((N : Int), true) := by
      intro d
      induction d with
      | zero => intro t ⟨j, h1, h2, _⟩ _; exfalso; omega
      | succ d ih =>
        intro t ⟨j, j1, j2, j3⟩ ht
        have hb : n + t * pd ppre < pd ppre * p := by
          have h5 : (t + 1) * pd ppre ≤ p * pd ppre := Nat.mul_le_mul_right _ (by omega)
          rw [Nat.add_mul, Nat.one_mul] at h5
          rw [Nat.mul_comm (pd ppre) p]
          omega
        by_cases hc : (n + t * pd ppre) % p = r
        · obtain ⟨N, n1, n2, n3⟩ := spec_N_l1 ps hn hs hl rs hlen psuf rsuf (ppre ++ [p]) (rpre ++ [r]) (n + t * pd ppre) (by rw [← e1]; simp) (by rw [← e2]; simp) (by simp [e3]) hok'.2 (by rw [pd_app]; exact hb) (by
            rw [List.map_append, List.map_singleton, hc, ← hmap]
            congr 1
            refine List.map_congr_left fun q hq => ?_
            rw [Nat.add_mod, Nat.mul_mod, pd_mod hq, Nat.mul_zero, Nat.zero_mod, Nat.add_zero, Nat.mod_mod])
          refine ⟨N, n1, n2, Ev.step (fun k => ?_) n3⟩
          simp only [spec_NumberWithRests.l2]
          rw [ints_len, ints_len, if_neg (by omega), if_pos (by omega), if_pos (by omega), g2, tm, if_pos (by omega), wr_mul (by omega), wr_succ (by omega), pd_app, List.length_append, List.length_singleton]
        · have hjt : t ≠ j := fun e => hc (by rw [e]; exact j3)
          obtain ⟨N, n1, n2, n3⟩ := ih (t + 1) ⟨j, by omega, by omega, j3⟩ (by omega)
          refine ⟨N, n1, n2, Ev.step (fun k => ?_) n3⟩
          have hM0 : pd ppre ≤ pd ppre * p := Nat.le_mul_of_pos_right _ (by omega)
          simp only [spec_NumberWithRests.l2]
          rw [ints_len, ints_len, if_neg (by omega), if_pos (by omega), if_pos (by omega), g2, tm, if_neg (by omega), ← Int.natCast_add, wr (by omega), Nat.add_mul, Nat.one_mul, Nat.add_assoc]
    obtain ⟨N, n1, n2, n3⟩ := hin p 0 ⟨j, Nat.zero_le _, by omega, hjr⟩ (by omega)
    refine ⟨N, n1, n2, Ev.step (fun k => ?_) n3⟩
    simp only [spec_NumberWithRests.l1]
    rw [ints_len, if_pos (by omega), if_pos (by omega), if_pos (by omega), g1, Nat.zero_mul, Nat.add_zero]
theorem slices_Equal_l (R l : List Int) (hl : l.length = R.length) (hR : R.length ≤ 1000000) : ∀ s1 s2 pre, pre ++ s1 = l → pre ++ s2 = R → Ev (fun k => slices_Equal_int_int.l0 k l R (l.length : Int) (pre.length : Int)) (decide (s1 = s2))
  | [], s2, pre, e1, e2 => by
    have h1 : l.length = pre.length := by rw [← e1]; simp
    have h2 : s2 = [] := by
      have : R.length = pre.length + s2.length := by rw [← e2]; simp
      exact List.eq_nil_of_length_eq_zero (by omega)
    subst h2
    refine Ev.done fun k => ?_
    simp only [slices_Equal_int_int.l0]
    rw [if_neg (by omega)]
    rfl
  | x :: s1, [], pre, e1, e2 => by
    exfalso
    have h1 : l.length = pre.length + 1 + s1.length := by rw [← e1]; simp; omega
    have h2 : R.length = pre.length := by rw [← e2]; simp
    omega
  | x :: s1, y :: s2, pre, e1, e2 => by
    have h1 : l.length = pre.length + 1 + s1.length := by rw [← e1]; simp; omega
    have g1 : rd l (pre.length : Int) = x := by rw [← e1]; exact rd_mid_ pre x s1
    have g2 : rd R (pre.length : Int) = y := by rw [← e2]; exact rd_mid_ pre y s2
    by_cases hx : x = y
    · subst hx
      have ih := slices_Equal_l R l hl hR s1 s2 (pre ++ [x]) (by rw [← e1]; simp) (by rw [← e2]; simp)
      have e3 : decide (x :: s1 = x :: s2) = decide (s1 = s2) := by simp
      rw [e3]
      refine Ev.step (fun k => ?_) ih
      simp only [slices_Equal_int_int.l0]
      rw [if_pos (by omega), if_pos (by omega), if_pos (by omega), if_pos (by omega), g1, g2, if_pos rfl, wr_succ (by omega), List.length_append, List.length_singleton]
    · rw [decide_eq_false (show ¬ (x :: s1 = y :: s2) by simp [hx])]
      refine Ev.done fun k => ?_
      simp only [slices_Equal_int_int.l0]
      rw [if_pos (by omega), if_pos (by omega), if_pos (by omega), if_pos (by omega), g1, g2, if_neg hx]
theorem slices_Equal_ev (l R : List Int) (hl : l.length = R.length) (hR : R.length ≤ 1000000) : Ev (fun k => slices_Equal_int_int.f k l R) (decide (l = R)) := by
  unfold slices_Equal_int_int.f
  simp only [if_pos (show (l.length : Int) = (R.length : Int) by omega)]
  exact slices_Equal_l R l hl hR l R [] rfl rfl
theorem ints_inj : ∀ {l m : List Nat}, ints l = ints m → l = m
  | [], [], _ => rfl
  | [], y :: m, h => by cases h
  | x :: l, [], h => by cases h
  | x :: l, y :: m, h => by
    have h1 : (x : Int) :: ints l = (y : Int) :: ints m := h
    injection h1 with h2 h3
    rw [Int.ofNat.inj h2, ints_inj h3]
theorem impl_N_l1 (ps : List Nat) (hn : ps.Nodup) (hs : ∀ p ∈ ps, p ∈ SN) (hl : ps.length ≤ 6) (rs : List Nat) (hlen : rs.length = ps.length) (N : Nat) (hN : N < pd ps) (hm : ps.map (N % ·) = rs) : ∀ j i, i + j = N → Ev (fun k => impl_NumberWithRests.l1 k (ints ps) (ints rs) (i : Int)) ((N : Int), true)
  | j, i, e => by
    have hP := SN_le hn hs
    have h1 := impl_restsBy_ev ps hs hl i
    have h2 := slices_Equal_ev (ints (ps.map (i % ·))) (ints rs) (by rw [ints_len, ints_len, List.length_map, hlen]) (by rw [ints_len]; omega)
    refine Ev.step (f := ?f0) (fun k => ?a0) ?b0
    case a0 => simp only [impl_NumberWithRests.l1]; exact rfl
    refine h1.bind (h2.bind ?_)
    by_cases hc : ints (ps.map (i % ·)) = ints rs
    · have : i = N := sat_unique hn hs (by omega) hN (by rw [hm]; exact ints_inj hc)
      rw [decide_eq_true hc]
      simp only [if_true, this]
      exact Ev.now _
    · rw [decide_eq_false hc]
      simp only [Bool.false_eq_true, if_false, wr_succ (show i < 9223372036854775807 by omega)]
      cases j with
      | zero =>
        exfalso
        have : i = N := by omega
        exact hc (by rw [this, hm])
      | succ j => exact impl_N_l1 ps hn hs hl rs hlen N hN hm j (i + 1) (by omega)
theorem okR_nonneg : ∀ ps rs : List Int, okR ps rs = true → rs.length = ps.length → ∀ x ∈ rs, 0 ≤ x
  | [], [], _, _, x, hx => by cases hx
  | [], _ :: _, _, hl, _, _ => by simp at hl
  | _ :: _, [], _, hl, _, _ => by simp at hl
  | p :: ps, r :: rs, h, hl, x, hx => by
    have h2 : (if decide (0 ≤ r ∧ r < p) = true then okR ps rs else false) = true := h
    by_cases hc : 0 ≤ r ∧ r < p
    · rw [if_pos (decide_eq_true hc)] at h2
      rcases List.mem_cons.1 hx with rfl | hx
      · exact hc.1
      · exact okR_nonneg ps rs h2 (by simpa using hl) x hx
    · rw [decide_eq_false hc] at h2; cases h2
theorem okR_mods (n : Nat) : ∀ ps : List Nat, (∀ p ∈ ps, p ∈ SN) → okR (ints ps) (ints (ps.map (n % ·))) = true
  | [], _ => rfl
  | p :: ps, h => by
    have hp := SN_pos p (h p (by simp))
    have hm := Nat.mod_lt n (show 0 < p by omega)
    show (if decide (0 ≤ ((n % p : Nat) : Int) ∧ ((n % p : Nat) : Int) < (p : Int)) = true then okR (ints ps) (ints (ps.map (n % ·))) else false) = true
    rw [if_pos (decide_eq_true (by omega))]
    exact okR_mods n ps fun q hq => h q (by simp [hq])
theorem num_yes (ps : List Nat) (hd : dif [] (ints ps) = true) (hn : ps.Nodup) (hs : ∀ p ∈ ps, p ∈ SN) (hl : ps.length ≤ 6) (rs : List Nat) (hlen : rs.length = ps.length) (hok : okR (ints ps) (ints rs) = true) :
    ∃ N, N < pd ps ∧ ps.map (N % ·) = rs ∧ Ev (fun k => impl_NumberWithRests.f k (ints ps) (ints rs)) ((N : Int), true) ∧ Ev (fun k => spec_NumberWithRests.f k (ints ps) (ints rs)) ((N : Int), true) := by
  obtain ⟨N, n1, n2, n3⟩ := spec_N_l1 ps hn hs hl rs hlen ps rs [] [] 0 rfl rfl rfl hok (by decide) rfl
  obtain ⟨d1, d2⟩ := dif_both (ints ps) (by rw [ints_len]; omega)
  rw [hd] at d1 d2
  have hne : (((ints rs).length : Int) != ((ints ps).length : Int)) = false := by rw [bne_eq_false_iff_eq, ints_len, ints_len, hlen]
  have hPl : (ints ps).length ≤ 6 := by rw [ints_len]; exact hl
  have hPR : (ints rs).length = (ints ps).length := by rw [ints_len, ints_len, hlen]
  have hw : ∀ p ∈ ints ps, 2 ≤ p ∧ p ≤ 13 := by
    intro p hp
    obtain ⟨q, hq, rfl⟩ := List.mem_map.1 hp
    have := SN_pos q (hs q hq)
    omega
  have i1 := impl_N_l0 (ints ps) (ints rs) hPl hPR _ (impl_N_l1 ps hn hs hl rs hlen N n1 n2 N 0 (by omega)) (ints ps) (ints rs) [] [] rfl rfl rfl
  have i2 := spec_N_l0 (ints ps) (ints rs) hPl hPR hw _ n3 (ints ps) (ints rs) [] [] rfl rfl rfl
  rw [if_pos hok] at i1 i2
  refine ⟨N, n1, n2, ?_, ?_⟩
  · unfold impl_NumberWithRests.f
    refine d1.bind ?_
    simp only [if_true]
    rw [hne]
    refine Ev.step (fun k => ?_) i1
    simp only [impl_NumberWithRests.j0, Bool.false_eq_true, if_false]
    rfl
  · unfold spec_NumberWithRests.f
    refine d2.bind ?_
    simp only [if_true]
    rw [hne]
    refine Ev.step (fun k => ?_) i2
    simp only [spec_NumberWithRests.j0, Bool.false_eq_true, if_false]
    rfl
/-- What is told of a number: nothing, or the least one. -/
theorem num_both (l r : List Int) (hl : l.length ≤ 100000) (hr : r.length ≤ 100000) : ∃ (N : Int) (b : Bool), Ev (fun k => impl_NumberWithRests.f k l r) (N, b) ∧ Ev (fun k => spec_NumberWithRests.f k l r) (N, b)
    ∧ (b = true → ∃ (ps rs : List Nat) (M : Nat), l = ints ps ∧ r = ints rs ∧ dif [] (ints ps) = true ∧ (∀ p ∈ ps, p ∈ SN) ∧ ps.length ≤ 6 ∧ N = (M : Int) ∧ M ≤ 30030 ∧ ps.map (M % ·) = rs) := by
  obtain ⟨d1, d2⟩ := dif_both l (by omega)
  cases hd : dif [] l
  · rw [hd] at d1 d2
    have j1 : Ev (fun k => impl_NumberWithRests.j0 k l r true) (0, false) := Ev.done fun k => by simp only [impl_NumberWithRests.j0, if_true]
    have j2 : Ev (fun k => spec_NumberWithRests.j0 k l r true) (0, false) := Ev.done fun k => by simp only [spec_NumberWithRests.j0, if_true]
    refine ⟨0, false, ?_, ?_, fun h => by cases h⟩
    · unfold impl_NumberWithRests.f
      refine d1.bind ?_
      simp only [Bool.false_eq_true, if_false]
      exact j1
    · unfold spec_NumberWithRests.f
      refine d2.bind ?_
      simp only [Bool.false_eq_true, if_false]
      exact j2
  · obtain ⟨ps, rfl, hn, hs, hp6⟩ := dif_nat hd
    by_cases hlen : r.length = (ints ps).length
    · by_cases hok : okR (ints ps) r = true
      · have hr2 := ints_back (okR_nonneg (ints ps) r hok hlen)
        generalize r.map Int.toNat = rs at hr2
        subst hr2
        rw [ints_len, ints_len] at hlen
        obtain ⟨N, n1, n2, n3, n4⟩ := num_yes ps hd hn hs hp6 rs hlen hok
        have := SN_le hn hs
        exact ⟨N, true, n3, n4, fun _ => ⟨ps, rs, N, rfl, rfl, hd, hs, hp6, rfl, by omega, n2⟩⟩
      · rw [hd] at d1 d2
        have hne : ((r.length : Int) != ((ints ps).length : Int)) = false := by rw [bne_eq_false_iff_eq, hlen]
        have hPl : (ints ps).length ≤ 6 := by rw [ints_len]; exact hp6
        have hw : ∀ p ∈ ints ps, 2 ≤ p ∧ p ≤ 13 := by
          intro p hp
          obtain ⟨q, hq, rfl⟩ := List.mem_map.1 hp
          have := SN_pos q (hs q hq)
          omega
        have g1 : ∀ (ps' rs' pp rp : List Int), pp ++ ps' = ints ps → rp ++ rs' = r → pp.length = rp.length → okR ps' rs' = false → Ev (fun k => impl_NumberWithRests.l0 k (ints ps) r (ints ps) ((ints ps).length : Int) (pp.length : Int)) (0, false) ∧ Ev (fun k => spec_NumberWithRests.l0 k (ints ps) r r (r.length : Int) (pp.length : Int)) (0, false) := by
          intro ps' 
          induction ps' with
          | nil => intro rs' _ _ _ _ _ hh; cases rs' <;> cases hh
          | cons p ps' ih =>
            intro rs' pp rp e1 e2 e3 hh
            cases rs' with
            | nil => cases hh
            | cons x rs' =>
              have h1 : (ints ps).length = pp.length + 1 + ps'.length := by rw [← e1]; simp; omega
              have q1 : rd (ints ps) (pp.length : Int) = p := by rw [← e1]; exact rd_mid_ pp p ps'
              have q2 : rd r (pp.length : Int) = x := by rw [← e2, e3]; exact rd_mid_ rp x rs'
              have hp := hw p (by rw [← e1]; simp)
              have h2 : (if decide (0 ≤ x ∧ x < p) = true then okR ps' rs' else false) = false := hh
              by_cases hx : 0 ≤ x ∧ x < p
              · rw [if_pos (decide_eq_true hx)] at h2
                obtain ⟨i1, i2⟩ := ih rs' (pp ++ [p]) (rp ++ [x]) (by rw [← e1]; simp) (by rw [← e2]; simp) (by simp [e3]) h2
                refine ⟨Ev.step (fun k => ?_) i1, Ev.step (fun k => ?_) i2⟩
                · simp only [impl_NumberWithRests.l0]
                  rw [if_pos (by omega), if_pos (by omega), if_pos (by omega), if_pos (by omega), q1, q2, if_neg (by omega), if_neg (by omega), wr_succ (by omega), List.length_append, List.length_singleton]
                · simp only [spec_NumberWithRests.l0]
                  rw [if_pos (by omega), if_pos (by omega), if_pos (by omega), if_pos (by omega), q1, q2, wri (show -9223372036854775808 ≤ p - 1 by omega) (by omega), spec_l1In_eq, decide_eq_true (show 0 ≤ x ∧ x ≤ p - 1 by omega)]
                  simp only [Option.bind_some, if_true]
                  rw [wr_succ (by omega), List.length_append, List.length_singleton]
              · refine ⟨Ev.done fun k => ?_, Ev.done fun k => ?_⟩
                · simp only [impl_NumberWithRests.l0]
                  rw [if_pos (by omega), if_pos (by omega), if_pos (by omega), if_pos (by omega), q1, q2]
                  by_cases h0 : x < 0
                  · rw [if_pos h0]
                  · rw [if_neg h0, if_pos (by omega)]
                · simp only [spec_NumberWithRests.l0]
                  rw [if_pos (by omega), if_pos (by omega), if_pos (by omega), if_pos (by omega), q1, q2, wri (show -9223372036854775808 ≤ p - 1 by omega) (by omega), spec_l1In_eq, decide_eq_false (show ¬ (0 ≤ x ∧ x ≤ p - 1) by omega)]
                  simp only [Option.bind_some, Bool.false_eq_true, if_false]
        obtain ⟨i1, i2⟩ := g1 (ints ps) r [] [] rfl rfl rfl (Bool.eq_false_iff.2 hok)
        refine ⟨0, false, ?_, ?_, fun h => by cases h⟩
        · unfold impl_NumberWithRests.f
          refine d1.bind ?_
          simp only [if_true]
          rw [hne]
          refine Ev.step (fun k => ?_) i1
          simp only [impl_NumberWithRests.j0, Bool.false_eq_true, if_false]
          rfl
        · unfold spec_NumberWithRests.f
          refine d2.bind ?_
          simp only [if_true]
          rw [hne]
          refine Ev.step (fun k => ?_) i2
          simp only [spec_NumberWithRests.j0, Bool.false_eq_true, if_false]
          rfl
    · rw [hd] at d1 d2
      have hne : ((r.length : Int) != ((ints ps).length : Int)) = true := by rw [bne_iff_ne]; omega
      have j1 : Ev (fun k => impl_NumberWithRests.j0 k (ints ps) r true) (0, false) := Ev.done fun k => by simp only [impl_NumberWithRests.j0, if_true]
      have j2 : Ev (fun k => spec_NumberWithRests.j0 k (ints ps) r true) (0, false) := Ev.done fun k => by simp only [spec_NumberWithRests.j0, if_true]
      refine ⟨0, false, ?_, ?_, fun h => by cases h⟩
      · unfold impl_NumberWithRests.f
        refine d1.bind ?_
        simp only [if_true]
        rw [hne]
        exact j1
      · unfold spec_NumberWithRests.f
        refine d2.bind ?_
        simp only [if_true]
        rw [hne]
        exact j2
theorem law_l3 (n : Nat) (hn : n ≤ 1000000000) (ps : List Nat) (hN : ps.Nodup) (hs : ∀ p ∈ ps, p ∈ SN) (hl : ps.length ≤ 6) : ∀ suf pre, pre ++ suf = ps → Ev (fun k => laws_FnPlacesOfPatterns.l3 k (n : Int) ((n % pd ps : Nat) : Int) true ((pd pre : Nat) : Int) (ints ps) ((ints ps).length : Int) (pre.length : Int)) true
  | [], pre, e => by
    rw [List.append_nil] at e
    subst e
    have hP : 0 < pd pre := Nat.pos_of_ne_zero fun h0 => by
      have hh : ∀ l : List Nat, (∀ p ∈ l, p ∈ SN) → 0 < pd l := by
        intro l
        induction l with
        | nil => intro _; exact Nat.one_pos
        | cons q l ih => intro h; exact Nat.mul_pos (by have := SN_pos q (h q (by simp)); omega) (ih fun x hx => h x (by simp [hx]))
      have := hh pre hs
      omega
    refine Ev.done fun k => ?_
    simp only [laws_FnPlacesOfPatterns.l3, if_true]
    rw [ints_len, if_neg (by omega), if_neg (by omega), tm, beq_self_eq_true]
  | p :: suf, pre, e => by
    have h1 : ps.length = pre.length + 1 + suf.length := by rw [← e]; simp; omega
    have hg : rd (ints ps) (pre.length : Int) = (p : Int) := by rw [← e]; exact ints_get pre p suf
    have ih := law_l3 n hn ps hN hs hl suf (pre ++ [p]) (by rw [← e]; simp)
    have hM : pd pre * p ≤ 30030 := by
      rw [← pd_app]
      have e4 : ps = (pre ++ [p]) ++ suf := by rw [← e]; simp
      rw [e4] at hN hs
      exact SN_le (List.nodup_append.1 hN).1 fun q hq => hs q (List.mem_append_left _ hq)
    refine Ev.step (fun k => ?_) ih
    simp only [laws_FnPlacesOfPatterns.l3]
    rw [ints_len, if_pos (by omega), if_pos (by omega), if_pos (by omega), hg, wr_mul (by omega), pd_app, wr_succ (by omega), List.length_append, List.length_singleton]
theorem laws_tRules_l (L : List S65) (hL : L.length ≤ 1000000000) : ∀ suf pre, pre ++ suf = L → Ev (fun k => laws_tRules.l0 k L L (L.length : Int) (pre.length : Int)) true
  | [], pre, e => by
    rw [List.append_nil] at e
    subst e
    refine Ev.done fun k => ?_
    simp only [laws_tRules.l0]
    rw [if_neg (by omega)]
  | x :: suf, pre, e => by
    have hlen : L.length = pre.length + 1 + suf.length := by rw [← e]; simp; omega
    have ih := laws_tRules_l L hL suf (pre ++ [x]) (by rw [← e]; simp)
    refine Ev.step (fun k => ?_) ih
    simp only [laws_tRules.l0, beq_self_eq_true, Bool.not_true, Bool.or_self, Bool.false_eq_true, if_false]
    rw [if_pos (by omega), if_pos (by omega), if_pos (by omega), if_pos (by omega), wr_succ (by omega), List.length_append, List.length_singleton]
theorem laws_tRules_self (L : List S65) (hL : L.length ≤ 1000000000) : Ev (fun k => laws_tRules.f k L L) true := by
  unfold laws_tRules.f
  exact Ev.congr (fun k => if_pos rfl) (laws_tRules_l L hL L [] rfl)
theorem impl_Rules_no (l : List Int) (a : Int) (hl : l.length ≤ 4000000000) (h : (isP l && decide (0 ≤ a ∧ a ≤ 6)) = false) : Ev (fun k => impl_RulesOfPattern.f k l a) (([] : List S65), false) ∧ Ev (fun k => spec_RulesOfPattern.f k l a) (([] : List S65), false) := by
  have hj : Ev (fun k => impl_RulesOfPattern.j0 k l a true) (([] : List S65), false) := Ev.done fun k => by simp only [impl_RulesOfPattern.j0, if_true]
  constructor
  · unfold impl_RulesOfPattern.f
    refine (impl_isPattern_ev l hl).bind ?_
    cases hp : isP l
    · simp only [Bool.false_eq_true, if_false]
      exact hj
    · rw [hp, Bool.true_and, decide_eq_false_iff_not] at h
      simp only [if_true]
      by_cases ha : a < 0
      · simp only [if_pos ha]
        exact hj
      · simp only [if_neg ha]
        rw [decide_eq_true (show a > 6 by omega)]
        exact hj
  · unfold spec_RulesOfPattern.f
    refine (spec_reAsked_ev l a hl).bind ?_
    rw [h]
    simp only [Bool.false_eq_true, if_false]
    exact Ev.now _
/-- The rules that are told: none if they are too many. -/
def rlV (m : List Nat) (n : Nat) : List S65 × Bool := if (RL m n).length ≤ 12 then (RL m n, true) else (([] : List S65), false)
theorem rules_yes (m : List Nat) (hm : m.length ≤ 100) (hx : ∀ x ∈ m, x ≤ 60) (hp : isP (ints m) = true) (n : Nat) (hn : n ≤ 6) : Ev (fun k => impl_RulesOfPattern.f k (ints m) (n : Int)) (rlV m n) ∧ Ev (fun k => spec_RulesOfPattern.f k (ints m) (n : Int)) (rlV m n) := by
  have hl : (ints m).length ≤ 4000000000 := by rw [ints_len]; omega
  have hok := RL_ok m n hn
  have hsi := spec_siGood_ev (RL m n) hok
  have har := impl_areRules_ev (RL m n) hok
  have hif : Ev (fun _ : Nat => if decide ((RL m n).length ≤ 12) = true then some (RL m n, true) else some (([] : List S65), false)) (rlV m n) := by
    unfold rlV
    by_cases h : (RL m n).length ≤ 12
    · simp only [h, decide_true, if_true]
      exact Ev.now _
    · simp only [h, decide_false, Bool.false_eq_true, if_false]
      exact Ev.now _
  constructor
  · unfold impl_RulesOfPattern.f
    refine (impl_isPattern_ev (ints m) hl).bind ?_
    rw [hp]
    simp only [if_true, if_neg (show ¬ (n : Int) < 0 by omega)]
    rw [decide_eq_false (show ¬ (n : Int) > 6 by omega)]
    refine Ev.step (f := ?f0) (fun k => ?a0) ?b0
    case a0 => simp only [impl_RulesOfPattern.j0, Bool.false_eq_true, if_false]; exact rfl
    exact (impl_rules_ev m hm hx n hn).bind (har.bind hif)
  · unfold spec_RulesOfPattern.f
    refine (spec_reAsked_ev (ints m) (n : Int) hl).bind ?_
    rw [hp, decide_eq_true (show 0 ≤ (n : Int) ∧ (n : Int) ≤ 6 by omega), Bool.true_and]
    simp only [if_true]
    exact spec_Rules_l0 m hm n hn _ (hsi.bind hif) n 0 (by omega)
/-! a cursor over bytes: it never fails -/
def Bytes (l : List Int) : Prop := ∀ x ∈ l, (0 : Int) ≤ x ∧ x ≤ 255
theorem bytes_of {l : List Int} (h : ∀ x ∈ l, (Lit.int .u8 x).wf = true) : Bytes l := by
  intro x hx
  have := h x hx
  simpa [Lit.wf, IntKind.min, IntKind.max, IntKind.signed, IntKind.bits] using this
theorem and255 (x : Int) : 0 ≤ Go.bits .and .u64 x 255 ∧ Go.bits .and .u64 x 255 ≤ 255 := by
  have hb : (BitVec.ofInt 64 x &&& BitVec.ofInt 64 255).toNat ≤ 255 := by
    rw [BitVec.toNat_and]
    have : (BitVec.ofInt 64 255).toNat = 255 := by decide
    rw [this]
    exact Nat.and_le_right
  have e : Go.bits .and .u64 x 255 = IntKind.u64.wrap ((BitVec.ofInt 64 x &&& BitVec.ofInt 64 255).toNat : Int) := rfl
  rw [e]
  generalize (BitVec.ofInt 64 x &&& BitVec.ofInt 64 255).toNat = m at *
  have e2 : IntKind.u64.wrap (m : Int) = m := by
    have : IntKind.u64.wrap (m : Int) = (m : Int) % 18446744073709551616 := by simp [IntKind.wrap, IntKind.bits, IntKind.signed]
    rw [this]; omega
  rw [e2]; omega
theorem rd_byte {l : List Int} (h : Bytes l) (i : Int) : 0 ≤ rd l i ∧ rd l i ≤ 255 := by
  unfold rd
  rw [List.getD_eq_getElem?_getD]
  cases hg : l[i.toNat]? with
  | none => simp
  | some x => exact h x (List.mem_of_getElem? hg)
theorem wr_byte {x : Int} (h : 0 ≤ x ∧ x ≤ 255) : wrap64 x = x := wri (by omega) (by omega)
/-- The next byte, or what stands for one. -/
theorem next_ok {l : List Int} (h : Bytes l) (a s : Int) (h0 : 0 ≤ a) (h1 : a ≤ 1000000000) : ∃ v s', spec_l1Cur_next.f l a s = some (v, a + 1, s') ∧ 0 ≤ v ∧ v ≤ 255 := by
  have hr := rd_byte h a
  have ea : wrap64 (a + 1) = a + 1 := wri (by omega) (by omega)
  unfold spec_l1Cur_next.f
  rw [ea, if_pos h0]
  by_cases c1 : a < (l.length : Int)
  · rw [if_pos c1]
    by_cases c2 : a + 1 ≤ (l.length : Int)
    · rw [if_pos c2]; exact ⟨_, _, rfl, by rw [wr_byte hr]; exact hr⟩
    · rw [if_neg c2]; exact ⟨_, _, rfl, by rw [wr_byte (and255 _)]; exact and255 _⟩
  · rw [if_neg c1]
    by_cases c2 : a + 1 ≤ (l.length : Int)
    · rw [if_pos c2]; exact ⟨_, _, rfl, by decide⟩
    · rw [if_neg c2]; exact ⟨_, _, rfl, by rw [wr_byte (and255 _)]; exact and255 _⟩
theorem pick_ok {l : List Int} (h : Bytes l) (a s n : Int) (h0 : 0 ≤ a) (h1 : a ≤ 900000000) (hn : n ≤ 1000000) : ∃ v a' s', spec_l1Cur_pick.f l a s n = some (v, a', s') ∧ a ≤ a' ∧ a' ≤ a + 2 ∧ 0 ≤ v ∧ (1 ≤ n → v < n) := by
  unfold spec_l1Cur_pick.f
  by_cases c : n ≤ 1
  · rw [if_pos c]; exact ⟨0, a, s, rfl, Int.le_refl _, by omega, Int.le_refl _, fun _ => by omega⟩
  · rw [if_neg c]
    obtain ⟨v, s1, e1, v0, v1⟩ := next_ok h a s h0 (by omega)
    rw [e1]
    simp only [Option.bind_some]
    have hm : ∀ z : Int, 0 ≤ z → 0 ≤ Int.tmod z n ∧ Int.tmod z n < n := fun z hz => ⟨Int.tmod_nonneg _ hz, Int.tmod_lt_of_pos _ (by omega)⟩
    by_cases c2 : n > 200
    · rw [if_pos c2]
      obtain ⟨u, s2, e2, u0, u1⟩ := next_ok h (a + 1) s1 (by omega) (by omega)
      rw [e2]
      simp only [Option.bind_some]
      rw [if_neg (by omega)]
      have e3 : wrap64 (v * 256) = v * 256 := wri (by omega) (by omega)
      have e4 : wrap64 (v * 256 + u) = v * 256 + u := wri (by omega) (by omega)
      rw [e3, e4]
      exact ⟨_, _, _, rfl, by omega, by omega, (hm _ (by omega)).1, fun _ => (hm _ (by omega)).2⟩
    · rw [if_neg c2, if_neg (by omega)]
      exact ⟨_, _, _, rfl, by omega, by omega, (hm _ v0).1, fun _ => (hm _ v0).2⟩
theorem one_ok {l : List Int} (h : Bytes l) (a s n : Int) (h0 : 0 ≤ a) (h1 : a ≤ 900000000) (hn : n ≤ 1000000) : ∃ v a' s', spec_l1Cur_one.f l a s n = some (v, a', s') ∧ a ≤ a' ∧ a' ≤ a + 2 := by
  obtain ⟨v, a', s', e, k1, k2, _, _⟩ := pick_ok h a s n h0 h1 hn
  unfold spec_l1Cur_one.f
  rw [e]
  exact ⟨_, _, _, rfl, k1, k2⟩
theorem among_ok {l : List Int} (h : Bytes l) (a s : Int) (m : List Int) (h0 : 0 ≤ a) (h1 : a ≤ 900000000) (hm : 1 ≤ m.length) (hn : m.length ≤ 1000000) : ∃ v a' s', spec_l1Cur_among.f l a s m = some (v, a', s') ∧ a ≤ a' ∧ a' ≤ a + 2 := by
  obtain ⟨v, a', s', e, k1, k2, v0, v1⟩ := pick_ok h a s (m.length : Int) h0 h1 (by omega)
  unfold spec_l1Cur_among.f
  rw [e]
  simp only [Option.bind_some]
  rw [if_pos v0, if_pos (v1 (by omega))]
  exact ⟨_, _, _, rfl, k1, k2⟩
theorem pat_l1 {l : List Int} (h : Bytes l) : ∀ (r : Nat) (out : List Int) (a s : Int), 1 ≤ out.length → out.length ≤ 100 → 9 ≤ out.length + r → 0 ≤ a → a + 2 * r ≤ 1000000 → ∃ v a' s', Ev (fun k => spec_l1Cur_pattern.l1 k out l a s) (v, a', s') ∧ a ≤ a' ∧ a' ≤ a + 2 * r + 2 ∧ v.length ≤ 200 := by
  intro r
  induction r with
  | zero =>
    intro out a s h1 h2 h3 h4 h5
    obtain ⟨c, a3, s3, e3, p3, q3, c0, c1⟩ := pick_ok h a s 2 h4 (by omega) (by decide)
    have hc := c1 (by decide)
    refine ⟨out, a3, s3, Ev.done fun k => ?_, by omega, by omega, by omega⟩
    simp only [spec_l1Cur_pattern.l1]
    rw [e3]
    simp only [Option.bind_some]
    rw [wri (show -9223372036854775808 ≤ 8 + c by omega) (by omega), if_neg (by omega)]
  | succ r ih =>
    intro out a s h1 h2 h3 h4 h5
    obtain ⟨c, a3, s3, e3, p3, q3, c0, c1⟩ := pick_ok h a s 2 h4 (by omega) (by decide)
    have hc := c1 (by decide)
    by_cases hl : (out.length : Int) < 8 + c
    · obtain ⟨v, a', s', hv, w1, w2, w3⟩ := ih (out ++ [wrap64 ((rd out (wrap64 ((out.length : Int) - 1))) + 6)]) a3 s3 (by simp) (by simp; omega) (by simp; omega) (by omega) (by omega)
      refine ⟨v, a', s', Ev.step (fun k => ?_) hv, by omega, by omega, w3⟩
      simp only [spec_l1Cur_pattern.l1]
      rw [e3]
      simp only [Option.bind_some]
      have hw := wri (show -9223372036854775808 ≤ (out.length : Int) - 1 by omega) (by omega)
      rw [wri (show -9223372036854775808 ≤ 8 + c by omega) (by omega), if_pos hl, if_pos (by rw [hw]; omega), if_pos (by rw [hw]; omega), if_pos (by omega)]
    · refine ⟨out, a3, s3, Ev.done fun k => ?_, by omega, by omega, by omega⟩
      simp only [spec_l1Cur_pattern.l1]
      rw [e3]
      simp only [Option.bind_some]
      rw [wri (show -9223372036854775808 ≤ 8 + c by omega) (by omega), if_neg hl]
theorem primes_l0 {l : List Int} (h : Bytes l) : ∀ (r : Nat) (ps : List Nat) (a s : Int), ps.length + r ≤ 5 → 0 ≤ a → a + 2 * r ≤ 1000000 → ∃ v a' s', Ev (fun k => spec_l1Cur_primesFor.l0 k (ints ps) (r : Int) l a s) (v, a', s') ∧ a ≤ a' ∧ a' ≤ a + 2 * r + 10 ∧ v.length ≤ 10 := by
  intro r
  induction r with
  | zero =>
    intro ps a s h1 h4 h5
    obtain ⟨b, a2, s2, e2, p2, q2⟩ := one_ok h a s 12 h4 (by omega) (by decide)
    cases b with
    | true =>
      obtain ⟨x, a5, s5, e5, p5, q5⟩ := among_ok h a2 s2 [1, 2, 4, 17, (-3)] (by omega) (by omega) (by decide) (by decide)
      refine ⟨ints ps ++ [x], a5, s5, Ev.done fun k => ?_, by omega, by omega, by rw [List.length_append, ints_len, List.length_singleton]; omega⟩
      simp only [spec_l1Cur_primesFor.l0]
      rw [if_neg (by omega), e2]
      simp only [Option.bind_some, if_true]
      rw [e5]
      simp only [Option.bind_some]
      rw [if_pos (by rw [ints_len]; omega)]
    | false =>
      refine ⟨ints ps, a2, s2, Ev.done fun k => ?_, by omega, by omega, by rw [ints_len]; omega⟩
      simp only [spec_l1Cur_primesFor.l0]
      rw [if_neg (by omega), e2]
      simp only [Option.bind_some, Bool.false_eq_true, if_false]
  | succ r ih =>
    intro ps a s h1 h4 h5
    obtain ⟨c, a3, s3, e3, p3, q3, c0, c1⟩ := pick_ok h a s 6 h4 (by omega) (by decide)
    have hc := c1 (by decide)
    obtain ⟨c, rfl⟩ := Int.eq_ofNat_of_zero_le c0
    have hr := spec_rePrime_eq c (by omega)
    have hh := spec_l1Has_ev ps (P6 c) (by omega)
    have hw : wrap64 (((r + 1 : Nat) : Int) - 1) = (r : Int) := by rw [wri (by omega) (by omega)]; omega
    cases hb : (ps.any fun x => x == P6 c)
    · obtain ⟨v, a', s', hv, w1, w2, w3⟩ := ih (ps ++ [P6 c]) a3 s3 (by simp; omega) (by omega) (by omega)
      refine ⟨v, a', s', Ev.step (f := ?f0) (fun k => ?a0) ?b0, by omega, by omega, w3⟩
      case a0 =>
        simp only [spec_l1Cur_primesFor.l0]
        rw [if_pos (by omega), e3]
      refine (Ev.now _).bind ?_
      simp only [hr, Option.bind_some]
      rw [hb] at hh
      refine hh.bind ?_
      simp only [Bool.false_eq_true, if_false, hw, if_pos (show (ints ps).length < 17592186044416 by rw [ints_len]; omega)]
      rw [← ints_app] at hv
      exact hv
    · obtain ⟨v, a', s', hv, w1, w2, w3⟩ := ih ps a3 s3 (by omega) (by omega) (by omega)
      refine ⟨v, a', s', Ev.step (f := ?f1) (fun k => ?a1) ?b1, by omega, by omega, w3⟩
      case a1 =>
        simp only [spec_l1Cur_primesFor.l0]
        rw [if_pos (by omega), e3]
      refine (Ev.now _).bind ?_
      simp only [hr, Option.bind_some]
      rw [hb] at hh
      refine hh.bind ?_
      simp only [if_true, hw]
      exact hv
theorem pat_l0 {l : List Int} (h : Bytes l) (b : Bool) : ∀ (r : Nat) (out : List Int) (a s : Int), 1 ≤ out.length → out.length + r ≤ 50 → 0 ≤ a → a + 4 * r ≤ 900000 → ∃ v a' s', Ev (fun k => spec_l1Cur_pattern.l0 k out b (r : Int) l a s) (v, a', s') ∧ a ≤ a' ∧ a' ≤ a + 4 * r + 50 ∧ v.length ≤ 200 := by
  intro r
  induction r with
  | zero =>
    intro out a s h1 h2 h4 h5
    obtain ⟨c, a3, s3, e3, p3, q3, c0, c1⟩ := pick_ok h a s 14 h4 (by omega) (by decide)
    by_cases k0 : c = 0
    · obtain ⟨i, a4, s4, e4, p4, q4, i0, i1⟩ := pick_ok h a3 s3 (out.length : Int) (by omega) (by omega) (by omega)
      obtain ⟨x, a5, s5, e5, p5, q5⟩ := among_ok h a4 s4 [(-1), 0, 1, 60, 61, 4611686018427387904] (by omega) (by omega) (by decide) (by decide)
      have i2 := i1 (by omega)
      refine ⟨out.set i.toNat x, a5, s5, Ev.done fun k => ?_, by omega, by omega, by rw [List.length_set]; omega⟩
      simp only [spec_l1Cur_pattern.l0]
      rw [if_neg (by omega), e3]
      simp only [Option.bind_some]
      rw [if_pos k0, e4]
      simp only [Option.bind_some]
      rw [e5]
      simp only [Option.bind_some]
      rw [if_pos (by omega), if_pos (by omega)]
    · by_cases k1 : c = 1
      · refine ⟨[], a3, s3, Ev.done fun k => ?_, by omega, by omega, by simp⟩
        simp only [spec_l1Cur_pattern.l0]
        rw [if_neg (by omega), e3]
        simp only [Option.bind_some]
        rw [if_neg k0, if_pos k1]
      · by_cases k2 : c = 2
        · obtain ⟨v, a', s', hv, w1, w2, w3⟩ := pat_l1 h 9 out a3 s3 h1 (by omega) (by omega) (by omega) (by omega)
          refine ⟨v, a', s', Ev.step (fun k => ?_) hv, by omega, by omega, w3⟩
          simp only [spec_l1Cur_pattern.l0]
          rw [if_neg (by omega), e3]
          simp only [Option.bind_some]
          rw [if_neg k0, if_neg k1, if_pos k2]
        · refine ⟨out, a3, s3, Ev.done fun k => ?_, by omega, by omega, by omega⟩
          simp only [spec_l1Cur_pattern.l0]
          rw [if_neg (by omega), e3]
          simp only [Option.bind_some]
          rw [if_neg k0, if_neg k1, if_neg k2]
  | succ r ih =>
    intro out a s h1 h2 h4 h5
    obtain ⟨c, a3, s3, e3, p3, q3, c0, c1⟩ := pick_ok h a s 7 h4 (by omega) (by decide)
    have hw : wrap64 (((r + 1 : Nat) : Int) - 1) = (r : Int) := by rw [wri (by omega) (by omega)]; omega
    have hl := wri (show -9223372036854775808 ≤ (out.length : Int) - 1 by omega) (by omega)
    cases b with
    | true =>
      obtain ⟨d, a4, s4, e4, p4, q4, d0, d1⟩ := pick_ok h a3 s3 4 (by omega) (by omega) (by decide)
      obtain ⟨v, a', s', hv, w1, w2, w3⟩ := ih (out ++ [wrap64 ((rd out (wrap64 ((out.length : Int) - 1))) + (wrap64 (2 * (wrap64 (1 + d)))))]) a4 s4 (by simp) (by simp; omega) (by omega) (by omega)
      refine ⟨v, a', s', Ev.step (fun k => ?_) hv, by omega, by omega, w3⟩
      simp only [spec_l1Cur_pattern.l0, if_true]
      rw [if_pos (by omega), e3]
      simp only [Option.bind_some]
      rw [e4]
      simp only [Option.bind_some]
      rw [if_pos (by rw [hl]; omega), if_pos (by rw [hl]; omega), if_pos (by omega), hw]
    | false =>
      obtain ⟨v, a', s', hv, w1, w2, w3⟩ := ih (out ++ [wrap64 ((rd out (wrap64 ((out.length : Int) - 1))) + (wrap64 (1 + c)))]) a3 s3 (by simp) (by simp; omega) (by omega) (by omega)
      refine ⟨v, a', s', Ev.step (fun k => ?_) hv, by omega, by omega, w3⟩
      simp only [spec_l1Cur_pattern.l0, Bool.false_eq_true, if_false]
      rw [if_pos (by omega), e3]
      simp only [Option.bind_some]
      rw [if_pos (by rw [hl]; omega), if_pos (by rw [hl]; omega), if_pos (by omega), hw]
/-- A pattern can be drawn. -/
theorem pattern_ok {l : List Int} (h : Bytes l) (a s : Int) (h0 : 0 ≤ a) (h1 : a ≤ 100000) : ∃ v a' s', Ev (fun k => spec_l1Cur_pattern.f k l a s) (v, a', s') ∧ a ≤ a' ∧ a' ≤ a + 200 ∧ v.length ≤ 200 := by
  obtain ⟨b, a2, s2, e2, p2, q2⟩ := one_ok h a s 2 h0 (by omega) (by decide)
  obtain ⟨c, a3, s3, e3, p3, q3, c0, c1⟩ := pick_ok h a2 s2 5 (by omega) (by omega) (by decide)
  have hc := c1 (by decide)
  obtain ⟨c, rfl⟩ := Int.eq_ofNat_of_zero_le c0
  obtain ⟨v, a', s', hv, w1, w2, w3⟩ := pat_l0 h b c [0] a3 s3 (by simp) (by simp; omega) (by omega) (by omega)
  refine ⟨v, a', s', ?_, by omega, by omega, w3⟩
  unfold spec_l1Cur_pattern.f
  simp only [e2, e3, Option.bind_some]
  exact hv
/-- Primes can be drawn. -/
theorem primesFor_ok {l : List Int} (h : Bytes l) (a s : Int) (h0 : 0 ≤ a) (h1 : a ≤ 100000) : ∃ v a' s', Ev (fun k => spec_l1Cur_primesFor.f k l a s) (v, a', s') ∧ a ≤ a' ∧ a' ≤ a + 100 ∧ v.length ≤ 10 := by
  obtain ⟨c, a3, s3, e3, p3, q3, c0, c1⟩ := pick_ok h a s 5 h0 (by omega) (by decide)
  have hc := c1 (by decide)
  obtain ⟨c, rfl⟩ := Int.eq_ofNat_of_zero_le c0
  obtain ⟨v, a', s', hv, w1, w2, w3⟩ := primes_l0 h c [] a3 s3 (by simp; omega) (by omega) (by omega)
  refine ⟨v, a', s', ?_, by omega, by omega, w3⟩
  unfold spec_l1Cur_primesFor.f
  simp only [e3, Option.bind_some]
  exact hv
theorem upTo_okAt {l : List Int} (h : Bytes l) (a s : Int) (h0 : 0 ≤ a) (h1 : a ≤ 1000000) : ∃ v a' s', spec_l1Cur_upTo.f l a s = some (v, a', s') ∧ a ≤ a' ∧ a' ≤ a + 10 := by
  obtain ⟨b, a2, s2, e2, p2, q2⟩ := one_ok h a s 12 h0 (by omega) (by decide)
  unfold spec_l1Cur_upTo.f
  rw [e2]
  simp only [Option.bind_some]
  cases b with
  | true =>
    obtain ⟨x, a5, s5, e5, p5, q5⟩ := among_ok h a2 s2 [(-1), 0, 600, 601, 4611686018427387904] (by omega) (by omega) (by decide) (by decide)
    simp only [if_true, e5, Option.bind_some]
    exact ⟨_, _, _, rfl, by omega, by omega⟩
  | false =>
    obtain ⟨c, a3, s3, e3, p3, q3, _, _⟩ := pick_ok h a2 s2 120 (by omega) (by omega) (by decide)
    simp only [Bool.false_eq_true, if_false, e3, Option.bind_some]
    exact ⟨_, _, _, rfl, by omega, by omega⟩
theorem placesIn_drawn {z : List Int} (h : Bytes z) : ∃ (v : List Int) (n : Int), Ev (fun k => spec_DrawPlacesInPeriod.f k z) (v, n) ∧ v.length ≤ 200 := by
  obtain ⟨v, a, s, hv, p1, q1, hl⟩ := pattern_ok h 0 0 (by decide) (by decide)
  obtain ⟨c1, a1, s1, e1, p1', q1', _, _⟩ := pick_ok h a s 7 (by omega) (by omega) (by decide)
  obtain ⟨c2, a2, s2, e2, p2, q2, _, _⟩ := pick_ok h a1 s1 9 (by omega) (by omega) (by decide)
  obtain ⟨c3, a3, s3, e3, p3, q3, _, _⟩ := pick_ok h a2 s2 9 (by omega) (by omega) (by decide)
  refine ⟨v, wrap64 (wrap64 (c1 + wrap64 (Int.tdiv c2 8)) - wrap64 (Int.tdiv c3 8)), ?_, hl⟩
  unfold spec_DrawPlacesInPeriod.f
  refine hv.bind ?_
  simp only [e1, e2, e3, Option.bind_some]
  exact Ev.now _
theorem first_drawn {z : List Int} (h : Bytes z) : ∃ (v : List Int) (n m : Int), Ev (fun k => spec_DrawFirstPlaces.f k z) (v, n, m) ∧ v.length ≤ 200 := by
  obtain ⟨v, a, s, hv, p1, q1, hl⟩ := pattern_ok h 0 0 (by decide) (by decide)
  obtain ⟨c1, a1, s1, e1, p1', q1', _, _⟩ := pick_ok h a s 5 (by omega) (by omega) (by decide)
  obtain ⟨c2, a2, s2, e2, p2, q2⟩ := upTo_okAt h a1 s1 (by omega) (by omega)
  refine ⟨v, c1, c2, ?_, hl⟩
  unfold spec_DrawFirstPlaces.f
  refine hv.bind ?_
  simp only [e1, e2, Option.bind_some]
  exact Ev.now _
theorem primes_drawn {z : List Int} (h : Bytes z) : ∃ (v : List Int) (n : Int), Ev (fun k => spec_DrawPrimePlaces.f k z) (v, n) ∧ v.length ≤ 200 := by
  obtain ⟨v, a, s, hv, p1, q1, hl⟩ := pattern_ok h 0 0 (by decide) (by decide)
  obtain ⟨c2, a2, s2, e2, p2, q2⟩ := upTo_okAt h a s (by omega) (by omega)
  refine ⟨v, c2, ?_, hl⟩
  unfold spec_DrawPrimePlaces.f
  refine hv.bind ?_
  simp only [e2, Option.bind_some]
  exact Ev.now _
theorem restsOf_drawn {z : List Int} (h : Bytes z) : ∃ (v : List Int) (n : Int), Ev (fun k => spec_DrawRestsOfNumber.f k z) (v, n) ∧ v.length ≤ 200 := by
  obtain ⟨b, a, s, e0, p0, q0⟩ := one_ok h 0 0 12 (by decide) (by decide) (by decide)
  obtain ⟨v, a1, s1, hv, p1, q1, hl⟩ := primesFor_ok h a s (by omega) (by omega)
  unfold spec_DrawRestsOfNumber.f
  cases b with
  | true =>
    obtain ⟨x, a5, s5, e5, p5, q5⟩ := among_ok h a1 s1 [(-1), 1000000000, 1000000001] (by omega) (by omega) (by decide) (by decide)
    refine ⟨v, x, ?_, by omega⟩
    simp only [e0, Option.bind_some, if_true]
    refine hv.bind ?_
    simp only [e5, Option.bind_some]
    exact Ev.now _
  | false =>
    obtain ⟨x, a5, s5, e5, p5, q5, _, _⟩ := pick_ok h a1 s1 30031 (by omega) (by omega) (by decide)
    refine ⟨v, x, ?_, by omega⟩
    simp only [e0, Option.bind_some, Bool.false_eq_true, if_false]
    refine hv.bind ?_
    simp only [e5, Option.bind_some]
    exact Ev.now _
theorem nwr_ok {z : List Int} (h : Bytes z) : ∀ (ps x6 : List Int) (a s : Int), 0 ≤ a → a + 2 * ps.length ≤ 900000 → x6.length + ps.length ≤ 100 → ∃ v a' s', nwrGo z ps x6 a s = some (v, a', s') ∧ a ≤ a' ∧ a' ≤ a + 2 * ps.length ∧ v.length ≤ 100
  | [], x6, a, s, h0, h1, h2 => ⟨x6, a, s, rfl, by omega, by simp, by simpa using h2⟩
  | p :: ps, x6, a, s, h0, h1, h2 => by
    rw [List.length_cons] at h1 h2
    obtain ⟨t1, e1, b1⟩ : ∃ t1, spec_l1Least.f 20 p = some t1 ∧ t1 ≤ 20 := by
      unfold spec_l1Least.f
      by_cases hp : (20 : Int) < p
      · exact ⟨20, if_pos hp, by omega⟩
      · exact ⟨p, if_neg hp, by omega⟩
    obtain ⟨t2, e2, b2⟩ : ∃ t2, spec_l1Most.f 1 t1 = some t2 ∧ t2 ≤ 20 := by
      unfold spec_l1Most.f
      by_cases hp : (1 : Int) > t1
      · exact ⟨1, if_pos hp, by omega⟩
      · exact ⟨t1, if_neg hp, by omega⟩
    obtain ⟨t3, a3, s3, e3, p3, q3, _, _⟩ := pick_ok h a s t2 h0 (by omega) (by omega)
    obtain ⟨v, a', s', e4, p4, q4, hl⟩ := nwr_ok h ps (x6 ++ [t3]) a3 s3 (by omega) (by omega) (by rw [List.length_append, List.length_singleton]; omega)
    refine ⟨v, a', s', ?_, by omega, by rw [List.length_cons]; omega, hl⟩
    simp only [nwrGo, e1, e2, e3, Option.bind_some]
    rw [if_pos (by omega)]
    exact e4
/-- Primes and rests can be drawn. -/
theorem number_drawn {z : List Int} (h : Bytes z) : ∃ (v r : List Int), Ev (fun k => spec_DrawNumberWithRests.f k z) (v, r) ∧ v.length ≤ 200 ∧ r.length ≤ 200 := by
  obtain ⟨v, a, s, hv, p0, q0, hl⟩ := primesFor_ok h 0 0 (by decide) (by decide)
  obtain ⟨x, a1, s1, e1, p1, q1, hx⟩ := nwr_ok h v [] a s (by omega) (by omega) (by simp; omega)
  obtain ⟨b, a2, s2, e2, p2, q2⟩ := one_ok h a1 s1 12 (by omega) (by omega) (by decide)
  obtain ⟨y, ey, hy⟩ : ∃ y : List Int, (if b = true then (if x.length < 17592186044416 then some (x ++ [0]) else none) else some x) = some y ∧ y.length ≤ 101 := by
    cases b with
    | true => exact ⟨x ++ [0], by rw [if_pos rfl, if_pos (by omega)], by rw [List.length_append, List.length_singleton]; omega⟩
    | false => exact ⟨x, rfl, by omega⟩
  obtain ⟨c, a3, s3, e3, p3, q3⟩ := one_ok h a2 s2 12 (by omega) (by omega) (by decide)
  obtain ⟨u, a4, s4, e4, p4, q4⟩ := among_ok h a3 s3 [(-1), 2, 13, 4611686018427387904] (by omega) (by omega) (by decide) (by decide)
  unfold spec_DrawNumberWithRests.f
  cases c with
  | true =>
    by_cases h6 : 0 < y.length
    · refine ⟨v, y.set 0 u, hv.bind ?_, by omega, by rw [List.length_set]; omega⟩
      simp only [e1, e2, ey, e3, e4, Option.bind_some, if_true, if_pos h6]
      exact Ev.now _
    · refine ⟨v, y, hv.bind ?_, by omega, by omega⟩
      simp only [e1, e2, ey, e3, Option.bind_some, if_true, if_neg h6]
      exact Ev.now _
  | false =>
    refine ⟨v, y, hv.bind ?_, by omega, by omega⟩
    simp only [e1, e2, ey, e3, Option.bind_some, Bool.false_eq_true, if_false]
    exact Ev.now _
/-- From the rests of a number. -/
theorem law_j12 (l : List Int) (a : Int) (hl : l.length ≤ 10000) : ∃ (of : List Int) (b : Bool), Ev (fun k => impl_RestsOfNumber.f k l a) (of, b) ∧ Ev (fun k => spec_RestsOfNumber.f k l a) (of, b) ∧ of.length ≤ 10000 ∧ Ev (fun k => laws_FnPlacesOfPatterns.j12 k l a of b) true := by
  cases h : (dif [] l && decide (0 ≤ a ∧ a ≤ 1000000000))
  · obtain ⟨h1, h2⟩ := ron_no l (by omega) a h
    refine ⟨[], false, h1, h2, by simp, Ev.done fun k => ?_⟩
    simp only [laws_FnPlacesOfPatterns.j12, Bool.false_eq_true, if_false]
  · rw [Bool.and_eq_true, decide_eq_true_iff] at h
    obtain ⟨hd, ha⟩ := h
    obtain ⟨ps, rfl, hn, hs, hp6⟩ := dif_nat hd
    obtain ⟨n, rfl⟩ := Int.eq_ofNat_of_zero_le ha.1
    obtain ⟨h1, h2⟩ := ron_yes ps hd hs hp6 n (by omega)
    obtain ⟨N, n1, n2, n3, _⟩ := num_yes ps hd hn hs hp6 (ps.map (n % ·)) (by rw [List.length_map]) (okR_mods n ps hs)
    refine ⟨_, true, h1, h2, by rw [ints_len, List.length_map]; omega, ?_⟩
    have hpos : 0 < pd ps := by omega
    have hNn : N = n % pd ps := sat_unique hn hs n1 (Nat.mod_lt _ hpos) (by
      rw [n2]
      refine List.map_congr_left fun q hq => ?_
      exact (Nat.mod_mod_of_dvd n (Nat.dvd_of_mod_eq_zero (pd_mod hq))).symm)
    refine Ev.step (f := ?f0) (fun k => ?a0) ?b0
    case a0 => simp only [laws_FnPlacesOfPatterns.j12, if_true]; exact rfl
    refine n3.bind ?_
    rw [hNn]
    exact law_l3 n (by omega) ps hn hs hp6 ps [] rfl
/-- From the draw of the rests on. -/
theorem law_j10 {z : List Int} (hz : Bytes z) : Ev (fun k => laws_FnPlacesOfPatterns.j10 k z) true := by
  obtain ⟨l1, r1, d1, b1, c1⟩ := number_drawn hz
  obtain ⟨l2, n2, d2, b2⟩ := restsOf_drawn hz
  obtain ⟨N, b, n1, n2', n3⟩ := num_both l1 r1 (by omega) (by omega)
  obtain ⟨of, c, o1, o2, o3, o4⟩ := law_j12 l2 n2 (by omega)
  refine Ev.step (f := ?f0) (fun k => ?a0) ?b0
  case a0 => simp only [laws_FnPlacesOfPatterns.j10]; exact rfl
  refine d1.bind (n1.bind (n2'.bind (d2.bind (o1.bind (o2.bind ?_)))))
  simp only [bne_self_eq_false, Bool.false_eq_true, if_false, if_true]
  refine (laws_tSame_self of (by omega)).bind ?_
  refine Ev.step (f := ?f1) (fun k => ?a1) ?b1
  case a1 => simp only [laws_FnPlacesOfPatterns.j11, Bool.not_true, Bool.false_eq_true, if_false]; exact rfl
  cases b with
  | false => simp only [Bool.false_eq_true, if_false]; exact o4
  | true =>
    obtain ⟨ps, rs, M, rfl, rfl, hd, hs, hp6, rfl, hM, hm⟩ := n3 rfl
    simp only [if_true]
    refine (ron_yes ps hd hs hp6 M (by omega)).1.bind ?_
    simp only [if_true]
    rw [hm]
    refine (laws_tSame_self (ints rs) (by omega)).bind ?_
    simp only [if_true]
    exact o4
theorem law_l1 (m : List Nat) (hm : m.length ≤ 8) (hx : ∀ x ∈ m, x ≤ 60) (hP : isP (ints m) = true) (N : Nat) (hN : N ≤ 600) (z : List Int) (hj : Ev (fun k => laws_FnPlacesOfPatterns.j10 k z) true) (F : List Int) (hF : ppl m N = F) : ∀ suf pre, pre ++ suf = F → Ev (fun k => laws_FnPlacesOfPatterns.l1 k z (ints m) F F (F.length : Int) (pre.length : Int)) true
  | [], pre, e => by
    have h1 : F.length = pre.length := by rw [← e]; simp
    have hFl : F.length ≤ N := by rw [← hF]; exact kept_len _ N
    have hl : (ints m).length ≤ 4000000000 := by rw [ints_len]; omega
    have hop : Ev (fun k => impl_IsOpen.f k (ints m)) (opn m, true) := by
      unfold impl_IsOpen.f
      refine (impl_isPattern_ev (ints m) hl).bind ?_
      rw [hP]
      simp only [if_true]
      exact (impl_isOpen_ev m (by omega)).bind (Ev.now _)
    refine Ev.step (f := ?f0) (fun k => ?a0) ?b0
    case a0 =>
      simp only [laws_FnPlacesOfPatterns.l1]
      rw [if_neg (by omega)]
    refine hop.bind ?_
    simp only [if_true]
    cases ho : opn m
    · have h2 := closed_few m N ho
      rw [hF] at h2
      have hw : wrap64 (2 * ((ints m).length : Int)) = ((2 * m.length : Nat) : Int) := by rw [ints_len, wri (by omega) (by omega)]; omega
      simp only [Bool.false_eq_true, if_false, hw, if_neg (show ¬ (F.length : Int) > ((2 * m.length : Nat) : Int) by omega)]
      exact hj
    · simp only [if_true]
      exact hj
  | y :: suf, pre, e => by
    have h1 : F.length = pre.length + 1 + suf.length := by rw [← e]; simp; omega
    have hFl : F.length ≤ N := by rw [← hF]; exact kept_len _ N
    have hg : rd F (pre.length : Int) = y := by rw [← e]; exact rd_mid_ pre y suf
    have ih := law_l1 m hm hx hP N hN z hj F hF suf (pre ++ [y]) (by rw [← e]; simp)
    obtain ⟨n, rfl, n1, n2, n3⟩ := kept_mem _ y N (by show y ∈ ppl m N; rw [hF, ← e]; simp)
    have hb : ppB m n = true := by simpa using n3
    have h2 : ∀ s2 p2, p2 ++ s2 = m → Ev (fun k => laws_FnPlacesOfPatterns.l2 k z (ints m) F (n : Int) F (F.length : Int) (pre.length : Int) (ints m) ((ints m).length : Int) (p2.length : Int)) true := by
      intro s2
      induction s2 with
      | nil =>
        intro p2 e2
        have h3 : m.length = p2.length := by rw [← e2]; simp
        refine Ev.step (fun k => ?_) ih
        simp only [laws_FnPlacesOfPatterns.l2]
        rw [ints_len, if_neg (by omega), wr_succ (by omega), List.length_append, List.length_singleton]
      | cons d s2 ih2 =>
        intro p2 e2
        have h3 : m.length = p2.length + 1 + s2.length := by rw [← e2]; simp; omega
        have hg2 : rd (ints m) (p2.length : Int) = (d : Int) := by rw [← e2]; exact ints_get p2 d s2
        have hd60 := hx d (by rw [← e2]; simp)
        have hpr := List.all_eq_true.1 hb d (by rw [← e2]; simp)
        have ih3 := ih2 (p2 ++ [d]) (by rw [← e2]; simp)
        refine Ev.step (f := ?f9) (fun k => ?a9) ?b9
        case a9 =>
          simp only [laws_FnPlacesOfPatterns.l2]
          rw [if_pos (show (p2.length : Int) < ((ints m).length : Int) by rw [ints_len]; omega), if_pos (by omega), if_pos (show (p2.length : Int) < ((ints m).length : Int) by rw [ints_len]; omega), hg2, ← Int.natCast_add, wr (by omega)]
        refine (laws_tPrime_ev (n + d) (by omega) hpr).bind ?_
        simp only [if_true, wr_succ (show p2.length < 9223372036854775807 by omega)]
        rw [List.length_append, List.length_singleton] at ih3
        exact ih3
    refine Ev.step (fun k => ?_) (h2 m [] rfl)
    simp only [laws_FnPlacesOfPatterns.l1]
    rw [if_pos (by omega), if_pos (by omega), if_pos (by omega), hg]
    rfl
/-- From the numbers at which all are primes on. -/
theorem law_j7 (x5 : List Int) (x6 : Int) (h5 : x5.length ≤ 10000) {z : List Int} (hz : Bytes z) : ∃ (F : List Int) (b : Bool), Ev (fun k => impl_PrimePlaces.f k x5 x6) (F, b) ∧ Ev (fun k => spec_PrimePlaces.f k x5 x6) (F, b) ∧ F.length ≤ 10000 ∧ Ev (fun k => laws_FnPlacesOfPatterns.j7 k z x5 F b) true := by
  have hj := law_j10 hz
  cases h : (isP x5 && decide (0 ≤ x6 ∧ x6 ≤ 600))
  · obtain ⟨h1, h2⟩ := pp_no x5 x6 (by omega) h
    refine ⟨[], false, h1, h2, by simp, Ev.step (fun k => ?_) hj⟩
    simp only [laws_FnPlacesOfPatterns.j7, Bool.false_eq_true, if_false]
  · rw [Bool.and_eq_true, decide_eq_true_iff] at h
    obtain ⟨hp, ha⟩ := h
    obtain ⟨N, rfl⟩ := Int.eq_ofNat_of_zero_le ha.1
    obtain ⟨m, rfl, hx, hm1, hm8⟩ := pat_nat hp
    obtain ⟨h1, h2⟩ := pp_yes m (by omega) hx hp N (by omega)
    have hFl : (ppl m N).length ≤ N := kept_len _ N
    refine ⟨_, true, h1, h2, by omega, Ev.step (fun k => ?_) (law_l1 m hm8 hx hp N (by omega) z hj (ppl m N) rfl (ppl m N) [] rfl)⟩
    simp only [laws_FnPlacesOfPatterns.j7, if_true]
    rfl
theorem law_j5 {z : List Int} (hz : Bytes z) : Ev (fun k => laws_FnPlacesOfPatterns.j5 k z) true := by
  obtain ⟨x2, x3, x4, d1, h2⟩ := first_drawn hz
  obtain ⟨x5, x6, d2, h5⟩ := primes_drawn hz
  obtain ⟨F, b, f1, f2, f3, f4⟩ := law_j7 x5 x6 (by omega) hz
  obtain ⟨G, c, g1, g2, g3, g4⟩ : ∃ (G : List Int) (c : Bool), Ev (fun k => impl_FirstPlaces.f k x2 x3 x4) (G, c) ∧ Ev (fun k => spec_FirstPlaces.f k x2 x3 x4) (G, c) ∧ G.length ≤ 10000 ∧ Ev (fun k => laws_FnPlacesOfPatterns.j6 k z x2 x3 x4 G c x5 F b false) true := by
    cases h : (isP x2 && decide (0 ≤ x3 ∧ x3 ≤ 6) && decide (0 ≤ x4 ∧ x4 ≤ 600))
    · obtain ⟨q1, q2⟩ := first_no x2 x3 x4 (by omega) h
      refine ⟨[], false, q1, q2, by simp, Ev.step (fun k => ?_) f4⟩
      simp only [laws_FnPlacesOfPatterns.j6, Bool.false_eq_true, if_false]
    · rw [Bool.and_eq_true, Bool.and_eq_true, decide_eq_true_iff, decide_eq_true_iff] at h
      obtain ⟨⟨hp, ha⟩, hb⟩ := h
      obtain ⟨N, rfl⟩ := Int.eq_ofNat_of_zero_le hb.1
      obtain ⟨K, rfl⟩ := Int.eq_ofNat_of_zero_le ha.1
      obtain ⟨m, rfl, hx, hm1, hm8⟩ := pat_nat hp
      obtain ⟨q1, q2⟩ := first_yes m (by omega) hx hp K (by omega) N (by omega)
      have hFl : (pls m K N).length ≤ N := kept_len _ N
      obtain ⟨r1, _⟩ := rules_yes m (by omega) hx hp K (by omega)
      refine ⟨_, true, q1, q2, by omega, ?_⟩
      refine Ev.step (f := ?f0) (fun k => ?a0) ?b0
      case a0 => simp only [laws_FnPlacesOfPatterns.j6, Bool.false_eq_true, if_false, if_true]; exact rfl
      refine (laws_tRises_ev 1 (N : Int) (pls m K N) (by omega) (kept_sorted _ N) (fun x hx => by
        obtain ⟨i, e1, e2, e3, _⟩ := kept_mem _ x N hx
        omega)).bind ?_
      simp only [if_true]
      refine r1.bind ?_
      unfold rlV
      by_cases h12 : (RL m K).length ≤ 12
      · rw [if_pos h12]
        simp only [if_true]
        refine (upto_ev m K (by omega) h12 N (by omega)).bind ?_
        simp only [if_true]
        refine (laws_tSame_self (pls m K N) (by omega)).bind ?_
        simp only [if_true]
        exact f4
      · rw [if_neg h12]
        simp only [Bool.false_eq_true, if_false]
        exact f4
  refine Ev.step (f := ?f8) (fun k => ?a8) ?b8
  case a8 => simp only [laws_FnPlacesOfPatterns.j5]; exact rfl
  refine d1.bind (g1.bind (g2.bind (d2.bind (f1.bind (f2.bind ?_)))))
  simp only [bne_self_eq_false, Bool.false_eq_true, if_false]
  refine (laws_tSame_self G (by omega)).bind ?_
  simp only [if_true]
  refine (laws_tSame_self F (by omega)).bind ?_
  exact g4
theorem zero_mem {m : List Nat} (hP : isP (ints m) = true) (h1 : 1 ≤ m.length) : 0 ∈ m := by
  have h := ((isP_iff (ints m)).1 hP).2 0 (by rw [ints_len]; omega)
  have h2 := h.1 rfl
  cases m with
  | nil => simp at h1
  | cons x m =>
    have h3 : rd (ints (x :: m)) ((0 : Nat) : Int) = (x : Int) := ints_get [] x m
    rw [h3] at h2
    have : x = 0 := by omega
    rw [this]; simp
theorem law_j3 (m : List Nat) (hm : m.length ≤ 8) (h0 : 0 ∈ m) (n : Nat) (hn : n ≤ 6) (z : List Int) (hj : Ev (fun k => laws_FnPlacesOfPatterns.j5 k z) true) : Ev (fun k => laws_FnPlacesOfPatterns.j3 k z ((plc m n : Nat) : Int) (rlV m n).1 (rlV m n).2 ((PD n : Nat) : Int)) true := by
  have hno : ∀ R, Ev (fun k => laws_FnPlacesOfPatterns.j4 k z ((plc m n : Nat) : Int) R ((PD n : Nat) : Int) false) true := fun R => Ev.step (fun k => by simp only [laws_FnPlacesOfPatterns.j4, Bool.false_eq_true, if_false]) hj
  unfold rlV
  by_cases h12 : (RL m n).length ≤ 12
  · rw [if_pos h12]
    refine Ev.step (f := fun k => laws_FnPlacesOfPatterns.j4 k z ((plc m n : Nat) : Int) (RL m n) ((PD n : Nat) : Int) (decide (((RL m n).length : Int) > 0))) (fun k => by simp only [laws_FnPlacesOfPatterns.j3, if_true]) ?_
    cases hl : decide (((RL m n).length : Int) > 0)
    · exact hno _
    · obtain ⟨p1, p2⟩ := inperiod_ev m h0 n hn h12
      refine Ev.step (f := ?f0) (fun k => ?a0) ?b0
      case a0 => simp only [laws_FnPlacesOfPatterns.j4, if_true]; exact rfl
      refine p1.bind (p2.bind ?_)
      simp only [if_true]
      exact hj
  · rw [if_neg h12]
    exact Ev.step (f := fun k => laws_FnPlacesOfPatterns.j4 k z ((plc m n : Nat) : Int) [] ((PD n : Nat) : Int) false) (fun k => by simp only [laws_FnPlacesOfPatterns.j3, Bool.false_eq_true, if_false]) (hno _)
theorem law_l0 (m : List Nat) (hm : m.length ≤ 8) (hx : ∀ x ∈ m, x ≤ 60) (hP : isP (ints m) = true) (h0 : 0 ∈ m) (n : Nat) (hn : n ≤ 6) (z : List Int) (hj : Ev (fun k => laws_FnPlacesOfPatterns.j5 k z) true) : ∀ c k0 q : Nat, k0 + c = 6 → q = min k0 n → Ev (fun k => laws_FnPlacesOfPatterns.l0 k z (ints m) (n : Int) ((plc m n : Nat) : Int) (rlV m n).1 (rlV m n).2 ((plc m n / gp m n : Nat) : Int) ((PD n / gp m n : Nat) : Int) ((PD q : Nat) : Int) (PL 6) 6 (k0 : Int)) true
  | 0, k0, q, e, hq => by
    have hqn : q = n := by omega
    subst hqn
    have hpl := plc_le m q hn
    have hPD := PD_pos q hn
    obtain ⟨g1, g2⟩ := gp_pos m q hn
    have hprod : plc m q * (PD q / gp m q) = plc m q / gp m q * PD q := by
      have a1 : gp m q ∣ PD q := Nat.gcd_dvd_right _ _
      have a2 : gp m q ∣ plc m q := Nat.gcd_dvd_left _ _
      rw [← Nat.mul_div_assoc _ a1, Nat.mul_comm (plc m q / gp m q), ← Nat.mul_div_assoc _ a2, Nat.mul_comm]
    have b1 : PD q / gp m q ≤ PD q := Nat.div_le_self _ _
    have b2 : plc m q / gp m q ≤ plc m q := Nat.div_le_self _ _
    have c1 : plc m q * (PD q / gp m q) < 9223372036854775808 := sq_lt (by omega) (by omega)
    have c2 : plc m q / gp m q * PD q < 9223372036854775808 := sq_lt (by omega) (by omega)
    have h4 := law_j3 m hm h0 q hn z hj
    have h3 : Ev (fun k => laws_FnPlacesOfPatterns.j2 k z (ints m) (q : Int) ((plc m q : Nat) : Int) (rlV m q).1 (rlV m q).2 ((PD q : Nat) : Int) false) true := by
      by_cases h600 : PD q ≤ 600
      · obtain ⟨q1, _⟩ := first_yes m (by omega) hx hP q hn (PD q) h600
        refine Ev.step (f := ?f0) (fun k => ?a0) ?b0
        case a0 =>
          simp only [laws_FnPlacesOfPatterns.j2, Bool.false_eq_true, if_false, if_pos (show ((PD q : Nat) : Int) ≤ 600 by omega)]
          exact rfl
        refine q1.bind ?_
        simp only [if_true, if_pos (show ((pls m q (PD q)).length : Int) = ((plc m q : Nat) : Int) by rw [pls_period m q hn])]
        exact h4
      · refine Ev.step (fun k => ?_) h4
        simp only [laws_FnPlacesOfPatterns.j2, Bool.false_eq_true, if_false, if_neg (show ¬ ((PD q : Nat) : Int) ≤ 600 by omega)]
    refine Ev.step (fun k => ?_) h3
    simp only [laws_FnPlacesOfPatterns.l0]
    rw [if_neg (by omega), wr_mul c1, wr_mul c2, hprod, if_pos rfl, if_neg (by omega), decide_eq_false (by omega)]
  | c + 1, k0, q, e, hq => by
    have hPD := PD_pos q (by omega)
    have hl6 : (PL 6).length = 6 := PL_len 6 (Nat.le_refl _)
    have hp := P6_pos k0 (by omega)
    by_cases hk : k0 < n
    · have hqk : q = k0 := by omega
      subst hqk
      have ih := law_l0 m hm hx hP h0 n hn z hj c (q + 1) (q + 1) (by omega) (by omega)
      have hPD2 := PD_pos (q + 1) (by omega)
      have hmul : PD q * P6 q = PD (q + 1) := rfl
      refine Ev.step (fun k => ?_) ih
      simp only [laws_FnPlacesOfPatterns.l0]
      rw [if_pos (by omega), if_pos (by omega), if_pos (by omega), if_pos (by omega), PL_get 6 (Nat.le_refl _) q (by omega), wr_mul (by rw [hmul]; omega), hmul, wr_succ (by omega)]
    · have ih := law_l0 m hm hx hP h0 n hn z hj c (k0 + 1) q (by omega) (by omega)
      refine Ev.step (fun k => ?_) ih
      simp only [laws_FnPlacesOfPatterns.l0]
      rw [if_pos (by omega), if_pos (by omega), if_pos (by omega), if_neg (by omega), wr_succ (by omega)]
theorem FnPlacesOfPatterns : laws_FnPlacesOfPatterns.Pure := by
  intro l0 l1 _ _ h0 _ _ h1
  apply Ev.rounds
  have hz0 := bytes_of h0
  have hz := bytes_of h1
  have hj := law_j5 hz
  unfold laws_FnPlacesOfPatterns.f laws_big.f
  by_cases hc : (l0.length : Int) > 1048576
  · simp only [if_pos hc, Option.bind_some, if_true]; exact Ev.now _
  · simp only [if_neg hc, Option.bind_some]
    by_cases hc2 : (l1.length : Int) > wrap64 (1048576 - (l0.length : Int))
    · simp only [decide_eq_true hc2, if_true]; exact Ev.now _
    · simp only [decide_eq_false hc2, Bool.false_eq_true, if_false]
      obtain ⟨x0, x1, d0, hx0⟩ := placesIn_drawn hz0
      refine d0.bind ?_
      cases h : (isP x0 && decide (0 ≤ x1 ∧ x1 ≤ 6))
      · obtain ⟨p1, p2, p3, p4⟩ := asked_no x0 x1 (by omega) h
        obtain ⟨r1, r2⟩ := impl_Rules_no x0 x1 (by omega) h
        refine p1.bind (p2.bind (r1.bind (r2.bind (p3.bind (p4.bind ?_)))))
        simp only [bne_self_eq_false, Bool.false_eq_true, if_false, if_true]
        refine (laws_tRules_self ([] : List S65) (by simp)).bind ?_
        simp only [if_true]
        refine Ev.step (fun k => ?_) hj
        simp only [laws_FnPlacesOfPatterns.j0, Bool.false_eq_true, if_false]
      · rw [Bool.and_eq_true, decide_eq_true_iff] at h
        obtain ⟨hp, ha⟩ := h
        obtain ⟨n, rfl⟩ := Int.eq_ofNat_of_zero_le ha.1
        obtain ⟨m, rfl, hx, hm1, hm8⟩ := pat_nat hp
        have hn : n ≤ 6 := by omega
        obtain ⟨p1, p2, p3, p4⟩ := asked_yes m n (by omega) hn hp
        obtain ⟨r1, r2⟩ := rules_yes m (by omega) hx hp n hn
        have hrl : (rlV m n).1.length ≤ 1000000000 := by
          unfold rlV
          split
          · show (RL m n).length ≤ _; have := RL_len m n hn; omega
          · exact Nat.zero_le _
        refine p1.bind (p2.bind (r1.bind (r2.bind (p3.bind (p4.bind ?_)))))
        simp only [bne_self_eq_false, Bool.false_eq_true, if_false, if_true]
        refine (laws_tRules_self (rlV m n).1 hrl).bind ?_
        simp only [if_true]
        have hl0 := law_l0 m hm8 hx hp (zero_mem hp hm1) n hn l1 hj 6 0 0 rfl (by omega)
        have h1 : Ev (fun k => laws_FnPlacesOfPatterns.j0 k l1 (ints m) (n : Int) ((plc m n : Nat) : Int) true (rlV m n).1 (rlV m n).2 ((plc m n / gp m n : Nat) : Int) ((PD n / gp m n : Nat) : Int) false) true := by
          refine Ev.step (fun k => ?_) hl0
          simp only [laws_FnPlacesOfPatterns.j0, Bool.false_eq_true, if_false, if_true, Option.bind_some]
          rfl
        cases hb : (rlV m n).2
        · rw [hb] at h1
          simp only [Bool.false_eq_true, if_false]
          exact h1
        · rw [hb] at h1
          simp only [if_true, Bool.not_true]
          exact h1
end Go.Proofs.YtlbhbncgfhikeaaGreat.Pure
