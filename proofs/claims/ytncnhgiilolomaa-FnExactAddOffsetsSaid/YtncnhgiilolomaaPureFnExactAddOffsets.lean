/- AddOffsets answers as the reference does, for every argument. -/
import Derived.Test.YtncnhgiilolomaaPFnExactAddOffsetsx6
import Derived.Test.YtncnhgiilolomaaNtC
namespace Go.Proofs.Ytncnhgiilolomaa.Pure
set_option linter.unusedVariables false
open Go Go.RowKit Go.Proofs.Ytncnhgiilolomaa.PFnExactAddOffsets Go.Proofs.YtncnhgiilolomaaW.PrintWords Go.Proofs.YtncnhgiilolomaaW.PrintLast Go.Proofs.Ytncnhgiilolomaa.Nt
theorem Ev.done {α : Type} {g : Nat → Option α} {r : α} (h : ∀ k, g (k + 1) = some r) : Ev g r := Ev.step (f := fun _ => some r) h (Ev.now r)
theorem Ev.const {α : Type} {g : Nat → Option α} {r : α} (h : ∀ k, g k = some r) : Ev g r := Ev.congr (f := fun _ => some r) h (Ev.now r)
theorem wr {a : Nat} (h : a < 9223372036854775808) : wrap64 (a : Int) = a := by unfold wrap64; omega
theorem wri {a : Int} (h0 : -9223372036854775808 ≤ a) (h : a < 9223372036854775808) : wrap64 a = a := by unfold wrap64; omega
theorem wr_mul {a b : Nat} (h : a * b < 9223372036854775808) : wrap64 ((a : Int) * b) = ((a * b : Nat) : Int) := by rw [← Int.natCast_mul]; exact wr h
theorem wr_succ {a : Nat} (h : a < 9223372036854775807) : wrap64 ((a : Int) + 1) = ((a + 1 : Nat) : Int) := wr (a := a + 1) (by omega)
theorem wr_tdiv {a b : Nat} (h : a < 9223372036854775808) : wrap64 (Int.tdiv (a : Int) b) = ((a / b : Nat) : Int) := wr (a := a / b) (Nat.lt_of_le_of_lt (Nat.div_le_self a b) h)
theorem tm (a b : Nat) : Int.tmod (a : Int) b = ((a % b : Nat) : Int) := rfl
theorem sq_lt {a b : Nat} (h : a ≤ 3037000499) (k : b ≤ 3037000499) : a * b < 9223372036854775808 := Nat.lt_of_le_of_lt (Nat.mul_le_mul h k) (by decide)
theorem spec_l1In_eq (a b c : Int) : spec_l1In.f a b c = some (decide (b ≤ a ∧ a ≤ c)) := by
  unfold spec_l1In.f
  by_cases h : a ≥ b
  · rw [if_pos h, decide_eq_decide.2 (show a ≤ c ↔ b ≤ a ∧ a ≤ c from ⟨fun k => ⟨h, k⟩, fun k => k.2⟩)]
  · rw [if_neg h, decide_eq_false (fun k => h k.1)]
/-- A list of naturals as the program's ints. -/
def ints (l : List Nat) : List Int := l.map fun d : Nat => (d : Int)
theorem ints_len (l : List Nat) : (ints l).length = l.length := by simp [ints]
theorem ints_app (l m : List Nat) : ints l ++ ints m = ints (l ++ m) := by simp [ints]
theorem ints_get (pre : List Nat) (x : Nat) (l : List Nat) : rd (ints (pre ++ x :: l)) (pre.length : Int) = x := by
  unfold rd
  rw [Int.toNat_natCast]
  simp [ints]
theorem ints_take (l m : List Nat) : (ints (l ++ m)).take ((l.length : Nat) : Int).toNat = ints l := by
  rw [Int.toNat_natCast]
  unfold ints
  rw [List.map_append, List.take_left' (by simp)]
/-- All of so many numbers from i on are as asked. -/
def allF (c : Nat → Bool) : Nat → Nat → Bool
  | 0, _ => true
  | n + 1, i => c i && allF c n (i + 1)
theorem allF_iff (c : Nat → Bool) : ∀ n i, allF c n i = true ↔ ∀ j, i ≤ j → j < i + n → c j = true
  | 0, i => ⟨fun _ j h1 h2 => by omega, fun _ => rfl⟩
  | n + 1, i => by
    have ih := allF_iff c n (i + 1)
    simp only [allF, Bool.and_eq_true]
    rw [ih]
    constructor
    · rintro ⟨h1, h2⟩ j hj hk
      rcases Nat.lt_or_ge i j with h | h
      · exact h2 j (by omega) (by omega)
      · have : j = i := by omega
        rw [this]; exact h1
    · intro h
      exact ⟨h i (by omega) (by omega), fun j hj hk => h j (by omega) (by omega)⟩
/-- What the program asks of the offset with an index. -/
def chkP (l : List Int) (i : Nat) : Bool := decide ((i = 0 → rd l (i : Int) = 0) ∧ (0 < i → rd l ((i - 1 : Nat) : Int) < rd l (i : Int)) ∧ rd l (i : Int) ≤ 60)
def lenP (l : List Int) : Bool := decide (1 ≤ l.length ∧ l.length ≤ 8)
/-- A list of ints is a pattern. -/
def isP (l : List Int) : Bool := allF (chkP l) l.length 0 && lenP l
theorem impl_isPattern_l (l : List Int) (hl : l.length ≤ 4000000000) : ∀ n i, i + n = l.length → Ev (fun k => impl_isPattern.l0 k l l (l.length : Int) (i : Int)) (allF (chkP l) n i && lenP l)
  | 0, i, hi => by
    refine Ev.done fun k => ?_
    simp only [impl_isPattern.l0, allF, Bool.true_and]
    rw [if_neg (by omega)]
    by_cases h : (l.length : Int) ≥ 1
    · rw [if_pos h]
      congr 1
      unfold lenP
      rw [decide_eq_decide]
      omega
    · rw [if_neg h]
      congr 1
      unfold lenP
      rw [decide_eq_false (by omega)]
  | n + 1, i, hi => by
    have ih := impl_isPattern_l l hl n (i + 1) (by omega)
    have hs : wrap64 ((i : Int) + 1) = ((i + 1 : Nat) : Int) := wr_succ (by omega)
    by_cases hc : chkP l i = true
    · have e : (allF (chkP l) (n + 1) i && lenP l) = (allF (chkP l) n (i + 1) && lenP l) := by simp [allF, hc]
      rw [e]
      refine Ev.step (fun k => ?_) ih
      unfold chkP at hc
      rw [decide_eq_true_iff] at hc
      obtain ⟨h1, h2, h3⟩ := hc
      simp only [impl_isPattern.l0]
      rw [if_pos (by omega), if_pos (by omega), if_pos (by omega)]
      by_cases h0 : i = 0
      · rw [if_pos (by omega), if_pos (h1 h0), if_neg (by omega), if_neg (by omega), hs]
      · have hp : wrap64 ((i : Int) - 1) = ((i - 1 : Nat) : Int) := by rw [wri (by omega) (by omega)]; omega
        have h4 := h2 (by omega)
        rw [if_neg (by omega), if_pos (by omega), hp, if_pos (by omega), if_pos (by omega), if_neg (by omega), if_neg (by omega), hs]
    · have e : (allF (chkP l) (n + 1) i && lenP l) = false := by simp [allF, hc]
      rw [e]
      unfold chkP at hc
      rw [decide_eq_true_iff] at hc
      refine Ev.done fun k => ?_
      simp only [impl_isPattern.l0]
      rw [if_pos (by omega), if_pos (by omega), if_pos (by omega)]
      by_cases h0 : i = 0
      · rw [if_pos (by omega)]
        by_cases h1 : rd l (i : Int) = 0
        · exact absurd ⟨fun _ => h1, fun h => by omega, by omega⟩ hc
        · rw [if_neg h1]
      · have hp : wrap64 ((i : Int) - 1) = ((i - 1 : Nat) : Int) := by rw [wri (by omega) (by omega)]; omega
        rw [if_neg (by omega), if_pos (by omega), hp, if_pos (by omega), if_pos (by omega)]
        by_cases h2 : rd l ((i - 1 : Nat) : Int) ≥ rd l (i : Int)
        · rw [if_pos h2]
        · rw [if_neg h2]
          by_cases h3 : rd l (i : Int) > 60
          · rw [if_pos h3]
          · exact absurd ⟨fun h => by omega, fun _ => by omega, by omega⟩ hc
theorem impl_isPattern_ev (l : List Int) (hl : l.length ≤ 4000000000) : Ev (fun k => impl_isPattern.f k l) (isP l) := impl_isPattern_l l hl l.length 0 (by omega)
theorem isP_iff (l : List Int) : isP l = true ↔ (1 ≤ l.length ∧ l.length ≤ 8) ∧ ∀ i, i < l.length → (i = 0 → rd l (i : Int) = 0) ∧ (0 < i → rd l ((i - 1 : Nat) : Int) < rd l (i : Int)) ∧ rd l (i : Int) ≤ 60 := by
  unfold isP lenP
  rw [Bool.and_eq_true, allF_iff, decide_eq_true_iff]
  constructor
  · rintro ⟨h1, h2⟩
    exact ⟨h2, fun i hi => of_decide_eq_true (h1 i (by omega) (by omega))⟩
  · rintro ⟨h1, h2⟩
    exact ⟨fun j _ hj => decide_eq_true (h2 j (by omega)), h1⟩
def chkQ (l : List Int) (i : Nat) : Bool := decide (rd l ((i - 1 : Nat) : Int) < rd l (i : Int))
theorem spec_reGood_l (l : List Int) (hl : l.length ≤ 8) (h1 : 1 ≤ l.length) : ∀ n i, i + n = l.length → 1 ≤ i → Ev (fun k => spec_reGood.l0 k l (i : Int)) (allF (chkQ l) n i && decide (rd l ((l.length - 1 : Nat) : Int) ≤ 60))
  | 0, i, hi, hi1 => by
    have hp : wrap64 ((l.length : Int) - 1) = ((l.length - 1 : Nat) : Int) := by rw [wri (by omega) (by omega)]; omega
    refine Ev.done fun k => ?_
    simp only [spec_reGood.l0, allF, Bool.true_and]
    rw [if_neg (by omega), hp, if_pos (by omega), if_pos (by omega)]
  | n + 1, i, hi, hi1 => by
    have ih := spec_reGood_l l hl h1 n (i + 1) (by omega) (by omega)
    have hs : wrap64 ((i : Int) + 1) = ((i + 1 : Nat) : Int) := wr_succ (by omega)
    have hp : wrap64 ((i : Int) - 1) = ((i - 1 : Nat) : Int) := by rw [wri (by omega) (by omega)]; omega
    by_cases hc : chkQ l i = true
    · have e : (allF (chkQ l) (n + 1) i && decide (rd l ((l.length - 1 : Nat) : Int) ≤ 60)) = (allF (chkQ l) n (i + 1) && decide (rd l ((l.length - 1 : Nat) : Int) ≤ 60)) := by simp [allF, hc]
      rw [e]
      refine Ev.step (fun k => ?_) ih
      have hc' := of_decide_eq_true hc
      simp only [spec_reGood.l0]
      rw [if_pos (by omega), if_pos (by omega), hp, if_pos (by omega), if_pos (by omega), if_neg (by omega), hs]
    · have e : (allF (chkQ l) (n + 1) i && decide (rd l ((l.length - 1 : Nat) : Int) ≤ 60)) = false := by simp [allF, hc]
      rw [e]
      unfold chkQ at hc
      rw [decide_eq_true_iff] at hc
      refine Ev.done fun k => ?_
      simp only [spec_reGood.l0]
      rw [if_pos (by omega), if_pos (by omega), hp, if_pos (by omega), if_pos (by omega), if_pos (by omega)]
theorem spec_reGood_ev (l : List Int) (hl : l.length ≤ 4000000000) : Ev (fun k => spec_reGood.f k l) (isP l) := by
  unfold spec_reGood.f
  rw [spec_l1In_eq]
  by_cases h : 1 ≤ (l.length : Int) ∧ (l.length : Int) ≤ 8
  · rw [decide_eq_true h]
    simp only [Option.bind_some, if_true]
    simp only [if_pos (show 0 < (l.length : Int) by omega)]
    by_cases h0 : rd l 0 = 0
    · have e : isP l = (allF (chkQ l) (l.length - 1) 1 && decide (rd l ((l.length - 1 : Nat) : Int) ≤ 60)) := by
        rw [Bool.eq_iff_iff, isP_iff, Bool.and_eq_true, allF_iff, decide_eq_true_iff]
        constructor
        · rintro ⟨h1, h2⟩
          exact ⟨fun j hj hk => decide_eq_true ((h2 j (by omega)).2.1 (by omega)), (h2 (l.length - 1) (by omega)).2.2⟩
        · rintro ⟨h1, h2⟩
          have hd : ∀ d, d < l.length → rd l ((l.length - 1 - d : Nat) : Int) ≤ 60 := by
            intro d
            induction d with
            | zero => intro _; exact h2
            | succ d ih =>
              intro hd
              have h3 := ih (by omega)
              have h4 := of_decide_eq_true (h1 (l.length - 1 - d) (by omega) (by omega))
              rw [show l.length - 1 - d - 1 = l.length - 1 - (d + 1) by omega] at h4
              omega
          refine ⟨by omega, fun i hi => ⟨fun hz => by rw [hz]; exact h0, fun hz => of_decide_eq_true (h1 i (by omega) (by omega)), ?_⟩⟩
          have := hd (l.length - 1 - i) (by omega)
          rwa [show l.length - 1 - (l.length - 1 - i) = i by omega] at this
      rw [e]
      have hj := spec_reGood_l l (by omega) (by omega) (l.length - 1) 1 (by omega) (by omega)
      refine Ev.step (fun k => ?_) hj
      simp only [spec_reGood.j0]
      rw [if_neg (by simp [h0])]
      rfl
    · have e : isP l = false := by
        rw [← Bool.not_eq_true, isP_iff]
        rintro ⟨_, h2⟩
        exact h0 ((h2 0 (by omega)).1 rfl)
      rw [e]
      refine Ev.done fun k => ?_
      simp only [spec_reGood.j0]
      rw [if_pos (by simp [h0])]
  · have e : isP l = false := by
      rw [← Bool.not_eq_true, isP_iff]
      rintro ⟨h1, _⟩
      omega
    rw [decide_eq_false h, e]
    simp only [Option.bind_some, Bool.false_eq_true, if_false]
    exact Ev.done fun k => by simp only [spec_reGood.j0, if_true]
theorem rd_mem {l : List Int} {x : Int} (h : x ∈ l) : ∃ i, i < l.length ∧ x = rd l (i : Int) := by
  obtain ⟨i, hi, rfl⟩ := List.mem_iff_getElem.1 h
  refine ⟨i, hi, ?_⟩
  unfold rd
  rw [Int.toNat_natCast, List.getD_eq_getElem?_getD, List.getElem?_eq_getElem hi]
  rfl
/-- A pattern as naturals. -/
theorem pat_nat {l : List Int} (h : isP l = true) : ∃ m : List Nat, l = ints m ∧ (∀ x ∈ m, x ≤ 60) ∧ 1 ≤ m.length ∧ m.length ≤ 8 := by
  rw [isP_iff] at h
  obtain ⟨hlen, h⟩ := h
  have h0 : ∀ i, i < l.length → 0 ≤ rd l (i : Int) := by
    intro i
    induction i with
    | zero => intro hi; have := (h 0 hi).1 rfl; omega
    | succ i ih =>
      intro hi
      have h1 := ih (by omega)
      have h2 := (h (i + 1) hi).2.1 (by omega)
      rw [Nat.add_sub_cancel] at h2
      omega
  have hm : ∀ x ∈ l, ((x.toNat : Nat) : Int) = x := by
    intro x hx
    obtain ⟨i, hi, rfl⟩ := rd_mem hx
    have := h0 i hi
    omega
  refine ⟨l.map Int.toNat, ?_, ?_, by rw [List.length_map]; exact hlen.1, by rw [List.length_map]; exact hlen.2⟩
  · unfold ints
    rw [List.map_map]
    conv => lhs; rw [← List.map_id l]
    exact List.map_congr_left fun x hx => (hm x hx).symm
  · intro x hx
    obtain ⟨y, hy, rfl⟩ := List.mem_map.1 hx
    obtain ⟨i, hi, rfl⟩ := rd_mem hy
    have := (h i hi).2.2
    omega
/-- Some offset has this remainder. -/
def hs (m : List Nat) (p r : Nat) : Bool := m.any fun x => x % p == r
theorem hs_iff (m : List Nat) (p r : Nat) : hs m p r = true ↔ ∃ x ∈ m, x % p = r := by
  unfold hs
  rw [List.any_eq_true]
  constructor
  · rintro ⟨x, hx, h⟩; exact ⟨x, hx, beq_iff_eq.1 h⟩
  · rintro ⟨x, hx, h⟩; exact ⟨x, hx, beq_iff_eq.2 h⟩
/-- The remainders that offsets have. -/
def rests (m : List Nat) (p : Nat) : List Nat := (List.range p).filter (hs m p)
theorem rests_len (m : List Nat) (p : Nat) : (rests m p).length ≤ p := Nat.le_trans (List.length_filter_le _ _) (by rw [List.length_range]; exact Nat.le_refl _)
theorem range_filter_succ (q : Nat → Bool) (r : Nat) : (List.range (r + 1)).filter q = (List.range r).filter q ++ (if q r then [r] else []) := by
  rw [List.range_succ, List.filter_append]
  congr 1
  by_cases h : q r <;> simp [h]
theorem spec_reRests_l1 (m : List Nat) (p r : Nat) (acc : List Int) (hp : 0 < p) (hm : m.length ≤ 100) (hacc : acc.length < 17592186044416) (v : List Int) (hr : r < 1000000) : ∀ suf pre, pre ++ suf = m →
    Ev (fun k => spec_reRests.l0 k (ints m) (p : Int) (acc ++ if suf.any (fun x => x % p == r) then [(r : Int)] else []) ((r + 1 : Nat) : Int)) v →
    Ev (fun k => spec_reRests.l1 k (ints m) (p : Int) acc (r : Int) (ints m) ((ints m).length : Int) (pre.length : Int)) v
  | [], pre, e, h => by
    rw [List.append_nil] at e
    subst e
    simp only [List.any_nil, Bool.false_eq_true, if_false, List.append_nil] at h
    refine Ev.step (fun k => ?_) h
    simp only [spec_reRests.l1]
    rw [ints_len, if_neg (by omega), wr_succ (by omega)]
  | x :: suf, pre, e, h => by
    have hlen : (ints m).length = pre.length + 1 + suf.length := by rw [ints_len, ← e]; simp; omega
    have hml : m.length = pre.length + 1 + suf.length := by rw [← e]; simp; omega
    have hg : rd (ints m) (pre.length : Int) = (x : Int) := by rw [← e]; exact ints_get pre x suf
    by_cases hx : x % p = r
    · have hany : (x :: suf).any (fun x => x % p == r) = true := by simp [hx]
      rw [hany] at h
      simp only [if_true] at h
      refine Ev.step (fun k => ?_) h
      simp only [spec_reRests.l1]
      rw [if_pos (by omega), if_pos (by omega), if_pos (by omega), if_neg (by omega), hg, tm, if_pos (by omega), if_pos hacc, wr_succ (by omega)]
    · have hany : (x :: suf).any (fun x => x % p == r) = suf.any (fun x => x % p == r) := by simp [hx]
      rw [hany] at h
      have ih := spec_reRests_l1 m p r acc hp hm hacc v hr suf (pre ++ [x]) (by rw [← e]; simp) h
      have hq : ((pre ++ [x]).length : Int) = ((pre.length + 1 : Nat) : Int) := by simp
      rw [hq] at ih
      refine Ev.step (fun k => ?_) ih
      simp only [spec_reRests.l1]
      rw [if_pos (by omega), if_pos (by omega), if_pos (by omega), if_neg (by omega), hg, tm, if_neg (by omega), wr_succ (by omega)]
theorem spec_reRests_l0 (m : List Nat) (p : Nat) (hp : 0 < p) (hpm : p ≤ 1000) (hm : m.length ≤ 100) : ∀ n r, r + n = p → Ev (fun k => spec_reRests.l0 k (ints m) (p : Int) (ints ((List.range r).filter (hs m p))) (r : Int)) (ints (rests m p))
  | 0, r, e => by
    have e' : r = p := by omega
    subst e'
    refine Ev.done fun k => ?_
    simp only [spec_reRests.l0]
    rw [if_neg (by omega)]
    rfl
  | n + 1, r, e => by
    have ih := spec_reRests_l0 m p hp hpm hm n (r + 1) (by omega)
    have hl : ((List.range r).filter (hs m p)).length ≤ r := Nat.le_trans (List.length_filter_le _ _) (by rw [List.length_range]; exact Nat.le_refl _)
    refine Ev.step (f := fun k => spec_reRests.l1 k (ints m) (p : Int) (ints ((List.range r).filter (hs m p))) (r : Int) (ints m) ((ints m).length : Int) ((([] : List Nat).length : Nat) : Int)) (fun k => ?_) (spec_reRests_l1 m p r _ hp hm (by rw [ints_len]; omega) _ (by omega) m [] rfl ?_)
    · simp only [spec_reRests.l0]
      rw [if_pos (by omega)]
      rfl
    · rw [range_filter_succ, ← ints_app] at ih
      have e2 : ints (if hs m p r then [r] else []) = if m.any (fun x => x % p == r) then [(r : Int)] else [] := by
        unfold hs
        split <;> rfl
      rw [e2] at ih
      exact ih
theorem spec_reRests_ev (m : List Nat) (p : Nat) (hp : 0 < p) (hpm : p ≤ 1000) (hm : m.length ≤ 100) : Ev (fun k => spec_reRests.f k (ints m) (p : Int)) (ints (rests m p)) := by
  have := spec_reRests_l0 m p hp hpm hm p 0 (by omega)
  exact this
theorem spec_l1Has_l (D : List Nat) (v : Nat) (hD : D.length ≤ 1000000) : ∀ suf pre, pre ++ suf = D → Ev (fun k => spec_l1Has.l0 k (v : Int) (ints D) ((ints D).length : Int) (pre.length : Int)) (suf.any fun x => x == v)
  | [], pre, e => by
    rw [List.append_nil] at e
    subst e
    refine Ev.done fun k => ?_
    simp only [spec_l1Has.l0]
    rw [ints_len, if_neg (by omega)]
    rfl
  | x :: suf, pre, e => by
    have hlen : (ints D).length = pre.length + 1 + suf.length := by rw [ints_len, ← e]; simp; omega
    have hDl : D.length = pre.length + 1 + suf.length := by rw [← e]; simp; omega
    have hg : rd (ints D) (pre.length : Int) = (x : Int) := by rw [← e]; exact ints_get pre x suf
    by_cases hx : x = v
    · have hany : (x :: suf).any (fun x => x == v) = true := by simp [hx]
      rw [hany]
      refine Ev.done fun k => ?_
      simp only [spec_l1Has.l0]
      rw [if_pos (by omega), if_pos (by omega), if_pos (by omega), hg, if_pos (by omega)]
    · have hany : (x :: suf).any (fun x => x == v) = suf.any (fun x => x == v) := by simp [hx]
      rw [hany]
      have ih := spec_l1Has_l D v hD suf (pre ++ [x]) (by rw [← e]; simp)
      have hq : ((pre ++ [x]).length : Int) = ((pre.length + 1 : Nat) : Int) := by simp
      rw [hq] at ih
      refine Ev.step (fun k => ?_) ih
      simp only [spec_l1Has.l0]
      rw [if_pos (by omega), if_pos (by omega), if_pos (by omega), hg, if_neg (by omega), wr_succ (by omega)]
theorem spec_l1Has_ev (D : List Nat) (v : Nat) (hD : D.length ≤ 1000000) : Ev (fun k => spec_l1Has.f k (ints D) (v : Int)) (D.any fun x => x == v) := spec_l1Has_l D v hD D [] rfl
/-- The prime with an index. -/
def P6 (k : Nat) : Nat := [2, 3, 5, 7, 11, 13].getD k 0
theorem P6_pos : ∀ k, k < 6 → 2 ≤ P6 k ∧ P6 k ≤ 13 := by decide
theorem spec_rePrime_eq : ∀ k : Nat, k < 6 → spec_rePrime.f (k : Int) = some ((P6 k : Nat) : Int) := by decide
def PL (n : Nat) : List Int := ([2, 3, 5, 7, 11, 13] : List Int).take n
theorem PL_len : ∀ n, n ≤ 6 → (PL n).length = n := by decide
theorem PL_get : ∀ n, n ≤ 6 → ∀ k, k < n → rd (PL n) ((k : Nat) : Int) = ((P6 k : Nat) : Int) := by decide
theorem cptA_mem : ∀ (l : List Int) (p x : Int), x ∈ p :: cptA p l ↔ x ∈ p :: l
  | [], _, _ => by simp [cptA]
  | a :: l, p, x => by
    by_cases h : a = p
    · subst h
      have ih := cptA_mem l a x
      simp only [cptA, if_true]
      rw [ih]
      simp
    · have ih := cptA_mem l a x
      simp only [cptA, if_neg h]
      rw [List.mem_cons, ih, List.mem_cons (a := x) (b := p)]
theorem cptA_sorted : ∀ (l : List Int) (p : Int), (p :: l).Pairwise (· ≤ ·) → (p :: cptA p l).Pairwise (· < ·)
  | [], _, _ => by simp [cptA]
  | a :: l, p, hs => by
    rw [List.pairwise_cons] at hs
    obtain ⟨h1, h2⟩ := hs
    by_cases h : a = p
    · subst h
      simp only [cptA, if_true]
      exact cptA_sorted l a h2
    · have ih := cptA_sorted l a h2
      simp only [cptA, if_neg h]
      rw [List.pairwise_cons]
      refine ⟨fun x hx => ?_, ih⟩
      have h3 := (cptA_mem l a x).1 hx
      have h4 := h1 a (by simp)
      rw [List.pairwise_cons] at h2
      rcases List.mem_cons.1 h3 with rfl | h5
      · omega
      · have := h2.1 x h5; omega
theorem cpt_mem (l : List Int) (x : Int) : x ∈ cpt l ↔ x ∈ l := by
  cases l with
  | nil => simp [cpt]
  | cons a l => exact cptA_mem l a x
theorem cpt_sorted (l : List Int) (h : l.Pairwise (· ≤ ·)) : (cpt l).Pairwise (· < ·) := by
  cases l with
  | nil => simp [cpt]
  | cons a l => exact cptA_sorted l a h
theorem sorted_uniqueI : ∀ {l m : List Int}, l.Pairwise (· < ·) → m.Pairwise (· < ·) → (∀ x, x ∈ l ↔ x ∈ m) → l = m
  | [], [], _, _, _ => rfl
  | [], y :: m, _, _, h => by have := (h y).2 (by simp); simp at this
  | x :: l, [], _, _, h => by have := (h x).1 (by simp); simp at this
  | x :: l, y :: m, hl, hm, h => by
    rw [List.pairwise_cons] at hl hm
    have hxy : x = y := by
      have h1 := (h x).1 (by simp)
      have h2 := (h y).2 (by simp)
      rw [List.mem_cons] at h1 h2
      rcases h1 with h1 | h1
      · exact h1
      · rcases h2 with h2 | h2
        · exact h2.symm
        · have := hm.1 x h1; have := hl.1 y h2; omega
    subst hxy
    rw [sorted_uniqueI hl.2 hm.2 fun z => ?_]
    have := h z
    rw [List.mem_cons, List.mem_cons] at this
    constructor
    · intro hz
      rcases this.1 (Or.inr hz) with rfl | h3
      · have := hl.1 z hz; omega
      · exact h3
    · intro hz
      rcases this.2 (Or.inr hz) with rfl | h3
      · have := hm.1 z hz; omega
      · exact h3
/-- Sorted, and of equal ones one: the increasing list of the same numbers. -/
theorem sort_cpt {L F : List Nat} (hF : F.Pairwise (· < ·)) (hm : ∀ x, x ∈ F ↔ x ∈ L) : cpt ((ints L).mergeSort fun x y => decide (x ≤ y)) = ints F := by
  have htr : ∀ a b c : Int, decide (a ≤ b) = true → decide (b ≤ c) = true → decide (a ≤ c) = true := fun a b c h1 h2 => by
    rw [decide_eq_true_iff] at *; omega
  have hto : ∀ a b : Int, (decide (a ≤ b) || decide (b ≤ a)) = true := fun a b => by
    rw [Bool.or_eq_true, decide_eq_true_iff, decide_eq_true_iff]; omega
  have hs := List.pairwise_mergeSort htr hto (ints L)
  have hp := List.mergeSort_perm (ints L) (fun x y => decide (x ≤ y))
  refine sorted_uniqueI (cpt_sorted _ (hs.imp fun h => of_decide_eq_true h)) ?_ fun x => ?_
  · unfold ints
    rw [List.pairwise_map]
    exact hF.imp fun h => by omega
  · rw [cpt_mem, hp.mem_iff]
    unfold ints
    rw [List.mem_map, List.mem_map]
    constructor
    · rintro ⟨a, ha, rfl⟩; exact ⟨a, (hm a).2 ha, rfl⟩
    · rintro ⟨a, ha, rfl⟩; exact ⟨a, (hm a).1 ha, rfl⟩
theorem mod_sort (m : List Nat) (p : Nat) (hp : 0 < p) : cpt ((ints (m.map fun x => x % p)).mergeSort fun x y => decide (x ≤ y)) = ints (rests m p) := by
  refine sort_cpt (List.Pairwise.filter _ List.pairwise_lt_range) fun r => ?_
  unfold rests
  rw [List.mem_filter, List.mem_range, hs_iff, List.mem_map]
  constructor
  · rintro ⟨_, x, hx, he⟩; exact ⟨x, hx, he⟩
  · rintro ⟨x, hx, rfl⟩; exact ⟨Nat.mod_lt x hp, x, hx, rfl⟩
theorem impl_restsOf_l (m : List Nat) (hm : m.length ≤ 100) (p : Nat) (hp : 0 < p) (hpm : p ≤ 1000) : ∀ suf pre, pre ++ suf = m → Ev (fun z => impl_restsOf.l0 z (p : Int) (ints (pre.map fun x => x % p)) (ints m) ((ints m).length : Int) (pre.length : Int)) (ints (rests m p))
  | [], pre, e => by
    rw [List.append_nil] at e
    subst e
    have e1 : slices_Sort_int_int.f (ints (pre.map fun x => x % p)) = some ((ints (pre.map fun x => x % p)).mergeSort fun x y => decide (x ≤ y)) := by
      unfold slices_Sort_int_int.f
      rw [if_pos (by rw [ints_len, List.length_map]; omega)]
    have e2 : slices_Compact_int_int.f ((ints (pre.map fun x => x % p)).mergeSort fun x y => decide (x ≤ y)) = some (ints (rests pre p)) := by
      unfold slices_Compact_int_int.f
      rw [if_pos (by rw [List.length_mergeSort, ints_len, List.length_map]; omega), mod_sort pre p hp]
    refine Ev.done fun z => ?_
    simp only [impl_restsOf.l0]
    rw [ints_len, if_neg (by omega), e1, Option.bind_some, e2, Option.bind_some]
  | x :: suf, pre, e => by
    have hlen : (ints m).length = pre.length + 1 + suf.length := by rw [ints_len, ← e]; simp; omega
    have hl : m.length = pre.length + 1 + suf.length := by rw [← e]; simp; omega
    have hg : rd (ints m) (pre.length : Int) = (x : Int) := by rw [← e]; exact ints_get pre x suf
    have ih := impl_restsOf_l m hm p hp hpm suf (pre ++ [x]) (by rw [← e]; simp)
    have hq : ((pre ++ [x]).length : Int) = ((pre.length + 1 : Nat) : Int) := by simp
    have hap : ints ((pre ++ [x]).map fun x => x % p) = ints (pre.map fun x => x % p) ++ [((x % p : Nat) : Int)] := by simp [ints]
    rw [hq, hap] at ih
    refine Ev.step (fun z => ?_) ih
    simp only [impl_restsOf.l0]
    rw [if_pos (by omega), if_pos (by omega), if_pos (by omega), if_neg (by omega), if_pos (by rw [ints_len, List.length_map]; omega), hg, tm, wr_succ (by omega)]
theorem impl_restsOf_ev (m : List Nat) (hm : m.length ≤ 100) (p : Nat) (hp : 0 < p) (hpm : p ≤ 1000) : Ev (fun z => impl_restsOf.f z (ints m) (p : Int)) (ints (rests m p)) := impl_restsOf_l m hm p hp hpm m [] rfl
/-- The least prime, from one with an index on, that closes. -/
def clF (m : List Nat) : Nat → Nat → Nat
  | 0, _ => 0
  | c + 1, k => if (rests m (P6 k)).length = P6 k then P6 k else clF m c (k + 1)
/-- No prime closes. -/
def opn (m : List Nat) : Bool := clF m 6 0 == 0
theorem impl_closing_l (m : List Nat) (hm : m.length ≤ 100) : ∀ c k : Nat, k + c = 6 → Ev (fun z => impl_closing.l0 z (ints m) (PL 6) 6 (k : Int)) ((clF m c k : Nat) : Int)
  | 0, k, e => by
    refine Ev.done fun z => ?_
    simp only [impl_closing.l0]
    rw [if_neg (by omega)]
    rfl
  | c + 1, k, e => by
    have ih := impl_closing_l m hm c (k + 1) (by omega)
    have hP := P6_pos k (by omega)
    have hg := PL_get 6 (by omega) k (by omega)
    have hl := PL_len 6 (by omega)
    have hr := impl_restsOf_ev m hm (P6 k) (by omega) (by omega)
    refine Ev.step (f := ?f0) (fun z => ?a0) ?b0
    case a0 =>
      simp only [impl_closing.l0]
      rw [if_pos (by omega), if_pos (by omega), if_pos (by omega), hg, wr_succ (by omega)]
    refine hr.bind ?_
    by_cases h : (rests m (P6 k)).length = P6 k
    · have e1 : clF m (c + 1) k = P6 k := by simp only [clF]; rw [if_pos h]
      rw [e1]
      simp only [if_pos (show ((ints (rests m (P6 k))).length : Int) = ((P6 k : Nat) : Int) by rw [ints_len]; omega)]
      exact Ev.now _
    · have e1 : clF m (c + 1) k = clF m c (k + 1) := by simp only [clF]; rw [if_neg h]
      rw [e1]
      simp only [if_neg (show ¬ ((ints (rests m (P6 k))).length : Int) = ((P6 k : Nat) : Int) by rw [ints_len]; omega)]
      exact ih
theorem impl_closing_ev (m : List Nat) (hm : m.length ≤ 100) : Ev (fun z => impl_closing.f z (ints m)) ((clF m 6 0 : Nat) : Int) := by
  unfold impl_closing.f impl_firstSix.f
  simp only [Option.bind_some]
  exact impl_closing_l m hm 6 0 rfl
theorem impl_isOpen_ev (m : List Nat) (hm : m.length ≤ 100) : Ev (fun z => impl_isOpen.f z (ints m)) (opn m) := by
  unfold impl_isOpen.f
  refine (impl_closing_ev m hm).bind ?_
  have e : (((clF m 6 0 : Nat) : Int) == 0) = opn m := by
    unfold opn
    rw [Bool.eq_iff_iff, beq_iff_eq, beq_iff_eq]
    omega
  rw [e]
  exact Ev.now _
theorem one_len (c : Nat) : ∀ p, ((List.range p).filter fun r => c == r).length ≤ 1
  | 0 => by simp
  | p + 1 => by
    have ih := one_len c p
    rw [range_filter_succ, List.length_append]
    by_cases h : c = p
    · subst h
      have h0 : ((List.range c).filter fun r => c == r) = [] := by
        rw [List.filter_eq_nil_iff]
        intro a ha he
        have := List.mem_range.1 ha
        have := beq_iff_eq.1 he
        omega
      rw [h0]
      simp
    · have h0 : (c == p) = false := beq_eq_false_iff_ne.2 h
      rw [h0]
      simpa using ih
theorem or_len (a b : Nat → Bool) : ∀ l : List Nat, (l.filter fun r => a r || b r).length ≤ (l.filter a).length + (l.filter b).length
  | [] => by simp
  | x :: l => by
    have ih := or_len a b l
    cases ha : a x <;> cases hb : b x <;> simp [ha, hb] <;> omega
theorem rests_le (p : Nat) : ∀ m : List Nat, (rests m p).length ≤ m.length
  | [] => by simp [rests, hs]
  | x :: m => by
    have ih := rests_le p m
    have h1 := one_len (x % p) p
    have h2 := or_len (fun r => x % p == r) (hs m p) (List.range p)
    have e : rests (x :: m) p = (List.range p).filter fun r => (x % p == r) || hs m p r := rfl
    rw [e, List.length_cons]
    unfold rests at ih
    omega
theorem P6_mono : ∀ k, k < 5 → P6 k ≤ P6 (k + 1) := by decide
theorem clF_none (m : List Nat) : ∀ c k, k + c = 6 → m.length < P6 k → clF m c k = 0
  | 0, _, _, _ => rfl
  | c + 1, k, e, h => by
    have h1 := rests_le (P6 k) m
    simp only [clF]
    rw [if_neg (by omega)]
    by_cases h5 : k < 5
    · have := P6_mono k h5
      exact clF_none m c (k + 1) (by omega) (by omega)
    · have : c = 0 := by omega
      subst this
      rfl
theorem spec_reClosing_l (m : List Nat) (hm : m.length ≤ 100) : ∀ c k : Nat, k + c = 6 → Ev (fun z => spec_reClosing.l0 z (ints m) (k : Int)) ((clF m c k : Nat) : Int)
  | 0, k, e => by
    refine Ev.step (f := fun z => spec_reClosing.j1 z (ints m) (k : Int) false) (fun z => ?_) (Ev.done fun z => ?_)
    · simp only [spec_reClosing.l0]
      rw [if_neg (by omega)]
    · simp only [spec_reClosing.j1]
      rfl
  | c + 1, k, e => by
    have ih := spec_reClosing_l m hm c (k + 1) (by omega)
    have hP := P6_pos k (by omega)
    have hp := spec_rePrime_eq k (by omega)
    have hr := spec_reRests_ev m (P6 k) (by omega) (by omega) hm
    refine Ev.step (f := fun z => spec_reClosing.j1 z (ints m) (k : Int) (decide (((P6 k : Nat) : Int) ≤ ((ints m).length : Int)))) (fun z => ?_) ?_
    · simp only [spec_reClosing.l0]
      rw [if_pos (by omega), hp, Option.bind_some]
    by_cases hl : P6 k ≤ m.length
    · rw [decide_eq_true (show ((P6 k : Nat) : Int) ≤ ((ints m).length : Int) by rw [ints_len]; omega)]
      refine Ev.step (f := ?f0) (fun z => ?a0) ?b0
      case a0 =>
        simp only [spec_reClosing.j1, hp, Option.bind_some, if_true]
        rw [wr_succ (by omega)]
      refine hr.bind ?_
      by_cases h : (rests m (P6 k)).length = P6 k
      · have e1 : clF m (c + 1) k = P6 k := by simp only [clF]; rw [if_pos h]
        rw [e1]
        simp only [if_pos (show ((ints (rests m (P6 k))).length : Int) = ((P6 k : Nat) : Int) by rw [ints_len]; omega)]
        exact Ev.now _
      · have e1 : clF m (c + 1) k = clF m c (k + 1) := by simp only [clF]; rw [if_neg h]
        rw [e1]
        simp only [if_neg (show ¬ ((ints (rests m (P6 k))).length : Int) = ((P6 k : Nat) : Int) by rw [ints_len]; omega)]
        exact ih
    · rw [decide_eq_false (show ¬ ((P6 k : Nat) : Int) ≤ ((ints m).length : Int) by rw [ints_len]; omega), clF_none m (c + 1) k (by omega) (by omega)]
      refine Ev.done fun z => ?_
      simp only [spec_reClosing.j1]
      rfl
theorem spec_reClosing_ev (m : List Nat) (hm : m.length ≤ 100) : Ev (fun z => spec_reClosing.f z (ints m)) ((clF m 6 0 : Nat) : Int) := spec_reClosing_l m hm 6 0 rfl
/-- What is below x at a list's head, and what comes then. -/
def spl (x : Nat) : List Nat → List Nat × List Nat
  | [] => ([], [])
  | y :: m => if y < x then (y :: (spl x m).1, (spl x m).2) else ([], y :: m)
theorem spl_app (x : Nat) : ∀ m, (spl x m).1 ++ (spl x m).2 = m
  | [] => rfl
  | y :: m => by
    have ih := spl_app x m
    simp only [spl]
    split
    · simp only [List.cons_append, ih]
    · rfl
theorem spl_lt (x : Nat) : ∀ m, ∀ y ∈ (spl x m).1, y < x
  | [], y, h => by simp [spl] at h
  | z :: m, y, h => by
    have ih := spl_lt x m
    simp only [spl] at h
    by_cases hz : z < x
    · rw [if_pos hz] at h
      rcases List.mem_cons.1 h with rfl | h
      · exact hz
      · exact ih y h
    · rw [if_neg hz] at h
      simp at h
theorem spl_ge (x : Nat) : ∀ m : List Nat, m.Pairwise (· < ·) → ∀ y ∈ (spl x m).2, x ≤ y
  | [], _, y, h => by simp [spl] at h
  | z :: m, hs, y, h => by
    rw [List.pairwise_cons] at hs
    have ih := spl_ge x m hs.2
    simp only [spl] at h
    by_cases hz : z < x
    · rw [if_pos hz] at h
      exact ih y h
    · rw [if_neg hz] at h
      rcases List.mem_cons.1 h with rfl | h
      · omega
      · have := hs.1 y h; omega
/-- The list with x in its place. -/
def insx (m : List Nat) (x : Nat) : List Nat := (spl x m).1 ++ x :: (spl x m).2
/-- How many are below x. -/
def pos (m : List Nat) (x : Nat) : Nat := (spl x m).1.length
theorem pos_le (m : List Nat) (x : Nat) : pos m x ≤ m.length := by
  have h := congrArg List.length (spl_app x m)
  rw [List.length_append] at h
  unfold pos
  omega
theorem ints_take' (A B : List Nat) : (ints (A ++ B)).take A.length = ints A := by
  have := ints_take A B
  rwa [Int.toNat_natCast] at this
theorem ints_drop' (A B : List Nat) : (ints (A ++ B)).drop A.length = ints B := by
  unfold ints
  rw [List.map_append]
  exact List.drop_left' (by simp)
theorem take_pos (m : List Nat) (x : Nat) : (ints m).take (pos m x) = ints (spl x m).1 := by
  have h := ints_take' (spl x m).1 (spl x m).2
  rw [spl_app] at h
  exact h
theorem drop_pos (m : List Nat) (x : Nat) : (ints m).drop (pos m x) = ints (spl x m).2 := by
  have h := ints_drop' (spl x m).1 (spl x m).2
  rw [spl_app] at h
  exact h
theorem insx_parts (m : List Nat) (x : Nat) : ints (spl x m).1 ++ [(x : Int)] ++ ints (spl x m).2 = ints (insx m x) := by
  unfold insx ints
  simp
/-- The number with an index is below x exactly if the index is below the place. -/
theorem at_pos {m : List Nat} (hs : m.Pairwise (· < ·)) (x : Nat) {h : Nat} (hh : h < m.length) : ∃ y : Nat, rd (ints m) (h : Int) = (y : Int) ∧ y ∈ m ∧ (y < x ↔ h < pos m x) := by
  have hg : rd (ints m) (h : Int) = ((m[h] : Nat) : Int) := by
    unfold rd ints
    rw [Int.toNat_natCast, List.getD_eq_getElem?_getD, List.getElem?_map, List.getElem?_eq_getElem hh]
    rfl
  have hmem : m[h] ∈ m := List.getElem_mem hh
  have hm : m[h]? = some m[h] := List.getElem?_eq_getElem hh
  generalize m[h] = y at hg hmem hm
  refine ⟨y, hg, hmem, ?_⟩
  rw [← spl_app x m] at hm
  by_cases hc : h < pos m x
  · rw [List.getElem?_append_left hc] at hm
    have h2 := spl_lt x m _ (List.mem_of_getElem? hm)
    exact ⟨fun _ => hc, fun _ => h2⟩
  · rw [List.getElem?_append_right (by unfold pos at hc; omega)] at hm
    have h2 := spl_ge x m hs _ (List.mem_of_getElem? hm)
    exact ⟨fun h3 => by omega, fun h3 => absurd h3 hc⟩
/-- x stands in its place exactly if it is one of the list's. -/
theorem mem_pos {m : List Nat} (hs : m.Pairwise (· < ·)) (x : Nat) : x ∈ m ↔ pos m x < m.length ∧ rd (ints m) ((pos m x : Nat) : Int) = (x : Int) := by
  constructor
  · intro hx
    obtain ⟨h, hh, he⟩ := List.mem_iff_getElem.1 hx
    obtain ⟨y, h1, _, h3⟩ := at_pos hs x hh
    have hy : y = x := by
      have hg : rd (ints m) (h : Int) = ((m[h] : Nat) : Int) := by
        unfold rd ints
        rw [Int.toNat_natCast, List.getD_eq_getElem?_getD, List.getElem?_map, List.getElem?_eq_getElem hh]
        rfl
      rw [he] at hg
      omega
    have hp : pos m x ≤ h := by
      apply Decidable.byContradiction
      intro hc
      have := h3.2 (by omega)
      omega
    have hlt : pos m x < m.length := by omega
    refine ⟨hlt, ?_⟩
    obtain ⟨z, g1, g2, g3⟩ := at_pos hs x hlt
    rw [g1]
    have hz : ¬ z < x := fun hc => by have := g3.1 hc; omega
    -- z stands at or before x
    have hgz : rd (ints m) ((pos m x : Nat) : Int) = ((m[pos m x] : Nat) : Int) := by
      unfold rd ints
      rw [Int.toNat_natCast, List.getD_eq_getElem?_getD, List.getElem?_map, List.getElem?_eq_getElem hlt]
      rfl
    have hzz : z = m[pos m x] := by omega
    rcases Nat.lt_or_ge (pos m x) h with h4 | h4
    · have h5 := List.pairwise_iff_getElem.1 hs (pos m x) h hlt hh h4
      omega
    · have h6 : pos m x = h := by omega
      have h7 : m[pos m x] = m[h] := by congr 1
      omega
  · rintro ⟨h1, h2⟩
    obtain ⟨y, g1, g2, _⟩ := at_pos hs x h1
    have : y = x := by omega
    rw [← this]; exact g2
theorem any_mem (m : List Nat) (x : Nat) : (m.any fun y => y == x) = true ↔ x ∈ m := by
  rw [List.any_eq_true]
  constructor
  · rintro ⟨y, hy, he⟩; rw [← beq_iff_eq.1 he]; exact hy
  · intro h; exact ⟨x, h, beq_iff_eq.2 rfl⟩
theorem cmp_Less_eq (a b : Int) : cmp_Less_int.f a b = some (decide (a < b)) := by
  unfold cmp_Less_int.f cmp_isNaN_int.f
  simp
theorem hmid {i j : Nat} (hi : i ≤ 1000000) (hj : j ≤ 1000000) : wrap64 ((IntKind.u64.wrap (wrap64 ((i : Int) + (j : Int)))) / 2) = (((i + j) / 2 : Nat) : Int) := by
  have h1 : wrap64 ((i : Int) + (j : Int)) = ((i + j : Nat) : Int) := by rw [wri (by omega) (by omega)]; omega
  have h2 : IntKind.u64.wrap ((i + j : Nat) : Int) = ((i + j : Nat) : Int) := by
    have : IntKind.u64.wrap ((i + j : Nat) : Int) = ((i + j : Nat) : Int) % 18446744073709551616 := by simp [IntKind.wrap, IntKind.bits, IntKind.signed]
    rw [this]; omega
  rw [h1, h2, wri (by omega) (by omega)]
  omega
theorem bs_l {m : List Nat} (hs : m.Pairwise (· < ·)) (hm : m.length ≤ 1000000) (x : Nat) : ∀ c i j, j - i ≤ c → i ≤ pos m x → pos m x ≤ j → j ≤ m.length → Ev (fun k => slices_BinarySearch_int_int.l0 k (ints m) (x : Int) ((ints m).length : Int) (i : Int) (j : Int)) (((pos m x : Nat) : Int), m.any fun y => y == x) := by
  have hend : Ev (fun k => slices_BinarySearch_int_int.l0 k (ints m) (x : Int) ((ints m).length : Int) ((pos m x : Nat) : Int) ((pos m x : Nat) : Int)) (((pos m x : Nat) : Int), m.any fun y => y == x) := by
    have hp := pos_le m x
    refine Ev.done fun k => ?_
    simp only [slices_BinarySearch_int_int.l0]
    rw [if_neg (by omega), ints_len]
    by_cases h : pos m x < m.length
    · rw [if_pos (by omega), if_pos (by omega), if_pos (by omega)]
      by_cases he : rd (ints m) ((pos m x : Nat) : Int) = (x : Int)
      · rw [if_pos he, (any_mem m x).2 ((mem_pos hs x).2 ⟨h, he⟩)]
      · have hn : (m.any fun y => y == x) = false := by
          rw [← Bool.not_eq_true, any_mem, mem_pos hs x]
          exact fun hc => he hc.2
        rw [if_neg he, hn]
        unfold slices_isNaN_int.f
        simp
    · have hn : (m.any fun y => y == x) = false := by
        rw [← Bool.not_eq_true, any_mem, mem_pos hs x]
        exact fun hc => h hc.1
      rw [if_neg (by omega), hn]
  intro c
  induction c with
  | zero =>
    intro i j h1 h2 h3 h4
    obtain rfl : i = pos m x := by omega
    obtain rfl : j = pos m x := by omega
    exact hend
  | succ c ih =>
    intro i j h1 h2 h3 h4
    by_cases hij : i < j
    · have hlt : (i + j) / 2 < m.length := by omega
      obtain ⟨y, g1, _, g3⟩ := at_pos hs x hlt
      have hmd := hmid (i := i) (j := j) (by omega) (by omega)
      have hle : i ≤ (i + j) / 2 := by omega
      have hlj : (i + j) / 2 < j := by omega
      by_cases hc : y < x
      · refine Ev.step (fun k => ?_) (ih ((i + j) / 2 + 1) j (by omega) (by have := g3.1 hc; omega) h3 h4)
        simp only [slices_BinarySearch_int_int.l0]
        rw [if_pos (by omega), hmd, if_pos (by omega), if_pos (by rw [ints_len]; omega), g1, cmp_Less_eq, Option.bind_some, if_pos (decide_eq_true (by omega)), wr_succ (by omega)]
      · have hpc : pos m x ≤ (i + j) / 2 := by
          apply Decidable.byContradiction
          intro hn
          exact hc (g3.2 (by omega))
        refine Ev.step (fun k => ?_) (ih i ((i + j) / 2) (by omega) h2 hpc (by omega))
        simp only [slices_BinarySearch_int_int.l0]
        rw [if_pos (by omega), hmd, if_pos (by omega), if_pos (by rw [ints_len]; omega), g1, cmp_Less_eq, Option.bind_some, if_neg (by rw [decide_eq_true_iff]; omega)]
    · obtain rfl : i = pos m x := by omega
      obtain rfl : j = pos m x := by omega
      exact hend
theorem bs_ev {m : List Nat} (hs : m.Pairwise (· < ·)) (hm : m.length ≤ 1000000) (x : Nat) : Ev (fun k => slices_BinarySearch_int_int.f k (ints m) (x : Int)) (((pos m x : Nat) : Int), m.any fun y => y == x) := by
  have := bs_l hs hm x m.length 0 m.length (by omega) (Nat.zero_le _) (pos_le m x) (Nat.le_refl _)
  unfold slices_BinarySearch_int_int.f
  rw [ints_len] at this ⊢
  exact this
theorem rd_ints {m : List Nat} {h : Nat} (hh : h < m.length) : rd (ints m) (h : Int) = ((m[h] : Nat) : Int) := by
  unfold rd ints
  rw [Int.toNat_natCast, List.getD_eq_getElem?_getD, List.getElem?_map, List.getElem?_eq_getElem hh]
  rfl
theorem isP_ints (m : List Nat) : isP (ints m) = true ↔ m.length ≤ 8 ∧ (∃ m', m = 0 :: m') ∧ m.Pairwise (· < ·) ∧ ∀ x ∈ m, x ≤ 60 := by
  rw [isP_iff, ints_len]
  constructor
  · rintro ⟨⟨h1, h2⟩, h3⟩
    refine ⟨h2, ?_, ?_, ?_⟩
    · cases m with
      | nil => simp at h1
      | cons y m' =>
        have h4 := (h3 0 (by simp)).1 rfl
        rw [rd_ints (by simp)] at h4
        have : y = 0 := by simpa using h4
        exact ⟨m', by rw [this]⟩
    · rw [List.pairwise_iff_getElem]
      have hd : ∀ d i, (h : i + d + 1 < m.length) → m[i] < m[i + d + 1] := by
        intro d
        induction d with
        | zero =>
          intro i h
          have h5 := (h3 (i + 1) (by omega)).2.1 (by omega)
          rw [Nat.add_sub_cancel, rd_ints (by omega), rd_ints (by omega)] at h5
          exact Int.ofNat_lt.1 h5
        | succ d ih =>
          intro i h
          have h4 := ih i (by omega)
          have h5 := (h3 (i + d + 1 + 1) (by omega)).2.1 (by omega)
          rw [Nat.add_sub_cancel, rd_ints (by omega), rd_ints (by omega)] at h5
          have h6 := Int.ofNat_lt.1 h5
          exact Nat.lt_trans h4 h6
      intro i j hi hj hij
      have := hd (j - i - 1) i (by omega)
      have e : i + (j - i - 1) + 1 = j := by omega
      simpa only [e] using this
    · intro x hx
      obtain ⟨i, hi, rfl⟩ := List.mem_iff_getElem.1 hx
      have h5 := (h3 i hi).2.2
      rw [rd_ints hi] at h5
      omega
  · rintro ⟨h1, ⟨m', rfl⟩, h3, h4⟩
    refine ⟨⟨by simp, h1⟩, fun i hi => ⟨?_, ?_, ?_⟩⟩
    · intro h0
      subst h0
      rw [rd_ints hi]
      rfl
    · intro h0
      rw [rd_ints hi, rd_ints (by omega)]
      have := List.pairwise_iff_getElem.1 h3 (i - 1) i (by omega) hi (by omega)
      exact Int.ofNat_lt.2 this
    · rw [rd_ints hi]
      have := h4 _ (List.getElem_mem hi)
      omega
theorem insx_len (m : List Nat) (x : Nat) : (insx m x).length = m.length + 1 := by
  have h := congrArg List.length (spl_app x m)
  rw [List.length_append] at h
  unfold insx
  rw [List.length_append, List.length_cons]
  omega
theorem isP_insx {m : List Nat} (h : isP (ints m) = true) {x : Nat} (hx : x ≤ 60) (hn : x ∉ m) : isP (ints (insx m x)) = decide (m.length < 8) := by
  obtain ⟨h1, ⟨m', hm'⟩, h3, h4⟩ := (isP_ints m).1 h
  have hgood : (∃ m'', insx m x = 0 :: m'') ∧ (insx m x).Pairwise (· < ·) ∧ ∀ y ∈ insx m x, y ≤ 60 := by
    refine ⟨?_, ?_, ?_⟩
    · have h0 : 0 < x := by
        apply Nat.pos_of_ne_zero
        intro e
        apply hn
        rw [e, hm']
        simp
      rw [hm']
      unfold insx
      simp only [spl, if_pos h0]
      exact ⟨_, rfl⟩
    · have hp := h3
      rw [← spl_app x m, List.pairwise_append] at hp
      unfold insx
      rw [List.pairwise_append, List.pairwise_cons]
      refine ⟨hp.1, ⟨fun y hy => ?_, hp.2.1⟩, fun a ha b hb => ?_⟩
      · have h5 := spl_ge x m h3 y hy
        have h6 : y ∈ m := by rw [← spl_app x m]; exact List.mem_append.2 (.inr hy)
        rcases Nat.lt_or_ge x y with h7 | h7
        · exact h7
        · exact absurd (show x ∈ m by rw [show x = y by omega]; exact h6) hn
      · rcases List.mem_cons.1 hb with rfl | hb
        · exact spl_lt _ m a ha
        · exact hp.2.2 a ha b hb
    · intro y hy
      unfold insx at hy
      rw [List.mem_append, List.mem_cons] at hy
      have hsub : ∀ z, z ∈ (spl x m).1 ∨ z ∈ (spl x m).2 → z ≤ 60 := fun z hz => h4 z (by rw [← spl_app x m]; exact List.mem_append.2 hz)
      rcases hy with hy | rfl | hy
      · exact hsub y (.inl hy)
      · exact hx
      · exact hsub y (.inr hy)
  rw [Bool.eq_iff_iff, isP_ints, decide_eq_true_iff, insx_len]
  constructor
  · intro h; omega
  · intro h; exact ⟨by omega, hgood⟩
/-- x is told. -/
def keepA (m : List Nat) (x : Nat) : Bool := !(m.any fun y => y == x) && (!(decide (m.length = 8)) && opn (insx m x))
theorem spec_l1Own_eq (l : List Int) (h : l.length ≤ 1000000) : spec_l1Own.f l = some l := by
  unfold spec_l1Own.f
  rw [Option.bind_some, if_pos (by rw [List.length_nil]; omega), List.nil_append]
theorem spec_Add_j4 {m : List Nat} (hm : m.length ≤ 90) (w x : Nat) (acc : List Nat) (ha : acc.length ≤ 1000000) (v : List Int × Bool) (hw : w ≤ 60) (hx : x ≤ w)
    (h : Ev (fun k => spec_AddOffsets.l0 k (ints m) (w : Int) (ints (acc ++ if opn (insx m x) then [x] else [])) ((x + 1 : Nat) : Int)) v) : Ev (fun k => spec_AddOffsets.j4 k (ints m) (w : Int) (ints acc) (x : Int) ((pos m x : Nat) : Int)) v := by
  have hp := pos_le m x
  have hl := congrArg List.length (spl_app x m)
  rw [List.length_append] at hl
  have hcl := spec_reClosing_ev (insx m x) (by rw [insx_len]; omega)
  have hs_ : wrap64 ((x : Int) + 1) = ((x + 1 : Nat) : Int) := wr_succ (by omega)
  refine Ev.step (f := ?f0) (fun k => ?a0) ?b0
  case a0 =>
    simp only [spec_AddOffsets.j4]
    rw [if_pos (by omega), if_pos (by rw [ints_len]; omega), Int.toNat_natCast, take_pos, drop_pos, spec_l1Own_eq _ (by rw [ints_len]; omega), Option.bind_some, if_pos (by rw [ints_len]; omega), Option.bind_some, if_pos (by rw [List.length_append, ints_len, ints_len, List.length_singleton]; omega), insx_parts, hs_]
  refine hcl.bind ?_
  by_cases ho : clF (insx m x) 6 0 = 0
  · have e : opn (insx m x) = true := by unfold opn; rw [ho]; rfl
    rw [e] at h
    simp only [if_true, ← ints_app] at h
    simp only [if_pos (show ((clF (insx m x) 6 0 : Nat) : Int) = 0 by omega), if_pos (show (ints acc).length < 17592186044416 by rw [ints_len]; omega)]
    exact h
  · have e : opn (insx m x) = false := by unfold opn; exact beq_eq_false_iff_ne.2 ho
    rw [e] at h
    simp only [Bool.false_eq_true, if_false, List.append_nil] at h
    simp only [if_neg (show ¬ ((clF (insx m x) 6 0 : Nat) : Int) = 0 by omega)]
    exact h
theorem spec_Add_l1 {m : List Nat} (hs : m.Pairwise (· < ·)) (hm : m.length ≤ 90) (w x : Nat) (acc : List Nat) (ha : acc.length ≤ 1000000) (v : List Int × Bool) (hw : w ≤ 60) (hx : x ≤ w)
    (h : Ev (fun k => spec_AddOffsets.l0 k (ints m) (w : Int) (ints (acc ++ if opn (insx m x) then [x] else [])) ((x + 1 : Nat) : Int)) v) : ∀ c i : Nat, i + c = pos m x → Ev (fun k => spec_AddOffsets.l1 k (ints m) (w : Int) (ints acc) (x : Int) (i : Int)) v
  | 0, i, e => by
    have hj := spec_Add_j4 hm w x acc ha v hw hx h
    obtain rfl : i = pos m x := by omega
    have hp := pos_le m x
    refine Ev.step (fun k => ?_) hj
    simp only [spec_AddOffsets.l1]
    rw [ints_len]
    by_cases hc : pos m x < m.length
    · obtain ⟨y, g1, _, g3⟩ := at_pos hs x hc
      rw [if_pos (by omega), if_pos (by omega), g1, if_neg (fun hy => by have := g3.1 (by omega); omega)]
    · rw [if_neg (by omega)]
  | c + 1, i, e => by
    have hp := pos_le m x
    obtain ⟨y, g1, _, g3⟩ := at_pos hs x (show i < m.length by omega)
    have hy := g3.2 (by omega)
    refine Ev.step (fun k => ?_) (spec_Add_l1 hs hm w x acc ha v hw hx h c (i + 1) (by omega))
    simp only [spec_AddOffsets.l1]
    rw [ints_len, if_pos (by omega), if_pos (by omega), g1, if_pos (by omega), wr_succ (by omega)]
theorem spec_Add_l0 {m : List Nat} (hs : m.Pairwise (· < ·)) (hm : m.length ≤ 90) (w : Nat) (hw : w ≤ 60) : ∀ c x : Nat, x + c = w + 1 → Ev (fun k => spec_AddOffsets.l0 k (ints m) (w : Int) (ints ((List.range x).filter (keepA m))) (x : Int)) (ints ((List.range (w + 1)).filter (keepA m)), true)
  | 0, x, e => by
    obtain rfl : x = w + 1 := by omega
    refine Ev.done fun k => ?_
    simp only [spec_AddOffsets.l0]
    rw [if_neg (by omega)]
  | c + 1, x, e => by
    have ih := spec_Add_l0 hs hm w hw c (x + 1) (by omega)
    rw [range_filter_succ] at ih
    have hl : ((List.range x).filter (keepA m)).length ≤ x := Nat.le_trans (List.length_filter_le _ _) (by rw [List.length_range]; exact Nat.le_refl _)
    have hh := spec_l1Has_ev m x (by omega)
    have hs_ : wrap64 ((x : Int) + 1) = ((x + 1 : Nat) : Int) := wr_succ (by omega)
    refine Ev.step (f := ?f0) (fun k => ?a0) ?b0
    case a0 =>
      simp only [spec_AddOffsets.l0]
      rw [if_pos (by omega)]
    refine hh.bind ?_
    have hskip : keepA m x = false → Ev (fun k => spec_AddOffsets.j2 k (ints m) (w : Int) (ints ((List.range x).filter (keepA m))) (x : Int) true) (ints ((List.range (w + 1)).filter (keepA m)), true) := by
      intro hk
      rw [hk] at ih
      simp only [Bool.false_eq_true, if_false, List.append_nil] at ih
      refine Ev.step (fun k => ?_) ih
      simp only [spec_AddOffsets.j2, if_true, hs_]
    cases ha : (m.any fun y => y == x)
    · simp only [Bool.false_eq_true, if_false]
      by_cases h8 : m.length = 8
      · have e8 : (((ints m).length : Int) == 8) = true := by rw [ints_len, h8]; rfl
        rw [e8]
        exact hskip (by unfold keepA; rw [ha, decide_eq_true h8]; rfl)
      · have e8 : (((ints m).length : Int) == 8) = false := by
          rw [ints_len]
          exact beq_eq_false_iff_ne.2 (by omega)
        rw [e8]
        have hk : keepA m x = opn (insx m x) := by unfold keepA; rw [ha, decide_eq_false h8]; rfl
        rw [hk] at ih
        refine Ev.step (fun k => ?_) (spec_Add_l1 hs hm w x _ (by omega) _ hw (by omega) ih (pos m x) 0 (by omega))
        simp only [spec_AddOffsets.j2, Bool.false_eq_true, if_false]
        rfl
    · simp only [if_true]
      exact hskip (by unfold keepA; rw [ha]; rfl)
theorem impl_Add_l0 {m : List Nat} (hp : isP (ints m) = true) (w : Nat) (hw : w ≤ 60) : ∀ c x : Nat, x + c = w + 1 → Ev (fun k => impl_AddOffsets.l0 k (ints m) (ints ((List.range x).filter (keepA m))) ((w + 1 : Nat) : Int) (x : Int)) (ints ((List.range (w + 1)).filter (keepA m)), true)
  | 0, x, e => by
    obtain rfl : x = w + 1 := by omega
    refine Ev.done fun k => ?_
    simp only [impl_AddOffsets.l0]
    rw [if_neg (by omega)]
  | c + 1, x, e => by
    have ih := impl_Add_l0 hp w hw c (x + 1) (by omega)
    rw [range_filter_succ] at ih
    obtain ⟨h8, _, hs, _⟩ := (isP_ints m).1 hp
    have hl : ((List.range x).filter (keepA m)).length ≤ x := Nat.le_trans (List.length_filter_le _ _) (by rw [List.length_range]; exact Nat.le_refl _)
    have hb := bs_ev hs (by omega) x
    have hs_ : wrap64 ((x : Int) + 1) = ((x + 1 : Nat) : Int) := wr_succ (by omega)
    have hpos := pos_le m x
    have hins : slices_Insert_int_int.f (([] : List Int) ++ ints m) ((pos m x : Nat) : Int) [(x : Int)] = some (ints (insx m x)) := by
      unfold slices_Insert_int_int.f
      rw [List.nil_append, if_pos (by omega), if_pos (by rw [ints_len]; omega), if_pos (by simp), if_pos (by rw [ints_len, List.length_singleton]; omega), Int.toNat_natCast, take_pos, drop_pos, insx_parts]
    have hskip : keepA m x = false → Ev (fun k => impl_AddOffsets.l0 k (ints m) (ints ((List.range x).filter (keepA m))) ((w + 1 : Nat) : Int) ((x + 1 : Nat) : Int)) (ints ((List.range (w + 1)).filter (keepA m)), true) := by
      intro hk
      rw [hk] at ih
      simpa only [Bool.false_eq_true, if_false, List.append_nil] using ih
    refine Ev.step (f := ?f0) (fun k => ?a0) ?b0
    case a0 =>
      simp only [impl_AddOffsets.l0]
      rw [if_pos (by omega), hs_]
    refine hb.bind ?_
    simp only [Option.bind_some, if_pos (show ([] : List Int).length + (ints m).length < 17592186044416 by rw [ints_len, List.length_nil]; omega), hins]
    cases ha : (m.any fun y => y == x)
    · simp only [Bool.false_eq_true, if_false]
      have hn : x ∉ m := fun hc => by rw [(any_mem m x).2 hc] at ha; cases ha
      refine (impl_isPattern_ev (ints (insx m x)) (by rw [ints_len, insx_len]; omega)).bind ?_
      rw [isP_insx hp (by omega) hn]
      by_cases h9 : m.length < 8
      · rw [decide_eq_true h9]
        simp only [if_true]
        refine (impl_isOpen_ev (insx m x) (by rw [insx_len]; omega)).bind ?_
        have hk : keepA m x = opn (insx m x) := by unfold keepA; rw [ha, decide_eq_false (show ¬ m.length = 8 by omega)]; rfl
        rw [hk] at ih
        cases ho : opn (insx m x)
        · simp only [Bool.false_eq_true, if_false]
          exact hskip (by rw [hk, ho])
        · rw [ho] at ih
          simp only [if_true, ← ints_app] at ih
          simp only [if_true, if_pos (show (ints ((List.range x).filter (keepA m))).length < 17592186044416 by rw [ints_len]; omega)]
          exact ih
      · rw [decide_eq_false h9]
        simp only [Bool.false_eq_true, if_false]
        exact hskip (by unfold keepA; rw [ha, decide_eq_true (show m.length = 8 by omega)]; rfl)
    · simp only [if_true]
      exact hskip (by unfold keepA; rw [ha]; rfl)
theorem rd_at (l : List Int) (j : Nat) : rd l (j : Int) = l.getD j 0 := by unfold rd; rw [Int.toNat_natCast]
theorem laws_eqIntS_l (l : List Int) (hl : l.length ≤ 4000000000000000000) : ∀ (j i : Nat), l.length ≤ i + j → i ≤ l.length → Ev (fun k => laws_eqIntS.l0 k l l i) true := by
  intro j
  induction j with
  | zero =>
    intro i h1 h2
    refine Ev.done fun k => ?_
    simp only [laws_eqIntS.l0]
    rw [if_neg (by omega)]
  | succ j ih =>
    intro i h1 h2
    by_cases h : i < l.length
    · refine Ev.step (fun k => ?_) (ih (i + 1) (by omega) (by omega))
      simp only [laws_eqIntS.l0]
      rw [if_pos (by omega), if_pos (by omega), if_pos (by omega), if_pos trivial, wr_succ (by omega)]
    · refine Ev.done fun k => ?_
      simp only [laws_eqIntS.l0]
      rw [if_neg (by omega)]
theorem laws_eqIntS_self (l : List Int) (hl : l.length ≤ 4000000000000000000) : Ev (fun k => laws_eqIntS.f k l l) true := by
  unfold laws_eqIntS.f
  refine Ev.congr (fun k => if_pos rfl) (laws_eqIntS_l l hl l.length 0 (by omega) (by omega))
/-- a, a + 1, .., so many. -/
def seqI (a : Int) : Nat → List Int
  | 0 => []
  | n + 1 => a :: seqI (a + 1) n
theorem seqI_len : ∀ (n : Nat) (a : Int), (seqI a n).length = n
  | 0, _ => rfl
  | n + 1, a => by simp [seqI, seqI_len n]
theorem seqI_get : ∀ (n : Nat) (a : Int) (j : Nat), j < n → (seqI a n).getD j 0 = a + j
  | 0, _, _, h => by omega
  | n + 1, a, 0, _ => by simp [seqI]
  | n + 1, a, j + 1, h => by
    have := seqI_get n (a + 1) j (by omega)
    simp only [seqI, List.getD_cons_succ]
    rw [this]; omega
theorem laws_markIntS_l : ∀ (l pre : List Int) (a : Int), (pre ++ l).length ≤ 1000000000000000000 → 0 ≤ a → a ≤ 1000000000000000000 + pre.length → Ev (fun k => laws_markIntS.l0 k (pre ++ l) a (pre.length : Int)) (a + l.length, pre ++ seqI a l.length)
  | [], pre, a, hl, h0, ha => by
    refine Ev.done fun k => ?_
    simp only [laws_markIntS.l0]
    rw [if_neg (by simp)]
    simp [seqI]
  | x :: l, pre, a, hl, h0, ha => by
    have hlen : (pre ++ x :: l).length = pre.length + 1 + l.length := by simp; omega
    have ih := laws_markIntS_l l (pre ++ [a]) (a + 1) (by simp at hl ⊢; omega) (by omega) (by simp; omega)
    have hset : (pre ++ x :: l).set pre.length a = pre ++ a :: l := by simp
    refine Ev.step (f := fun k => laws_markIntS.l0 k (pre ++ [a] ++ l) (a + 1) ((pre ++ [a]).length : Int)) (fun k => ?_) ?_
    · simp only [laws_markIntS.l0]
      rw [if_pos (by omega), if_pos (by omega), Int.toNat_natCast, hset, wri (by omega) (by omega), wr_succ (by omega)]
      simp
    · have e : (a + ((x :: l).length : Int), pre ++ seqI a (x :: l).length) = (a + 1 + (l.length : Int), pre ++ [a] ++ seqI (a + 1) l.length) := by
        simp [seqI]; omega
      rw [e]; exact ih
theorem laws_markIntS_ev (l : List Int) (a : Int) (hl : l.length ≤ 1000000000000000000) (h0 : 0 ≤ a) (h1 : a ≤ 1000000000000000000) : Ev (fun k => laws_markIntS.f k l a) (a + l.length, seqI a l.length) := by
  have := laws_markIntS_l l [] a (by simpa using hl) h0 (by simpa using h1)
  exact this
theorem laws_heldIntS_l (n : Nat) (a : Int) (hn : n ≤ 1000000000000000000) (h0 : 0 ≤ a) (h1 : a ≤ 1000000000000000000) : ∀ (j i : Nat), n ≤ i + j → i ≤ n → Ev (fun k => laws_heldIntS.l0 k (seqI a n) (a + i) i) (a + n) := by
  have hl := seqI_len n a
  intro j
  induction j with
  | zero =>
    intro i h2 h3
    obtain rfl : i = n := by omega
    refine Ev.done fun k => ?_
    simp only [laws_heldIntS.l0]
    rw [if_neg (by omega)]
  | succ j ih =>
    intro i h2 h3
    by_cases h : i < n
    · refine Ev.step (fun k => ?_) (ih (i + 1) (by omega) (by omega))
      have hg : rd (seqI a n) (i : Int) = a + i := by unfold rd; rw [Int.toNat_natCast]; exact seqI_get n a i h
      simp only [laws_heldIntS.l0]
      rw [if_pos (by omega), if_pos (by omega), if_pos hg, wri (by omega) (by omega), wr_succ (by omega)]
      rw [show a + (i : Int) + 1 = a + ((i + 1 : Nat) : Int) by omega]
    · obtain rfl : i = n := by omega
      refine Ev.done fun k => ?_
      simp only [laws_heldIntS.l0]
      rw [if_neg (by omega)]
theorem laws_heldIntS_ev (n : Nat) (a : Int) (hn : n ≤ 1000000000000000000) (h0 : 0 ≤ a) (h1 : a ≤ 1000000000000000000) : Ev (fun k => laws_heldIntS.f k (seqI a n) a) (a + n) := by
  have := laws_heldIntS_l n a hn h0 h1 n 0 (by omega) (by omega)
  unfold laws_heldIntS.f
  simpa using this
theorem laws_toIntS_l : ∀ (suf pre z : List Int), z.length = suf.length → (pre ++ suf).length ≤ 4000000000 → Ev (fun k => laws_toIntS.l0 k (pre ++ suf) (pre ++ z) (pre.length : Nat)) (pre ++ suf)
  | [], pre, z, hz, _ => by
    have : z = [] := List.eq_nil_of_length_eq_zero hz
    subst this
    refine Ev.done fun k => ?_
    simp only [laws_toIntS.l0]
    rw [if_neg (by simp)]
  | x :: suf, pre, [], hz, _ => by simp at hz
  | x :: suf, pre, y :: z, hz, hl => by
    have hlen : (pre ++ x :: suf).length = pre.length + 1 + suf.length := by simp; omega
    have hlen2 : (pre ++ y :: z).length = pre.length + 1 + z.length := by simp; omega
    have ih := laws_toIntS_l suf (pre ++ [x]) z (by simpa using hz) (by simpa using hl)
    rw [List.append_assoc, List.append_assoc] at ih
    simp only [List.singleton_append, List.length_append, List.length_singleton] at ih
    have hrd : rd (pre ++ x :: suf) (pre.length : Int) = x := by unfold rd; rw [Int.toNat_natCast]; simp
    refine Ev.step (fun k => ?_) ih
    simp only [laws_toIntS.l0]
    rw [if_pos (by omega), if_pos (by omega), if_pos (by omega), hrd, wr_succ (by omega), Int.toNat_natCast, List.set_append_right _ _ (Nat.le_refl _), Nat.sub_self]
    rfl
theorem laws_toIntS_ev (l : List Int) (h : l.length ≤ 1048576) : Ev (fun k => laws_toIntS.f k l) l := by
  unfold laws_toIntS.f
  simp only [if_pos (show 0 ≤ (l.length : Int) by omega), Int.toNat_natCast, if_pos (show l.length ≤ 35184372088832 by omega)]
  exact laws_toIntS_l l [] (List.replicate l.length 0) (by simp) (by simp; omega)
/-- The law over a list of ints that both sides come to, from a list of ints and an int. -/
theorem law_tail (l : List Int) (a : Int) (r : List Int) (b : Bool) (hl : l.length ≤ 1048576) (hr : r.length ≤ 1000000000) (h1 : Ev (fun k => spec_AddOffsets.f k l a) (r, b)) (h2 : Ev (fun k => impl_AddOffsets.f k l a) (r, b)) : Ev (fun k => laws_FnExactAddOffsets.f k l a) true := by
  have hto := laws_toIntS_ev l hl
  have heq := laws_eqIntS_self r (by omega)
  have heql := laws_eqIntS_self l (by omega)
  have hmark := laws_markIntS_ev r 1 (by omega) (by omega) (by omega)
  have hmarkl := laws_markIntS_ev l 1 (by omega) (by omega) (by omega)
  have hheld := laws_heldIntS_ev r.length 1 (by omega) (by omega) (by omega)
  have hne : ¬ (1 + (r.length : Int) < 0) := by omega
  have hnel : ¬ (1 + (l.length : Int) < 0) := by omega
  have hj2 : Ev (fun k => laws_FnExactAddOffsets.j2 k (seqI 1 r.length) (1 + (r.length : Int)) false) true := by
    refine Ev.step (f := ?f0) (fun k => ?a0) ?b0
    case a0 => simp only [laws_FnExactAddOffsets.j2, Bool.false_eq_true, if_false]; exact rfl
    refine hheld.bind ?_
    simp only [if_neg hne, if_true]
    exact Ev.now _
  have hj1 : Ev (fun k => laws_FnExactAddOffsets.j1 k l a r b r false) true := by
    refine Ev.step (f := ?f1) (fun k => ?a1) ?b1
    case a1 => simp only [laws_FnExactAddOffsets.j1, Bool.false_eq_true, if_false]; exact rfl
    refine hmark.bind (hheld.bind ?_)
    simp only [if_neg hne, if_true]
    refine hto.bind (h2.bind (heq.bind ?_))
    simp only [bne_self_eq_false, if_true]
    exact hj2
  have hj0 : Ev (fun k => laws_FnExactAddOffsets.j0 k l a r b l r b false) true := by
    refine Ev.step (f := ?f2) (fun k => ?a2) ?b2
    case a2 => simp only [laws_FnExactAddOffsets.j0, Bool.false_eq_true, if_false]; exact rfl
    refine hto.bind (heql.bind ?_)
    simp only [if_true]
    refine hmarkl.bind ?_
    simp only [if_neg hnel]
    refine heq.bind ?_
    simp only [bne_self_eq_false, if_true]
    exact hj1
  unfold laws_FnExactAddOffsets.f
  simp only [if_neg (show ¬ ((l.length : Int) > 1048576) by omega)]
  refine hto.bind (h1.bind (hto.bind (h2.bind (heq.bind ?_))))
  simp only [bne_self_eq_false, if_true]
  exact hj0
theorem impl_Add_j0 (l : List Int) (a : Int) : Ev (fun k => impl_AddOffsets.j0 k l a true) (([] : List Int), false) := Ev.done fun k => by simp only [impl_AddOffsets.j0, if_true]
theorem spec_Add_j0 (l : List Int) (a : Int) : Ev (fun k => spec_AddOffsets.j0 k l a true) (([] : List Int), false) := Ev.done fun k => by simp only [spec_AddOffsets.j0, if_true]
theorem FnExactAddOffsets : laws_FnExactAddOffsets.Pure := by
  intro l a _ _ _ _
  apply Ev.rounds
  by_cases hlen : (l.length : Int) > 1048576
  · refine Ev.const fun k => ?_
    unfold laws_FnExactAddOffsets.f
    rw [if_pos hlen]
  · have hl : l.length ≤ 1048576 := by omega
    cases hp : isP l
    · refine law_tail l a [] false hl (by simp) ?_ ?_
      · unfold spec_AddOffsets.f
        refine (spec_reGood_ev l (by omega)).bind ?_
        rw [hp]
        simp only [Bool.false_eq_true, if_false]
        exact spec_Add_j0 l a
      · unfold impl_AddOffsets.f
        refine (impl_isPattern_ev l (by omega)).bind ?_
        rw [hp]
        simp only [Bool.false_eq_true, if_false]
        exact impl_Add_j0 l a
    · obtain ⟨m, rfl, hx, hm1, hm8⟩ := pat_nat hp
      have hcl := spec_reClosing_ev m (by omega)
      have hop := impl_isOpen_ev m (by omega)
      by_cases ho : clF m 6 0 = 0
      · have eo : opn m = true := by unfold opn; rw [ho]; rfl
        rw [eo] at hop
        by_cases ha : 0 ≤ a ∧ a ≤ 60
        · obtain ⟨w, rfl⟩ := Int.eq_ofNat_of_zero_le ha.1
          have hw : w ≤ 60 := by omega
          obtain ⟨_, _, hs, _⟩ := (isP_ints m).1 hp
          have hlr : (ints ((List.range (w + 1)).filter (keepA m))).length ≤ 1000000000 := by
            rw [ints_len]
            exact Nat.le_trans (List.length_filter_le _ _) (by rw [List.length_range]; omega)
          refine law_tail (ints m) w _ true hl hlr ?_ ?_
          · unfold spec_AddOffsets.f
            refine (spec_reGood_ev (ints m) (by omega)).bind ?_
            rw [hp]
            simp only [if_true]
            refine hcl.bind ?_
            simp only [if_pos (show ((clF m 6 0 : Nat) : Int) = 0 by omega)]
            rw [spec_l1In_eq, decide_eq_true ha]
            simp only [Option.bind_some, Bool.not_true]
            refine Ev.step (fun k => ?_) (spec_Add_l0 hs (by omega) w hw (w + 1) 0 (by omega))
            simp only [spec_AddOffsets.j0, Bool.false_eq_true, if_false]
            rfl
          · unfold impl_AddOffsets.f
            refine (impl_isPattern_ev (ints m) (by omega)).bind ?_
            rw [hp]
            simp only [if_true]
            refine hop.bind ?_
            simp only [if_true, if_neg (show ¬ (w : Int) < 0 by omega)]
            rw [decide_eq_false (show ¬ (w : Int) > 60 by omega)]
            refine Ev.step (fun k => ?_) (impl_Add_l0 hp w hw (w + 1) 0 (by omega))
            simp only [impl_AddOffsets.j0, Bool.false_eq_true, if_false]
            rw [wr_succ (by omega)]
            rfl
        · refine law_tail (ints m) a [] false hl (by simp) ?_ ?_
          · unfold spec_AddOffsets.f
            refine (spec_reGood_ev (ints m) (by omega)).bind ?_
            rw [hp]
            simp only [if_true]
            refine hcl.bind ?_
            simp only [if_pos (show ((clF m 6 0 : Nat) : Int) = 0 by omega)]
            rw [spec_l1In_eq, decide_eq_false ha]
            simp only [Option.bind_some, Bool.not_false]
            exact spec_Add_j0 _ a
          · unfold impl_AddOffsets.f
            refine (impl_isPattern_ev (ints m) (by omega)).bind ?_
            rw [hp]
            simp only [if_true]
            refine hop.bind ?_
            simp only [if_true]
            by_cases h0 : a < 0
            · simp only [if_pos h0]
              exact impl_Add_j0 _ a
            · simp only [if_neg h0]
              rw [decide_eq_true (show a > 60 by omega)]
              exact impl_Add_j0 _ a
      · have eo : opn m = false := by unfold opn; exact beq_eq_false_iff_ne.2 ho
        rw [eo] at hop
        refine law_tail (ints m) a [] false hl (by simp) ?_ ?_
        · unfold spec_AddOffsets.f
          refine (spec_reGood_ev (ints m) (by omega)).bind ?_
          rw [hp]
          simp only [if_true]
          refine hcl.bind ?_
          simp only [if_neg (show ¬ ((clF m 6 0 : Nat) : Int) = 0 by omega)]
          exact spec_Add_j0 _ a
        · unfold impl_AddOffsets.f
          refine (impl_isPattern_ev (ints m) (by omega)).bind ?_
          rw [hp]
          simp only [if_true]
          refine hop.bind ?_
          simp only [Bool.false_eq_true, if_false]
          exact impl_Add_j0 _ a
end Go.Proofs.Ytncnhgiilolomaa.Pure
