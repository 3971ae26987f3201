/- The law that speaks of open patterns (each leaves a remainder of every prime, backwards it is open too, narrowest ones are as narrow as told) answers true, whatever is given. -/
import Derived.Test.YtbdapgjgjllojaaPFnPatternsOpenOfAllx10
import Derived.Test.YtbdapgjgjllojaaNtC
namespace Go.Proofs.Ytbdapgjgjllojaa.Pure
set_option linter.unusedVariables false
open Go Go.RowKit Go.Proofs.Ytbdapgjgjllojaa.PFnPatternsOpenOfAll Go.Proofs.YtbdapgjgjllojaaW.PrintWords Go.Proofs.YtbdapgjgjllojaaW.PrintLast Go.Proofs.Ytbdapgjgjllojaa.Nt
theorem Ev.done {α : Type} {g : Nat → Option α} {r : α} (h : ∀ k, g (k + 1) = some r) : Ev g r := Ev.step (f := fun _ => some r) h (Ev.now r)
theorem Ev.const {α : Type} {g : Nat → Option α} {r : α} (h : ∀ k, g k = some r) : Ev g r := Ev.congr (f := fun _ => some r) h (Ev.now r)
theorem wr {a : Nat} (h : a < 9223372036854775808) : wrap64 (a : Int) = a := by unfold wrap64; omega
theorem wri {a : Int} (h0 : -9223372036854775808 ≤ a) (h : a < 9223372036854775808) : wrap64 a = a := by unfold wrap64; omega
theorem wr_mul {a b : Nat} (h : a * b < 9223372036854775808) : wrap64 ((a : Int) * b) = ((a * b : Nat) : Int) := by rw [← Int.natCast_mul]; exact wr h
theorem wr_succ {a : Nat} (h : a < 9223372036854775807) : wrap64 ((a : Int) + 1) = ((a + 1 : Nat) : Int) := wr (a := a + 1) (by omega)
theorem wr_tdiv {a b : Nat} (h : a < 9223372036854775808) : wrap64 (Int.tdiv (a : Int) b) = ((a / b : Nat) : Int) := wr (a := a / b) (Nat.lt_of_le_of_lt (Nat.div_le_self a b) h)
theorem tm (a b : Nat) : Int.tmod (a : Int) b = ((a % b : Nat) : Int) := rfl
theorem sq_lt {a b : Nat} (h : a ≤ 3037000499) (k : b ≤ 3037000499) : a * b < 9223372036854775808 := Nat.lt_of_le_of_lt (Nat.mul_le_mul h k) (by decide)
theorem spec_l1In_eq (a b c : Int) : spec_l1In.f a b c = some (decide (b ≤ a ∧ a ≤ c)) := by
  unfold spec_l1In.f
  by_cases h : a ≥ b
  · rw [if_pos h, decide_eq_decide.2 (show a ≤ c ↔ b ≤ a ∧ a ≤ c from ⟨fun k => ⟨h, k⟩, fun k => k.2⟩)]
  · rw [if_neg h, decide_eq_false (fun k => h k.1)]
/-- A list of naturals as the program's ints. -/
def ints (l : List Nat) : List Int := l.map fun d : Nat => (d : Int)
theorem ints_len (l : List Nat) : (ints l).length = l.length := by simp [ints]
theorem ints_app (l m : List Nat) : ints l ++ ints m = ints (l ++ m) := by simp [ints]
theorem ints_get (pre : List Nat) (x : Nat) (l : List Nat) : rd (ints (pre ++ x :: l)) (pre.length : Int) = x := by
  unfold rd
  rw [Int.toNat_natCast]
  simp [ints]
theorem ints_take (l m : List Nat) : (ints (l ++ m)).take ((l.length : Nat) : Int).toNat = ints l := by
  rw [Int.toNat_natCast]
  unfold ints
  rw [List.map_append, List.take_left' (by simp)]
/-- All of so many numbers from i on are as asked. -/
def allF (c : Nat → Bool) : Nat → Nat → Bool
  | 0, _ => true
  | n + 1, i => c i && allF c n (i + 1)
theorem allF_iff (c : Nat → Bool) : ∀ n i, allF c n i = true ↔ ∀ j, i ≤ j → j < i + n → c j = true
  | 0, i => ⟨fun _ j h1 h2 => by omega, fun _ => rfl⟩
  | n + 1, i => by
    have ih := allF_iff c n (i + 1)
    simp only [allF, Bool.and_eq_true]
    rw [ih]
    constructor
    · rintro ⟨h1, h2⟩ j hj hk
      rcases Nat.lt_or_ge i j with h | h
      · exact h2 j (by omega) (by omega)
      · have : j = i := by omega
        rw [this]; exact h1
    · intro h
      exact ⟨h i (by omega) (by omega), fun j hj hk => h j (by omega) (by omega)⟩
/-- What the program asks of the offset with an index. -/
def chkP (l : List Int) (i : Nat) : Bool := decide ((i = 0 → rd l (i : Int) = 0) ∧ (0 < i → rd l ((i - 1 : Nat) : Int) < rd l (i : Int)) ∧ rd l (i : Int) ≤ 60)
def lenP (l : List Int) : Bool := decide (1 ≤ l.length ∧ l.length ≤ 8)
/-- A list of ints is a pattern. -/
def isP (l : List Int) : Bool := allF (chkP l) l.length 0 && lenP l
theorem impl_isPattern_l (l : List Int) (hl : l.length ≤ 4000000000) : ∀ n i, i + n = l.length → Ev (fun k => impl_isPattern.l0 k l l (l.length : Int) (i : Int)) (allF (chkP l) n i && lenP l)
  | 0, i, hi => by
    refine Ev.done fun k => ?_
    simp only [impl_isPattern.l0, allF, Bool.true_and]
    rw [if_neg (by omega)]
    by_cases h : (l.length : Int) ≥ 1
    · rw [if_pos h]
      congr 1
      unfold lenP
      rw [decide_eq_decide]
      omega
    · rw [if_neg h]
      congr 1
      unfold lenP
      rw [decide_eq_false (by omega)]
  | n + 1, i, hi => by
    have ih := impl_isPattern_l l hl n (i + 1) (by omega)
    have hs : wrap64 ((i : Int) + 1) = ((i + 1 : Nat) : Int) := wr_succ (by omega)
    by_cases hc : chkP l i = true
    · have e : (allF (chkP l) (n + 1) i && lenP l) = (allF (chkP l) n (i + 1) && lenP l) := by simp [allF, hc]
      rw [e]
      refine Ev.step (fun k => ?_) ih
      unfold chkP at hc
      rw [decide_eq_true_iff] at hc
      obtain ⟨h1, h2, h3⟩ := hc
      simp only [impl_isPattern.l0]
      rw [if_pos (by omega), if_pos (by omega), if_pos (by omega)]
      by_cases h0 : i = 0
      · rw [if_pos (by omega), if_pos (h1 h0), if_neg (by omega), if_neg (by omega), hs]
      · have hp : wrap64 ((i : Int) - 1) = ((i - 1 : Nat) : Int) := by rw [wri (by omega) (by omega)]; omega
        have h4 := h2 (by omega)
        rw [if_neg (by omega), if_pos (by omega), hp, if_pos (by omega), if_pos (by omega), if_neg (by omega), if_neg (by omega), hs]
    · have e : (allF (chkP l) (n + 1) i && lenP l) = false := by simp [allF, hc]
      rw [e]
      unfold chkP at hc
      rw [decide_eq_true_iff] at hc
      refine Ev.done fun k => ?_
      simp only [impl_isPattern.l0]
      rw [if_pos (by omega), if_pos (by omega), if_pos (by omega)]
      by_cases h0 : i = 0
      · rw [if_pos (by omega)]
        by_cases h1 : rd l (i : Int) = 0
        · exact absurd ⟨fun _ => h1, fun h => by omega, by omega⟩ hc
        · rw [if_neg h1]
      · have hp : wrap64 ((i : Int) - 1) = ((i - 1 : Nat) : Int) := by rw [wri (by omega) (by omega)]; omega
        rw [if_neg (by omega), if_pos (by omega), hp, if_pos (by omega), if_pos (by omega)]
        by_cases h2 : rd l ((i - 1 : Nat) : Int) ≥ rd l (i : Int)
        · rw [if_pos h2]
        · rw [if_neg h2]
          by_cases h3 : rd l (i : Int) > 60
          · rw [if_pos h3]
          · exact absurd ⟨fun h => by omega, fun _ => by omega, by omega⟩ hc
theorem impl_isPattern_ev (l : List Int) (hl : l.length ≤ 4000000000) : Ev (fun k => impl_isPattern.f k l) (isP l) := impl_isPattern_l l hl l.length 0 (by omega)
theorem isP_iff (l : List Int) : isP l = true ↔ (1 ≤ l.length ∧ l.length ≤ 8) ∧ ∀ i, i < l.length → (i = 0 → rd l (i : Int) = 0) ∧ (0 < i → rd l ((i - 1 : Nat) : Int) < rd l (i : Int)) ∧ rd l (i : Int) ≤ 60 := by
  unfold isP lenP
  rw [Bool.and_eq_true, allF_iff, decide_eq_true_iff]
  constructor
  · rintro ⟨h1, h2⟩
    exact ⟨h2, fun i hi => of_decide_eq_true (h1 i (by omega) (by omega))⟩
  · rintro ⟨h1, h2⟩
    exact ⟨fun j _ hj => decide_eq_true (h2 j (by omega)), h1⟩
def chkQ (l : List Int) (i : Nat) : Bool := decide (rd l ((i - 1 : Nat) : Int) < rd l (i : Int))
theorem spec_reGood_l (l : List Int) (hl : l.length ≤ 8) (h1 : 1 ≤ l.length) : ∀ n i, i + n = l.length → 1 ≤ i → Ev (fun k => spec_reGood.l0 k l (i : Int)) (allF (chkQ l) n i && decide (rd l ((l.length - 1 : Nat) : Int) ≤ 60))
  | 0, i, hi, hi1 => by
    have hp : wrap64 ((l.length : Int) - 1) = ((l.length - 1 : Nat) : Int) := by rw [wri (by omega) (by omega)]; omega
    refine Ev.done fun k => ?_
    simp only [spec_reGood.l0, allF, Bool.true_and]
    rw [if_neg (by omega), hp, if_pos (by omega), if_pos (by omega)]
  | n + 1, i, hi, hi1 => by
    have ih := spec_reGood_l l hl h1 n (i + 1) (by omega) (by omega)
    have hs : wrap64 ((i : Int) + 1) = ((i + 1 : Nat) : Int) := wr_succ (by omega)
    have hp : wrap64 ((i : Int) - 1) = ((i - 1 : Nat) : Int) := by rw [wri (by omega) (by omega)]; omega
    by_cases hc : chkQ l i = true
    · have e : (allF (chkQ l) (n + 1) i && decide (rd l ((l.length - 1 : Nat) : Int) ≤ 60)) = (allF (chkQ l) n (i + 1) && decide (rd l ((l.length - 1 : Nat) : Int) ≤ 60)) := by simp [allF, hc]
      rw [e]
      refine Ev.step (fun k => ?_) ih
      have hc' := of_decide_eq_true hc
      simp only [spec_reGood.l0]
      rw [if_pos (by omega), if_pos (by omega), hp, if_pos (by omega), if_pos (by omega), if_neg (by omega), hs]
    · have e : (allF (chkQ l) (n + 1) i && decide (rd l ((l.length - 1 : Nat) : Int) ≤ 60)) = false := by simp [allF, hc]
      rw [e]
      unfold chkQ at hc
      rw [decide_eq_true_iff] at hc
      refine Ev.done fun k => ?_
      simp only [spec_reGood.l0]
      rw [if_pos (by omega), if_pos (by omega), hp, if_pos (by omega), if_pos (by omega), if_pos (by omega)]
theorem spec_reGood_ev (l : List Int) (hl : l.length ≤ 4000000000) : Ev (fun k => spec_reGood.f k l) (isP l) := by
  unfold spec_reGood.f
  rw [spec_l1In_eq]
  by_cases h : 1 ≤ (l.length : Int) ∧ (l.length : Int) ≤ 8
  · rw [decide_eq_true h]
    simp only [Option.bind_some, if_true]
    simp only [if_pos (show 0 < (l.length : Int) by omega)]
    by_cases h0 : rd l 0 = 0
    · have e : isP l = (allF (chkQ l) (l.length - 1) 1 && decide (rd l ((l.length - 1 : Nat) : Int) ≤ 60)) := by
        rw [Bool.eq_iff_iff, isP_iff, Bool.and_eq_true, allF_iff, decide_eq_true_iff]
        constructor
        · rintro ⟨h1, h2⟩
          exact ⟨fun j hj hk => decide_eq_true ((h2 j (by omega)).2.1 (by omega)), (h2 (l.length - 1) (by omega)).2.2⟩
        · rintro ⟨h1, h2⟩
          have hd : ∀ d, d < l.length → rd l ((l.length - 1 - d : Nat) : Int) ≤ 60 := by
            intro d
            induction d with
            | zero => intro _; exact h2
            | succ d ih =>
              intro hd
              have h3 := ih (by omega)
              have h4 := of_decide_eq_true (h1 (l.length - 1 - d) (by omega) (by omega))
              rw [show l.length - 1 - d - 1 = l.length - 1 - (d + 1) by omega] at h4
              omega
          refine ⟨by omega, fun i hi => ⟨fun hz => by rw [hz]; exact h0, fun hz => of_decide_eq_true (h1 i (by omega) (by omega)), ?_⟩⟩
          have := hd (l.length - 1 - i) (by omega)
          rwa [show l.length - 1 - (l.length - 1 - i) = i by omega] at this
      rw [e]
      have hj := spec_reGood_l l (by omega) (by omega) (l.length - 1) 1 (by omega) (by omega)
      refine Ev.step (fun k => ?_) hj
      simp only [spec_reGood.j0]
      rw [if_neg (by simp [h0])]
      rfl
    · have e : isP l = false := by
        rw [← Bool.not_eq_true, isP_iff]
        rintro ⟨_, h2⟩
        exact h0 ((h2 0 (by omega)).1 rfl)
      rw [e]
      refine Ev.done fun k => ?_
      simp only [spec_reGood.j0]
      rw [if_pos (by simp [h0])]
  · have e : isP l = false := by
      rw [← Bool.not_eq_true, isP_iff]
      rintro ⟨h1, _⟩
      omega
    rw [decide_eq_false h, e]
    simp only [Option.bind_some, Bool.false_eq_true, if_false]
    exact Ev.done fun k => by simp only [spec_reGood.j0, if_true]
theorem rd_mem {l : List Int} {x : Int} (h : x ∈ l) : ∃ i, i < l.length ∧ x = rd l (i : Int) := by
  obtain ⟨i, hi, rfl⟩ := List.mem_iff_getElem.1 h
  refine ⟨i, hi, ?_⟩
  unfold rd
  rw [Int.toNat_natCast, List.getD_eq_getElem?_getD, List.getElem?_eq_getElem hi]
  rfl
/-- A pattern as naturals. -/
theorem pat_nat {l : List Int} (h : isP l = true) : ∃ m : List Nat, l = ints m ∧ (∀ x ∈ m, x ≤ 60) ∧ 1 ≤ m.length ∧ m.length ≤ 8 := by
  rw [isP_iff] at h
  obtain ⟨hlen, h⟩ := h
  have h0 : ∀ i, i < l.length → 0 ≤ rd l (i : Int) := by
    intro i
    induction i with
    | zero => intro hi; have := (h 0 hi).1 rfl; omega
    | succ i ih =>
      intro hi
      have h1 := ih (by omega)
      have h2 := (h (i + 1) hi).2.1 (by omega)
      rw [Nat.add_sub_cancel] at h2
      omega
  have hm : ∀ x ∈ l, ((x.toNat : Nat) : Int) = x := by
    intro x hx
    obtain ⟨i, hi, rfl⟩ := rd_mem hx
    have := h0 i hi
    omega
  refine ⟨l.map Int.toNat, ?_, ?_, by rw [List.length_map]; exact hlen.1, by rw [List.length_map]; exact hlen.2⟩
  · unfold ints
    rw [List.map_map]
    conv => lhs; rw [← List.map_id l]
    exact List.map_congr_left fun x hx => (hm x hx).symm
  · intro x hx
    obtain ⟨y, hy, rfl⟩ := List.mem_map.1 hx
    obtain ⟨i, hi, rfl⟩ := rd_mem hy
    have := (h i hi).2.2
    omega
/-- Some offset has this remainder. -/
def hs (m : List Nat) (p r : Nat) : Bool := m.any fun x => x % p == r
theorem hs_iff (m : List Nat) (p r : Nat) : hs m p r = true ↔ ∃ x ∈ m, x % p = r := by
  unfold hs
  rw [List.any_eq_true]
  constructor
  · rintro ⟨x, hx, h⟩; exact ⟨x, hx, beq_iff_eq.1 h⟩
  · rintro ⟨x, hx, h⟩; exact ⟨x, hx, beq_iff_eq.2 h⟩
/-- The remainders that offsets have. -/
def rests (m : List Nat) (p : Nat) : List Nat := (List.range p).filter (hs m p)
theorem rests_len (m : List Nat) (p : Nat) : (rests m p).length ≤ p := Nat.le_trans (List.length_filter_le _ _) (by rw [List.length_range]; exact Nat.le_refl _)
theorem range_filter_succ (q : Nat → Bool) (r : Nat) : (List.range (r + 1)).filter q = (List.range r).filter q ++ (if q r then [r] else []) := by
  rw [List.range_succ, List.filter_append]
  congr 1
  by_cases h : q r <;> simp [h]
theorem spec_reRests_l1 (m : List Nat) (p r : Nat) (acc : List Int) (hp : 0 < p) (hm : m.length ≤ 100) (hacc : acc.length < 17592186044416) (v : List Int) (hr : r < 1000000) : ∀ suf pre, pre ++ suf = m →
    Ev (fun k => spec_reRests.l0 k (ints m) (p : Int) (acc ++ if suf.any (fun x => x % p == r) then [(r : Int)] else []) ((r + 1 : Nat) : Int)) v →
    Ev (fun k => spec_reRests.l1 k (ints m) (p : Int) acc (r : Int) (ints m) ((ints m).length : Int) (pre.length : Int)) v
  | [], pre, e, h => by
    rw [List.append_nil] at e
    subst e
    simp only [List.any_nil, Bool.false_eq_true, if_false, List.append_nil] at h
    refine Ev.step (fun k => ?_) h
    simp only [spec_reRests.l1]
    rw [ints_len, if_neg (by omega), wr_succ (by omega)]
  | x :: suf, pre, e, h => by
    have hlen : (ints m).length = pre.length + 1 + suf.length := by rw [ints_len, ← e]; simp; omega
    have hml : m.length = pre.length + 1 + suf.length := by rw [← e]; simp; omega
    have hg : rd (ints m) (pre.length : Int) = (x : Int) := by rw [← e]; exact ints_get pre x suf
    by_cases hx : x % p = r
    · have hany : (x :: suf).any (fun x => x % p == r) = true := by simp [hx]
      rw [hany] at h
      simp only [if_true] at h
      refine Ev.step (fun k => ?_) h
      simp only [spec_reRests.l1]
      rw [if_pos (by omega), if_pos (by omega), if_pos (by omega), if_neg (by omega), hg, tm, if_pos (by omega), if_pos hacc, wr_succ (by omega)]
    · have hany : (x :: suf).any (fun x => x % p == r) = suf.any (fun x => x % p == r) := by simp [hx]
      rw [hany] at h
      have ih := spec_reRests_l1 m p r acc hp hm hacc v hr suf (pre ++ [x]) (by rw [← e]; simp) h
      have hq : ((pre ++ [x]).length : Int) = ((pre.length + 1 : Nat) : Int) := by simp
      rw [hq] at ih
      refine Ev.step (fun k => ?_) ih
      simp only [spec_reRests.l1]
      rw [if_pos (by omega), if_pos (by omega), if_pos (by omega), if_neg (by omega), hg, tm, if_neg (by omega), wr_succ (by omega)]
theorem spec_reRests_l0 (m : List Nat) (p : Nat) (hp : 0 < p) (hpm : p ≤ 1000) (hm : m.length ≤ 100) : ∀ n r, r + n = p → Ev (fun k => spec_reRests.l0 k (ints m) (p : Int) (ints ((List.range r).filter (hs m p))) (r : Int)) (ints (rests m p))
  | 0, r, e => by
    have e' : r = p := by omega
    subst e'
    refine Ev.done fun k => ?_
    simp only [spec_reRests.l0]
    rw [if_neg (by omega)]
    rfl
  | n + 1, r, e => by
    have ih := spec_reRests_l0 m p hp hpm hm n (r + 1) (by omega)
    have hl : ((List.range r).filter (hs m p)).length ≤ r := Nat.le_trans (List.length_filter_le _ _) (by rw [List.length_range]; exact Nat.le_refl _)
    refine Ev.step (f := fun k => spec_reRests.l1 k (ints m) (p : Int) (ints ((List.range r).filter (hs m p))) (r : Int) (ints m) ((ints m).length : Int) ((([] : List Nat).length : Nat) : Int)) (fun k => ?_) (spec_reRests_l1 m p r _ hp hm (by rw [ints_len]; omega) _ (by omega) m [] rfl ?_)
    · simp only [spec_reRests.l0]
      rw [if_pos (by omega)]
      rfl
    · rw [range_filter_succ, ← ints_app] at ih
      have e2 : ints (if hs m p r then [r] else []) = if m.any (fun x => x % p == r) then [(r : Int)] else [] := by
        unfold hs
        split <;> rfl
      rw [e2] at ih
      exact ih
theorem spec_reRests_ev (m : List Nat) (p : Nat) (hp : 0 < p) (hpm : p ≤ 1000) (hm : m.length ≤ 100) : Ev (fun k => spec_reRests.f k (ints m) (p : Int)) (ints (rests m p)) := by
  have := spec_reRests_l0 m p hp hpm hm p 0 (by omega)
  exact this
theorem spec_l1Has_l (D : List Nat) (v : Nat) (hD : D.length ≤ 1000000) : ∀ suf pre, pre ++ suf = D → Ev (fun k => spec_l1Has.l0 k (v : Int) (ints D) ((ints D).length : Int) (pre.length : Int)) (suf.any fun x => x == v)
  | [], pre, e => by
    rw [List.append_nil] at e
    subst e
    refine Ev.done fun k => ?_
    simp only [spec_l1Has.l0]
    rw [ints_len, if_neg (by omega)]
    rfl
  | x :: suf, pre, e => by
    have hlen : (ints D).length = pre.length + 1 + suf.length := by rw [ints_len, ← e]; simp; omega
    have hDl : D.length = pre.length + 1 + suf.length := by rw [← e]; simp; omega
    have hg : rd (ints D) (pre.length : Int) = (x : Int) := by rw [← e]; exact ints_get pre x suf
    by_cases hx : x = v
    · have hany : (x :: suf).any (fun x => x == v) = true := by simp [hx]
      rw [hany]
      refine Ev.done fun k => ?_
      simp only [spec_l1Has.l0]
      rw [if_pos (by omega), if_pos (by omega), if_pos (by omega), hg, if_pos (by omega)]
    · have hany : (x :: suf).any (fun x => x == v) = suf.any (fun x => x == v) := by simp [hx]
      rw [hany]
      have ih := spec_l1Has_l D v hD suf (pre ++ [x]) (by rw [← e]; simp)
      have hq : ((pre ++ [x]).length : Int) = ((pre.length + 1 : Nat) : Int) := by simp
      rw [hq] at ih
      refine Ev.step (fun k => ?_) ih
      simp only [spec_l1Has.l0]
      rw [if_pos (by omega), if_pos (by omega), if_pos (by omega), hg, if_neg (by omega), wr_succ (by omega)]
theorem spec_l1Has_ev (D : List Nat) (v : Nat) (hD : D.length ≤ 1000000) : Ev (fun k => spec_l1Has.f k (ints D) (v : Int)) (D.any fun x => x == v) := spec_l1Has_l D v hD D [] rfl
/-- The prime with an index. -/
def P6 (k : Nat) : Nat := [2, 3, 5, 7, 11, 13].getD k 0
theorem P6_pos : ∀ k, k < 6 → 2 ≤ P6 k ∧ P6 k ≤ 13 := by decide
theorem spec_rePrime_eq : ∀ k : Nat, k < 6 → spec_rePrime.f (k : Int) = some ((P6 k : Nat) : Int) := by decide
def PL (n : Nat) : List Int := ([2, 3, 5, 7, 11, 13] : List Int).take n
theorem PL_len : ∀ n, n ≤ 6 → (PL n).length = n := by decide
theorem PL_get : ∀ n, n ≤ 6 → ∀ k, k < n → rd (PL n) ((k : Nat) : Int) = ((P6 k : Nat) : Int) := by decide
theorem cptA_mem : ∀ (l : List Int) (p x : Int), x ∈ p :: cptA p l ↔ x ∈ p :: l
  | [], _, _ => by simp [cptA]
  | a :: l, p, x => by
    by_cases h : a = p
    · subst h
      have ih := cptA_mem l a x
      simp only [cptA, if_true]
      rw [ih]
      simp
    · have ih := cptA_mem l a x
      simp only [cptA, if_neg h]
      rw [List.mem_cons, ih, List.mem_cons (a := x) (b := p)]
theorem cptA_sorted : ∀ (l : List Int) (p : Int), (p :: l).Pairwise (· ≤ ·) → (p :: cptA p l).Pairwise (· < ·)
  | [], _, _ => by simp [cptA]
  | a :: l, p, hs => by
    rw [List.pairwise_cons] at hs
    obtain ⟨h1, h2⟩ := hs
    by_cases h : a = p
    · subst h
      simp only [cptA, if_true]
      exact cptA_sorted l a h2
    · have ih := cptA_sorted l a h2
      simp only [cptA, if_neg h]
      rw [List.pairwise_cons]
      refine ⟨fun x hx => ?_, ih⟩
      have h3 := (cptA_mem l a x).1 hx
      have h4 := h1 a (by simp)
      rw [List.pairwise_cons] at h2
      rcases List.mem_cons.1 h3 with rfl | h5
      · omega
      · have := h2.1 x h5; omega
theorem cpt_mem (l : List Int) (x : Int) : x ∈ cpt l ↔ x ∈ l := by
  cases l with
  | nil => simp [cpt]
  | cons a l => exact cptA_mem l a x
theorem cpt_sorted (l : List Int) (h : l.Pairwise (· ≤ ·)) : (cpt l).Pairwise (· < ·) := by
  cases l with
  | nil => simp [cpt]
  | cons a l => exact cptA_sorted l a h
theorem sorted_uniqueI : ∀ {l m : List Int}, l.Pairwise (· < ·) → m.Pairwise (· < ·) → (∀ x, x ∈ l ↔ x ∈ m) → l = m
  | [], [], _, _, _ => rfl
  | [], y :: m, _, _, h => by have := (h y).2 (by simp); simp at this
  | x :: l, [], _, _, h => by have := (h x).1 (by simp); simp at this
  | x :: l, y :: m, hl, hm, h => by
    rw [List.pairwise_cons] at hl hm
    have hxy : x = y := by
      have h1 := (h x).1 (by simp)
      have h2 := (h y).2 (by simp)
      rw [List.mem_cons] at h1 h2
      rcases h1 with h1 | h1
      · exact h1
      · rcases h2 with h2 | h2
        · exact h2.symm
        · have := hm.1 x h1; have := hl.1 y h2; omega
    subst hxy
    rw [sorted_uniqueI hl.2 hm.2 fun z => ?_]
    have := h z
    rw [List.mem_cons, List.mem_cons] at this
    constructor
    · intro hz
      rcases this.1 (Or.inr hz) with rfl | h3
      · have := hl.1 z hz; omega
      · exact h3
    · intro hz
      rcases this.2 (Or.inr hz) with rfl | h3
      · have := hm.1 z hz; omega
      · exact h3
/-- Sorted, and of equal ones one: the increasing list of the same numbers. -/
theorem sort_cpt {L F : List Nat} (hF : F.Pairwise (· < ·)) (hm : ∀ x, x ∈ F ↔ x ∈ L) : cpt ((ints L).mergeSort fun x y => decide (x ≤ y)) = ints F := by
  have htr : ∀ a b c : Int, decide (a ≤ b) = true → decide (b ≤ c) = true → decide (a ≤ c) = true := fun a b c h1 h2 => by
    rw [decide_eq_true_iff] at *; omega
  have hto : ∀ a b : Int, (decide (a ≤ b) || decide (b ≤ a)) = true := fun a b => by
    rw [Bool.or_eq_true, decide_eq_true_iff, decide_eq_true_iff]; omega
  have hs := List.pairwise_mergeSort htr hto (ints L)
  have hp := List.mergeSort_perm (ints L) (fun x y => decide (x ≤ y))
  refine sorted_uniqueI (cpt_sorted _ (hs.imp fun h => of_decide_eq_true h)) ?_ fun x => ?_
  · unfold ints
    rw [List.pairwise_map]
    exact hF.imp fun h => by omega
  · rw [cpt_mem, hp.mem_iff]
    unfold ints
    rw [List.mem_map, List.mem_map]
    constructor
    · rintro ⟨a, ha, rfl⟩; exact ⟨a, (hm a).2 ha, rfl⟩
    · rintro ⟨a, ha, rfl⟩; exact ⟨a, (hm a).1 ha, rfl⟩
theorem mod_sort (m : List Nat) (p : Nat) (hp : 0 < p) : cpt ((ints (m.map fun x => x % p)).mergeSort fun x y => decide (x ≤ y)) = ints (rests m p) := by
  refine sort_cpt (List.Pairwise.filter _ List.pairwise_lt_range) fun r => ?_
  unfold rests
  rw [List.mem_filter, List.mem_range, hs_iff, List.mem_map]
  constructor
  · rintro ⟨_, x, hx, he⟩; exact ⟨x, hx, he⟩
  · rintro ⟨x, hx, rfl⟩; exact ⟨Nat.mod_lt x hp, x, hx, rfl⟩
theorem impl_restsOf_l (m : List Nat) (hm : m.length ≤ 100) (p : Nat) (hp : 0 < p) (hpm : p ≤ 1000) : ∀ suf pre, pre ++ suf = m → Ev (fun z => impl_restsOf.l0 z (p : Int) (ints (pre.map fun x => x % p)) (ints m) ((ints m).length : Int) (pre.length : Int)) (ints (rests m p))
  | [], pre, e => by
    rw [List.append_nil] at e
    subst e
    have e1 : slices_Sort_int_int.f (ints (pre.map fun x => x % p)) = some ((ints (pre.map fun x => x % p)).mergeSort fun x y => decide (x ≤ y)) := by
      unfold slices_Sort_int_int.f
      rw [if_pos (by rw [ints_len, List.length_map]; omega)]
    have e2 : slices_Compact_int_int.f ((ints (pre.map fun x => x % p)).mergeSort fun x y => decide (x ≤ y)) = some (ints (rests pre p)) := by
      unfold slices_Compact_int_int.f
      rw [if_pos (by rw [List.length_mergeSort, ints_len, List.length_map]; omega), mod_sort pre p hp]
    refine Ev.done fun z => ?_
    simp only [impl_restsOf.l0]
    rw [ints_len, if_neg (by omega), e1, Option.bind_some, e2, Option.bind_some]
  | x :: suf, pre, e => by
    have hlen : (ints m).length = pre.length + 1 + suf.length := by rw [ints_len, ← e]; simp; omega
    have hl : m.length = pre.length + 1 + suf.length := by rw [← e]; simp; omega
    have hg : rd (ints m) (pre.length : Int) = (x : Int) := by rw [← e]; exact ints_get pre x suf
    have ih := impl_restsOf_l m hm p hp hpm suf (pre ++ [x]) (by rw [← e]; simp)
    have hq : ((pre ++ [x]).length : Int) = ((pre.length + 1 : Nat) : Int) := by simp
    have hap : ints ((pre ++ [x]).map fun x => x % p) = ints (pre.map fun x => x % p) ++ [((x % p : Nat) : Int)] := by simp [ints]
    rw [hq, hap] at ih
    refine Ev.step (fun z => ?_) ih
    simp only [impl_restsOf.l0]
    rw [if_pos (by omega), if_pos (by omega), if_pos (by omega), if_neg (by omega), if_pos (by rw [ints_len, List.length_map]; omega), hg, tm, wr_succ (by omega)]
theorem impl_restsOf_ev (m : List Nat) (hm : m.length ≤ 100) (p : Nat) (hp : 0 < p) (hpm : p ≤ 1000) : Ev (fun z => impl_restsOf.f z (ints m) (p : Int)) (ints (rests m p)) := impl_restsOf_l m hm p hp hpm m [] rfl
/-- The least prime, from one with an index on, that closes. -/
def clF (m : List Nat) : Nat → Nat → Nat
  | 0, _ => 0
  | c + 1, k => if (rests m (P6 k)).length = P6 k then P6 k else clF m c (k + 1)
/-- No prime closes. -/
def opn (m : List Nat) : Bool := clF m 6 0 == 0
theorem impl_closing_l (m : List Nat) (hm : m.length ≤ 100) : ∀ c k : Nat, k + c = 6 → Ev (fun z => impl_closing.l0 z (ints m) (PL 6) 6 (k : Int)) ((clF m c k : Nat) : Int)
  | 0, k, e => by
    refine Ev.done fun z => ?_
    simp only [impl_closing.l0]
    rw [if_neg (by omega)]
    rfl
  | c + 1, k, e => by
    have ih := impl_closing_l m hm c (k + 1) (by omega)
    have hP := P6_pos k (by omega)
    have hg := PL_get 6 (by omega) k (by omega)
    have hl := PL_len 6 (by omega)
    have hr := impl_restsOf_ev m hm (P6 k) (by omega) (by omega)
    refine Ev.step (f := ?f0) (fun z => ?a0) ?b0
    case a0 =>
      simp only [impl_closing.l0]
      rw [if_pos (by omega), if_pos (by omega), if_pos (by omega), hg, wr_succ (by omega)]
    refine hr.bind ?_
    by_cases h : (rests m (P6 k)).length = P6 k
    · have e1 : clF m (c + 1) k = P6 k := by simp only [clF]; rw [if_pos h]
      rw [e1]
      simp only [if_pos (show ((ints (rests m (P6 k))).length : Int) = ((P6 k : Nat) : Int) by rw [ints_len]; omega)]
      exact Ev.now _
    · have e1 : clF m (c + 1) k = clF m c (k + 1) := by simp only [clF]; rw [if_neg h]
      rw [e1]
      simp only [if_neg (show ¬ ((ints (rests m (P6 k))).length : Int) = ((P6 k : Nat) : Int) by rw [ints_len]; omega)]
      exact ih
theorem impl_closing_ev (m : List Nat) (hm : m.length ≤ 100) : Ev (fun z => impl_closing.f z (ints m)) ((clF m 6 0 : Nat) : Int) := by
  unfold impl_closing.f impl_firstSix.f
  simp only [Option.bind_some]
  exact impl_closing_l m hm 6 0 rfl
theorem impl_isOpen_ev (m : List Nat) (hm : m.length ≤ 100) : Ev (fun z => impl_isOpen.f z (ints m)) (opn m) := by
  unfold impl_isOpen.f
  refine (impl_closing_ev m hm).bind ?_
  have e : (((clF m 6 0 : Nat) : Int) == 0) = opn m := by
    unfold opn
    rw [Bool.eq_iff_iff, beq_iff_eq, beq_iff_eq]
    omega
  rw [e]
  exact Ev.now _
theorem one_len (c : Nat) : ∀ p, ((List.range p).filter fun r => c == r).length ≤ 1
  | 0 => by simp
  | p + 1 => by
    have ih := one_len c p
    rw [range_filter_succ, List.length_append]
    by_cases h : c = p
    · subst h
      have h0 : ((List.range c).filter fun r => c == r) = [] := by
        rw [List.filter_eq_nil_iff]
        intro a ha he
        have := List.mem_range.1 ha
        have := beq_iff_eq.1 he
        omega
      rw [h0]
      simp
    · have h0 : (c == p) = false := beq_eq_false_iff_ne.2 h
      rw [h0]
      simpa using ih
theorem or_len (a b : Nat → Bool) : ∀ l : List Nat, (l.filter fun r => a r || b r).length ≤ (l.filter a).length + (l.filter b).length
  | [] => by simp
  | x :: l => by
    have ih := or_len a b l
    cases ha : a x <;> cases hb : b x <;> simp [ha, hb] <;> omega
theorem rests_le (p : Nat) : ∀ m : List Nat, (rests m p).length ≤ m.length
  | [] => by simp [rests, hs]
  | x :: m => by
    have ih := rests_le p m
    have h1 := one_len (x % p) p
    have h2 := or_len (fun r => x % p == r) (hs m p) (List.range p)
    have e : rests (x :: m) p = (List.range p).filter fun r => (x % p == r) || hs m p r := rfl
    rw [e, List.length_cons]
    unfold rests at ih
    omega
theorem P6_mono : ∀ k, k < 5 → P6 k ≤ P6 (k + 1) := by decide
theorem clF_none (m : List Nat) : ∀ c k, k + c = 6 → m.length < P6 k → clF m c k = 0
  | 0, _, _, _ => rfl
  | c + 1, k, e, h => by
    have h1 := rests_le (P6 k) m
    simp only [clF]
    rw [if_neg (by omega)]
    by_cases h5 : k < 5
    · have := P6_mono k h5
      exact clF_none m c (k + 1) (by omega) (by omega)
    · have : c = 0 := by omega
      subst this
      rfl
theorem spec_reClosing_l (m : List Nat) (hm : m.length ≤ 100) : ∀ c k : Nat, k + c = 6 → Ev (fun z => spec_reClosing.l0 z (ints m) (k : Int)) ((clF m c k : Nat) : Int)
  | 0, k, e => by
    refine Ev.step (f := fun z => spec_reClosing.j1 z (ints m) (k : Int) false) (fun z => ?_) (Ev.done fun z => ?_)
    · simp only [spec_reClosing.l0]
      rw [if_neg (by omega)]
    · simp only [spec_reClosing.j1]
      rfl
  | c + 1, k, e => by
    have ih := spec_reClosing_l m hm c (k + 1) (by omega)
    have hP := P6_pos k (by omega)
    have hp := spec_rePrime_eq k (by omega)
    have hr := spec_reRests_ev m (P6 k) (by omega) (by omega) hm
    refine Ev.step (f := fun z => spec_reClosing.j1 z (ints m) (k : Int) (decide (((P6 k : Nat) : Int) ≤ ((ints m).length : Int)))) (fun z => ?_) ?_
    · simp only [spec_reClosing.l0]
      rw [if_pos (by omega), hp, Option.bind_some]
    by_cases hl : P6 k ≤ m.length
    · rw [decide_eq_true (show ((P6 k : Nat) : Int) ≤ ((ints m).length : Int) by rw [ints_len]; omega)]
      refine Ev.step (f := ?f0) (fun z => ?a0) ?b0
      case a0 =>
        simp only [spec_reClosing.j1, hp, Option.bind_some, if_true]
        rw [wr_succ (by omega)]
      refine hr.bind ?_
      by_cases h : (rests m (P6 k)).length = P6 k
      · have e1 : clF m (c + 1) k = P6 k := by simp only [clF]; rw [if_pos h]
        rw [e1]
        simp only [if_pos (show ((ints (rests m (P6 k))).length : Int) = ((P6 k : Nat) : Int) by rw [ints_len]; omega)]
        exact Ev.now _
      · have e1 : clF m (c + 1) k = clF m c (k + 1) := by simp only [clF]; rw [if_neg h]
        rw [e1]
        simp only [if_neg (show ¬ ((ints (rests m (P6 k))).length : Int) = ((P6 k : Nat) : Int) by rw [ints_len]; omega)]
        exact ih
    · rw [decide_eq_false (show ¬ ((P6 k : Nat) : Int) ≤ ((ints m).length : Int) by rw [ints_len]; omega), clF_none m (c + 1) k (by omega) (by omega)]
      refine Ev.done fun z => ?_
      simp only [spec_reClosing.j1]
      rfl
theorem spec_reClosing_ev (m : List Nat) (hm : m.length ≤ 100) : Ev (fun z => spec_reClosing.f z (ints m)) ((clF m 6 0 : Nat) : Int) := spec_reClosing_l m hm 6 0 rfl
/-- What is below x at a list's head, and what comes then. -/
def spl (x : Nat) : List Nat → List Nat × List Nat
  | [] => ([], [])
  | y :: m => if y < x then (y :: (spl x m).1, (spl x m).2) else ([], y :: m)
theorem spl_app (x : Nat) : ∀ m, (spl x m).1 ++ (spl x m).2 = m
  | [] => rfl
  | y :: m => by
    have ih := spl_app x m
    simp only [spl]
    split
    · simp only [List.cons_append, ih]
    · rfl
theorem spl_lt (x : Nat) : ∀ m, ∀ y ∈ (spl x m).1, y < x
  | [], y, h => by simp [spl] at h
  | z :: m, y, h => by
    have ih := spl_lt x m
    simp only [spl] at h
    by_cases hz : z < x
    · rw [if_pos hz] at h
      rcases List.mem_cons.1 h with rfl | h
      · exact hz
      · exact ih y h
    · rw [if_neg hz] at h
      simp at h
theorem spl_ge (x : Nat) : ∀ m : List Nat, m.Pairwise (· < ·) → ∀ y ∈ (spl x m).2, x ≤ y
  | [], _, y, h => by simp [spl] at h
  | z :: m, hs, y, h => by
    rw [List.pairwise_cons] at hs
    have ih := spl_ge x m hs.2
    simp only [spl] at h
    by_cases hz : z < x
    · rw [if_pos hz] at h
      exact ih y h
    · rw [if_neg hz] at h
      rcases List.mem_cons.1 h with rfl | h
      · omega
      · have := hs.1 y h; omega
/-- The list with x in its place. -/
def insx (m : List Nat) (x : Nat) : List Nat := (spl x m).1 ++ x :: (spl x m).2
/-- How many are below x. -/
def pos (m : List Nat) (x : Nat) : Nat := (spl x m).1.length
theorem pos_le (m : List Nat) (x : Nat) : pos m x ≤ m.length := by
  have h := congrArg List.length (spl_app x m)
  rw [List.length_append] at h
  unfold pos
  omega
theorem ints_take' (A B : List Nat) : (ints (A ++ B)).take A.length = ints A := by
  have := ints_take A B
  rwa [Int.toNat_natCast] at this
theorem ints_drop' (A B : List Nat) : (ints (A ++ B)).drop A.length = ints B := by
  unfold ints
  rw [List.map_append]
  exact List.drop_left' (by simp)
theorem take_pos (m : List Nat) (x : Nat) : (ints m).take (pos m x) = ints (spl x m).1 := by
  have h := ints_take' (spl x m).1 (spl x m).2
  rw [spl_app] at h
  exact h
theorem drop_pos (m : List Nat) (x : Nat) : (ints m).drop (pos m x) = ints (spl x m).2 := by
  have h := ints_drop' (spl x m).1 (spl x m).2
  rw [spl_app] at h
  exact h
theorem insx_parts (m : List Nat) (x : Nat) : ints (spl x m).1 ++ [(x : Int)] ++ ints (spl x m).2 = ints (insx m x) := by
  unfold insx ints
  simp
/-- The number with an index is below x exactly if the index is below the place. -/
theorem at_pos {m : List Nat} (hs : m.Pairwise (· < ·)) (x : Nat) {h : Nat} (hh : h < m.length) : ∃ y : Nat, rd (ints m) (h : Int) = (y : Int) ∧ y ∈ m ∧ (y < x ↔ h < pos m x) := by
  have hg : rd (ints m) (h : Int) = ((m[h] : Nat) : Int) := by
    unfold rd ints
    rw [Int.toNat_natCast, List.getD_eq_getElem?_getD, List.getElem?_map, List.getElem?_eq_getElem hh]
    rfl
  have hmem : m[h] ∈ m := List.getElem_mem hh
  have hm : m[h]? = some m[h] := List.getElem?_eq_getElem hh
  generalize m[h] = y at hg hmem hm
  refine ⟨y, hg, hmem, ?_⟩
  rw [← spl_app x m] at hm
  by_cases hc : h < pos m x
  · rw [List.getElem?_append_left hc] at hm
    have h2 := spl_lt x m _ (List.mem_of_getElem? hm)
    exact ⟨fun _ => hc, fun _ => h2⟩
  · rw [List.getElem?_append_right (by unfold pos at hc; omega)] at hm
    have h2 := spl_ge x m hs _ (List.mem_of_getElem? hm)
    exact ⟨fun h3 => by omega, fun h3 => absurd h3 hc⟩
/-- x stands in its place exactly if it is one of the list's. -/
theorem mem_pos {m : List Nat} (hs : m.Pairwise (· < ·)) (x : Nat) : x ∈ m ↔ pos m x < m.length ∧ rd (ints m) ((pos m x : Nat) : Int) = (x : Int) := by
  constructor
  · intro hx
    obtain ⟨h, hh, he⟩ := List.mem_iff_getElem.1 hx
    obtain ⟨y, h1, _, h3⟩ := at_pos hs x hh
    have hy : y = x := by
      have hg : rd (ints m) (h : Int) = ((m[h] : Nat) : Int) := by
        unfold rd ints
        rw [Int.toNat_natCast, List.getD_eq_getElem?_getD, List.getElem?_map, List.getElem?_eq_getElem hh]
        rfl
      rw [he] at hg
      omega
    have hp : pos m x ≤ h := by
      apply Decidable.byContradiction
      intro hc
      have := h3.2 (by omega)
      omega
    have hlt : pos m x < m.length := by omega
    refine ⟨hlt, ?_⟩
    obtain ⟨z, g1, g2, g3⟩ := at_pos hs x hlt
    rw [g1]
    have hz : ¬ z < x := fun hc => by have := g3.1 hc; omega
    -- z stands at or before x
    have hgz : rd (ints m) ((pos m x : Nat) : Int) = ((m[pos m x] : Nat) : Int) := by
      unfold rd ints
      rw [Int.toNat_natCast, List.getD_eq_getElem?_getD, List.getElem?_map, List.getElem?_eq_getElem hlt]
      rfl
    have hzz : z = m[pos m x] := by omega
    rcases Nat.lt_or_ge (pos m x) h with h4 | h4
    · have h5 := List.pairwise_iff_getElem.1 hs (pos m x) h hlt hh h4
      omega
    · have h6 : pos m x = h := by omega
      have h7 : m[pos m x] = m[h] := by congr 1
      omega
  · rintro ⟨h1, h2⟩
    obtain ⟨y, g1, g2, _⟩ := at_pos hs x h1
    have : y = x := by omega
    rw [← this]; exact g2
theorem any_mem (m : List Nat) (x : Nat) : (m.any fun y => y == x) = true ↔ x ∈ m := by
  rw [List.any_eq_true]
  constructor
  · rintro ⟨y, hy, he⟩; rw [← beq_iff_eq.1 he]; exact hy
  · intro h; exact ⟨x, h, beq_iff_eq.2 rfl⟩
theorem cmp_Less_eq (a b : Int) : cmp_Less_int.f a b = some (decide (a < b)) := by
  unfold cmp_Less_int.f cmp_isNaN_int.f
  simp
theorem hmid {i j : Nat} (hi : i ≤ 1000000) (hj : j ≤ 1000000) : wrap64 ((IntKind.u64.wrap (wrap64 ((i : Int) + (j : Int)))) / 2) = (((i + j) / 2 : Nat) : Int) := by
  have h1 : wrap64 ((i : Int) + (j : Int)) = ((i + j : Nat) : Int) := by rw [wri (by omega) (by omega)]; omega
  have h2 : IntKind.u64.wrap ((i + j : Nat) : Int) = ((i + j : Nat) : Int) := by
    have : IntKind.u64.wrap ((i + j : Nat) : Int) = ((i + j : Nat) : Int) % 18446744073709551616 := by simp [IntKind.wrap, IntKind.bits, IntKind.signed]
    rw [this]; omega
  rw [h1, h2, wri (by omega) (by omega)]
  omega
theorem bs_l {m : List Nat} (hs : m.Pairwise (· < ·)) (hm : m.length ≤ 1000000) (x : Nat) : ∀ c i j, j - i ≤ c → i ≤ pos m x → pos m x ≤ j → j ≤ m.length → Ev (fun k => slices_BinarySearch_int_int.l0 k (ints m) (x : Int) ((ints m).length : Int) (i : Int) (j : Int)) (((pos m x : Nat) : Int), m.any fun y => y == x) := by
  have hend : Ev (fun k => slices_BinarySearch_int_int.l0 k (ints m) (x : Int) ((ints m).length : Int) ((pos m x : Nat) : Int) ((pos m x : Nat) : Int)) (((pos m x : Nat) : Int), m.any fun y => y == x) := by
    have hp := pos_le m x
    refine Ev.done fun k => ?_
    simp only [slices_BinarySearch_int_int.l0]
    rw [if_neg (by omega), ints_len]
    by_cases h : pos m x < m.length
    · rw [if_pos (by omega), if_pos (by omega), if_pos (by omega)]
      by_cases he : rd (ints m) ((pos m x : Nat) : Int) = (x : Int)
      · rw [if_pos he, (any_mem m x).2 ((mem_pos hs x).2 ⟨h, he⟩)]
      · have hn : (m.any fun y => y == x) = false := by
          rw [← Bool.not_eq_true, any_mem, mem_pos hs x]
          exact fun hc => he hc.2
        rw [if_neg he, hn]
        unfold slices_isNaN_int.f
        simp
    · have hn : (m.any fun y => y == x) = false := by
        rw [← Bool.not_eq_true, any_mem, mem_pos hs x]
        exact fun hc => h hc.1
      rw [if_neg (by omega), hn]
  intro c
  induction c with
  | zero =>
    intro i j h1 h2 h3 h4
    obtain rfl : i = pos m x := by omega
    obtain rfl : j = pos m x := by omega
    exact hend
  | succ c ih =>
    intro i j h1 h2 h3 h4
    by_cases hij : i < j
    · have hlt : (i + j) / 2 < m.length := by omega
      obtain ⟨y, g1, _, g3⟩ := at_pos hs x hlt
      have hmd := hmid (i := i) (j := j) (by omega) (by omega)
      have hle : i ≤ (i + j) / 2 := by omega
      have hlj : (i + j) / 2 < j := by omega
      by_cases hc : y < x
      · refine Ev.step (fun k => ?_) (ih ((i + j) / 2 + 1) j (by omega) (by have := g3.1 hc; omega) h3 h4)
        simp only [slices_BinarySearch_int_int.l0]
        rw [if_pos (by omega), hmd, if_pos (by omega), if_pos (by rw [ints_len]; omega), g1, cmp_Less_eq, Option.bind_some, if_pos (decide_eq_true (by omega)), wr_succ (by omega)]
      · have hpc : pos m x ≤ (i + j) / 2 := by
          apply Decidable.byContradiction
          intro hn
          exact hc (g3.2 (by omega))
        refine Ev.step (fun k => ?_) (ih i ((i + j) / 2) (by omega) h2 hpc (by omega))
        simp only [slices_BinarySearch_int_int.l0]
        rw [if_pos (by omega), hmd, if_pos (by omega), if_pos (by rw [ints_len]; omega), g1, cmp_Less_eq, Option.bind_some, if_neg (by rw [decide_eq_true_iff]; omega)]
    · obtain rfl : i = pos m x := by omega
      obtain rfl : j = pos m x := by omega
      exact hend
theorem bs_ev {m : List Nat} (hs : m.Pairwise (· < ·)) (hm : m.length ≤ 1000000) (x : Nat) : Ev (fun k => slices_BinarySearch_int_int.f k (ints m) (x : Int)) (((pos m x : Nat) : Int), m.any fun y => y == x) := by
  have := bs_l hs hm x m.length 0 m.length (by omega) (Nat.zero_le _) (pos_le m x) (Nat.le_refl _)
  unfold slices_BinarySearch_int_int.f
  rw [ints_len] at this ⊢
  exact this
theorem rd_ints {m : List Nat} {h : Nat} (hh : h < m.length) : rd (ints m) (h : Int) = ((m[h] : Nat) : Int) := by
  unfold rd ints
  rw [Int.toNat_natCast, List.getD_eq_getElem?_getD, List.getElem?_map, List.getElem?_eq_getElem hh]
  rfl
theorem isP_ints (m : List Nat) : isP (ints m) = true ↔ m.length ≤ 8 ∧ (∃ m', m = 0 :: m') ∧ m.Pairwise (· < ·) ∧ ∀ x ∈ m, x ≤ 60 := by
  rw [isP_iff, ints_len]
  constructor
  · rintro ⟨⟨h1, h2⟩, h3⟩
    refine ⟨h2, ?_, ?_, ?_⟩
    · cases m with
      | nil => simp at h1
      | cons y m' =>
        have h4 := (h3 0 (by simp)).1 rfl
        rw [rd_ints (by simp)] at h4
        have : y = 0 := by simpa using h4
        exact ⟨m', by rw [this]⟩
    · rw [List.pairwise_iff_getElem]
      have hd : ∀ d i, (h : i + d + 1 < m.length) → m[i] < m[i + d + 1] := by
        intro d
        induction d with
        | zero =>
          intro i h
          have h5 := (h3 (i + 1) (by omega)).2.1 (by omega)
          rw [Nat.add_sub_cancel, rd_ints (by omega), rd_ints (by omega)] at h5
          exact Int.ofNat_lt.1 h5
        | succ d ih =>
          intro i h
          have h4 := ih i (by omega)
          have h5 := (h3 (i + d + 1 + 1) (by omega)).2.1 (by omega)
          rw [Nat.add_sub_cancel, rd_ints (by omega), rd_ints (by omega)] at h5
          have h6 := Int.ofNat_lt.1 h5
          exact Nat.lt_trans h4 h6
      intro i j hi hj hij
      have := hd (j - i - 1) i (by omega)
      have e : i + (j - i - 1) + 1 = j := by omega
      simpa only [e] using this
    · intro x hx
      obtain ⟨i, hi, rfl⟩ := List.mem_iff_getElem.1 hx
      have h5 := (h3 i hi).2.2
      rw [rd_ints hi] at h5
      omega
  · rintro ⟨h1, ⟨m', rfl⟩, h3, h4⟩
    refine ⟨⟨by simp, h1⟩, fun i hi => ⟨?_, ?_, ?_⟩⟩
    · intro h0
      subst h0
      rw [rd_ints hi]
      rfl
    · intro h0
      rw [rd_ints hi, rd_ints (by omega)]
      have := List.pairwise_iff_getElem.1 h3 (i - 1) i (by omega) hi (by omega)
      exact Int.ofNat_lt.2 this
    · rw [rd_ints hi]
      have := h4 _ (List.getElem_mem hi)
      omega
theorem insx_len (m : List Nat) (x : Nat) : (insx m x).length = m.length + 1 := by
  have h := congrArg List.length (spl_app x m)
  rw [List.length_append] at h
  unfold insx
  rw [List.length_append, List.length_cons]
  omega
theorem isP_insx {m : List Nat} (h : isP (ints m) = true) {x : Nat} (hx : x ≤ 60) (hn : x ∉ m) : isP (ints (insx m x)) = decide (m.length < 8) := by
  obtain ⟨h1, ⟨m', hm'⟩, h3, h4⟩ := (isP_ints m).1 h
  have hgood : (∃ m'', insx m x = 0 :: m'') ∧ (insx m x).Pairwise (· < ·) ∧ ∀ y ∈ insx m x, y ≤ 60 := by
    refine ⟨?_, ?_, ?_⟩
    · have h0 : 0 < x := by
        apply Nat.pos_of_ne_zero
        intro e
        apply hn
        rw [e, hm']
        simp
      rw [hm']
      unfold insx
      simp only [spl, if_pos h0]
      exact ⟨_, rfl⟩
    · have hp := h3
      rw [← spl_app x m, List.pairwise_append] at hp
      unfold insx
      rw [List.pairwise_append, List.pairwise_cons]
      refine ⟨hp.1, ⟨fun y hy => ?_, hp.2.1⟩, fun a ha b hb => ?_⟩
      · have h5 := spl_ge x m h3 y hy
        have h6 : y ∈ m := by rw [← spl_app x m]; exact List.mem_append.2 (.inr hy)
        rcases Nat.lt_or_ge x y with h7 | h7
        · exact h7
        · exact absurd (show x ∈ m by rw [show x = y by omega]; exact h6) hn
      · rcases List.mem_cons.1 hb with rfl | hb
        · exact spl_lt _ m a ha
        · exact hp.2.2 a ha b hb
    · intro y hy
      unfold insx at hy
      rw [List.mem_append, List.mem_cons] at hy
      have hsub : ∀ z, z ∈ (spl x m).1 ∨ z ∈ (spl x m).2 → z ≤ 60 := fun z hz => h4 z (by rw [← spl_app x m]; exact List.mem_append.2 hz)
      rcases hy with hy | rfl | hy
      · exact hsub y (.inl hy)
      · exact hx
      · exact hsub y (.inr hy)
  rw [Bool.eq_iff_iff, isP_ints, decide_eq_true_iff, insx_len]
  constructor
  · intro h; omega
  · intro h; exact ⟨by omega, hgood⟩
/-- x is told. -/
def keepA (m : List Nat) (x : Nat) : Bool := !(m.any fun y => y == x) && (!(decide (m.length = 8)) && opn (insx m x))
theorem spec_l1Own_eq (l : List Int) (h : l.length ≤ 1000000) : spec_l1Own.f l = some l := by
  unfold spec_l1Own.f
  rw [Option.bind_some, if_pos (by rw [List.length_nil]; omega), List.nil_append]
theorem spec_Add_j4 {m : List Nat} (hm : m.length ≤ 90) (w x : Nat) (acc : List Nat) (ha : acc.length ≤ 1000000) (v : List Int × Bool) (hw : w ≤ 60) (hx : x ≤ w)
    (h : Ev (fun k => spec_AddOffsets.l0 k (ints m) (w : Int) (ints (acc ++ if opn (insx m x) then [x] else [])) ((x + 1 : Nat) : Int)) v) : Ev (fun k => spec_AddOffsets.j4 k (ints m) (w : Int) (ints acc) (x : Int) ((pos m x : Nat) : Int)) v := by
  have hp := pos_le m x
  have hl := congrArg List.length (spl_app x m)
  rw [List.length_append] at hl
  have hcl := spec_reClosing_ev (insx m x) (by rw [insx_len]; omega)
  have hs_ : wrap64 ((x : Int) + 1) = ((x + 1 : Nat) : Int) := wr_succ (by omega)
  refine Ev.step (f := ?f0) (fun k => ?a0) ?b0
  case a0 =>
    simp only [spec_AddOffsets.j4]
    rw [if_pos (by omega), if_pos (by rw [ints_len]; omega), Int.toNat_natCast, take_pos, drop_pos, spec_l1Own_eq _ (by rw [ints_len]; omega), Option.bind_some, if_pos (by rw [ints_len]; omega), Option.bind_some, if_pos (by rw [List.length_append, ints_len, ints_len, List.length_singleton]; omega), insx_parts, hs_]
  refine hcl.bind ?_
  by_cases ho : clF (insx m x) 6 0 = 0
  · have e : opn (insx m x) = true := by unfold opn; rw [ho]; rfl
    rw [e] at h
    simp only [if_true, ← ints_app] at h
    simp only [if_pos (show ((clF (insx m x) 6 0 : Nat) : Int) = 0 by omega), if_pos (show (ints acc).length < 17592186044416 by rw [ints_len]; omega)]
    exact h
  · have e : opn (insx m x) = false := by unfold opn; exact beq_eq_false_iff_ne.2 ho
    rw [e] at h
    simp only [Bool.false_eq_true, if_false, List.append_nil] at h
    simp only [if_neg (show ¬ ((clF (insx m x) 6 0 : Nat) : Int) = 0 by omega)]
    exact h
theorem spec_Add_l1 {m : List Nat} (hs : m.Pairwise (· < ·)) (hm : m.length ≤ 90) (w x : Nat) (acc : List Nat) (ha : acc.length ≤ 1000000) (v : List Int × Bool) (hw : w ≤ 60) (hx : x ≤ w)
    (h : Ev (fun k => spec_AddOffsets.l0 k (ints m) (w : Int) (ints (acc ++ if opn (insx m x) then [x] else [])) ((x + 1 : Nat) : Int)) v) : ∀ c i : Nat, i + c = pos m x → Ev (fun k => spec_AddOffsets.l1 k (ints m) (w : Int) (ints acc) (x : Int) (i : Int)) v
  | 0, i, e => by
    have hj := spec_Add_j4 hm w x acc ha v hw hx h
    obtain rfl : i = pos m x := by omega
    have hp := pos_le m x
    refine Ev.step (fun k => ?_) hj
    simp only [spec_AddOffsets.l1]
    rw [ints_len]
    by_cases hc : pos m x < m.length
    · obtain ⟨y, g1, _, g3⟩ := at_pos hs x hc
      rw [if_pos (by omega), if_pos (by omega), g1, if_neg (fun hy => by have := g3.1 (by omega); omega)]
    · rw [if_neg (by omega)]
  | c + 1, i, e => by
    have hp := pos_le m x
    obtain ⟨y, g1, _, g3⟩ := at_pos hs x (show i < m.length by omega)
    have hy := g3.2 (by omega)
    refine Ev.step (fun k => ?_) (spec_Add_l1 hs hm w x acc ha v hw hx h c (i + 1) (by omega))
    simp only [spec_AddOffsets.l1]
    rw [ints_len, if_pos (by omega), if_pos (by omega), g1, if_pos (by omega), wr_succ (by omega)]
theorem spec_Add_l0 {m : List Nat} (hs : m.Pairwise (· < ·)) (hm : m.length ≤ 90) (w : Nat) (hw : w ≤ 60) : ∀ c x : Nat, x + c = w + 1 → Ev (fun k => spec_AddOffsets.l0 k (ints m) (w : Int) (ints ((List.range x).filter (keepA m))) (x : Int)) (ints ((List.range (w + 1)).filter (keepA m)), true)
  | 0, x, e => by
    obtain rfl : x = w + 1 := by omega
    refine Ev.done fun k => ?_
    simp only [spec_AddOffsets.l0]
    rw [if_neg (by omega)]
  | c + 1, x, e => by
    have ih := spec_Add_l0 hs hm w hw c (x + 1) (by omega)
    rw [range_filter_succ] at ih
    have hl : ((List.range x).filter (keepA m)).length ≤ x := Nat.le_trans (List.length_filter_le _ _) (by rw [List.length_range]; exact Nat.le_refl _)
    have hh := spec_l1Has_ev m x (by omega)
    have hs_ : wrap64 ((x : Int) + 1) = ((x + 1 : Nat) : Int) := wr_succ (by omega)
    refine Ev.step (f := ?f0) (fun k => ?a0) ?b0
    case a0 =>
      simp only [spec_AddOffsets.l0]
      rw [if_pos (by omega)]
    refine hh.bind ?_
    have hskip : keepA m x = false → Ev (fun k => spec_AddOffsets.j2 k (ints m) (w : Int) (ints ((List.range x).filter (keepA m))) (x : Int) true) (ints ((List.range (w + 1)).filter (keepA m)), true) := by
      intro hk
      rw [hk] at ih
      simp only [Bool.false_eq_true, if_false, List.append_nil] at ih
      refine Ev.step (fun k => ?_) ih
      simp only [spec_AddOffsets.j2, if_true, hs_]
    cases ha : (m.any fun y => y == x)
    · simp only [Bool.false_eq_true, if_false]
      by_cases h8 : m.length = 8
      · have e8 : (((ints m).length : Int) == 8) = true := by rw [ints_len, h8]; rfl
        rw [e8]
        exact hskip (by unfold keepA; rw [ha, decide_eq_true h8]; rfl)
      · have e8 : (((ints m).length : Int) == 8) = false := by
          rw [ints_len]
          exact beq_eq_false_iff_ne.2 (by omega)
        rw [e8]
        have hk : keepA m x = opn (insx m x) := by unfold keepA; rw [ha, decide_eq_false h8]; rfl
        rw [hk] at ih
        refine Ev.step (fun k => ?_) (spec_Add_l1 hs hm w x _ (by omega) _ hw (by omega) ih (pos m x) 0 (by omega))
        simp only [spec_AddOffsets.j2, Bool.false_eq_true, if_false]
        rfl
    · simp only [if_true]
      exact hskip (by unfold keepA; rw [ha]; rfl)
theorem impl_Add_l0 {m : List Nat} (hp : isP (ints m) = true) (w : Nat) (hw : w ≤ 60) : ∀ c x : Nat, x + c = w + 1 → Ev (fun k => impl_AddOffsets.l0 k (ints m) (ints ((List.range x).filter (keepA m))) ((w + 1 : Nat) : Int) (x : Int)) (ints ((List.range (w + 1)).filter (keepA m)), true)
  | 0, x, e => by
    obtain rfl : x = w + 1 := by omega
    refine Ev.done fun k => ?_
    simp only [impl_AddOffsets.l0]
    rw [if_neg (by omega)]
  | c + 1, x, e => by
    have ih := impl_Add_l0 hp w hw c (x + 1) (by omega)
    rw [range_filter_succ] at ih
    obtain ⟨h8, _, hs, _⟩ := (isP_ints m).1 hp
    have hl : ((List.range x).filter (keepA m)).length ≤ x := Nat.le_trans (List.length_filter_le _ _) (by rw [List.length_range]; exact Nat.le_refl _)
    have hb := bs_ev hs (by omega) x
    have hs_ : wrap64 ((x : Int) + 1) = ((x + 1 : Nat) : Int) := wr_succ (by omega)
    have hpos := pos_le m x
    have hins : slices_Insert_int_int.f (([] : List Int) ++ ints m) ((pos m x : Nat) : Int) [(x : Int)] = some (ints (insx m x)) := by
      unfold slices_Insert_int_int.f
      rw [List.nil_append, if_pos (by omega), if_pos (by rw [ints_len]; omega), if_pos (by simp), if_pos (by rw [ints_len, List.length_singleton]; omega), Int.toNat_natCast, take_pos, drop_pos, insx_parts]
    have hskip : keepA m x = false → Ev (fun k => impl_AddOffsets.l0 k (ints m) (ints ((List.range x).filter (keepA m))) ((w + 1 : Nat) : Int) ((x + 1 : Nat) : Int)) (ints ((List.range (w + 1)).filter (keepA m)), true) := by
      intro hk
      rw [hk] at ih
      simpa only [Bool.false_eq_true, if_false, List.append_nil] using ih
    refine Ev.step (f := ?f0) (fun k => ?a0) ?b0
    case a0 =>
      simp only [impl_AddOffsets.l0]
      rw [if_pos (by omega), hs_]
    refine hb.bind ?_
    simp only [Option.bind_some, if_pos (show ([] : List Int).length + (ints m).length < 17592186044416 by rw [ints_len, List.length_nil]; omega), hins]
    cases ha : (m.any fun y => y == x)
    · simp only [Bool.false_eq_true, if_false]
      have hn : x ∉ m := fun hc => by rw [(any_mem m x).2 hc] at ha; cases ha
      refine (impl_isPattern_ev (ints (insx m x)) (by rw [ints_len, insx_len]; omega)).bind ?_
      rw [isP_insx hp (by omega) hn]
      by_cases h9 : m.length < 8
      · rw [decide_eq_true h9]
        simp only [if_true]
        refine (impl_isOpen_ev (insx m x) (by rw [insx_len]; omega)).bind ?_
        have hk : keepA m x = opn (insx m x) := by unfold keepA; rw [ha, decide_eq_false (show ¬ m.length = 8 by omega)]; rfl
        rw [hk] at ih
        cases ho : opn (insx m x)
        · simp only [Bool.false_eq_true, if_false]
          exact hskip (by rw [hk, ho])
        · rw [ho] at ih
          simp only [if_true, ← ints_app] at ih
          simp only [if_true, if_pos (show (ints ((List.range x).filter (keepA m))).length < 17592186044416 by rw [ints_len]; omega)]
          exact ih
      · rw [decide_eq_false h9]
        simp only [Bool.false_eq_true, if_false]
        exact hskip (by unfold keepA; rw [ha, decide_eq_true (show m.length = 8 by omega)]; rfl)
    · simp only [if_true]
      exact hskip (by unfold keepA; rw [ha]; rfl)
theorem rd_mid_ (pre : List Int) (x : Int) (l : List Int) : rd (pre ++ x :: l) (pre.length : Int) = x := by unfold rd; rw [Int.toNat_natCast]; simp
theorem laws_tSame_l : ∀ (suf pre : List Int), (pre ++ suf).length ≤ 4000000000 → Ev (fun k => laws_tSame.l0 k (pre ++ suf) (pre ++ suf) ((pre ++ suf).length : Nat) (pre.length : Nat)) true
  | [], pre, _ => by
    refine Ev.done fun k => ?_
    simp only [laws_tSame.l0]
    rw [if_neg (by simp)]
  | x :: suf, pre, hl => by
    have hlen : (pre ++ x :: suf).length = pre.length + 1 + suf.length := by simp; omega
    have ih := laws_tSame_l suf (pre ++ [x]) (by simpa using hl)
    rw [List.append_assoc] at ih
    simp only [List.singleton_append, List.length_append, List.length_singleton] at ih
    refine Ev.step (fun k => ?_) ih
    simp only [laws_tSame.l0]
    rw [if_pos (by omega), if_pos (by omega), if_pos (by omega), if_pos (by omega), if_pos trivial, wr_succ (by omega)]
    simp only [List.length_append]
theorem laws_tSame_self (l : List Int) (hl : l.length ≤ 1000000) : Ev (fun k => laws_tSame.f k l l) true := by
  unfold laws_tSame.f
  simp only [if_true]
  exact laws_tSame_l l [] (by rw [List.nil_append]; omega)
theorem sorted_mid {pre suf : List Int} {y x : Int} (h : (pre ++ y :: x :: suf).Pairwise (· < ·)) : y < x := by
  have := (List.pairwise_append.1 h).2.1
  rw [List.pairwise_cons] at this
  exact this.1 x (by simp)
theorem laws_tRises_l (lo hi : Int) (L : List Int) (hl : L.length ≤ 4000000000) (hs : L.Pairwise (· < ·)) (hb : ∀ x ∈ L, lo ≤ x ∧ x ≤ hi) : ∀ (suf pre : List Int), pre ++ suf = L → Ev (fun k => laws_tRises.l0 k L lo hi L (L.length : Nat) (pre.length : Nat)) true := by
  intro suf
  induction suf with
  | nil =>
    intro pre h
    rw [List.append_nil] at h
    subst h
    refine Ev.done fun k => ?_
    simp only [laws_tRises.l0]
    rw [if_neg (Int.lt_irrefl _)]
  | cons x suf ih =>
    intro pre h
    have hlen : L.length = pre.length + 1 + suf.length := by rw [← h]; simp; omega
    have key := ih (pre ++ [x]) (by rw [List.append_assoc]; exact h)
    have hx := hb x (by rw [← h]; simp)
    have hget : rd L (pre.length : Int) = x := by rw [← h]; exact rd_mid_ pre x suf
    have e1 : wrap64 ((pre.length : Int) + 1) = (((pre ++ [x]).length : Nat) : Int) := by rw [wr_succ (by omega), List.length_append, List.length_singleton]
    have c1 : (pre.length : Int) < (L.length : Int) := by omega
    refine Ev.step (fun k => ?_) key
    simp only [laws_tRises.l0]
    rw [if_pos c1, if_pos (Int.natCast_nonneg _), if_pos c1, hget, if_neg (by omega), if_neg (by omega), e1]
    by_cases hp : (pre.length : Int) > 0
    · obtain ⟨q, y, hq⟩ : ∃ q y, pre = q ++ [y] := by
        have hne : pre ≠ [] := by intro h; rw [h] at hp; simp at hp
        exact ⟨pre.dropLast, pre.getLast hne, (List.dropLast_concat_getLast hne).symm⟩
      have hql : pre.length = q.length + 1 := by rw [hq]; simp
      have hL : L = q ++ y :: x :: suf := by rw [← h, hq]; simp
      have hyx : y < x := by rw [hL] at hs; exact sorted_mid hs
      have hgy : rd L (q.length : Int) = y := by rw [hL]; exact rd_mid_ q y _
      have e2 : wrap64 ((pre.length : Int) - 1) = (q.length : Int) := by rw [wri (by omega) (by omega)]; omega
      rw [if_pos hp, e2, if_pos (Int.natCast_nonneg _), if_pos (by omega), hgy, if_neg (by omega)]
    · rw [if_neg hp]
theorem laws_tRises_ev (lo hi : Int) (L : List Int) (hl : L.length ≤ 4000000000) (hs : L.Pairwise (· < ·)) (hb : ∀ x ∈ L, lo ≤ x ∧ x ≤ hi) : Ev (fun k => laws_tRises.f k L lo hi) true :=
  laws_tRises_l lo hi L hl hs hb L [] (List.nil_append _)
/-- The first six primes. -/
def S6 : List Int := [2, 3, 5, 7, 11, 13]
theorem slices_Index_l (l : List Int) (hl : l.length ≤ 1000000) (x : Int) : ∀ suf pre, pre ++ suf = l → ∃ r : Int, Ev (fun k => slices_Index_int_int.l0 k l x (l.length : Int) (pre.length : Int)) r ∧ decide (r ≥ 0) = decide (x ∈ suf)
  | [], pre, e => by
    have h1 : l.length = pre.length := by rw [← e]; simp
    refine ⟨-1, Ev.done fun k => ?_, by simp⟩
    simp only [slices_Index_int_int.l0]
    rw [if_neg (by omega)]
  | y :: suf, pre, e => by
    have h1 : l.length = pre.length + 1 + suf.length := by rw [← e]; simp; omega
    have hg : rd l (pre.length : Int) = y := by rw [← e]; exact rd_mid_ pre y suf
    obtain ⟨r, h2, h3⟩ := slices_Index_l l hl x suf (pre ++ [y]) (by rw [← e]; simp)
    by_cases hx : x = y
    · refine ⟨(pre.length : Int), Ev.done fun k => ?_, by rw [decide_eq_true (by omega), decide_eq_true (by rw [hx]; simp)]⟩
      simp only [slices_Index_int_int.l0]
      rw [if_pos (by omega), if_pos (by omega), if_pos (by omega), hg, if_pos hx]
    · refine ⟨r, Ev.step (fun k => ?_) h2, by rw [h3]; simp [hx]⟩
      simp only [slices_Index_int_int.l0]
      rw [if_pos (by omega), if_pos (by omega), if_pos (by omega), hg, if_neg hx, wr_succ (by omega), List.length_append, List.length_singleton]
theorem slices_Contains_ev (l : List Int) (hl : l.length ≤ 1000000) (x : Int) : Ev (fun k => slices_Contains_int_int.f k l x) (decide (x ∈ l)) := by
  obtain ⟨r, h1, h2⟩ := slices_Index_l l hl x l [] rfl
  have h3 : Ev (fun k => slices_Index_int_int.f k l x) r := h1
  unfold slices_Contains_int_int.f
  rw [← h2]
  exact h3.bind (Ev.now _)
theorem impl_isOneOfSix_ev (x : Int) : Ev (fun k => impl_isOneOfSix.f k x) (decide (x ∈ S6)) := by
  unfold impl_isOneOfSix.f impl_firstSix.f
  simp only [Option.bind_some]
  exact (slices_Contains_ev S6 (by decide) x).bind (Ev.now _)
theorem spec_l1Has_li (l : List Int) (hl : l.length ≤ 1000000) (x : Int) : ∀ suf pre, pre ++ suf = l → Ev (fun k => spec_l1Has.l0 k x l (l.length : Int) (pre.length : Int)) (decide (x ∈ suf))
  | [], pre, e => by
    have h1 : l.length = pre.length := by rw [← e]; simp
    refine Ev.done fun k => ?_
    simp only [spec_l1Has.l0]
    rw [if_neg (by omega)]
    simp
  | y :: suf, pre, e => by
    have h1 : l.length = pre.length + 1 + suf.length := by rw [← e]; simp; omega
    have hg : rd l (pre.length : Int) = y := by rw [← e]; exact rd_mid_ pre y suf
    have ih := spec_l1Has_li l hl x suf (pre ++ [y]) (by rw [← e]; simp)
    by_cases hx : y = x
    · rw [decide_eq_true (show x ∈ y :: suf by rw [hx]; simp)]
      refine Ev.done fun k => ?_
      simp only [spec_l1Has.l0]
      rw [if_pos (by omega), if_pos (by omega), if_pos (by omega), hg, if_pos hx]
    · have e2 : decide (x ∈ y :: suf) = decide (x ∈ suf) := by simp [show ¬ x = y from fun h => hx h.symm]
      rw [e2]
      refine Ev.step (fun k => ?_) ih
      simp only [spec_l1Has.l0]
      rw [if_pos (by omega), if_pos (by omega), if_pos (by omega), hg, if_neg hx, wr_succ (by omega), List.length_append, List.length_singleton]
theorem S6_drop : ∀ k : Nat, k < 6 → S6.drop k = ((P6 k : Nat) : Int) :: S6.drop (k + 1) := by decide
theorem spec_reIs_l (x : Int) : ∀ c k : Nat, k + c = 6 → Ev (fun z => spec_reIs.l0 z x (k : Int)) (decide (x ∈ S6.drop k))
  | 0, k, e => by
    obtain rfl : k = 6 := by omega
    refine Ev.done fun z => ?_
    simp only [spec_reIs.l0]
    rw [if_neg (by omega)]
    simp [S6]
  | c + 1, k, e => by
    have ih := spec_reIs_l x c (k + 1) (by omega)
    have hr := spec_rePrime_eq k (by omega)
    rw [S6_drop k (by omega)]
    by_cases hx : ((P6 k : Nat) : Int) = x
    · rw [decide_eq_true (show x ∈ ((P6 k : Nat) : Int) :: S6.drop (k + 1) by rw [hx]; simp)]
      refine Ev.done fun z => ?_
      simp only [spec_reIs.l0]
      rw [if_pos (by omega), hr]
      simp only [Option.bind_some]
      rw [if_pos hx]
    · have e2 : decide (x ∈ ((P6 k : Nat) : Int) :: S6.drop (k + 1)) = decide (x ∈ S6.drop (k + 1)) := by simp [show ¬ x = ((P6 k : Nat) : Int) from fun h => hx h.symm]
      rw [e2]
      refine Ev.step (fun z => ?_) ih
      simp only [spec_reIs.l0]
      rw [if_pos (by omega), hr]
      simp only [Option.bind_some]
      rw [if_neg hx, wr_succ (by omega)]
theorem spec_reIs_ev (x : Int) : Ev (fun z => spec_reIs.f z x) (decide (x ∈ S6)) := spec_reIs_l x 6 0 rfl
theorem rests_full (m : List Nat) (p : Nat) : (rests m p).length = p ↔ ∀ r, r < p → hs m p r = true := by
  have h : ((List.range p).filter (hs m p)).length = (List.range p).length ↔ ∀ a ∈ List.range p, hs m p a = true := List.length_filter_eq_length_iff
  rw [List.length_range] at h
  show ((List.range p).filter (hs m p)).length = p ↔ _
  rw [h]
  exact ⟨fun h r hr => h r (List.mem_range.2 hr), fun h r hr => h r (List.mem_range.1 hr)⟩
theorem clF_pos (m : List Nat) : ∀ c k, k + c = 6 → (∃ i, k ≤ i ∧ i < 6 ∧ (rests m (P6 i)).length = P6 i) → clF m c k ≠ 0
  | 0, k, e, ⟨i, h1, h2, _⟩ => by omega
  | c + 1, k, e, ⟨i, h1, h2, h3⟩ => by
    unfold clF
    by_cases h : (rests m (P6 k)).length = P6 k
    · rw [if_pos h]; have := P6_pos k (by omega); omega
    · rw [if_neg h]
      refine clF_pos m c (k + 1) (by omega) ⟨i, ?_, h2, h3⟩
      rcases Nat.eq_or_lt_of_le h1 with rfl | h4
      · exact absurd h3 h
      · exact h4
theorem clF_has (m : List Nat) : ∀ c k, k + c = 6 → clF m c k ≠ 0 → ∃ i, k ≤ i ∧ i < 6 ∧ clF m c k = P6 i ∧ (rests m (P6 i)).length = P6 i ∧ ∀ j, k ≤ j → j < i → (rests m (P6 j)).length ≠ P6 j
  | 0, k, e, h => absurd rfl h
  | c + 1, k, e, h => by
    unfold clF at h ⊢
    by_cases hk : (rests m (P6 k)).length = P6 k
    · rw [if_pos hk]
      exact ⟨k, Nat.le_refl _, by omega, rfl, hk, fun j h1 h2 => by omega⟩
    · rw [if_neg hk] at h ⊢
      obtain ⟨i, h1, h2, h3, h4, h5⟩ := clF_has m c (k + 1) (by omega) h
      refine ⟨i, by omega, h2, h3, h4, fun j j1 j2 => ?_⟩
      rcases Nat.eq_or_lt_of_le j1 with rfl | j3
      · exact hk
      · exact h5 j j3 j2
theorem opn_iff (m : List Nat) : opn m = true ↔ ∀ i, i < 6 → ¬ ∀ r, r < P6 i → hs m (P6 i) r = true := by
  unfold opn
  rw [beq_iff_eq]
  constructor
  · intro h i hi hr
    exact clF_pos m 6 0 rfl ⟨i, Nat.zero_le _, hi, (rests_full m (P6 i)).2 hr⟩ h
  · intro h
    apply Decidable.byContradiction
    intro h0
    obtain ⟨i, _, hi, _, hr, _⟩ := clF_has m 6 0 rfl h0
    exact h i hi ((rests_full m (P6 i)).1 hr)
/-- What is part of an open one is open. -/
theorem opn_sub {a b : List Nat} (h : ∀ x ∈ a, x ∈ b) (hb : opn b = true) : opn a = true := by
  rw [opn_iff] at hb ⊢
  intro i hi hr
  refine hb i hi fun r h1 => ?_
  obtain ⟨x, hx, hxr⟩ := (hs_iff a _ _).1 (hr r h1)
  exact (hs_iff b _ _).2 ⟨x, h x hx, hxr⟩
/-- The last offset. -/
def lst (m : List Nat) : Nat := m.getLastD 0
theorem lst_snoc (m : List Nat) (o : Nat) : lst (m ++ [o]) = o := by simp [lst]
theorem lst_app (m : List Nat) (y : Nat) (t : List Nat) : lst (m ++ y :: t) = t.getLastD y := by
  unfold lst
  rw [List.getLastD_eq_getLast?, List.getLastD_eq_getLast?, List.getLast?_append, List.getLast?_cons]
  simp
def extL (g : List Nat → List (List Nat)) (m : List Nat) : Nat → Nat → List (List Nat)
  | 0, _ => []
  | c + 1, o => g (m ++ [o]) ++ extL g m c (o + 1)
/-- What goes on with a beginning, so many more, to a width. -/
def ext (w : Nat) : Nat → List Nat → List (List Nat)
  | 0, m => if lst m = w then [m] else []
  | l + 1, m => extL (ext w l) m (w - lst m) (lst m + 1)
theorem mem_extL (g : List Nat → List (List Nat)) (m x : List Nat) : ∀ c o, x ∈ extL g m c o ↔ ∃ y, o ≤ y ∧ y < o + c ∧ x ∈ g (m ++ [y])
  | 0, o => by simp only [extL, List.not_mem_nil, false_iff]; rintro ⟨y, h1, h2, _⟩; omega
  | c + 1, o => by
    simp only [extL, List.mem_append, mem_extL g m x c (o + 1)]
    constructor
    · rintro (h | ⟨y, h1, h2, h3⟩)
      · exact ⟨o, Nat.le_refl _, by omega, h⟩
      · exact ⟨y, by omega, by omega, h3⟩
    · rintro ⟨y, h1, h2, h3⟩
      rcases Nat.eq_or_lt_of_le h1 with rfl | h4
      · exact .inl h3
      · exact .inr ⟨y, h4, by omega, h3⟩
theorem lastD_ge : ∀ (t : List Nat) (y : Nat), (y :: t).Pairwise (· < ·) → y ≤ t.getLastD y
  | [], y, _ => Nat.le_refl _
  | b :: t, y, h => by
    rw [List.pairwise_cons] at h
    have h1 := lastD_ge t b h.2
    have h2 := h.1 b (by simp)
    show y ≤ (b :: t).getLastD y
    rw [List.getLastD_cons]
    omega
theorem mem_ext (w : Nat) (x : List Nat) : ∀ l m, x ∈ ext w l m ↔ ∃ t, x = m ++ t ∧ t.length = l ∧ (lst m :: t).Pairwise (· < ·) ∧ lst x = w
  | 0, m => by
    unfold ext
    constructor
    · intro h
      by_cases hw : lst m = w
      · rw [if_pos hw, List.mem_singleton] at h
        subst h
        exact ⟨[], by simp, rfl, by simp, hw⟩
      · rw [if_neg hw] at h; cases h
    · rintro ⟨t, rfl, ht, _, hw⟩
      obtain rfl := List.eq_nil_of_length_eq_zero ht
      rw [List.append_nil] at hw ⊢
      rw [if_pos hw]; simp
  | l + 1, m => by
    unfold ext
    rw [mem_extL]
    constructor
    · rintro ⟨y, h1, h2, h3⟩
      obtain ⟨t, rfl, ht, hp, hw⟩ := (mem_ext w x l (m ++ [y])).1 h3
      rw [lst_snoc] at hp
      refine ⟨y :: t, by simp, by simp [ht], ?_, hw⟩
      rw [List.pairwise_cons]
      refine ⟨fun b hb => ?_, hp⟩
      rcases List.mem_cons.1 hb with rfl | hb
      · omega
      · have := (List.pairwise_cons.1 hp).1 b hb; omega
    · rintro ⟨t, rfl, ht, hp, hw⟩
      cases t with
      | nil => simp at ht
      | cons y t =>
        rw [List.pairwise_cons] at hp
        have h1 := hp.1 y (by simp)
        have h2 := lastD_ge t y hp.2
        rw [lst_app] at hw
        refine ⟨y, by omega, by omega, (mem_ext w _ l (m ++ [y])).2 ⟨t, by simp, by simpa using ht, by rw [lst_snoc]; exact hp.2, by rw [lst_app]; exact hw⟩⟩
/-- A beginning that is too far on. -/
theorem ext_far (w l : Nat) (m : List Nat) (h : w < lst m + l) : ext w l m = [] := by
  refine List.eq_nil_iff_forall_not_mem.2 fun x hx => ?_
  obtain ⟨t, rfl, ht, hp, hw⟩ := (mem_ext w x l m).1 hx
  have key : ∀ (t : List Nat) (y : Nat), (y :: t).Pairwise (· < ·) → y + t.length ≤ t.getLastD y := by
    intro t
    induction t with
    | nil => intro y _; exact Nat.le_refl _
    | cons b t ih =>
      intro y hh
      rw [List.pairwise_cons] at hh
      have h1 := ih b hh.2
      have h2 := hh.1 b (by simp)
      rw [List.getLastD_cons, List.length_cons]
      omega
  have h1 := key t (lst m) hp
  have h2 : lst (m ++ t) = t.getLastD (lst m) := by
    cases t with
    | nil => simp [lst]
    | cons b t => rw [lst_app, List.getLastD_cons]
  omega
theorem ext_closed (w l : Nat) (m : List Nat) (h : opn m = false) : (ext w l m).filter opn = [] := by
  rw [List.filter_eq_nil_iff]
  intro x hx hox
  obtain ⟨t, rfl, _⟩ := (mem_ext w x l m).1 hx
  have := opn_sub (a := m) (fun y hy => List.mem_append_left t hy) hox
  rw [this] at h; cases h
/-- Back from the last one on. -/
def back (m : List Nat) : List Nat := m.reverse.map fun x => lst m - x
theorem all_le_lst : ∀ {m : List Nat}, m.Pairwise (· < ·) → ∀ x ∈ m, x ≤ lst m := by
  intro m
  cases m with
  | nil => intro _ x hx; cases hx
  | cons y t =>
    intro h x hx
    have hl : lst (y :: t) = t.getLastD y := lst_app [] y t
    rw [hl]
    have key : ∀ (t : List Nat) (y : Nat), (y :: t).Pairwise (· < ·) → ∀ x ∈ y :: t, x ≤ t.getLastD y := by
      intro t
      induction t with
      | nil => intro y _ x hx; rw [List.mem_singleton.1 hx]; exact Nat.le_refl _
      | cons b t ih =>
        intro y hh x hx
        rw [List.getLastD_cons]
        rw [List.pairwise_cons] at hh
        rcases List.mem_cons.1 hx with rfl | hx
        · have h1 := ih b hh.2 b (by simp)
          have h2 := hh.1 b (by simp)
          omega
        · exact ih b hh.2 x hx
    exact key t y h x hx
theorem back_len (m : List Nat) : (back m).length = m.length := by simp [back]
theorem back_inc {m : List Nat} (h : m.Pairwise (· < ·)) : (back m).Pairwise (· < ·) := by
  have hle := all_le_lst h
  unfold back
  rw [List.pairwise_map, List.pairwise_reverse]
  exact List.Pairwise.imp_of_mem (fun {a b} ha hb hab => by have := hle b hb; show lst m - b < lst m - a; omega) h
theorem back_zero {t : List Nat} (h : (0 :: t).Pairwise (· < ·)) : ∃ s, back (0 :: t) = 0 :: s ∧ lst (back (0 :: t)) = lst (0 :: t) := by
  have h1 : back (0 :: t) = (t.reverse.map fun x => lst (0 :: t) - x) ++ [lst (0 :: t)] := by simp [back]
  refine ⟨?_, ?_, by rw [h1, lst_snoc]⟩
  exact ((back (0 :: t)).drop 1)
  have h2 : (0 :: t) = (0 :: t).dropLast ++ [lst (0 :: t)] := by
    have h3 := List.dropLast_concat_getLast (l := 0 :: t) (by simp)
    have h4 : (0 :: t).getLast (by simp) = lst (0 :: t) := by
      unfold lst
      rw [List.getLastD_eq_getLast?, List.getLast?_eq_some_getLast (by simp)]; rfl
    rw [h4] at h3
    exact h3.symm
  have h5 : back (0 :: t) = (lst (0 :: t) - lst (0 :: t)) :: ((0 :: t).dropLast.reverse.map fun x => lst (0 :: t) - x) := by
    unfold back
    rw [show (0 :: t).reverse = lst (0 :: t) :: (0 :: t).dropLast.reverse from by
      conv => lhs; rw [h2]
      rw [List.reverse_append]; rfl]
    rfl
  rw [h5, Nat.sub_self]; rfl
theorem back_back {t : List Nat} (h : (0 :: t).Pairwise (· < ·)) : back (back (0 :: t)) = 0 :: t := by
  obtain ⟨s, h1, h2⟩ := back_zero h
  have hle := all_le_lst h
  have e : (back (0 :: t)).reverse = (0 :: t).map fun x => lst (0 :: t) - x := by
    unfold back
    rw [List.map_reverse, List.reverse_reverse]
  show (back (0 :: t)).reverse.map (fun x => lst (back (0 :: t)) - x) = 0 :: t
  rw [h2, e, List.map_map]
  conv => rhs; rw [← List.map_id (0 :: t)]
  refine List.map_congr_left fun x hx => ?_
  have := hle x hx
  show lst (0 :: t) - (lst (0 :: t) - x) = x
  omega
theorem back_opn_of {m : List Nat} (hle : ∀ x ∈ m, x ≤ lst m) (h : opn (back m) = true) : opn m = true := by
  rw [opn_iff] at h ⊢
  intro i hi hr
  refine h i hi fun r hrp => ?_
  have hp := P6_pos i hi
  generalize P6 i = p at *
  obtain ⟨x, hx, hxr⟩ := (hs_iff m p ((lst m + (p - r)) % p)).1 (hr _ (Nat.mod_lt _ (by omega)))
  refine (hs_iff _ _ _).2 ⟨lst m - x, List.mem_map.2 ⟨x, List.mem_reverse.2 hx, rfl⟩, ?_⟩
  have h1 := hle x hx
  generalize lst m = w at *
  -- w + (p - r) = x (mod p), so w - x = r (mod p)
  have h2 : (w - x + (p - r)) % p = 0 := by
    have e1 : w + (p - r) = x + (w - x + (p - r)) := by omega
    rw [e1] at hxr
    have e2 := Nat.sub_mod_eq_zero_of_mod_eq hxr.symm
    rwa [Nat.add_sub_cancel_left] at e2
  obtain ⟨c, hc⟩ := Nat.dvd_of_mod_eq_zero h2
  have h3 : w - x = r + p * (c - 1) := by
    cases c with
    | zero => omega
    | succ c => rw [Nat.mul_succ] at hc; rw [Nat.add_sub_cancel]; omega
  rw [h3, Nat.add_mul_mod_self_left, Nat.mod_eq_of_lt hrp]
open Go.Proofs.YtbdapgjgjllojaaW.PrintMore
theorem extL_app (g : List Nat → List (List Nat)) (m : List Nat) : ∀ a b o, extL g m (a + b) o = extL g m a o ++ extL g m b (o + a)
  | 0, b, o => by rw [Nat.zero_add]; rfl
  | a + 1, b, o => by
    rw [show a + 1 + b = (a + b) + 1 by omega]
    simp only [extL]
    rw [extL_app g m a b (o + 1), List.append_assoc, show o + 1 + a = o + (a + 1) by omega]
theorem extL_nil (g : List Nat → List (List Nat)) (m : List Nat) : ∀ c o, (∀ y, o ≤ y → y < o + c → g (m ++ [y]) = []) → extL g m c o = []
  | 0, o, _ => rfl
  | c + 1, o, h => by
    simp only [extL]
    rw [h o (Nat.le_refl _) (by omega), extL_nil g m c (o + 1) fun y h1 h2 => h y (by omega) (by omega), List.append_nil]
theorem extL_len (g : List Nat → List (List Nat)) (m : List Nat) (B : Nat) (h : ∀ y, (g (m ++ [y])).length ≤ B) : ∀ c o, (extL g m c o).length ≤ c * B
  | 0, o => Nat.zero_le _
  | c + 1, o => by
    simp only [extL]
    rw [List.length_append, Nat.add_mul, Nat.one_mul]
    have h1 := h o
    have h2 := extL_len g m B h c (o + 1)
    omega
theorem ext_len (w : Nat) (hw : w ≤ 60) : ∀ l m, (ext w l m).length ≤ 60 ^ l
  | 0, m => by
    unfold ext
    split
    · exact Nat.le_refl _
    · exact Nat.zero_le _
  | l + 1, m => by
    unfold ext
    refine Nat.le_trans (extL_len _ m (60 ^ l) (fun y => ext_len w hw l _) _ _) ?_
    rw [Nat.pow_succ, Nat.mul_comm]
    exact Nat.mul_le_mul_left _ (by omega)
theorem rd_lst (m : List Nat) (h : 1 ≤ m.length) : rd (ints m) (((ints m).length : Int) - 1) = ((lst m : Nat) : Int) := by
  rcases List.eq_nil_or_concat m with rfl | ⟨pre, x, rfl⟩
  · simp at h
  · rw [List.concat_eq_append, lst_snoc]
    have h1 := ints_get pre x []
    have h2 : ((ints (pre ++ [x])).length : Int) - 1 = (pre.length : Int) := by rw [ints_len, List.length_append, List.length_singleton]; omega
    rw [h2]; exact h1
/-- All open ones of a beginning, in order. -/
def opL (L : List (List Nat)) : List (List Int) := (L.filter opn).map ints
theorem opL_app (a b : List (List Nat)) : opL (a ++ b) = opL a ++ opL b := by unfold opL; rw [List.filter_append, List.map_append]
theorem opL_len (L : List (List Nat)) : (opL L).length ≤ L.length := by unfold opL; rw [List.length_map]; exact List.length_filter_le _ _
theorem op_ev (w : Nat) : ∀ l m out, 1 ≤ m.length → m.length + l ≤ 8 → out.length + (ext w l m).length < 1000000000000 → Ev (fun k => opGrow k (w : Int) l (ints m) out) (out ++ opL (ext w l m))
  | 0, m, out, h1, h8, hL => by
    simp only [opGrow, opLeaf, rd_lst m h1, ext]
    by_cases hw : lst m = w
    · rw [if_pos hw]
      simp only [if_pos (show ((lst m : Nat) : Int) = (w : Int) by omega)]
      rw [ext, if_pos hw, List.length_singleton] at hL
      refine (impl_isOpen_ev m (by omega)).bind ?_
      unfold opL
      cases ho : opn m
      · simp only [Bool.false_eq_true, if_false]
        rw [List.filter_cons, ho]
        simp only [Bool.false_eq_true, if_false, List.filter_nil, List.map_nil, List.append_nil]
        exact Ev.now _
      · simp only [if_true, if_pos (show out.length < 1000000000000 by omega)]
        rw [List.filter_cons, ho]
        exact Ev.now _
    · rw [if_neg hw]
      simp only [if_neg (show ¬ ((lst m : Nat) : Int) = (w : Int) by omega)]
      exact Ev.congr (fun k => rfl) (by unfold opL; rw [List.filter_nil, List.map_nil, List.append_nil]; exact Ev.now _)
  | l + 1, m, out, h1, h8, hL => by
    have key : ∀ c o out, out.length + (extL (ext w l) m c o).length < 1000000000000 → Ev (fun k => opLoop (opGrow k (w : Int) l) (l == 0) (w : Int) (ints m) c ((o : Nat) : Int) out) (out ++ opL (extL (ext w l) m c o)) := by
      intro c
      induction c with
      | zero =>
        intro o out _
        simp only [opLoop, extL, opL, List.filter_nil, List.map_nil, List.append_nil]
        exact Ev.now _
      | succ c ih =>
        intro o out hL
        simp only [extL] at hL
        rw [List.length_append] at hL
        have hlen := opL_len (ext w l (m ++ [o]))
        have ih2 := ih (o + 1) (out ++ opL (ext w l (m ++ [o]))) (by rw [List.length_append]; omega)
        rw [List.append_assoc, ← opL_app] at ih2
        simp only [opLoop, extL]
        have he : ((o : Nat) : Int) + 1 = ((o + 1 : Nat) : Int) := by omega
        rw [he]
        by_cases hs : (l == 0) = true ∧ ((o : Nat) : Int) ≠ (w : Int)
        · have hz : ext w l (m ++ [o]) = [] := by
            have h0 : l = 0 := by simpa using hs.1
            subst h0
            rw [ext, lst_snoc, if_neg (by omega)]
          have h0 : opL [] = [] := rfl
          rw [hz, List.nil_append, h0, List.append_nil] at ih2
          rw [hz, List.nil_append]
          simp only [if_pos hs, Option.bind_some]
          exact ih2
        · simp only [if_neg hs]
          have h3 := op_ev w l (m ++ [o]) out (by simp) (by rw [List.length_append, List.length_singleton]; omega) (by omega)
          rw [← ints_app] at h3
          exact h3.bind ih2
    have hk := key (w - lst m) (lst m + 1) out (by rw [ext] at hL; exact hL)
    simp only [opGrow, rd_lst m h1, ext]
    rw [show (((w : Nat) : Int) - ((lst m : Nat) : Int)).toNat = w - lst m by omega, show ((lst m : Nat) : Int) + 1 = ((lst m + 1 : Nat) : Int) by omega]
    exact hk
theorem rl_ev (w : Nat) : ∀ l m out, opn m = true → 1 ≤ m.length → m.length + l ≤ 8 → out.length + (ext w l m).length < 1000000000000 → Ev (fun k => rlLook k (w : Int) l (ints m) out) (out ++ opL (ext w l m))
  | 0, m, out, ho, h1, h8, hL => by
    simp only [rlLook, rd_lst m h1, ext]
    by_cases hw : lst m = w
    · rw [if_pos hw]
      rw [ext, if_pos hw, List.length_singleton] at hL
      simp only [if_pos (show ((lst m : Nat) : Int) = (w : Int) by omega), if_pos (show out.length < 1000000000000 by omega)]
      unfold opL
      rw [List.filter_cons, ho]
      exact Ev.now _
    · rw [if_neg hw]
      simp only [if_neg (show ¬ ((lst m : Nat) : Int) = (w : Int) by omega)]
      unfold opL
      rw [List.filter_nil, List.map_nil, List.append_nil]
      exact Ev.now _
  | l + 1, m, out, ho, h1, h8, hL => by
    have key : ∀ c o out, out.length + (extL (ext w l) m c o).length < 1000000000000 → Ev (fun k => rlLoop k (rlLook k (w : Int) l) (ints m) c ((o : Nat) : Int) out) (out ++ opL (extL (ext w l) m c o)) := by
      intro c
      induction c with
      | zero =>
        intro o out _
        simp only [rlLoop, extL, opL, List.filter_nil, List.map_nil, List.append_nil]
        exact Ev.now _
      | succ c ih =>
        intro o out hL
        simp only [extL] at hL
        rw [List.length_append] at hL
        have hlen := opL_len (ext w l (m ++ [o]))
        have ih2 := ih (o + 1) (out ++ opL (ext w l (m ++ [o]))) (by rw [List.length_append]; omega)
        rw [List.append_assoc, ← opL_app] at ih2
        simp only [rlLoop, extL]
        have he : ((o : Nat) : Int) + 1 = ((o + 1 : Nat) : Int) := by omega
        have hio : ints m ++ [((o : Nat) : Int)] = ints (m ++ [o]) := ints_app m [o]
        rw [he, hio]
        refine (spec_reClosing_ev (m ++ [o]) (by rw [List.length_append, List.length_singleton]; omega)).bind ?_
        cases hop : opn (m ++ [o])
        · have hz : opL (ext w l (m ++ [o])) = [] := by unfold opL; rw [ext_closed w l _ hop]; rfl
          have hne : ¬ ((clF (m ++ [o]) 6 0 : Nat) : Int) = 0 := by
            intro h0
            have : clF (m ++ [o]) 6 0 = 0 := by omega
            unfold opn at hop
            rw [this] at hop; cases hop
          simp only [if_neg hne, Option.bind_some]
          rw [hz, List.append_nil] at ih2
          exact ih2
        · have he0 : ((clF (m ++ [o]) 6 0 : Nat) : Int) = 0 := by
            unfold opn at hop
            have := beq_iff_eq.1 hop
            omega
          simp only [if_pos he0]
          exact (rl_ev w l (m ++ [o]) out hop (by simp) (by rw [List.length_append, List.length_singleton]; omega) (by omega)).bind ih2
    simp only [rlLook, rd_lst m h1, ext]
    rw [ext] at hL
    by_cases hl : l = 0
    · subst hl
      simp only [if_true]
      by_cases hw : lst m + 1 ≤ w
      · have e1 : mx (((lst m : Nat) : Int) + 1) (w : Int) = ((w : Nat) : Int) := by unfold mx; omega
        have e2 : extL (ext w 0) m (w - lst m) (lst m + 1) = extL (ext w 0) m 1 w := by
          rw [show w - lst m = (w - lst m - 1) + 1 by omega, extL_app, extL_nil _ _ (w - lst m - 1) _ fun y y1 y2 => by rw [ext, lst_snoc, if_neg (by omega)], List.nil_append, show lst m + 1 + (w - lst m - 1) = w by omega]
        rw [e1, show ((w : Nat) : Int) + 1 - ((0 : Nat) : Int) - ((w : Nat) : Int) = 1 by omega]
        rw [e2] at hL ⊢
        exact key 1 w out hL
      · have e1 : mx (((lst m : Nat) : Int) + 1) (w : Int) = ((lst m + 1 : Nat) : Int) := by unfold mx; omega
        have h0 : w - lst m = 0 := by omega
        rw [e1, show (((w : Nat) : Int) + 1 - ((0 : Nat) : Int) - ((lst m + 1 : Nat) : Int)).toNat = 0 by omega]
        rw [h0] at hL ⊢
        exact key 0 (lst m + 1) out hL
    · simp only [if_neg hl]
      rw [show ((lst m : Nat) : Int) + 1 = ((lst m + 1 : Nat) : Int) by omega, show (((w : Nat) : Int) + 1 - ((l : Nat) : Int) - ((lst m + 1 : Nat) : Int)).toNat = w - l - lst m by omega]
      have e2 : extL (ext w l) m (w - lst m) (lst m + 1) = extL (ext w l) m (w - l - lst m) (lst m + 1) := by
        rw [show w - lst m = (w - l - lst m) + (w - lst m - (w - l - lst m)) by omega, extL_app, extL_nil (ext w l) m (w - lst m - (w - l - lst m)) _ fun y y1 y2 => ext_far w l _ (by rw [lst_snoc]; omega), List.append_nil]
      rw [e2] at hL ⊢
      exact key _ _ out hL
/-- All open patterns of so many offsets with a width, in order. -/
def AO (n w : Nat) : List (List Nat) := (ext w (n - 1) [0]).filter opn
theorem AO_len (n w : Nat) (hn : n ≤ 6) (hw : w ≤ 60) : (ext w (n - 1) [0]).length < 1000000000 := by
  have h := ext_len w hw (n - 1) [0]
  have h2 : 60 ^ (n - 1) ≤ 60 ^ 5 := Nat.pow_le_pow_right (by decide) (by omega)
  have h3 : (60 : Nat) ^ 5 = 777600000 := by decide
  omega
theorem impl_openPatterns_ev (n w : Nat) (h1 : 1 ≤ n) (hn : n ≤ 6) (hw : w ≤ 60) : Ev (fun k => impl_openPatterns.f k (n : Int) (w : Int)) ((AO n w).map ints) := by
  unfold impl_openPatterns.f
  have h := op_ev w (n - 1) [0] [] (by decide) (by simp; omega) (by have := AO_len n w hn hw; simp; omega)
  simp only [if_pos (show 1 ≤ (n : Int) ∧ (n : Int) ≤ 6 ∧ 0 ≤ (w : Int) ∧ (w : Int) ≤ 60 by omega)]
  rw [show ((n : Int) - 1).toNat = n - 1 by omega]
  exact h
theorem spec_reAll_ev (n w : Nat) (h1 : 1 ≤ n) (hn : n ≤ 6) (hw : w ≤ 60) : Ev (fun k => spec_reAll.f k (n : Int) (w : Int)) ((AO n w).map ints) := by
  unfold spec_reAll.f
  have h := rl_ev w (n - 1) [0] [] (by decide) (by decide) (by simp; omega) (by have := AO_len n w hn hw; simp; omega)
  simp only [if_pos (show 1 ≤ (n : Int) ∧ (n : Int) ≤ 6 ∧ 0 ≤ (w : Int) ∧ (w : Int) ≤ 60 by omega)]
  rw [show ((n : Int) - 1).toNat = n - 1 by omega]
  exact h
theorem opn_int (m : List Nat) : (((clF m 6 0 : Nat) : Int) == 0) = opn m := by
  unfold opn
  by_cases h : clF m 6 0 = 0
  · rw [h]; rfl
  · rw [beq_eq_false_iff_ne.2 h, beq_eq_false_iff_ne.2 (show ((clF m 6 0 : Nat) : Int) ≠ 0 by omega)]
theorem isOpen_no (l : List Int) (hl : l.length ≤ 100000) (h : isP l = false) : Ev (fun k => impl_IsOpen.f k l) (false, false) ∧ Ev (fun k => spec_IsOpen.f k l) (false, false) := by
  constructor
  · unfold impl_IsOpen.f
    refine (impl_isPattern_ev l (by omega)).bind ?_
    rw [h]
    simp only [Bool.false_eq_true, if_false]
    exact Ev.now _
  · unfold spec_IsOpen.f
    refine (spec_reGood_ev l (by omega)).bind ?_
    rw [h]
    simp only [Bool.false_eq_true, if_false]
    exact Ev.now _
theorem isOpen_yes (m : List Nat) (hm : m.length ≤ 8) (h : isP (ints m) = true) : Ev (fun k => impl_IsOpen.f k (ints m)) (opn m, true) ∧ Ev (fun k => spec_IsOpen.f k (ints m)) (opn m, true) := by
  have hl : (ints m).length ≤ 4000000000 := by rw [ints_len]; omega
  constructor
  · unfold impl_IsOpen.f
    refine (impl_isPattern_ev (ints m) hl).bind ?_
    rw [h]
    simp only [if_true]
    exact (impl_isOpen_ev m (by omega)).bind (Ev.now _)
  · unfold spec_IsOpen.f
    refine (spec_reGood_ev (ints m) hl).bind ?_
    rw [h]
    simp only [if_true]
    refine (spec_reClosing_ev m (by omega)).bind ?_
    rw [opn_int]
    exact Ev.now _
theorem first_no (l : List Int) (hl : l.length ≤ 100000) (h : isP l = false) : Ev (fun k => impl_FirstClosing.f k l) (0, false) ∧ Ev (fun k => spec_FirstClosing.f k l) (0, false) := by
  constructor
  · unfold impl_FirstClosing.f
    refine (impl_isPattern_ev l (by omega)).bind ?_
    rw [h]
    simp only [Bool.false_eq_true, if_false]
    exact Ev.now _
  · unfold spec_FirstClosing.f
    refine (spec_reGood_ev l (by omega)).bind ?_
    rw [h]
    simp only [Bool.false_eq_true, if_false]
    exact Ev.now _
theorem first_yes (m : List Nat) (hm : m.length ≤ 8) (h : isP (ints m) = true) : Ev (fun k => impl_FirstClosing.f k (ints m)) (if opn m = true then (0 : Int) else ((clF m 6 0 : Nat) : Int), !opn m) ∧ Ev (fun k => spec_FirstClosing.f k (ints m)) (if opn m = true then (0 : Int) else ((clF m 6 0 : Nat) : Int), !opn m) := by
  have hl : (ints m).length ≤ 4000000000 := by rw [ints_len]; omega
  have hi := opn_int m
  constructor
  · unfold impl_FirstClosing.f
    refine (impl_isPattern_ev (ints m) hl).bind ?_
    rw [h]
    simp only [if_true]
    refine (impl_isOpen_ev m (by omega)).bind ?_
    cases ho : opn m
    · simp only [Bool.false_eq_true, if_false, Bool.not_false]
      exact (impl_closing_ev m (by omega)).bind (Ev.now _)
    · simp only [if_true, Bool.not_true]
      exact Ev.now _
  · unfold spec_FirstClosing.f
    refine (spec_reGood_ev (ints m) hl).bind ?_
    rw [h]
    simp only [if_true]
    have hc := spec_reClosing_ev m (by omega)
    refine hc.bind ?_
    cases ho : opn m
    · rw [ho, beq_eq_false_iff_ne] at hi
      simp only [if_neg hi, Bool.false_eq_true, if_false, Bool.not_false]
      exact hc.bind (Ev.now _)
    · rw [ho, beq_iff_eq] at hi
      simp only [if_pos hi, if_true, Bool.not_true]
      exact Ev.now _
theorem back_no (l : List Int) (hl : l.length ≤ 100000) (h : isP l = false) : Ev (fun k => impl_BackPattern.f k l) (([] : List Int), false) ∧ Ev (fun k => spec_BackPattern.f k l) (([] : List Int), false) := by
  constructor
  · unfold impl_BackPattern.f
    refine (impl_isPattern_ev l (by omega)).bind ?_
    rw [h]
    simp only [Bool.false_eq_true, if_false]
    exact Ev.now _
  · unfold spec_BackPattern.f
    refine (spec_reGood_ev l (by omega)).bind ?_
    rw [h]
    simp only [Bool.false_eq_true, if_false]
    exact Ev.now _
theorem back_l (m : List Nat) (h1 : 1 ≤ m.length) (hm : m.length ≤ 8) (hle : ∀ x ∈ m, x ≤ lst m) (hw : lst m ≤ 60) : ∀ n, n ≤ m.length → Ev (fun k => impl_BackPattern.l0 k (ints m) (ints ((m.drop n).reverse.map fun x => lst m - x)) ((n : Int) - 1)) (ints (back m), true) ∧ Ev (fun k => spec_BackPattern.l0 k (ints m) (ints ((m.drop n).reverse.map fun x => lst m - x)) ((n : Int) - 1)) (ints (back m), true)
  | 0, _ => by
    constructor <;> refine Ev.done fun k => ?_
    · simp only [impl_BackPattern.l0]
      rw [if_neg (by omega)]; rfl
    · simp only [spec_BackPattern.l0]
      rw [if_neg (by omega)]; rfl
  | n + 1, hn => by
    obtain ⟨i1, i2⟩ := back_l m h1 hm hle hw n (by omega)
    have hg : rd (ints m) (n : Int) = ((m[n]'(by omega) : Nat) : Int) := rd_ints (by omega)
    have hmem := hle (m[n]'(by omega)) (List.getElem_mem _)
    have hd : ints ((m.drop n).reverse.map fun x => lst m - x) = ints ((m.drop (n + 1)).reverse.map fun x => lst m - x) ++ [(((lst m - m[n]'(by omega) : Nat)) : Int)] := by
      rw [List.drop_eq_getElem_cons (show n < m.length by omega), List.reverse_cons, List.map_append, ← ints_app]; rfl
    have hlen := rd_lst m h1
    have hw1 : wrap64 (((ints m).length : Int) - 1) = ((ints m).length : Int) - 1 := by rw [ints_len]; exact wri (by omega) (by omega)
    have hx : (((n + 1 : Nat) : Int) - 1) = (n : Int) := by omega
    have hv : wrap64 (((lst m : Nat) : Int) - ((m[n]'(by omega) : Nat) : Int)) = (((lst m - m[n]'(by omega) : Nat)) : Int) := by rw [wri (by omega) (by omega)]; omega
    have hl2 : (ints ((m.drop (n + 1)).reverse.map fun x => lst m - x)).length ≤ 8 := by rw [ints_len, List.length_map, List.length_reverse, List.length_drop]; omega
    rw [hd] at i1 i2
    rw [hx]
    constructor
    · refine Ev.step (fun k => ?_) i1
      simp only [impl_BackPattern.l0]
      rw [hw1, hlen, hg, hv, ints_len, if_pos (by omega), if_pos (by omega), if_pos (by omega), if_pos (by omega), if_pos (by omega), if_pos (by omega), wri (show -9223372036854775808 ≤ (n : Int) - 1 by omega) (by omega)]
    · refine Ev.step (fun k => ?_) i2
      simp only [spec_BackPattern.l0]
      rw [hw1, hlen, hg, hv, ints_len, if_pos (by omega), if_pos (by omega), if_pos (by omega), if_pos (by omega), if_pos (by omega), if_pos (by omega), wri (show -9223372036854775808 ≤ (n : Int) - 1 by omega) (by omega)]
theorem back_yes (m : List Nat) (h1 : 1 ≤ m.length) (hm : m.length ≤ 8) (hle : ∀ x ∈ m, x ≤ lst m) (hw : lst m ≤ 60) (h : isP (ints m) = true) : Ev (fun k => impl_BackPattern.f k (ints m)) (ints (back m), true) ∧ Ev (fun k => spec_BackPattern.f k (ints m)) (ints (back m), true) := by
  have hl : (ints m).length ≤ 4000000000 := by rw [ints_len]; omega
  obtain ⟨i1, i2⟩ := back_l m h1 hm hle hw m.length (Nat.le_refl _)
  rw [List.drop_length, List.reverse_nil, List.map_nil] at i1 i2
  have hw1 : wrap64 (((ints m).length : Int) - 1) = ((m.length : Nat) : Int) - 1 := by rw [ints_len]; exact wri (by omega) (by omega)
  constructor
  · unfold impl_BackPattern.f
    refine (impl_isPattern_ev (ints m) hl).bind ?_
    rw [h]
    simp only [if_true, hw1]
    exact i1
  · unfold spec_BackPattern.f
    refine (spec_reGood_ev (ints m) hl).bind ?_
    rw [h]
    simp only [if_true, hw1]
    exact i2
/-- A pattern: what is told of its offsets. -/
theorem pat_good {m : List Nat} (h : isP (ints m) = true) : (∃ t, m = 0 :: t) ∧ m.Pairwise (· < ·) ∧ (∀ x ∈ m, x ≤ lst m) ∧ lst m ≤ 60 ∧ 1 ≤ m.length ∧ m.length ≤ 8 := by
  obtain ⟨h8, ⟨t, ht⟩, hs, hx⟩ := (isP_ints m).1 h
  have hle := all_le_lst hs
  have hmem : lst m ∈ m := by
    subst ht
    have h3 := List.dropLast_concat_getLast (l := 0 :: t) (by simp)
    have h4 : (0 :: t).getLast (by simp) = lst (0 :: t) := by
      unfold lst
      rw [List.getLastD_eq_getLast?, List.getLast?_eq_some_getLast (by simp)]; rfl
    rw [← h4]
    exact List.getLast_mem _
  exact ⟨⟨t, ht⟩, hs, hle, hx _ hmem, by rw [ht]; simp, h8⟩
theorem back_mem_le {m : List Nat} : ∀ x ∈ back m, x ≤ lst m := by
  intro x hx
  obtain ⟨y, _, rfl⟩ := List.mem_map.1 hx
  exact Nat.sub_le _ _
theorem back_isP {m : List Nat} (h : isP (ints m) = true) : isP (ints (back m)) = true := by
  obtain ⟨⟨t, ht⟩, hs, hle, hw, h1, h8⟩ := pat_good h
  subst ht
  obtain ⟨s, e1, e2⟩ := back_zero hs
  refine (isP_ints _).2 ⟨by rw [back_len]; exact h8, ⟨s, e1⟩, back_inc hs, fun x hx => ?_⟩
  have := back_mem_le x hx
  omega
theorem back_opn {m : List Nat} (h : isP (ints m) = true) : opn (back m) = opn m := by
  obtain ⟨⟨t, ht⟩, hs, hle, hw, h1, h8⟩ := pat_good h
  have hb := back_isP h
  obtain ⟨_, _, hle2, _, _, _⟩ := pat_good hb
  have a1 : opn (back m) = true → opn m = true := back_opn_of hle
  have a2 : opn m = true → opn (back m) = true := by
    intro ho
    have e := back_back (t := t) (by rw [← ht]; exact hs)
    rw [← ht] at e
    exact back_opn_of hle2 (by rw [e]; exact ho)
  cases h1 : opn m
  · cases h2 : opn (back m)
    · rfl
    · rw [a1 h2] at h1; cases h1
  · exact a2 h1
theorem least_of (p : Nat → Bool) : ∀ n, p n = true → ∃ m, m ≤ n ∧ p m = true ∧ ∀ k, k < m → p k = false := by
  intro n
  induction n using Nat.strongRecOn with
  | _ n ih =>
    intro h
    by_cases hx : ∃ k, k < n ∧ p k = true
    · obtain ⟨k, hk, hp⟩ := hx
      obtain ⟨m, h1, h2, h3⟩ := ih k hk hp
      exact ⟨m, by omega, h2, h3⟩
    · refine ⟨n, Nat.le_refl _, h, fun k hk => ?_⟩
      cases hp : p k
      · rfl
      · exact absurd ⟨k, hk, hp⟩ hx
theorem AO_mem (n w : Nat) (h1 : 1 ≤ n) (x : List Nat) : x ∈ AO n w ↔ ∃ t, x = 0 :: t ∧ x.length = n ∧ x.Pairwise (· < ·) ∧ lst x = w ∧ opn x = true := by
  unfold AO
  rw [List.mem_filter, mem_ext]
  constructor
  · rintro ⟨⟨t, rfl, ht, hp, hw⟩, ho⟩
    exact ⟨t, rfl, by rw [List.length_append, ht, List.length_singleton]; omega, hp, hw, ho⟩
  · rintro ⟨t, rfl, hl, hp, hw, ho⟩
    exact ⟨⟨t, rfl, by rw [List.length_cons] at hl; omega, hp, hw⟩, ho⟩
theorem AO_isP (n w : Nat) (h1 : 1 ≤ n) (hn : n ≤ 6) (hw : w ≤ 60) (x : List Nat) (hx : x ∈ AO n w) : isP (ints x) = true ∧ x.length = n ∧ lst x = w ∧ opn x = true := by
  obtain ⟨t, e, hl, hp, hlw, ho⟩ := (AO_mem n w h1 x).1 hx
  refine ⟨(isP_ints x).2 ⟨by omega, ⟨t, e⟩, hp, fun y hy => ?_⟩, hl, hlw, ho⟩
  have := all_le_lst hp y hy
  omega
theorem AO_back (n w : Nat) (h1 : 1 ≤ n) (hn : n ≤ 6) (hw : w ≤ 60) (x : List Nat) (hx : x ∈ AO n w) : back x ∈ AO n w := by
  obtain ⟨hP, hl, hlw, ho⟩ := AO_isP n w h1 hn hw x hx
  obtain ⟨⟨t, ht⟩, hs, hle, _, _, _⟩ := pat_good hP
  have hs' : (0 :: t).Pairwise (· < ·) := by rw [← ht]; exact hs
  obtain ⟨s, e1, e2⟩ := back_zero hs'
  rw [← ht] at e1 e2
  exact (AO_mem n w h1 _).2 ⟨s, e1, by rw [back_len]; exact hl, back_inc hs, by rw [e2]; exact hlw, by rw [back_opn hP]; exact ho⟩
/-- A width at which there is an open pattern of so many offsets. -/
def exW : Nat → List Nat
  | 1 => [0]
  | 2 => [0, 2]
  | 3 => [0, 2, 6]
  | 4 => [0, 2, 6, 8]
  | 5 => [0, 2, 6, 8, 12]
  | _ => [0, 4, 6, 10, 12, 16]
theorem exW_ok : ∀ n, n < 7 → 1 ≤ n → (exW n).length = n ∧ (exW n).head? = some 0 ∧ (exW n).Pairwise (· < ·) ∧ lst (exW n) ≤ 16 ∧ opn (exW n) = true := by decide +kernel
theorem AO_ex (n : Nat) (h1 : 1 ≤ n) (hn : n ≤ 6) : ∃ W, W ≤ 16 ∧ AO n W ≠ [] ∧ ∀ v, v < W → AO n v = [] := by
  obtain ⟨e1, e2, e3, e4, e5⟩ := exW_ok n (by omega) h1
  have hm : exW n ∈ AO n (lst (exW n)) := by
    refine (AO_mem n _ h1 _).2 ⟨(exW n).tail, ?_, e1, e3, rfl, e5⟩
    cases h : exW n with
    | nil => rw [h] at e1; simp at e1; omega
    | cons a t => rw [h] at e2; simp at e2; subst e2; rfl
  obtain ⟨W, w1, w2, w3⟩ := least_of (fun w => !(AO n w).isEmpty) (lst (exW n)) (by
    cases h : AO n (lst (exW n)) with
    | nil => rw [h] at hm; cases hm
    | cons a t => rfl)
  refine ⟨W, by omega, fun h => ?_, fun v hv => ?_⟩
  · rw [h] at w2; cases w2
  · have := w3 v hv
    cases h : AO n v with
    | nil => rfl
    | cons a t => rw [h] at this; cases this
theorem hs_zero {m : List Nat} (h0 : 0 ∈ m) (ho : opn m = true) : ∀ x ∈ m, x % 2 = 0 := by
  intro x hx
  have h := (opn_iff m).1 ho 0 (by decide)
  apply Decidable.byContradiction
  intro hne
  refine h fun r hr => ?_
  have hr2 : r < 2 := hr
  refine (hs_iff m (P6 0) r).2 ?_
  rcases (by omega : r = 0 ∨ r = 1) with rfl | rfl
  · exact ⟨0, h0, rfl⟩
  · exact ⟨x, hx, by show x % 2 = 1; omega⟩
theorem ev_count : ∀ n, n < 6 → ∀ w, w < 17 → ((ext w n [0]).filter fun m => m.all fun x => x % 2 == 0).length ≤ 300 := by decide +kernel
theorem AO_few (n w : Nat) (h1 : 1 ≤ n) (hn : n ≤ 6) (hw : w ≤ 16) : (AO n w).length ≤ 300 := by
  refine Nat.le_trans ?_ (ev_count (n - 1) (by omega) w (by omega))
  have h : AO n w = ((ext w (n - 1) [0]).filter fun m => m.all fun x => x % 2 == 0).filter opn := by
    unfold AO
    rw [List.filter_filter]
    refine List.filter_congr fun x hx => ?_
    obtain ⟨t, rfl, _⟩ := (mem_ext w x (n - 1) [0]).1 hx
    cases ho : opn ([0] ++ t)
    · rfl
    · have h2 := hs_zero (m := [0] ++ t) (by simp) ho
      rw [Bool.true_and]
      symm
      rw [List.all_eq_true]
      intro y hy
      rw [beq_iff_eq]
      exact h2 y hy
  rw [h]
  exact List.length_filter_le _ _
theorem count_both_no (a b : Int) (h : ¬ (1 ≤ a ∧ a ≤ 6 ∧ 0 ≤ b ∧ b ≤ 30)) : Ev (fun k => impl_CountOpen.f k a b) (0, false) ∧ Ev (fun k => spec_CountOpen.f k a b) (0, false) := by
  constructor
  · unfold impl_CountOpen.f
    by_cases c1 : a < 1
    · simp only [if_pos c1]; exact Ev.now _
    · simp only [if_neg c1]
      by_cases c2 : a > 6
      · simp only [if_pos c2]; exact Ev.now _
      · simp only [if_neg c2]
        by_cases c3 : b < 0
        · simp only [if_pos c3]; exact Ev.now _
        · simp only [if_neg c3, if_pos (show b > 30 by omega)]; exact Ev.now _
  · unfold spec_CountOpen.f
    simp only [spec_l1In_eq, Option.bind_some]
    by_cases c1 : 1 ≤ a ∧ a ≤ 6
    · rw [decide_eq_true c1]
      simp only [if_true]
      rw [decide_eq_false (show ¬ (0 ≤ b ∧ b ≤ 30) by omega)]
      simp only [Bool.false_eq_true, if_false]
      exact Ev.now _
    · rw [decide_eq_false c1]
      simp only [Bool.false_eq_true, if_false]
      exact Ev.now _
theorem count_both (n w : Nat) (h1 : 1 ≤ n) (hn : n ≤ 6) (hw : w ≤ 30) : Ev (fun k => impl_CountOpen.f k (n : Int) (w : Int)) (((AO n w).length : Int), true) ∧ Ev (fun k => spec_CountOpen.f k (n : Int) (w : Int)) (((AO n w).length : Int), true) := by
  have e1 := impl_openPatterns_ev n w h1 hn (by omega)
  have e2 := spec_reAll_ev n w h1 hn (by omega)
  have hl : ((AO n w).map ints).length = (AO n w).length := List.length_map _
  constructor
  · unfold impl_CountOpen.f
    simp only [if_neg (show ¬ (n : Int) < 1 by omega), if_neg (show ¬ (n : Int) > 6 by omega), if_neg (show ¬ (w : Int) < 0 by omega), if_neg (show ¬ (w : Int) > 30 by omega)]
    refine e1.bind ?_
    rw [hl]
    exact Ev.now _
  · unfold spec_CountOpen.f
    simp only [spec_l1In_eq, Option.bind_some]
    rw [decide_eq_true (show 1 ≤ (n : Int) ∧ (n : Int) ≤ 6 by omega)]
    simp only [if_true]
    rw [decide_eq_true (show 0 ≤ (w : Int) ∧ (w : Int) ≤ 30 by omega)]
    simp only [if_true]
    refine e2.bind ?_
    rw [hl]
    exact Ev.now _
theorem all_both_no (a b : Int) (h : ¬ (1 ≤ a ∧ a ≤ 6 ∧ 0 ≤ b ∧ b ≤ 30)) : Ev (fun k => impl_AllOpen.f k a b) (([] : List (List Int)), false) ∧ Ev (fun k => spec_AllOpen.f k a b) (([] : List (List Int)), false) := by
  have hi : Ev (fun k => impl_AllOpen.j0 k a b true) (([] : List (List Int)), false) := Ev.done fun k => by simp only [impl_AllOpen.j0, if_true]
  have hs : Ev (fun k => spec_AllOpen.j0 k a b true) (([] : List (List Int)), false) := Ev.done fun k => by simp only [spec_AllOpen.j0, if_true]
  constructor
  · unfold impl_AllOpen.f
    by_cases c1 : a < 1
    · simp only [if_pos c1]; exact hi
    · simp only [if_neg c1]
      by_cases c2 : a > 6
      · simp only [if_pos c2]; exact hi
      · simp only [if_neg c2]
        by_cases c3 : b < 0
        · simp only [if_pos c3]; exact hi
        · simp only [if_neg c3]
          rw [decide_eq_true (show b > 30 by omega)]
          exact hi
  · unfold spec_AllOpen.f
    simp only [spec_l1In_eq, Option.bind_some]
    by_cases c1 : 1 ≤ a ∧ a ≤ 6
    · rw [decide_eq_true c1]
      simp only [if_true]
      rw [decide_eq_false (show ¬ (0 ≤ b ∧ b ≤ 30) by omega)]
      simp only [Bool.not_false]
      exact hs
    · rw [decide_eq_false c1]
      simp only [Bool.false_eq_true, if_false]
      exact hs
/-- All that are told: none if they are too many. -/
def aoV (n w : Nat) : List (List Int) × Bool := if (AO n w).length ≤ 300 then ((AO n w).map ints, true) else (([] : List (List Int)), false)
theorem all_both (n w : Nat) (h1 : 1 ≤ n) (hn : n ≤ 6) (hw : w ≤ 30) : Ev (fun k => impl_AllOpen.f k (n : Int) (w : Int)) (aoV n w) ∧ Ev (fun k => spec_AllOpen.f k (n : Int) (w : Int)) (aoV n w) := by
  have e1 := impl_openPatterns_ev n w h1 hn (by omega)
  have e2 := spec_reAll_ev n w h1 hn (by omega)
  have hl : ((AO n w).map ints).length = (AO n w).length := List.length_map _
  have hif : Ev (fun _ : Nat => if ((((AO n w).map ints).length : Nat) : Int) > 300 then some (([] : List (List Int)), false) else some ((AO n w).map ints, true)) (aoV n w) := by
    unfold aoV
    rw [hl]
    by_cases h : (AO n w).length ≤ 300
    · rw [if_pos h]
      simp only [if_neg (show ¬ ((AO n w).length : Int) > 300 by omega)]
      exact Ev.now _
    · rw [if_neg h]
      simp only [if_pos (show ((AO n w).length : Int) > 300 by omega)]
      exact Ev.now _
  constructor
  · unfold impl_AllOpen.f
    simp only [if_neg (show ¬ (n : Int) < 1 by omega), if_neg (show ¬ (n : Int) > 6 by omega), if_neg (show ¬ (w : Int) < 0 by omega)]
    rw [decide_eq_false (show ¬ (w : Int) > 30 by omega)]
    refine Ev.step (f := ?f0) (fun k => ?a0) ?b0
    case a0 => simp only [impl_AllOpen.j0, Bool.false_eq_true, if_false]; exact rfl
    exact e1.bind hif
  · unfold spec_AllOpen.f
    simp only [spec_l1In_eq, Option.bind_some]
    rw [decide_eq_true (show 1 ≤ (n : Int) ∧ (n : Int) ≤ 6 by omega)]
    simp only [if_true]
    rw [decide_eq_true (show 0 ≤ (w : Int) ∧ (w : Int) ≤ 30 by omega), Bool.not_true]
    refine Ev.step (f := ?f1) (fun k => ?a1) ?b1
    case a1 => simp only [spec_AllOpen.j0, Bool.false_eq_true, if_false]; exact rfl
    exact e2.bind hif
theorem nar_no (a : Int) (h : ¬ (1 ≤ a ∧ a ≤ 6)) : Ev (fun k => impl_NarrowestOpen.f k a) (([] : List Int), false) ∧ Ev (fun k => spec_NarrowestOpen.f k a) (([] : List Int), false) := by
  have hi : Ev (fun k => impl_NarrowestOpen.j0 k a true) (([] : List Int), false) := Ev.done fun k => by simp only [impl_NarrowestOpen.j0, if_true]
  constructor
  · unfold impl_NarrowestOpen.f
    by_cases c1 : a < 1
    · simp only [if_pos c1]; exact hi
    · simp only [if_neg c1]
      rw [decide_eq_true (show a > 6 by omega)]
      exact hi
  · unfold spec_NarrowestOpen.f
    simp only [spec_l1In_eq, Option.bind_some]
    rw [decide_eq_false h]
    simp only [Bool.false_eq_true, if_false]
    exact Ev.now _
theorem nar_yes (n W : Nat) (h1 : 1 ≤ n) (hn : n ≤ 6) (hW : W ≤ 16) (hne : AO n W ≠ []) (hz : ∀ v, v < W → AO n v = []) : ∃ p t, AO n W = p :: t ∧ Ev (fun k => impl_NarrowestOpen.f k (n : Int)) (ints p, true) ∧ Ev (fun k => spec_NarrowestOpen.f k (n : Int)) (ints p, true) := by
  cases hA : AO n W with
  | nil => exact absurd hA hne
  | cons p t =>
    refine ⟨p, t, rfl, ?_, ?_⟩
    · have key : ∀ c w, w + c = W → Ev (fun k => impl_NarrowestOpen.l0 k (n : Int) (w : Int)) (ints p, true) := by
        intro c
        induction c with
        | zero =>
          intro w e
          have hw : w = W := by omega
          subst hw
          refine Ev.step (f := ?f0) (fun k => ?a0) ?b0
          case a0 => simp only [impl_NarrowestOpen.l0]; exact rfl
          have e1 := impl_openPatterns_ev n w h1 hn (by omega)
          rw [hA] at e1
          refine e1.bind ?_
          have hpos : (((List.map ints (p :: t)).length : Nat) : Int) > 0 := by rw [List.length_map, List.length_cons]; omega
          simp only [if_pos hpos]
          exact Ev.now _
        | succ c ih =>
          intro w e
          refine Ev.step (f := ?f1) (fun k => ?a1) ?b1
          case a1 => simp only [impl_NarrowestOpen.l0]; exact rfl
          have e1 := impl_openPatterns_ev n w h1 hn (by omega)
          rw [hz w (by omega)] at e1
          refine e1.bind ?_
          simp only [List.map_nil, List.length_nil]
          simp only [if_neg (show ¬ ((0 : Nat) : Int) > 0 by omega), wr_succ (show w < 9223372036854775807 by omega)]
          exact ih (w + 1) (by omega)
      unfold impl_NarrowestOpen.f
      simp only [if_neg (show ¬ (n : Int) < 1 by omega)]
      rw [decide_eq_false (show ¬ (n : Int) > 6 by omega)]
      refine Ev.step (fun k => ?_) (key W 0 (by omega))
      simp only [impl_NarrowestOpen.j0, Bool.false_eq_true, if_false]
      rfl
    · have key : ∀ c w, w + c = W → Ev (fun k => spec_NarrowestOpen.l0 k (n : Int) (w : Int)) (ints p, true) := by
        intro c
        induction c with
        | zero =>
          intro w e
          have hw : w = W := by omega
          subst hw
          refine Ev.step (f := ?f2) (fun k => ?a2) ?b2
          case a2 => simp only [spec_NarrowestOpen.l0]; rw [if_pos (show (w : Int) ≤ 30 by omega)]
          have e1 := spec_reAll_ev n w h1 hn (by omega)
          rw [hA] at e1
          refine e1.bind ?_
          have hpos : (((List.map ints (p :: t)).length : Nat) : Int) > 0 := by rw [List.length_map, List.length_cons]; omega
          simp only [if_pos hpos]
          exact Ev.now _
        | succ c ih =>
          intro w e
          refine Ev.step (f := ?f3) (fun k => ?a3) ?b3
          case a3 => simp only [spec_NarrowestOpen.l0]; rw [if_pos (show (w : Int) ≤ 30 by omega)]
          have e1 := spec_reAll_ev n w h1 hn (by omega)
          rw [hz w (by omega)] at e1
          refine e1.bind ?_
          simp only [List.map_nil, List.length_nil]
          simp only [if_neg (show ¬ ((0 : Nat) : Int) > 0 by omega), wr_succ (show w < 9223372036854775807 by omega)]
          exact ih (w + 1) (by omega)
      unfold spec_NarrowestOpen.f
      simp only [spec_l1In_eq, Option.bind_some]
      rw [decide_eq_true (show 1 ≤ (n : Int) ∧ (n : Int) ≤ 6 by omega)]
      simp only [if_true]
      exact key W 0 (by omega)
theorem ints_injE : ∀ {l m : List Nat}, ints l = ints m → l = m
  | [], [], _ => rfl
  | [], _ :: _, h => by simp [ints] at h
  | _ :: _, [], h => by simp [ints] at h
  | a :: l, b :: m, h => by
    have h1 : ((a : Nat) : Int) = (b : Int) ∧ ints l = ints m := by simpa [ints] using h
    rw [ints_injE h1.2, show a = b by omega]
theorem tSame_l (a b : List Int) (hl : a.length = b.length) (hA : a.length ≤ 1000000) : ∀ s1 s2 pre, pre ++ s1 = a → pre ++ s2 = b → Ev (fun k => laws_tSame.l0 k a b (a.length : Int) (pre.length : Int)) (decide (s1 = s2))
  | [], s2, pre, e1, e2 => by
    have h1 : a.length = pre.length := by rw [← e1]; simp
    have h2 : b.length = pre.length + s2.length := by rw [← e2, List.length_append]
    have h3 : s2 = [] := List.eq_nil_of_length_eq_zero (by omega)
    subst h3
    rw [decide_eq_true rfl]
    refine Ev.done fun k => ?_
    simp only [laws_tSame.l0]
    rw [if_neg (by omega)]
  | x :: s1, s2, pre, e1, e2 => by
    have h1 : a.length = pre.length + 1 + s1.length := by rw [← e1]; simp; omega
    cases s2 with
    | nil => have h2 : b.length = pre.length := by rw [← e2]; simp
             omega
    | cons y s2 =>
      have h2 : b.length = pre.length + 1 + s2.length := by rw [← e2]; simp; omega
      have g1 : rd a (pre.length : Int) = x := by rw [← e1]; exact rd_mid_ pre x s1
      have g2 : rd b (pre.length : Int) = y := by rw [← e2]; exact rd_mid_ pre y s2
      by_cases hxy : x = y
      · subst hxy
        have ih := tSame_l a b hl hA s1 s2 (pre ++ [x]) (by rw [← e1]; simp) (by rw [← e2]; simp)
        have hd : decide (x :: s1 = x :: s2) = decide (s1 = s2) := by
          by_cases h : s1 = s2
          · subst h; simp
          · rw [decide_eq_false h, decide_eq_false (fun hh => h (by injection hh))]
        rw [hd]
        refine Ev.step (fun k => ?_) ih
        simp only [laws_tSame.l0]
        rw [if_pos (by omega), if_pos (by omega), if_pos (by omega), if_pos (by omega), g1, g2, if_pos rfl, wr_succ (by omega), List.length_append, List.length_singleton]
      · rw [decide_eq_false (fun hh => hxy (by injection hh))]
        refine Ev.done fun k => ?_
        simp only [laws_tSame.l0]
        rw [if_pos (by omega), if_pos (by omega), if_pos (by omega), if_pos (by omega), g1, g2, if_neg hxy]
theorem tSame_ev (a b : List Int) (hA : a.length ≤ 1000000) : Ev (fun k => laws_tSame.f k a b) (decide (a = b)) := by
  unfold laws_tSame.f
  by_cases hl : a.length = b.length
  · simp only [if_pos (show (a.length : Int) = (b.length : Int) by omega)]
    exact tSame_l a b hl hA a b [] rfl rfl
  · simp only [if_neg (show ¬ (a.length : Int) = (b.length : Int) by omega)]
    rw [decide_eq_false (fun hh => hl (by rw [hh]))]
    exact Ev.now _
theorem tHas_l (l : List Int) (hl : l.length ≤ 1000000) (x : Int) : ∀ suf pre, pre ++ suf = l → x ∈ suf → Ev (fun k => laws_tHas.l0 k x l (l.length : Int) (pre.length : Int)) true
  | [], pre, e, h => by cases h
  | y :: suf, pre, e, h => by
    have h1 : l.length = pre.length + 1 + suf.length := by rw [← e]; simp; omega
    have g1 : rd l (pre.length : Int) = y := by rw [← e]; exact rd_mid_ pre y suf
    by_cases hxy : y = x
    · refine Ev.done fun k => ?_
      simp only [laws_tHas.l0]
      rw [if_pos (by omega), if_pos (by omega), if_pos (by omega), g1, if_pos hxy]
    · have ih := tHas_l l hl x suf (pre ++ [y]) (by rw [← e]; simp) (by rcases List.mem_cons.1 h with h | h; exact absurd h.symm hxy; exact h)
      refine Ev.step (fun k => ?_) ih
      simp only [laws_tHas.l0]
      rw [if_pos (by omega), if_pos (by omega), if_pos (by omega), g1, if_neg hxy, wr_succ (by omega), List.length_append, List.length_singleton]
theorem rdL_mid (pre : List (List Int)) (x : List Int) (l : List (List Int)) : rd_L1 (pre ++ x :: l) (pre.length : Int) = x := by unfold rd_L1; rw [Int.toNat_natCast]; simp
theorem tRows_l (L : List (List Int)) (hL : L.length ≤ 1000000) (hx : ∀ x ∈ L, x.length ≤ 1000000) : ∀ suf pre, pre ++ suf = L → Ev (fun k => laws_tRows.l0 k L L (L.length : Int) (pre.length : Int)) true
  | [], pre, e => by
    have h1 : L.length = pre.length := by rw [← e]; simp
    refine Ev.done fun k => ?_
    simp only [laws_tRows.l0]
    rw [if_neg (by omega)]
  | x :: suf, pre, e => by
    have h1 : L.length = pre.length + 1 + suf.length := by rw [← e]; simp; omega
    have g1 : rd_L1 L (pre.length : Int) = x := by rw [← e]; exact rdL_mid pre x suf
    have ih := tRows_l L hL hx suf (pre ++ [x]) (by rw [← e]; simp)
    refine Ev.step (f := ?f0) (fun k => ?a0) ?b0
    case a0 =>
      simp only [laws_tRows.l0]
      rw [if_pos (by omega), if_pos (by omega), if_pos (by omega), if_pos (by omega), g1]
    refine (laws_tSame_self x (hx x (by rw [← e]; simp))).bind ?_
    simp only [if_true, wr_succ (show pre.length < 9223372036854775807 by omega)]
    rw [List.length_append, List.length_singleton] at ih
    exact ih
theorem tRows_self (L : List (List Int)) (hL : L.length ≤ 1000000) (hx : ∀ x ∈ L, x.length ≤ 1000000) : Ev (fun k => laws_tRows.f k L L) true := by
  unfold laws_tRows.f
  simp only [if_true]
  exact tRows_l L hL hx L [] rfl
theorem S6_six {x : Int} (h : x ∈ S6) : ∃ i, i < 6 ∧ x = ((P6 i : Nat) : Int) := by
  have : ∀ y ∈ S6, ∃ i, i < 6 ∧ y = ((P6 i : Nat) : Int) := by decide
  exact this x h
theorem P6_S6 : ∀ i, i < 6 → ((P6 i : Nat) : Int) ∈ S6 := by decide
theorem rests_both (l : List Int) (a : Int) (hl : l.length ≤ 100000) : ∃ (L : List Int) (b : Bool), Ev (fun k => impl_RestsOf.f k l a) (L, b) ∧ Ev (fun k => spec_RestsOf.f k l a) (L, b) ∧ L.length ≤ 1000 ∧ (∀ m i, l = ints m → isP l = true → i < 6 → a = ((P6 i : Nat) : Int) → L = ints (rests m (P6 i)) ∧ b = true) := by
  cases h : isP l
  · refine ⟨[], false, ?_, ?_, by simp, fun _ _ _ h2 _ _ => by cases h2⟩
    · unfold impl_RestsOf.f
      refine (impl_isPattern_ev l (by omega)).bind ?_
      rw [h]
      simp only [Bool.false_eq_true, if_false]
      exact Ev.now _
    · unfold spec_RestsOf.f
      refine (spec_reGood_ev l (by omega)).bind ?_
      rw [h]
      simp only [Bool.false_eq_true, if_false]
      exact Ev.now _
  · by_cases ha : a ∈ S6
    · obtain ⟨i, hi, rfl⟩ := S6_six ha
      have hp := P6_pos i hi
      obtain ⟨m, rfl, hx, hm1, hm8⟩ := pat_nat h
      refine ⟨ints (rests m (P6 i)), true, ?_, ?_, by rw [ints_len]; have := rests_len m (P6 i); omega, fun m2 j e1 _ hj e2 => ?_⟩
      · unfold impl_RestsOf.f
        refine (impl_isPattern_ev (ints m) (by rw [ints_len]; omega)).bind ?_
        rw [h]
        simp only [if_true]
        refine (impl_isOneOfSix_ev _).bind ?_
        rw [decide_eq_true ha]
        simp only [if_true]
        exact (impl_restsOf_ev m (by omega) (P6 i) (by omega) (by omega)).bind (Ev.now _)
      · unfold spec_RestsOf.f
        refine (spec_reGood_ev (ints m) (by rw [ints_len]; omega)).bind ?_
        rw [h]
        simp only [if_true]
        refine (spec_reIs_ev _).bind ?_
        rw [decide_eq_true ha]
        simp only [if_true]
        exact (spec_reRests_ev m (P6 i) (by omega) (by omega) (by omega)).bind (Ev.now _)
      · have e3 : P6 i = P6 j := by omega
        rw [e3]
        have e4 : m = m2 := ints_injE e1
        rw [e4]
        exact ⟨rfl, rfl⟩
    · refine ⟨[], false, ?_, ?_, by simp, fun _ j _ _ hj e2 => absurd (e2 ▸ P6_S6 j hj) ha⟩
      · unfold impl_RestsOf.f
        refine (impl_isPattern_ev l (by omega)).bind ?_
        rw [h]
        simp only [if_true]
        refine (impl_isOneOfSix_ev _).bind ?_
        rw [decide_eq_false ha]
        simp only [Bool.false_eq_true, if_false]
        exact Ev.now _
      · unfold spec_RestsOf.f
        refine (spec_reGood_ev l (by omega)).bind ?_
        rw [h]
        simp only [if_true]
        refine (spec_reIs_ev _).bind ?_
        rw [decide_eq_false ha]
        simp only [Bool.false_eq_true, if_false]
        exact Ev.now _
theorem add_both (l : List Int) (a : Int) (hl : l.length ≤ 100000) : ∃ (L : List Int) (b : Bool), Ev (fun k => impl_AddOffsets.f k l a) (L, b) ∧ Ev (fun k => spec_AddOffsets.f k l a) (L, b) ∧ L.length ≤ 1000 ∧ (b = true → Ev (fun k => laws_tRises.f k L 1 a) true) := by
  have i0 : Ev (fun k => impl_AddOffsets.j0 k l a true) (([] : List Int), false) := Ev.done fun k => by simp only [impl_AddOffsets.j0, if_true]
  have s0 : Ev (fun k => spec_AddOffsets.j0 k l a true) (([] : List Int), false) := Ev.done fun k => by simp only [spec_AddOffsets.j0, if_true]
  cases hp : isP l
  · refine ⟨[], false, ?_, ?_, by simp, fun h => by cases h⟩
    · unfold impl_AddOffsets.f
      refine (impl_isPattern_ev l (by omega)).bind ?_
      rw [hp]
      simp only [Bool.false_eq_true, if_false]
      exact i0
    · unfold spec_AddOffsets.f
      refine (spec_reGood_ev l (by omega)).bind ?_
      rw [hp]
      simp only [Bool.false_eq_true, if_false]
      exact s0
  · obtain ⟨m, rfl, hx, hm1, hm8⟩ := pat_nat hp
    have hlm : (ints m).length ≤ 4000000000 := by rw [ints_len]; omega
    have hcl := spec_reClosing_ev m (by omega)
    have hop := impl_isOpen_ev m (by omega)
    have hint := opn_int m
    cases ho : opn m
    · rw [ho] at hop hint
      rw [beq_eq_false_iff_ne] at hint
      refine ⟨[], false, ?_, ?_, by simp, fun h => by cases h⟩
      · unfold impl_AddOffsets.f
        refine (impl_isPattern_ev (ints m) hlm).bind ?_
        rw [hp]
        simp only [if_true]
        refine hop.bind ?_
        simp only [Bool.false_eq_true, if_false]
        exact i0
      · unfold spec_AddOffsets.f
        refine (spec_reGood_ev (ints m) hlm).bind ?_
        rw [hp]
        simp only [if_true]
        refine hcl.bind ?_
        simp only [if_neg hint]
        exact s0
    · rw [ho] at hop hint
      rw [beq_iff_eq] at hint
      by_cases ha : 0 ≤ a ∧ a ≤ 60
      · obtain ⟨w, rfl⟩ := Int.eq_ofNat_of_zero_le ha.1
        have hw : w ≤ 60 := by omega
        obtain ⟨_, ⟨m', hm'⟩, hs, _⟩ := (isP_ints m).1 hp
        have h0 : keepA m 0 = false := by
          unfold keepA
          rw [(any_mem m 0).2 (by rw [hm']; simp)]; rfl
        have hR : ∀ x ∈ (List.range (w + 1)).filter (keepA m), 1 ≤ x ∧ x ≤ w := by
          intro x hx
          obtain ⟨h1, h2⟩ := List.mem_filter.1 hx
          have h3 := List.mem_range.1 h1
          refine ⟨?_, by omega⟩
          rcases Nat.eq_zero_or_pos x with rfl | h4
          · rw [h0] at h2; cases h2
          · exact h4
        have hLl : ((List.range (w + 1)).filter (keepA m)).length ≤ w + 1 := Nat.le_trans (List.length_filter_le _ _) (by rw [List.length_range]; exact Nat.le_refl _)
        refine ⟨ints ((List.range (w + 1)).filter (keepA m)), true, ?_, ?_, by rw [ints_len]; omega, fun _ => ?_⟩
        · unfold impl_AddOffsets.f
          refine (impl_isPattern_ev (ints m) hlm).bind ?_
          rw [hp]
          simp only [if_true]
          refine hop.bind ?_
          simp only [if_true, if_neg (show ¬ (w : Int) < 0 by omega)]
          rw [decide_eq_false (show ¬ (w : Int) > 60 by omega)]
          refine Ev.step (fun k => ?_) (impl_Add_l0 hp w hw (w + 1) 0 (by omega))
          simp only [impl_AddOffsets.j0, Bool.false_eq_true, if_false]
          rw [wr_succ (by omega)]
          rfl
        · unfold spec_AddOffsets.f
          refine (spec_reGood_ev (ints m) hlm).bind ?_
          rw [hp]
          simp only [if_true]
          refine hcl.bind ?_
          simp only [if_pos hint]
          rw [spec_l1In_eq, decide_eq_true ha]
          simp only [Option.bind_some, Bool.not_true]
          refine Ev.step (fun k => ?_) (spec_Add_l0 hs (by omega) w hw (w + 1) 0 (by omega))
          simp only [spec_AddOffsets.j0, Bool.false_eq_true, if_false]
          rfl
        · refine laws_tRises_ev 1 (w : Int) _ (by rw [ints_len]; omega) ?_ (fun x hx => ?_)
          · unfold ints
            rw [List.pairwise_map]
            exact List.Pairwise.imp (fun {a b} h => by omega) (List.Pairwise.filter _ List.pairwise_lt_range)
          · obtain ⟨y, hy, rfl⟩ := List.mem_map.1 hx
            have := hR y hy
            omega
      · refine ⟨[], false, ?_, ?_, by simp, fun h => by cases h⟩
        · unfold impl_AddOffsets.f
          refine (impl_isPattern_ev (ints m) hlm).bind ?_
          rw [hp]
          simp only [if_true]
          refine hop.bind ?_
          simp only [if_true]
          by_cases h0 : a < 0
          · simp only [if_pos h0]; exact i0
          · simp only [if_neg h0]
            rw [decide_eq_true (show a > 60 by omega)]
            exact i0
        · unfold spec_AddOffsets.f
          refine (spec_reGood_ev (ints m) hlm).bind ?_
          rw [hp]
          simp only [if_true]
          refine hcl.bind ?_
          simp only [if_pos hint]
          rw [spec_l1In_eq, decide_eq_false ha]
          simp only [Option.bind_some, Bool.not_false]
          exact s0
theorem law_j15 (x4 : List Int) (x5 : Int) (x6 : List Int) (x7 : Int) (h4 : x4.length ≤ 10000) (h6 : x6.length ≤ 10000) : Ev (fun k => laws_FnPatternsOpenOfAll.j15 k x4 x5 x6 x7) true := by
  obtain ⟨A, b, a1, a2, a3, a4⟩ := add_both x4 x5 (by omega)
  obtain ⟨R, c, r1, r2, r3, _⟩ := rests_both x6 x7 (by omega)
  refine Ev.step (f := ?f0) (fun k => ?a0) ?b0
  case a0 => simp only [laws_FnPatternsOpenOfAll.j15]; exact rfl
  refine a1.bind (a2.bind (r1.bind (r2.bind ?_)))
  simp only [beq_self_eq_true, if_true]
  refine (laws_tSame_self A (by omega)).bind ?_
  simp only [if_true]
  refine (laws_tSame_self R (by omega)).bind ?_
  simp only [if_true]
  cases b with
  | false => simp only [Bool.false_eq_true, if_false]; exact Ev.now _
  | true => simp only [if_true]; exact (a4 rfl).bind (Ev.now _)
theorem law_l4 (n w : Nat) (hn : n ≤ 6) (h1n : 1 ≤ n) (x4 : List Int) (x5 : Int) (x6 : List Int) (x7 : Int) (L : List (List Int)) (cnt : Int) (hL : L.length ≤ 1000000) (hLx : ∀ x ∈ L, x.length ≤ 1000) (p : List Nat) (hp : p.length = n) (hw : lst p = w) (T : List Int) (i : Nat) (hi : i ≤ 1000000)
    (hnext : Ev (fun k => laws_FnPatternsOpenOfAll.l3 k (n : Int) (w : Int) x4 x5 x6 x7 L cnt L (L.length : Int) ((i + 1 : Nat) : Int)) true) :
    ∀ suf pre fd, pre ++ suf = L → (fd = true ∨ T ∈ suf) → Ev (fun k => laws_FnPatternsOpenOfAll.l4 k (n : Int) (w : Int) x4 x5 x6 x7 L cnt (ints p) true true T true fd L (L.length : Int) (i : Int) L (L.length : Int) (pre.length : Int)) true
  | [], pre, fd, e, hf => by
    have h1 : L.length = pre.length := by rw [← e]; simp
    have hfd : fd = true := by
      rcases hf with h | h
      · exact h
      · cases h
    subst hfd
    have hr := rd_lst p (by omega)
    have hpl : (ints p).length = n := by rw [ints_len, hp]
    rw [hw, hpl] at hr
    refine Ev.step (fun k => ?_) hnext
    simp only [laws_FnPatternsOpenOfAll.l4, if_true]
    rw [if_neg (by omega), hpl, wri (show -9223372036854775808 ≤ (n : Int) - 1 by omega) (by omega), hr, if_pos rfl, if_pos (by omega), if_pos (by omega), if_pos rfl, wr_succ (by omega)]
  | q :: suf, pre, fd, e, hf => by
    have h1 : L.length = pre.length + 1 + suf.length := by rw [← e]; simp; omega
    have g1 : rd_L1 L (pre.length : Int) = q := by rw [← e]; exact rdL_mid pre q suf
    have hq := hLx q (by rw [← e]; simp)
    cases fd with
    | true =>
      have ih := law_l4 n w hn h1n x4 x5 x6 x7 L cnt hL hLx p hp hw T i hi hnext suf (pre ++ [q]) true (by rw [← e]; simp) (.inl rfl)
      refine Ev.step (fun k => ?_) ih
      simp only [laws_FnPatternsOpenOfAll.l4, if_true]
      rw [if_pos (by omega), if_pos (by omega), if_pos (by omega), wr_succ (by omega), List.length_append, List.length_singleton]
    | false =>
      have ih := law_l4 n w hn h1n x4 x5 x6 x7 L cnt hL hLx p hp hw T i hi hnext suf (pre ++ [q]) (decide (q = T)) (by rw [← e]; simp) (by
        rcases hf with h | h
        · cases h
        · rcases List.mem_cons.1 h with h | h
          · exact .inl (decide_eq_true h.symm)
          · exact .inr h)
      refine Ev.step (f := ?f0) (fun k => ?a0) ?b0
      case a0 =>
        simp only [laws_FnPatternsOpenOfAll.l4, Bool.false_eq_true, if_false]
        rw [if_pos (by omega), if_pos (by omega), if_pos (by omega), g1]
      refine (tSame_ev q T (by omega)).bind ?_
      simp only [wr_succ (show pre.length < 9223372036854775807 by omega)]
      rw [List.length_append, List.length_singleton] at ih
      exact ih
theorem law_l3 (n w : Nat) (hn : n ≤ 6) (h1n : 1 ≤ n) (hw : w ≤ 30) (x4 : List Int) (x5 : Int) (x6 : List Int) (x7 : Int) (h4 : x4.length ≤ 10000) (h6 : x6.length ≤ 10000) (hL : (AO n w).length ≤ 300) : ∀ suf pre, pre ++ suf = AO n w → Ev (fun k => laws_FnPatternsOpenOfAll.l3 k (n : Int) (w : Int) x4 x5 x6 x7 ((AO n w).map ints) ((AO n w).length : Int) ((AO n w).map ints) (((AO n w).map ints).length : Int) (pre.length : Int)) true
  | [], pre, e => by
    have h1 : (AO n w).length = pre.length := by rw [← e]; simp
    have h2 : ((AO n w).map ints).length = (AO n w).length := List.length_map _
    refine Ev.step (fun k => ?_) (law_j15 x4 x5 x6 x7 h4 h6)
    simp only [laws_FnPatternsOpenOfAll.l3]
    rw [h2, if_neg (by omega), if_pos rfl]
  | p :: suf, pre, e => by
    have h1 : (AO n w).length = pre.length + 1 + suf.length := by rw [← e]; simp; omega
    have h2 : ((AO n w).map ints).length = (AO n w).length := List.length_map _
    have hmem : p ∈ AO n w := by rw [← e]; simp
    obtain ⟨hP, hl, hlw, ho⟩ := AO_isP n w h1n hn (by omega) p hmem
    obtain ⟨_, _, hle, hw60, hp1, hp8⟩ := pat_good hP
    have g1 : rd_L1 ((AO n w).map ints) (pre.length : Int) = ints p := by
      rw [← e, List.map_append, List.map_cons]
      have h3 := rdL_mid (pre.map ints) (ints p) (suf.map ints)
      rw [List.length_map] at h3
      exact h3
    have ih := law_l3 n w hn h1n hw x4 x5 x6 x7 h4 h6 hL suf (pre ++ [p]) (by rw [← e]; simp)
    rw [List.length_append, List.length_singleton] at ih
    have hbk : ints (back p) ∈ (AO n w).map ints := List.mem_map.2 ⟨_, AO_back n w h1n hn (by omega) p hmem, rfl⟩
    have h4l := law_l4 n w hn h1n x4 x5 x6 x7 ((AO n w).map ints) ((AO n w).length : Int) (by rw [h2]; omega) (fun x hx => by
      obtain ⟨y, hy, rfl⟩ := List.mem_map.1 hx
      rw [ints_len, (AO_isP n w h1n hn (by omega) y hy).2.1]; omega) p hl hlw (ints (back p)) pre.length (by omega) ih ((AO n w).map ints) [] false rfl (.inr hbk)
    refine Ev.step (f := ?f0) (fun k => ?a0) ?b0
    case a0 =>
      simp only [laws_FnPatternsOpenOfAll.l3]
      rw [if_pos (by rw [h2]; omega), if_pos (by omega), if_pos (by rw [h2]; omega), g1]
    have hio := (isOpen_yes p (by omega) hP).1
    rw [ho] at hio
    refine hio.bind ((back_yes p hp1 hp8 hle hw60 hP).1.bind ?_)
    exact h4l
theorem law_j11 (x2 x3 : Int) (x4 : List Int) (x5 : Int) (x6 : List Int) (x7 : Int) (h4 : x4.length ≤ 10000) (h6 : x6.length ≤ 10000) : Ev (fun k => laws_FnPatternsOpenOfAll.j11 k x2 x3 x4 x5 x6 x7) true := by
  refine Ev.step (f := ?f0) (fun k => ?a0) ?b0
  case a0 => simp only [laws_FnPatternsOpenOfAll.j11]; exact rfl
  by_cases h : 1 ≤ x2 ∧ x2 ≤ 6 ∧ 0 ≤ x3 ∧ x3 ≤ 30
  · obtain ⟨n, rfl⟩ := Int.eq_ofNat_of_zero_le (show 0 ≤ x2 by omega)
    obtain ⟨w, rfl⟩ := Int.eq_ofNat_of_zero_le (show 0 ≤ x3 by omega)
    have h1 : 1 ≤ n := by omega
    have hn : n ≤ 6 := by omega
    have hw : w ≤ 30 := by omega
    obtain ⟨a1, a2⟩ := all_both n w h1 hn hw
    obtain ⟨c1, c2⟩ := count_both n w h1 hn hw
    refine a1.bind (a2.bind (c1.bind (c2.bind ?_)))
    simp only [bne_self_eq_false, Bool.false_eq_true, if_false, if_true]
    have hrows : Ev (fun k => laws_tRows.f k (aoV n w).1 (aoV n w).1) true := by
      unfold aoV
      by_cases h3 : (AO n w).length ≤ 300
      · rw [if_pos h3]
        refine tRows_self _ (by rw [List.length_map]; omega) fun x hx => ?_
        obtain ⟨y, hy, rfl⟩ := List.mem_map.1 hx
        rw [ints_len, (AO_isP n w h1 hn (by omega) y hy).2.1]; omega
      · rw [if_neg h3]
        exact tRows_self [] (by simp) fun x hx => by cases hx
    refine hrows.bind ?_
    simp only [if_true]
    have hb : ((aoV n w).2 != decide (((AO n w).length : Int) ≤ 300)) = false := by
      unfold aoV
      by_cases h3 : (AO n w).length ≤ 300
      · rw [if_pos h3, decide_eq_true (show ((AO n w).length : Int) ≤ 300 by omega)]; rfl
      · rw [if_neg h3, decide_eq_false (show ¬ ((AO n w).length : Int) ≤ 300 by omega)]; rfl
    rw [hb]
    unfold aoV
    by_cases h3 : (AO n w).length ≤ 300
    · rw [if_pos h3]
      refine Ev.step (fun k => ?_) (law_l3 n w hn h1 hw x4 x5 x6 x7 h4 h6 h3 (AO n w) [] rfl)
      simp only [laws_FnPatternsOpenOfAll.j12, Bool.false_eq_true, if_false, if_true]
      rfl
    · rw [if_neg h3]
      refine Ev.step (fun k => ?_) (law_j15 x4 x5 x6 x7 h4 h6)
      simp only [laws_FnPatternsOpenOfAll.j12, Bool.false_eq_true, if_false]
  · obtain ⟨a1, a2⟩ := all_both_no x2 x3 h
    obtain ⟨c1, c2⟩ := count_both_no x2 x3 h
    refine a1.bind (a2.bind (c1.bind (c2.bind ?_)))
    simp only [bne_self_eq_false, Bool.false_eq_true, if_false, if_true]
    refine (tRows_self ([] : List (List Int)) (by simp) (fun x hx => by cases hx)).bind ?_
    simp only [if_true]
    refine Ev.step (fun k => ?_) (law_j15 x4 x5 x6 x7 h4 h6)
    simp only [laws_FnPatternsOpenOfAll.j12, Bool.false_eq_true, if_false]
theorem law_l2 (n W : Nat) (hn : n ≤ 6) (h1 : 1 ≤ n) (hW : W ≤ 16) (p : List Nat) (t : List (List Nat)) (hA : AO n W = p :: t) (hz : ∀ v, v < W → AO n v = []) (x2 x3 : Int) (x4 : List Int) (x5 : Int) (x6 : List Int) (x7 : Int) (hj : Ev (fun k => laws_FnPatternsOpenOfAll.j11 k x2 x3 x4 x5 x6 x7) true) : ∀ c w, w + c = W → Ev (fun k => laws_FnPatternsOpenOfAll.l2 k (n : Int) x2 x3 x4 x5 x6 x7 (ints p) (W : Int) (w : Int)) true
  | 0, w, e => by
    have hw : w = W := by omega
    subst hw
    refine Ev.step (f := ?f0) (fun k => ?a0) ?b0
    case a0 => simp only [laws_FnPatternsOpenOfAll.l2]; rw [if_neg (show ¬ (w : Int) < (w : Int) by omega)]
    have ha := (all_both n w h1 hn (by omega)).1
    have hfew := AO_few n w h1 hn hW
    have hv : aoV n w = ((AO n w).map ints, true) := by unfold aoV; rw [if_pos hfew]
    rw [hv] at ha
    have hpos : 0 < (((AO n w).map ints).length : Int) := by rw [List.length_map, hA, List.length_cons]; omega
    have hhd : rd_L1 ((AO n w).map ints) 0 = ints p := by rw [hA]; rfl
    have hpl : (ints p).length ≤ 1000 := by rw [ints_len, (AO_isP n w h1 hn (by omega) p (by rw [hA]; simp)).2.1]; omega
    refine ha.bind ?_
    simp only [if_true, if_neg (show ¬ (((AO n w).map ints).length : Int) < 1 by omega), if_pos hpos, hhd]
    refine (laws_tSame_self (ints p) (by omega)).bind ?_
    simp only [if_true]
    exact hj
  | c + 1, w, e => by
    have ih := law_l2 n W hn h1 hW p t hA hz x2 x3 x4 x5 x6 x7 hj c (w + 1) (by omega)
    have hc := (count_both n w h1 hn (by omega)).1
    rw [hz w (by omega)] at hc
    refine Ev.step (f := ?f1) (fun k => ?a1) ?b1
    case a1 => simp only [laws_FnPatternsOpenOfAll.l2]; rw [if_pos (show (w : Int) < (W : Int) by omega)]
    refine hc.bind ?_
    simp only [List.length_nil, if_true, wr_succ (show w < 9223372036854775807 by omega)]
    exact ih
theorem law_j7 (x1 x2 x3 : Int) (x4 : List Int) (x5 : Int) (x6 : List Int) (x7 : Int) (h4 : x4.length ≤ 10000) (h6 : x6.length ≤ 10000) : Ev (fun k => laws_FnPatternsOpenOfAll.j7 k x1 x2 x3 x4 x5 x6 x7) true := by
  have hj := law_j11 x2 x3 x4 x5 x6 x7 h4 h6
  refine Ev.step (f := ?f0) (fun k => ?a0) ?b0
  case a0 => simp only [laws_FnPatternsOpenOfAll.j7]; exact rfl
  by_cases h : 1 ≤ x1 ∧ x1 ≤ 6
  · obtain ⟨n, rfl⟩ := Int.eq_ofNat_of_zero_le (show 0 ≤ x1 by omega)
    have h1 : 1 ≤ n := by omega
    have hn : n ≤ 6 := by omega
    obtain ⟨W, w1, w2, w3⟩ := AO_ex n h1 hn
    obtain ⟨p, t, hA, n1, n2⟩ := nar_yes n W h1 hn w1 w2 w3
    obtain ⟨hP, hl, hlw, ho⟩ := AO_isP n W h1 hn (by omega) p (by rw [hA]; simp)
    have hpl : (ints p).length = n := by rw [ints_len, hl]
    have hr := rd_lst p (by omega)
    rw [hlw, hpl] at hr
    have hio := (isOpen_yes p (by omega) hP).1
    rw [ho] at hio
    have hl2 := law_l2 n W hn h1 w1 p t hA w3 x2 x3 x4 x5 x6 x7 hj W 0 (by omega)
    refine n1.bind (n2.bind ?_)
    simp only [bne_self_eq_false, Bool.false_eq_true, if_false]
    refine (laws_tSame_self (ints p) (by omega)).bind ?_
    refine Ev.step (f := ?f1) (fun k => ?a1) ?b1
    case a1 => simp only [laws_FnPatternsOpenOfAll.j8, Bool.not_true, Bool.false_eq_true, if_false, if_true]; exact rfl
    refine hio.bind ?_
    have hwr : wrap64 ((n : Int) - 1) = (n : Int) - 1 := wri (by omega) (by omega)
    simp only [if_true, hwr, hpl, hr, if_pos (show 0 ≤ (n : Int) - 1 by omega), if_pos (show (n : Int) - 1 < (n : Int) by omega), bne_self_eq_false]
    refine Ev.step (fun k => ?_) hl2
    simp only [laws_FnPatternsOpenOfAll.j9, Bool.false_eq_true, if_false]
    rfl
  · obtain ⟨n1, n2⟩ := nar_no x1 h
    refine n1.bind (n2.bind ?_)
    simp only [bne_self_eq_false, Bool.false_eq_true, if_false]
    refine (laws_tSame_self ([] : List Int) (by simp)).bind ?_
    refine Ev.step (fun k => ?_) hj
    simp only [laws_FnPatternsOpenOfAll.j8, Bool.not_true, Bool.false_eq_true, if_false]
/-- One of the primes before has closed it. -/
def clB (m : List Nat) : Nat → Bool
  | 0 => false
  | i + 1 => clB m i || ((rests m (P6 i)).length == P6 i)
theorem clB_iff (m : List Nat) : ∀ i, clB m i = true ↔ ∃ j, j < i ∧ (rests m (P6 j)).length = P6 j
  | 0 => by simp [clB]
  | i + 1 => by
    simp only [clB, Bool.or_eq_true, beq_iff_eq, clB_iff m i]
    constructor
    · rintro (⟨j, h1, h2⟩ | h)
      · exact ⟨j, by omega, h2⟩
      · exact ⟨i, by omega, h⟩
    · rintro ⟨j, h1, h2⟩
      rcases Nat.eq_or_lt_of_le (Nat.le_of_lt_succ h1) with rfl | h3
      · exact .inr h2
      · exact .inl ⟨j, h3, h2⟩
theorem clB_opn (m : List Nat) : clB m 6 = !opn m := by
  cases ho : opn m
  · rw [Bool.not_false, clB_iff]
    have h : clF m 6 0 ≠ 0 := by
      intro h0
      unfold opn at ho
      rw [h0] at ho; cases ho
    obtain ⟨i, _, hi, _, hr, _⟩ := clF_has m 6 0 rfl h
    exact ⟨i, hi, hr⟩
  · rw [Bool.not_true]
    cases hc : clB m 6
    · rfl
    · obtain ⟨j, hj, hr⟩ := (clB_iff m 6).1 hc
      exact absurd ((rests_full m (P6 j)).1 hr) ((opn_iff m).1 ho j hj)
theorem clB_first (m : List Nat) (i : Nat) (hi : i < 6) (h0 : clB m i = false) (hr : (rests m (P6 i)).length = P6 i) : clF m 6 0 = P6 i ∧ opn m = false := by
  have hne : clF m 6 0 ≠ 0 := clF_pos m 6 0 rfl ⟨i, Nat.zero_le _, hi, hr⟩
  obtain ⟨j, _, hj, e, hrj, hmin⟩ := clF_has m 6 0 rfl hne
  have hij : j = i := by
    rcases Nat.lt_trichotomy j i with h | h | h
    · have := (clB_iff m i).2 ⟨j, h, hrj⟩
      rw [h0] at this; cases this
    · exact h
    · exact absurd hr (hmin i (Nat.zero_le _) h)
  subst hij
  refine ⟨e, ?_⟩
  unfold opn
  exact beq_eq_false_iff_ne.2 hne
theorem law_l1 (m : List Nat) (hm : m.length ≤ 8) (i : Nat) (hi : i < 6) (x1 x2 x3 : Int) (x4 : List Int) (x5 : Int) (x6 : List Int) (x7 : Int) (b17 : Bool) (x21 : Int) (b22 b33 : Bool)
    (hnext : Ev (fun k => laws_FnPatternsOpenOfAll.l0 k (ints m) x1 x2 x3 x4 x5 x6 x7 b17 x21 b22 b33 (PL 6) 6 ((i + 1 : Nat) : Int)) true) :
    ∀ suf pre, pre ++ suf = m → Ev (fun k => laws_FnPatternsOpenOfAll.l1 k (ints m) x1 x2 x3 x4 x5 x6 x7 b17 x21 b22 b33 ((P6 i : Nat) : Int) (ints (rests m (P6 i))) (PL 6) 6 (i : Int) (ints m) ((ints m).length : Int) (pre.length : Int)) true
  | [], pre, e => by
    have h1 : m.length = pre.length := by rw [← e]; simp
    refine Ev.step (fun k => ?_) hnext
    simp only [laws_FnPatternsOpenOfAll.l1]
    rw [ints_len, if_neg (by omega), wr_succ (by omega)]
  | x :: suf, pre, e => by
    have h1 : m.length = pre.length + 1 + suf.length := by rw [← e]; simp; omega
    have hg : rd (ints m) (pre.length : Int) = (x : Int) := by rw [← e]; exact ints_get pre x suf
    have hp := P6_pos i hi
    have ih := law_l1 m hm i hi x1 x2 x3 x4 x5 x6 x7 b17 x21 b22 b33 hnext suf (pre ++ [x]) (by rw [← e]; simp)
    have hmem : (((x % P6 i : Nat)) : Int) ∈ ints (rests m (P6 i)) := List.mem_map.2 ⟨x % P6 i, List.mem_filter.2 ⟨List.mem_range.2 (Nat.mod_lt _ (by omega)), (hs_iff m _ _).2 ⟨x, by rw [← e]; simp, rfl⟩⟩, rfl⟩
    have hth : Ev (fun k => laws_tHas.f k (ints (rests m (P6 i))) (((x % P6 i : Nat)) : Int)) true := by
      unfold laws_tHas.f
      exact tHas_l _ (by rw [ints_len]; have := rests_len m (P6 i); omega) _ _ [] rfl hmem
    refine Ev.step (f := ?f0) (fun k => ?a0) ?b0
    case a0 =>
      simp only [laws_FnPatternsOpenOfAll.l1]
      rw [ints_len, if_pos (by omega), if_pos (by omega), if_pos (by omega), if_neg (by omega), hg, tm]
    refine hth.bind ?_
    simp only [if_true, wr_succ (show pre.length < 9223372036854775807 by omega)]
    rw [List.length_append, List.length_singleton, ints_len] at ih
    exact ih
theorem law_l0 (m : List Nat) (hP : isP (ints m) = true) (hm : m.length ≤ 8) (x1 x2 x3 : Int) (x4 : List Int) (x5 : Int) (x6 : List Int) (x7 : Int) (hj : Ev (fun k => laws_FnPatternsOpenOfAll.j7 k x1 x2 x3 x4 x5 x6 x7) true) : ∀ c i, i + c = 6 → Ev (fun k => laws_FnPatternsOpenOfAll.l0 k (ints m) x1 x2 x3 x4 x5 x6 x7 (opn m) (if opn m = true then (0 : Int) else ((clF m 6 0 : Nat) : Int)) (!opn m) (clB m i) (PL 6) 6 (i : Int)) true
  | 0, i, e => by
    have hi : i = 6 := by omega
    subst hi
    refine Ev.step (fun k => ?_) hj
    simp only [laws_FnPatternsOpenOfAll.l0]
    rw [if_neg (by omega), clB_opn]
    cases opn m <;> rfl
  | c + 1, i, e => by
    have hi : i < 6 := by omega
    have hp := P6_pos i hi
    have hl6 : (PL 6).length = 6 := PL_len 6 (Nat.le_refl _)
    have ih := law_l0 m hP hm x1 x2 x3 x4 x5 x6 x7 hj c (i + 1) (by omega)
    have hl1 := law_l1 m hm i hi x1 x2 x3 x4 x5 x6 x7 (opn m) (if opn m = true then (0 : Int) else ((clF m 6 0 : Nat) : Int)) (!opn m) (clB m (i + 1)) ih m [] rfl
    obtain ⟨R, b, r1, _, _, r4⟩ := rests_both (ints m) ((P6 i : Nat) : Int) (by rw [ints_len]; omega)
    obtain ⟨rfl, rfl⟩ := r4 m i rfl hP hi rfl
    have hrl := rests_len m (P6 i)
    have hrm := rests_le (P6 i) m
    have hris : Ev (fun k => laws_tRises.f k (ints (rests m (P6 i))) 0 (((P6 i : Nat) : Int) - 1)) true := by
      refine laws_tRises_ev 0 _ _ (by rw [ints_len]; omega) ?_ (fun x hx => ?_)
      · unfold ints
        rw [List.pairwise_map]
        exact List.Pairwise.imp (fun {a b} h => by omega) (List.Pairwise.filter _ List.pairwise_lt_range)
      · obtain ⟨y, hy, rfl⟩ := List.mem_map.1 hx
        have := List.mem_range.1 (List.mem_filter.1 hy).1
        omega
    have h4 : ∀ bt : Bool, Ev (fun k => laws_FnPatternsOpenOfAll.j4 k (ints m) x1 x2 x3 x4 x5 x6 x7 (opn m) (if opn m = true then (0 : Int) else ((clF m 6 0 : Nat) : Int)) (!opn m) (clB m i) ((P6 i : Nat) : Int) (ints (rests m (P6 i))) (PL 6) 6 (i : Int) false) true := by
      intro _
      have h5 : Ev (fun k => laws_FnPatternsOpenOfAll.j5 k (ints m) x1 x2 x3 x4 x5 x6 x7 (opn m) (if opn m = true then (0 : Int) else ((clF m 6 0 : Nat) : Int)) (!opn m) (clB m (i + 1)) ((P6 i : Nat) : Int) (ints (rests m (P6 i))) (PL 6) 6 (i : Int)) true := Ev.step (fun k => by simp only [laws_FnPatternsOpenOfAll.j5]; rfl) hl1
      have hlenb : (((ints (rests m (P6 i))).length : Int) == ((P6 i : Nat) : Int)) = ((rests m (P6 i)).length == P6 i) := by
        rw [ints_len]
        by_cases h : (rests m (P6 i)).length = P6 i
        · rw [h, beq_self_eq_true, beq_self_eq_true]
        · rw [beq_eq_false_iff_ne.2 h, beq_eq_false_iff_ne.2 (show ((rests m (P6 i)).length : Int) ≠ ((P6 i : Nat) : Int) by omega)]
      refine Ev.step (fun k => ?_) h5
      simp only [laws_FnPatternsOpenOfAll.j4, Bool.false_eq_true, if_false]
      rw [hlenb]
      have hcb : clB m (i + 1) = (clB m i || ((rests m (P6 i)).length == P6 i)) := rfl
      rw [hcb]
      cases clB m i
      · simp only [Bool.false_eq_true, if_false, Bool.false_or]
      · simp only [if_true, Bool.true_or]
    refine Ev.step (f := ?f0) (fun k => ?a0) ?b0
    case a0 =>
      simp only [laws_FnPatternsOpenOfAll.l0]
      rw [if_pos (by omega), if_pos (by omega), if_pos (by omega), PL_get 6 (Nat.le_refl _) i hi]
    refine r1.bind ?_
    simp only [if_true]
    rw [wri (show -9223372036854775808 ≤ ((P6 i : Nat) : Int) - 1 by omega) (by omega)]
    refine hris.bind ?_
    simp only [if_true, if_neg (show ¬ ((ints (rests m (P6 i))).length : Int) > ((ints m).length : Int) by rw [ints_len, ints_len]; omega)]
    by_cases hr : (rests m (P6 i)).length = P6 i
    · simp only [if_pos (show ((ints (rests m (P6 i))).length : Int) = ((P6 i : Nat) : Int) by rw [ints_len]; omega)]
      cases hc : clB m i
      · obtain ⟨f1, f2⟩ := clB_first m i hi hc hr
        have h4' := h4 true
        rw [hc] at h4'
        rw [f2, f1] at h4' ⊢
        simp only [Bool.false_eq_true, if_false, Bool.not_false, if_true, bne_self_eq_false] at h4' ⊢
        exact h4'
      · have h4' := h4 true
        rw [hc] at h4'
        simp only [if_true]
        exact h4'
    · simp only [if_neg (show ¬ ((ints (rests m (P6 i))).length : Int) = ((P6 i : Nat) : Int) by rw [ints_len]; omega)]
      exact h4 true
theorem law_j0 (x0 : List Int) (x1 x2 x3 : Int) (x4 : List Int) (x5 : Int) (x6 : List Int) (x7 : Int) (h0 : x0.length ≤ 10000) (h4 : x4.length ≤ 10000) (h6 : x6.length ≤ 10000) : Ev (fun k => laws_FnPatternsOpenOfAll.j0 k x0 x1 x2 x3 x4 x5 x6 x7 false) true := by
  have hj := law_j7 x1 x2 x3 x4 x5 x6 x7 h4 h6
  have p1 : Ev (fun k => impl_IsPattern.f k x0) (isP x0) := by
    unfold impl_IsPattern.f
    exact (impl_isPattern_ev x0 (by omega)).bind (Ev.now _)
  have p2 : Ev (fun k => spec_IsPattern.f k x0) (isP x0) := by
    unfold spec_IsPattern.f
    exact (spec_reGood_ev x0 (by omega)).bind (Ev.now _)
  refine Ev.step (f := ?f0) (fun k => ?a0) ?b0
  case a0 => simp only [laws_FnPatternsOpenOfAll.j0, Bool.false_eq_true, if_false]; exact rfl
  cases hp : isP x0
  · rw [hp] at p1 p2
    obtain ⟨a1, a2⟩ := isOpen_no x0 (by omega) hp
    obtain ⟨b1, b2⟩ := first_no x0 (by omega) hp
    obtain ⟨c1, c2⟩ := back_no x0 (by omega) hp
    refine a1.bind (a2.bind (b1.bind (b2.bind (c1.bind (c2.bind ?_)))))
    simp only [bne_self_eq_false, Bool.false_eq_true, if_false, if_true]
    refine (laws_tSame_self ([] : List Int) (by simp)).bind ?_
    simp only [if_true]
    refine p1.bind ?_
    simp only [bne_self_eq_false, Bool.false_eq_true, if_false]
    refine p1.bind (p2.bind ?_)
    simp only [bne_self_eq_false, Bool.false_eq_true, if_false]
    refine Ev.step (fun k => ?_) hj
    simp only [laws_FnPatternsOpenOfAll.j1, Bool.false_eq_true, if_false]
  · rw [hp] at p1 p2
    obtain ⟨m, rfl, hx, hm1, hm8⟩ := pat_nat hp
    obtain ⟨⟨t, ht⟩, hs, hle, hw60, _, _⟩ := pat_good hp
    obtain ⟨a1, a2⟩ := isOpen_yes m hm8 hp
    obtain ⟨b1, b2⟩ := first_yes m hm8 hp
    obtain ⟨c1, c2⟩ := back_yes m hm1 hm8 hle hw60 hp
    have hbP := back_isP hp
    obtain ⟨_, _, hle2, hw2, hb1, hb8⟩ := pat_good hbP
    obtain ⟨d1, _⟩ := isOpen_yes (back m) hb8 hbP
    obtain ⟨e1, _⟩ := back_yes (back m) hb1 hb8 hle2 hw2 hbP
    have ebb : back (back m) = m := by
      have e := back_back (t := t) (by rw [← ht]; exact hs)
      rw [← ht] at e
      exact e
    rw [back_opn hp] at d1
    rw [ebb] at e1
    refine a1.bind (a2.bind (b1.bind (b2.bind (c1.bind (c2.bind ?_)))))
    simp only [bne_self_eq_false, Bool.false_eq_true, if_false, if_true]
    refine (laws_tSame_self (ints (back m)) (by rw [ints_len]; omega)).bind ?_
    simp only [if_true]
    refine p1.bind ?_
    simp only [bne_self_eq_false, Bool.false_eq_true, if_false]
    refine p1.bind (p2.bind ?_)
    simp only [bne_self_eq_false, Bool.false_eq_true, if_false]
    refine Ev.step (f := ?f1) (fun k => ?a1) ?b1
    case a1 => simp only [laws_FnPatternsOpenOfAll.j1, Bool.false_eq_true, if_false, if_true]; exact rfl
    refine d1.bind (e1.bind ?_)
    simp only [bne_self_eq_false, Bool.false_eq_true, if_false, if_true]
    refine (laws_tSame_self (ints m) (by rw [ints_len]; omega)).bind ?_
    have hl0 := law_l0 m hp hm8 x1 x2 x3 x4 x5 x6 x7 hj 6 0 rfl
    refine Ev.step (fun k => ?_) hl0
    simp only [laws_FnPatternsOpenOfAll.j2, Bool.not_true, Bool.false_eq_true, if_false, Option.bind_some]
    rfl
theorem FnPatternsOpenOfAll : laws_FnPatternsOpenOfAll.Pure := by
  intro l0 a1 a2 a3 l4 a5 l6 a7 _ _ _ _ _ _ _ _ _ _ _ _ _ _
  apply Ev.rounds
  have hyes : Ev (fun k => laws_FnPatternsOpenOfAll.j0 k l0 a1 a2 a3 l4 a5 l6 a7 true) true := Ev.done fun k => by simp only [laws_FnPatternsOpenOfAll.j0, if_true]
  unfold laws_FnPatternsOpenOfAll.f
  by_cases c0 : (l0.length : Int) > 10000
  · simp only [if_pos c0]; exact hyes
  · simp only [if_neg c0]
    by_cases c4 : (l4.length : Int) > 10000
    · simp only [if_pos c4]; exact hyes
    · simp only [if_neg c4]
      by_cases c6 : (l6.length : Int) > 10000
      · rw [decide_eq_true c6]; exact hyes
      · rw [decide_eq_false c6]
        exact law_j0 l0 a1 a2 a3 l4 a5 l6 a7 (by omega) (by omega) (by omega)
end Go.Proofs.Ytbdapgjgjllojaa.Pure
