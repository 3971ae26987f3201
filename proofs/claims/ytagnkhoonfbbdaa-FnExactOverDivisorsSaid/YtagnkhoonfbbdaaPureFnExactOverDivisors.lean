/- OverDivisors answers as the reference does, for every argument. -/
import Derived.Test.YtagnkhoonfbbdaaPFnExactOverDivisorsx4
import Derived.Test.YtagnkhoonfbbdaaNtC
import Derived.Test.YtagnkhoonfbbdaaNtD
namespace Go.Proofs.Ytagnkhoonfbbdaa.Pure
set_option linter.unusedVariables false
open Go Go.RowKit Go.Proofs.Ytagnkhoonfbbdaa.PFnExactOverDivisors Go.Proofs.YtagnkhoonfbbdaaW.PrintWords Go.Proofs.YtagnkhoonfbbdaaW.PrintLast Go.Proofs.Ytagnkhoonfbbdaa.Nt
theorem Ev.done {α : Type} {g : Nat → Option α} {r : α} (h : ∀ k, g (k + 1) = some r) : Ev g r := Ev.step (f := fun _ => some r) h (Ev.now r)
theorem Ev.const {α : Type} {g : Nat → Option α} {r : α} (h : ∀ k, g k = some r) : Ev g r := Ev.congr (f := fun _ => some r) h (Ev.now r)
theorem wr {a : Nat} (h : a < 9223372036854775808) : wrap64 (a : Int) = a := by unfold wrap64; omega
theorem wri {a : Int} (h0 : -9223372036854775808 ≤ a) (h : a < 9223372036854775808) : wrap64 a = a := by unfold wrap64; omega
theorem wr_mul {a b : Nat} (h : a * b < 9223372036854775808) : wrap64 ((a : Int) * b) = ((a * b : Nat) : Int) := by rw [← Int.natCast_mul]; exact wr h
theorem wr_succ {a : Nat} (h : a < 9223372036854775807) : wrap64 ((a : Int) + 1) = ((a + 1 : Nat) : Int) := wr (a := a + 1) (by omega)
theorem wr_tdiv {a b : Nat} (h : a < 9223372036854775808) : wrap64 (Int.tdiv (a : Int) b) = ((a / b : Nat) : Int) := wr (a := a / b) (Nat.lt_of_le_of_lt (Nat.div_le_self a b) h)
theorem tm (a b : Nat) : Int.tmod (a : Int) b = ((a % b : Nat) : Int) := rfl
theorem sq_lt {a b : Nat} (h : a ≤ 3037000499) (k : b ≤ 3037000499) : a * b < 9223372036854775808 := Nat.lt_of_le_of_lt (Nat.mul_le_mul h k) (by decide)
theorem spec_l1In_eq (a b c : Int) : spec_l1In.f a b c = some (decide (b ≤ a ∧ a ≤ c)) := by
  unfold spec_l1In.f
  by_cases h : a ≥ b
  · rw [if_pos h, decide_eq_decide.2 (show a ≤ c ↔ b ≤ a ∧ a ≤ c from ⟨fun k => ⟨h, k⟩, fun k => k.2⟩)]
  · rw [if_neg h, decide_eq_false (fun k => h k.1)]
theorem rd_at (l : List Int) (j : Nat) : rd l (j : Int) = l.getD j 0 := by unfold rd; rw [Int.toNat_natCast]
theorem laws_eqIntS_l (l : List Int) (hl : l.length ≤ 4000000000000000000) : ∀ (j i : Nat), l.length ≤ i + j → i ≤ l.length → Ev (fun k => laws_eqIntS.l0 k l l i) true := by
  intro j
  induction j with
  | zero =>
    intro i h1 h2
    refine Ev.done fun k => ?_
    simp only [laws_eqIntS.l0]
    rw [if_neg (by omega)]
  | succ j ih =>
    intro i h1 h2
    by_cases h : i < l.length
    · refine Ev.step (fun k => ?_) (ih (i + 1) (by omega) (by omega))
      simp only [laws_eqIntS.l0]
      rw [if_pos (by omega), if_pos (by omega), if_pos (by omega), if_pos trivial, wr_succ (by omega)]
    · refine Ev.done fun k => ?_
      simp only [laws_eqIntS.l0]
      rw [if_neg (by omega)]
theorem laws_eqIntS_self (l : List Int) (hl : l.length ≤ 4000000000000000000) : Ev (fun k => laws_eqIntS.f k l l) true := by
  unfold laws_eqIntS.f
  refine Ev.congr (fun k => if_pos rfl) (laws_eqIntS_l l hl l.length 0 (by omega) (by omega))
/-- a, a + 1, .., so many. -/
def seqI (a : Int) : Nat → List Int
  | 0 => []
  | n + 1 => a :: seqI (a + 1) n
theorem seqI_len : ∀ (n : Nat) (a : Int), (seqI a n).length = n
  | 0, _ => rfl
  | n + 1, a => by simp [seqI, seqI_len n]
theorem seqI_get : ∀ (n : Nat) (a : Int) (j : Nat), j < n → (seqI a n).getD j 0 = a + j
  | 0, _, _, h => by omega
  | n + 1, a, 0, _ => by simp [seqI]
  | n + 1, a, j + 1, h => by
    have := seqI_get n (a + 1) j (by omega)
    simp only [seqI, List.getD_cons_succ]
    rw [this]; omega
theorem laws_markIntS_l : ∀ (l pre : List Int) (a : Int), (pre ++ l).length ≤ 1000000000000000000 → 0 ≤ a → a ≤ 1000000000000000000 + pre.length → Ev (fun k => laws_markIntS.l0 k (pre ++ l) a (pre.length : Int)) (a + l.length, pre ++ seqI a l.length)
  | [], pre, a, hl, h0, ha => by
    refine Ev.done fun k => ?_
    simp only [laws_markIntS.l0]
    rw [if_neg (by simp)]
    simp [seqI]
  | x :: l, pre, a, hl, h0, ha => by
    have hlen : (pre ++ x :: l).length = pre.length + 1 + l.length := by simp; omega
    have ih := laws_markIntS_l l (pre ++ [a]) (a + 1) (by simp at hl ⊢; omega) (by omega) (by simp; omega)
    have hset : (pre ++ x :: l).set pre.length a = pre ++ a :: l := by simp
    refine Ev.step (f := fun k => laws_markIntS.l0 k (pre ++ [a] ++ l) (a + 1) ((pre ++ [a]).length : Int)) (fun k => ?_) ?_
    · simp only [laws_markIntS.l0]
      rw [if_pos (by omega), if_pos (by omega), Int.toNat_natCast, hset, wri (by omega) (by omega), wr_succ (by omega)]
      simp
    · have e : (a + ((x :: l).length : Int), pre ++ seqI a (x :: l).length) = (a + 1 + (l.length : Int), pre ++ [a] ++ seqI (a + 1) l.length) := by
        simp [seqI]; omega
      rw [e]; exact ih
theorem laws_markIntS_ev (l : List Int) (a : Int) (hl : l.length ≤ 1000000000000000000) (h0 : 0 ≤ a) (h1 : a ≤ 1000000000000000000) : Ev (fun k => laws_markIntS.f k l a) (a + l.length, seqI a l.length) := by
  have := laws_markIntS_l l [] a (by simpa using hl) h0 (by simpa using h1)
  exact this
theorem laws_heldIntS_l (n : Nat) (a : Int) (hn : n ≤ 1000000000000000000) (h0 : 0 ≤ a) (h1 : a ≤ 1000000000000000000) : ∀ (j i : Nat), n ≤ i + j → i ≤ n → Ev (fun k => laws_heldIntS.l0 k (seqI a n) (a + i) i) (a + n) := by
  have hl := seqI_len n a
  intro j
  induction j with
  | zero =>
    intro i h2 h3
    obtain rfl : i = n := by omega
    refine Ev.done fun k => ?_
    simp only [laws_heldIntS.l0]
    rw [if_neg (by omega)]
  | succ j ih =>
    intro i h2 h3
    by_cases h : i < n
    · refine Ev.step (fun k => ?_) (ih (i + 1) (by omega) (by omega))
      have hg : rd (seqI a n) (i : Int) = a + i := by unfold rd; rw [Int.toNat_natCast]; exact seqI_get n a i h
      simp only [laws_heldIntS.l0]
      rw [if_pos (by omega), if_pos (by omega), if_pos hg, wri (by omega) (by omega), wr_succ (by omega)]
      rw [show a + (i : Int) + 1 = a + ((i + 1 : Nat) : Int) by omega]
    · obtain rfl : i = n := by omega
      refine Ev.done fun k => ?_
      simp only [laws_heldIntS.l0]
      rw [if_neg (by omega)]
theorem laws_heldIntS_ev (n : Nat) (a : Int) (hn : n ≤ 1000000000000000000) (h0 : 0 ≤ a) (h1 : a ≤ 1000000000000000000) : Ev (fun k => laws_heldIntS.f k (seqI a n) a) (a + n) := by
  have := laws_heldIntS_l n a hn h0 h1 n 0 (by omega) (by omega)
  unfold laws_heldIntS.f
  simpa using this
theorem laws_toIntS_l : ∀ (suf pre z : List Int), z.length = suf.length → (pre ++ suf).length ≤ 4000000000 → Ev (fun k => laws_toIntS.l0 k (pre ++ suf) (pre ++ z) (pre.length : Nat)) (pre ++ suf)
  | [], pre, z, hz, _ => by
    have : z = [] := List.eq_nil_of_length_eq_zero hz
    subst this
    refine Ev.done fun k => ?_
    simp only [laws_toIntS.l0]
    rw [if_neg (by simp)]
  | x :: suf, pre, [], hz, _ => by simp at hz
  | x :: suf, pre, y :: z, hz, hl => by
    have hlen : (pre ++ x :: suf).length = pre.length + 1 + suf.length := by simp; omega
    have hlen2 : (pre ++ y :: z).length = pre.length + 1 + z.length := by simp; omega
    have ih := laws_toIntS_l suf (pre ++ [x]) z (by simpa using hz) (by simpa using hl)
    rw [List.append_assoc, List.append_assoc] at ih
    simp only [List.singleton_append, List.length_append, List.length_singleton] at ih
    have hrd : rd (pre ++ x :: suf) (pre.length : Int) = x := by unfold rd; rw [Int.toNat_natCast]; simp
    refine Ev.step (fun k => ?_) ih
    simp only [laws_toIntS.l0]
    rw [if_pos (by omega), if_pos (by omega), if_pos (by omega), hrd, wr_succ (by omega), Int.toNat_natCast, List.set_append_right _ _ (Nat.le_refl _), Nat.sub_self]
    rfl
theorem laws_toIntS_ev (l : List Int) (h : l.length ≤ 1048576) : Ev (fun k => laws_toIntS.f k l) l := by
  unfold laws_toIntS.f
  simp only [if_pos (show 0 ≤ (l.length : Int) by omega), Int.toNat_natCast, if_pos (show l.length ≤ 35184372088832 by omega)]
  exact laws_toIntS_l l [] (List.replicate l.length 0) (by simp) (by simp; omega)
/-- The law over a list of ints that both sides come to, from two lists of ints. -/
theorem law_tail (l m r : List Int) (b : Bool) (hl : l.length ≤ 1048576) (hm : m.length ≤ 1048576) (hr : r.length ≤ 1000000000) (h1 : Ev (fun k => spec_OverDivisors.f k l m) (r, b)) (h2 : Ev (fun k => impl_OverDivisors.f k l m) (r, b)) : Ev (fun k => laws_FnExactOverDivisors.f k l m) true := by
  have hto := laws_toIntS_ev l hl
  have htom := laws_toIntS_ev m hm
  have heq := laws_eqIntS_self r (by omega)
  have heql := laws_eqIntS_self l (by omega)
  have heqm := laws_eqIntS_self m (by omega)
  have hmark := laws_markIntS_ev r 1 (by omega) (by omega) (by omega)
  have hmarkl := laws_markIntS_ev l 1 (by omega) (by omega) (by omega)
  have hmarkm := laws_markIntS_ev m (1 + (l.length : Int)) (by omega) (by omega) (by omega)
  have hheld := laws_heldIntS_ev r.length 1 (by omega) (by omega) (by omega)
  have hne : ¬ (1 + (r.length : Int) < 0) := by omega
  have hnel : ¬ (1 + (l.length : Int) + (m.length : Int) < 0) := by omega
  have hj2 : Ev (fun k => laws_FnExactOverDivisors.j2 k (seqI 1 r.length) (1 + (r.length : Int)) false) true := by
    refine Ev.step (f := ?f0) (fun k => ?a0) ?b0
    case a0 => simp only [laws_FnExactOverDivisors.j2, Bool.false_eq_true, if_false]; exact rfl
    refine hheld.bind ?_
    simp only [if_neg hne, if_true]
    exact Ev.now _
  have hj1 : Ev (fun k => laws_FnExactOverDivisors.j1 k l m r b r false) true := by
    refine Ev.step (f := ?f1) (fun k => ?a1) ?b1
    case a1 => simp only [laws_FnExactOverDivisors.j1, Bool.false_eq_true, if_false]; exact rfl
    refine hmark.bind (hheld.bind ?_)
    simp only [if_neg hne, if_true]
    refine hto.bind (htom.bind (h2.bind (heq.bind ?_)))
    simp only [bne_self_eq_false, if_true]
    exact hj2
  have hj0 : Ev (fun k => laws_FnExactOverDivisors.j0 k l m r b l m r b false) true := by
    refine Ev.step (f := ?f2) (fun k => ?a2) ?b2
    case a2 => simp only [laws_FnExactOverDivisors.j0, Bool.false_eq_true, if_false]; exact rfl
    refine hto.bind (heql.bind ?_)
    simp only [if_true]
    refine htom.bind (heqm.bind ?_)
    simp only [if_true]
    refine hmarkl.bind (hmarkm.bind ?_)
    simp only [if_neg hnel]
    refine heq.bind ?_
    simp only [bne_self_eq_false, if_true]
    exact hj1
  unfold laws_FnExactOverDivisors.f
  simp only [if_neg (show ¬ ((l.length : Int) > 1048576) by omega), if_neg (show ¬ ((m.length : Int) > 1048576) by omega)]
  refine hto.bind (htom.bind (h1.bind (hto.bind (htom.bind (h2.bind (heq.bind ?_))))))
  simp only [bne_self_eq_false, if_true]
  exact hj0
def okN (x : Int) : Bool := decide (-1000000 ≤ x ∧ x ≤ 1000000)
/-- A table: 1 to 200 numbers, none beyond a million. -/
def isTab (l : List Int) : Bool := decide (1 ≤ l.length ∧ l.length ≤ 200) && l.all okN
theorem rd_in (pre : List Int) (x : Int) (l : List Int) : rd (pre ++ x :: l) (pre.length : Int) = x := by unfold rd; rw [Int.toNat_natCast]; simp
theorem spec_l1All_l : ∀ (suf pre : List Int), (pre ++ suf).length ≤ 4000000000 → Ev (fun k => spec_l1All.l0 k (-1000000) 1000000 (pre ++ suf) ((pre ++ suf).length : Nat) (pre.length : Nat)) (suf.all okN)
  | [], pre, _ => by
    refine Ev.done fun k => ?_
    simp only [spec_l1All.l0]
    rw [if_neg (by simp)]
    rfl
  | x :: suf, pre, hl => by
    have hlen : (pre ++ x :: suf).length = pre.length + 1 + suf.length := by simp; omega
    have ih := spec_l1All_l suf (pre ++ [x]) (by simpa using hl)
    rw [List.append_assoc] at ih
    simp only [List.singleton_append, List.length_append, List.length_singleton] at ih
    by_cases hx : okN x = true
    · rw [List.all_cons, hx, Bool.true_and]
      refine Ev.step (fun k => ?_) ih
      simp only [spec_l1All.l0]
      rw [if_pos (by omega), if_pos (by omega), if_pos (by omega), rd_in, wr_succ (by omega), spec_l1In_eq]
      have : decide (-1000000 ≤ x ∧ x ≤ 1000000) = true := hx
      rw [this]
      simp only [Option.bind_some, if_true, List.length_append]
    · rw [List.all_cons, Bool.eq_false_iff.2 hx, Bool.false_and]
      refine Ev.done fun k => ?_
      simp only [spec_l1All.l0]
      rw [if_pos (by omega), if_pos (by omega), if_pos (by omega), rd_in, spec_l1In_eq]
      have : decide (-1000000 ≤ x ∧ x ≤ 1000000) = false := Bool.eq_false_iff.2 hx
      rw [this]
      simp only [Option.bind_some, Bool.false_eq_true, if_false]
theorem spec_dvIs_ev (l : List Int) : Ev (fun k => spec_dvIs.f k l) (isTab l) := by
  unfold spec_dvIs.f isTab
  simp only [spec_l1In_eq, Option.bind_some]
  by_cases h : 1 ≤ l.length ∧ l.length ≤ 200
  · simp only [decide_eq_true h, decide_eq_true (show (1 : Int) ≤ (l.length : Int) ∧ (l.length : Int) ≤ 200 by omega), if_true, Bool.true_and]
    exact (spec_l1All_l l [] (by simp; omega)).bind (Ev.now _)
  · simp only [decide_eq_false h, decide_eq_false (show ¬ ((1 : Int) ≤ (l.length : Int) ∧ (l.length : Int) ≤ 200) by omega), Bool.false_eq_true, if_false, Bool.false_and]
    exact Ev.now _
theorem impl_isTable_1_eq (x : Int) : impl_isTable_1.f x = some (!okN x) := by
  unfold impl_isTable_1.f okN
  by_cases h : x < -1000000
  · rw [if_pos h, decide_eq_false (by omega)]; rfl
  · rw [if_neg h]
    by_cases h2 : x > 1000000
    · rw [decide_eq_true h2, decide_eq_false (by omega)]; rfl
    · rw [decide_eq_false h2, decide_eq_true (by omega)]; rfl
theorem impl_isTable_l : ∀ (suf pre : List Int), (pre ++ suf).length ≤ 4000000000 → ∃ v : Int, decide (v ≥ 0) = !suf.all okN ∧ Ev (fun k => impl_isTable.l0 k (pre ++ suf) (pre.length : Nat)) v
  | [], pre, _ => by
    refine ⟨-1, rfl, Ev.done fun k => ?_⟩
    simp only [impl_isTable.l0]
    rw [if_neg (by simp)]
  | x :: suf, pre, hl => by
    have hlen : (pre ++ x :: suf).length = pre.length + 1 + suf.length := by simp; omega
    obtain ⟨v, hv, ih⟩ := impl_isTable_l suf (pre ++ [x]) (by simpa using hl)
    rw [List.append_assoc] at ih
    simp only [List.singleton_append, List.length_append, List.length_singleton] at ih
    by_cases hx : okN x = true
    · refine ⟨v, by rw [List.all_cons, hx, Bool.true_and]; exact hv, Ev.step (fun k => ?_) ih⟩
      simp only [impl_isTable.l0]
      rw [if_pos (by omega), if_pos (by omega), rd_in, wr_succ (by omega), impl_isTable_1_eq, hx]
      simp only [Option.bind_some, Bool.not_true, Bool.false_eq_true, if_false]
    · have hx' := Bool.eq_false_iff.2 hx
      refine ⟨(pre.length : Nat), by rw [List.all_cons, hx', Bool.false_and]; exact decide_eq_true (by omega), Ev.done fun k => ?_⟩
      simp only [impl_isTable.l0]
      rw [if_pos (by omega), if_pos (by omega), rd_in, impl_isTable_1_eq, hx']
      simp only [Option.bind_some, Bool.not_false, if_true]
theorem impl_isTable_ev (l : List Int) : Ev (fun k => impl_isTable.f k l) (isTab l) := by
  unfold impl_isTable.f isTab
  by_cases h : 1 ≤ l.length ∧ l.length ≤ 200
  · obtain ⟨v, hv, hev⟩ := impl_isTable_l l [] (by simp; omega)
    simp only [decide_eq_true h, if_pos (show (l.length : Int) ≥ 1 by omega), if_pos (show (l.length : Int) ≤ 200 by omega), Bool.true_and]
    have : l.all okN = !decide (v ≥ 0) := by rw [hv, Bool.not_not]
    rw [this]
    exact hev.bind (Ev.now _)
  · rw [decide_eq_false h, Bool.false_and]
    refine Ev.const fun k => ?_
    by_cases h1 : (l.length : Int) ≥ 1
    · rw [if_pos h1, if_neg (by omega)]
    · rw [if_neg h1]
theorem over_in (x0 x1 : List Int) (n : Nat) (hn : n ≤ 200) (h0 : x0.length = n) (h1 : x1.length = n) (d : Nat) (hd : 1 ≤ d) (hdn : d ≤ n) : ∀ (r m : Nat) (out : List Int), 1 ≤ m → m + r = n + 1 → out.length = n →
    ∃ out' : List Int, out'.length = n ∧ (∀ v, Ev (fun k => spec_dvOver.l0 k x0 x1 out' ((d + 1 : Nat) : Int)) v → Ev (fun k => spec_dvOver.l1 k x0 x1 out d m) v) ∧
      (∀ v, Ev (fun k => impl_overDivisors.l0 k x0 x1 out' x0 n (d : Nat)) v → Ev (fun k => impl_overDivisors.l1 k x0 x1 out ((d - 1 : Nat) : Int) (rd x0 ((d - 1 : Nat) : Int)) m x0 n ((d - 1 : Nat) : Int)) v) := by
  intro r
  induction r with
  | zero =>
    intro m out hm hmr ho
    have hbig : n < m * d := by
      have : m = n + 1 := by omega
      rw [this]
      have := Nat.mul_le_mul_left (n + 1) hd
      omega
    have hle : m * d ≤ 201 * 200 := Nat.mul_le_mul (by omega) (by omega)
    have e1 : wrap64 ((m : Int) * d) = ((m * d : Nat) : Int) := wr_mul (by omega)
    have e2 : wrap64 (((d - 1 : Nat) : Int) + 1) = (d : Int) := by rw [wr_succ (by omega)]; omega
    refine ⟨out, ho, fun v h => Ev.step (fun k => ?_) h, fun v h => Ev.step (fun k => ?_) h⟩
    · simp only [spec_dvOver.l1]
      rw [e1, if_neg (by omega), wr_succ (by omega)]
    · simp only [impl_overDivisors.l1]
      rw [e2, e1, if_neg (by omega)]
  | succ r ih =>
    intro m out hm hmr ho
    have hle : m * d ≤ 201 * 200 := Nat.mul_le_mul (by omega) (by omega)
    have hpos : 0 < m * d := Nat.mul_pos (by omega) (by omega)
    have e1 : wrap64 ((m : Int) * d) = ((m * d : Nat) : Int) := wr_mul (by omega)
    have e2 : wrap64 (((d - 1 : Nat) : Int) + 1) = (d : Int) := by rw [wr_succ (by omega)]; omega
    by_cases hb : m * d ≤ n
    · have hmn : m ≤ m * d := Nat.le_mul_of_pos_right _ (by omega)
      have e3 : wrap64 (((m * d : Nat) : Int) - 1) = ((m * d - 1 : Nat) : Int) := by rw [wri (by omega) (by omega)]; omega
      have e4 : wrap64 ((d : Int) - 1) = ((d - 1 : Nat) : Int) := by rw [wri (by omega) (by omega)]; omega
      have e5 : wrap64 ((m : Int) - 1) = ((m - 1 : Nat) : Int) := by rw [wri (by omega) (by omega)]; omega
      obtain ⟨out', ho', k1, k2⟩ := ih (m + 1) (out.set (m * d - 1) (wrap64 (rd out ((m * d - 1 : Nat) : Int) + wrap64 (rd x0 ((d - 1 : Nat) : Int) * rd x1 ((m - 1 : Nat) : Int))))) (by omega) (by omega) (by rw [List.length_set]; exact ho)
      refine ⟨out', ho', fun v h => Ev.step (fun k => ?_) (k1 v h), fun v h => Ev.step (fun k => ?_) (k2 v h)⟩
      · simp only [spec_dvOver.l1]
        rw [e1, if_pos (by omega), e3, if_pos (by omega), if_pos (by omega), e4, if_pos (by omega), if_pos (by omega), e5, if_pos (by omega), if_pos (by omega), wr_succ (by omega), Int.toNat_natCast]
      · simp only [impl_overDivisors.l1]
        rw [e2, e1, if_pos (by omega), e3, if_pos (by omega), if_pos (by omega), e5, if_pos (by omega), if_pos (by omega), wr_succ (by omega), Int.toNat_natCast]
    · refine ⟨out, ho, fun v h => Ev.step (fun k => ?_) h, fun v h => Ev.step (fun k => ?_) h⟩
      · simp only [spec_dvOver.l1]
        rw [e1, if_neg (by omega), wr_succ (by omega)]
      · simp only [impl_overDivisors.l1]
        rw [e2, e1, if_neg (by omega)]
theorem over_l (x0 x1 : List Int) (n : Nat) (hn : n ≤ 200) (h0 : x0.length = n) (h1 : x1.length = n) : ∀ (r d : Nat) (out : List Int), 1 ≤ d → d + r = n + 1 → out.length = n →
    ∃ v : List Int, v.length = n ∧ Ev (fun k => spec_dvOver.l0 k x0 x1 out d) v ∧ Ev (fun k => impl_overDivisors.l0 k x0 x1 out x0 n ((d - 1 : Nat) : Int)) v := by
  intro r
  induction r with
  | zero =>
    intro d out hd hdr ho
    refine ⟨out, ho, Ev.done fun k => ?_, Ev.done fun k => ?_⟩
    · simp only [spec_dvOver.l0]
      rw [if_neg (by omega)]
    · simp only [impl_overDivisors.l0]
      rw [if_neg (by omega)]
  | succ r ih =>
    intro d out hd hdr ho
    obtain ⟨out', ho', k1', k2'⟩ := over_in x0 x1 n hn h0 h1 d hd (by omega) n 1 out (by omega) (by omega) ho
    obtain ⟨v, hv, i1, i2⟩ := ih (d + 1) out' (by omega) (by omega) ho'
    rw [Nat.add_sub_cancel] at i2
    have k1 := k1' v i1
    have k2 := k2' v i2
    refine ⟨v, hv, Ev.step (fun k => ?_) k1, Ev.step (fun k => ?_) k2⟩
    · simp only [spec_dvOver.l0]
      rw [if_pos (by omega)]
      rfl
    · simp only [impl_overDivisors.l0]
      rw [if_pos (by omega), if_pos (by omega), if_pos (by omega)]
      rfl
theorem over_ev (x0 x1 : List Int) (hn : x0.length ≤ 200) (h1 : x1.length = x0.length) : ∃ v : List Int, v.length = x0.length ∧ Ev (fun k => spec_dvOver.f k x0 x1) v ∧ Ev (fun k => impl_overDivisors.f k x0 x1) v := by
  obtain ⟨v, hv, k1, k2⟩ := over_l x0 x1 x0.length hn rfl h1 x0.length 1 (List.replicate x0.length 0) (by omega) (by omega) (by simp)
  refine ⟨v, hv, ?_, ?_⟩
  · unfold spec_dvOver.f
    simp only [if_pos (show 0 ≤ (x0.length : Int) by omega), Int.toNat_natCast, if_pos (show x0.length ≤ 35184372088832 by omega)]
    exact k1
  · unfold impl_overDivisors.f
    simp only [if_pos (show 0 ≤ (x0.length : Int) by omega), Int.toNat_natCast, if_pos (show x0.length ≤ 35184372088832 by omega)]
    exact k2
theorem impl_told_ev (l : List Int) : Ev (fun k => impl_told.f k l) (if isTab l = true then (l, true) else ([], false)) := by
  unfold impl_told.f
  refine (impl_isTable_ev l).bind ?_
  by_cases h : isTab l = true
  · simp only [if_pos h]; exact Ev.now _
  · simp only [if_neg h]; exact Ev.now _
theorem isTab_len {l : List Int} (ht : isTab l = true) : 1 ≤ l.length ∧ l.length ≤ 200 := by
  unfold isTab at ht
  rw [Bool.and_eq_true] at ht
  exact of_decide_eq_true ht.1
theorem spec_no (l m : List Int) : Ev (fun k => spec_OverDivisors.j0 k l m true) ([], false) := Ev.done fun k => by simp only [spec_OverDivisors.j0, if_true]
theorem impl_no (l m : List Int) : Ev (fun k => impl_OverDivisors.j0 k l m true) ([], false) := Ev.done fun k => by simp only [impl_OverDivisors.j0, if_true]
theorem FnExactOverDivisors : laws_FnExactOverDivisors.Pure := by
  intro l m _ _ _ _ _ _
  apply Ev.rounds
  by_cases hbig : l.length ≤ 1048576 ∧ m.length ≤ 1048576
  · by_cases ht : isTab l = true
    · have hlen := isTab_len ht
      by_cases hm : isTab m = true
      · by_cases hlm : m.length = l.length
        · obtain ⟨v, hv, k1, k2⟩ := over_ev l m hlen.2 hlm
          have hne : ((l.length : Int) != (m.length : Int)) = false := by rw [bne_eq_false_iff_eq]; omega
          refine law_tail l m (if isTab v = true then v else []) (isTab v) hbig.1 hbig.2 (by split; (rw [hv]; omega); simp) ?_ ?_
          · unfold spec_OverDivisors.f
            refine (spec_dvIs_ev l).bind ?_
            simp only [if_pos ht]
            refine (spec_dvIs_ev m).bind ?_
            simp only [if_pos hm, hne]
            refine Ev.step (f := ?f3) (fun k => ?a3) ?b3
            case a3 => simp only [spec_OverDivisors.j0, Bool.false_eq_true, if_false]; exact rfl
            refine k1.bind ((spec_dvIs_ev v).bind ?_)
            by_cases h : isTab v = true
            · simp only [h, if_true]; exact Ev.now _
            · simp only [Bool.eq_false_iff.2 h, Bool.false_eq_true, if_false]; exact Ev.now _
          · unfold impl_OverDivisors.f
            refine (impl_isTable_ev l).bind ?_
            simp only [if_pos ht]
            refine (impl_isTable_ev m).bind ?_
            simp only [if_pos hm, hne]
            refine Ev.step (f := ?f4) (fun k => ?a4) ?b4
            case a4 => simp only [impl_OverDivisors.j0, Bool.false_eq_true, if_false]; exact rfl
            refine k2.bind ((impl_told_ev v).bind ?_)
            by_cases h : isTab v = true
            · simp only [h, if_true]; exact Ev.now _
            · simp only [Bool.eq_false_iff.2 h, Bool.false_eq_true, if_false]; exact Ev.now _
        · have hne : ((l.length : Int) != (m.length : Int)) = true := by rw [bne_iff_ne]; omega
          refine law_tail l m [] false hbig.1 hbig.2 (by simp) ?_ ?_
          · unfold spec_OverDivisors.f
            refine (spec_dvIs_ev l).bind ?_
            simp only [if_pos ht]
            refine (spec_dvIs_ev m).bind ?_
            simp only [if_pos hm, hne]; exact spec_no l m
          · unfold impl_OverDivisors.f
            refine (impl_isTable_ev l).bind ?_
            simp only [if_pos ht]
            refine (impl_isTable_ev m).bind ?_
            simp only [if_pos hm, hne]; exact impl_no l m
      · refine law_tail l m [] false hbig.1 hbig.2 (by simp) ?_ ?_
        · unfold spec_OverDivisors.f
          refine (spec_dvIs_ev l).bind ?_
          simp only [if_pos ht]
          refine (spec_dvIs_ev m).bind ?_
          simp only [if_neg hm]; exact spec_no l m
        · unfold impl_OverDivisors.f
          refine (impl_isTable_ev l).bind ?_
          simp only [if_pos ht]
          refine (impl_isTable_ev m).bind ?_
          simp only [if_neg hm]; exact impl_no l m
    · refine law_tail l m [] false hbig.1 hbig.2 (by simp) ?_ ?_
      · unfold spec_OverDivisors.f
        refine (spec_dvIs_ev l).bind ?_
        simp only [if_neg ht]; exact spec_no l m
      · unfold impl_OverDivisors.f
        refine (impl_isTable_ev l).bind ?_
        simp only [if_neg ht]; exact impl_no l m
  · refine Ev.const fun k => ?_
    unfold laws_FnExactOverDivisors.f
    by_cases h : (l.length : Int) > 1048576
    · rw [if_pos h]
    · rw [if_neg h, if_pos (by omega)]
end Go.Proofs.Ytagnkhoonfbbdaa.Pure
