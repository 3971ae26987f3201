/- IsSpread answers as the reference does, for every argument. -/
import Derived.Test.YtagnkhoonfbbdaaPFnExactIsSpreadx2
import Derived.Test.YtagnkhoonfbbdaaNtC
import Derived.Test.YtagnkhoonfbbdaaNtD
namespace Go.Proofs.Ytagnkhoonfbbdaa.Pure
set_option linter.unusedVariables false
open Go Go.RowKit Go.Proofs.Ytagnkhoonfbbdaa.PFnExactIsSpread Go.Proofs.YtagnkhoonfbbdaaW.PrintWords Go.Proofs.YtagnkhoonfbbdaaW.PrintLast Go.Proofs.Ytagnkhoonfbbdaa.Nt
theorem Ev.done {α : Type} {g : Nat → Option α} {r : α} (h : ∀ k, g (k + 1) = some r) : Ev g r := Ev.step (f := fun _ => some r) h (Ev.now r)
theorem Ev.const {α : Type} {g : Nat → Option α} {r : α} (h : ∀ k, g k = some r) : Ev g r := Ev.congr (f := fun _ => some r) h (Ev.now r)
theorem wr {a : Nat} (h : a < 9223372036854775808) : wrap64 (a : Int) = a := by unfold wrap64; omega
theorem wri {a : Int} (h0 : -9223372036854775808 ≤ a) (h : a < 9223372036854775808) : wrap64 a = a := by unfold wrap64; omega
theorem wr_mul {a b : Nat} (h : a * b < 9223372036854775808) : wrap64 ((a : Int) * b) = ((a * b : Nat) : Int) := by rw [← Int.natCast_mul]; exact wr h
theorem wr_succ {a : Nat} (h : a < 9223372036854775807) : wrap64 ((a : Int) + 1) = ((a + 1 : Nat) : Int) := wr (a := a + 1) (by omega)
theorem wr_tdiv {a b : Nat} (h : a < 9223372036854775808) : wrap64 (Int.tdiv (a : Int) b) = ((a / b : Nat) : Int) := wr (a := a / b) (Nat.lt_of_le_of_lt (Nat.div_le_self a b) h)
theorem tm (a b : Nat) : Int.tmod (a : Int) b = ((a % b : Nat) : Int) := rfl
theorem sq_lt {a b : Nat} (h : a ≤ 3037000499) (k : b ≤ 3037000499) : a * b < 9223372036854775808 := Nat.lt_of_le_of_lt (Nat.mul_le_mul h k) (by decide)
theorem spec_l1In_eq (a b c : Int) : spec_l1In.f a b c = some (decide (b ≤ a ∧ a ≤ c)) := by
  unfold spec_l1In.f
  by_cases h : a ≥ b
  · rw [if_pos h, decide_eq_decide.2 (show a ≤ c ↔ b ≤ a ∧ a ≤ c from ⟨fun k => ⟨h, k⟩, fun k => k.2⟩)]
  · rw [if_neg h, decide_eq_false (fun k => h k.1)]
theorem rd_at (l : List Int) (j : Nat) : rd l (j : Int) = l.getD j 0 := by unfold rd; rw [Int.toNat_natCast]
theorem laws_eqIntS_l (l : List Int) (hl : l.length ≤ 4000000000000000000) : ∀ (j i : Nat), l.length ≤ i + j → i ≤ l.length → Ev (fun k => laws_eqIntS.l0 k l l i) true := by
  intro j
  induction j with
  | zero =>
    intro i h1 h2
    refine Ev.done fun k => ?_
    simp only [laws_eqIntS.l0]
    rw [if_neg (by omega)]
  | succ j ih =>
    intro i h1 h2
    by_cases h : i < l.length
    · refine Ev.step (fun k => ?_) (ih (i + 1) (by omega) (by omega))
      simp only [laws_eqIntS.l0]
      rw [if_pos (by omega), if_pos (by omega), if_pos (by omega), if_pos trivial, wr_succ (by omega)]
    · refine Ev.done fun k => ?_
      simp only [laws_eqIntS.l0]
      rw [if_neg (by omega)]
theorem laws_eqIntS_self (l : List Int) (hl : l.length ≤ 4000000000000000000) : Ev (fun k => laws_eqIntS.f k l l) true := by
  unfold laws_eqIntS.f
  refine Ev.congr (fun k => if_pos rfl) (laws_eqIntS_l l hl l.length 0 (by omega) (by omega))
theorem laws_toIntS_l : ∀ (suf pre z : List Int), z.length = suf.length → (pre ++ suf).length ≤ 4000000000 → Ev (fun k => laws_toIntS.l0 k (pre ++ suf) (pre ++ z) (pre.length : Nat)) (pre ++ suf)
  | [], pre, z, hz, _ => by
    have : z = [] := List.eq_nil_of_length_eq_zero hz
    subst this
    refine Ev.done fun k => ?_
    simp only [laws_toIntS.l0]
    rw [if_neg (by simp)]
  | x :: suf, pre, [], hz, _ => by simp at hz
  | x :: suf, pre, y :: z, hz, hl => by
    have hlen : (pre ++ x :: suf).length = pre.length + 1 + suf.length := by simp; omega
    have hlen2 : (pre ++ y :: z).length = pre.length + 1 + z.length := by simp; omega
    have ih := laws_toIntS_l suf (pre ++ [x]) z (by simpa using hz) (by simpa using hl)
    rw [List.append_assoc, List.append_assoc] at ih
    simp only [List.singleton_append, List.length_append, List.length_singleton] at ih
    have hrd : rd (pre ++ x :: suf) (pre.length : Int) = x := by unfold rd; rw [Int.toNat_natCast]; simp
    refine Ev.step (fun k => ?_) ih
    simp only [laws_toIntS.l0]
    rw [if_pos (by omega), if_pos (by omega), if_pos (by omega), hrd, wr_succ (by omega), Int.toNat_natCast, List.set_append_right _ _ (Nat.le_refl _), Nat.sub_self]
    rfl
theorem laws_toIntS_ev (l : List Int) (h : l.length ≤ 1048576) : Ev (fun k => laws_toIntS.f k l) l := by
  unfold laws_toIntS.f
  simp only [if_pos (show 0 ≤ (l.length : Int) by omega), Int.toNat_natCast, if_pos (show l.length ≤ 35184372088832 by omega)]
  exact laws_toIntS_l l [] (List.replicate l.length 0) (by simp) (by simp; omega)
def okN (x : Int) : Bool := decide (-1000000 ≤ x ∧ x ≤ 1000000)
/-- A table: 1 to 200 numbers, none beyond a million. -/
def isTab (l : List Int) : Bool := decide (1 ≤ l.length ∧ l.length ≤ 200) && l.all okN
theorem rd_in (pre : List Int) (x : Int) (l : List Int) : rd (pre ++ x :: l) (pre.length : Int) = x := by unfold rd; rw [Int.toNat_natCast]; simp
theorem spec_l1All_l : ∀ (suf pre : List Int), (pre ++ suf).length ≤ 4000000000 → Ev (fun k => spec_l1All.l0 k (-1000000) 1000000 (pre ++ suf) ((pre ++ suf).length : Nat) (pre.length : Nat)) (suf.all okN)
  | [], pre, _ => by
    refine Ev.done fun k => ?_
    simp only [spec_l1All.l0]
    rw [if_neg (by simp)]
    rfl
  | x :: suf, pre, hl => by
    have hlen : (pre ++ x :: suf).length = pre.length + 1 + suf.length := by simp; omega
    have ih := spec_l1All_l suf (pre ++ [x]) (by simpa using hl)
    rw [List.append_assoc] at ih
    simp only [List.singleton_append, List.length_append, List.length_singleton] at ih
    by_cases hx : okN x = true
    · rw [List.all_cons, hx, Bool.true_and]
      refine Ev.step (fun k => ?_) ih
      simp only [spec_l1All.l0]
      rw [if_pos (by omega), if_pos (by omega), if_pos (by omega), rd_in, wr_succ (by omega), spec_l1In_eq]
      have : decide (-1000000 ≤ x ∧ x ≤ 1000000) = true := hx
      rw [this]
      simp only [Option.bind_some, if_true, List.length_append]
    · rw [List.all_cons, Bool.eq_false_iff.2 hx, Bool.false_and]
      refine Ev.done fun k => ?_
      simp only [spec_l1All.l0]
      rw [if_pos (by omega), if_pos (by omega), if_pos (by omega), rd_in, spec_l1In_eq]
      have : decide (-1000000 ≤ x ∧ x ≤ 1000000) = false := Bool.eq_false_iff.2 hx
      rw [this]
      simp only [Option.bind_some, Bool.false_eq_true, if_false]
theorem spec_dvIs_ev (l : List Int) : Ev (fun k => spec_dvIs.f k l) (isTab l) := by
  unfold spec_dvIs.f isTab
  simp only [spec_l1In_eq, Option.bind_some]
  by_cases h : 1 ≤ l.length ∧ l.length ≤ 200
  · simp only [decide_eq_true h, decide_eq_true (show (1 : Int) ≤ (l.length : Int) ∧ (l.length : Int) ≤ 200 by omega), if_true, Bool.true_and]
    exact (spec_l1All_l l [] (by simp; omega)).bind (Ev.now _)
  · simp only [decide_eq_false h, decide_eq_false (show ¬ ((1 : Int) ≤ (l.length : Int) ∧ (l.length : Int) ≤ 200) by omega), Bool.false_eq_true, if_false, Bool.false_and]
    exact Ev.now _
theorem impl_isTable_1_eq (x : Int) : impl_isTable_1.f x = some (!okN x) := by
  unfold impl_isTable_1.f okN
  by_cases h : x < -1000000
  · rw [if_pos h, decide_eq_false (by omega)]; rfl
  · rw [if_neg h]
    by_cases h2 : x > 1000000
    · rw [decide_eq_true h2, decide_eq_false (by omega)]; rfl
    · rw [decide_eq_false h2, decide_eq_true (by omega)]; rfl
theorem impl_isTable_l : ∀ (suf pre : List Int), (pre ++ suf).length ≤ 4000000000 → ∃ v : Int, decide (v ≥ 0) = !suf.all okN ∧ Ev (fun k => impl_isTable.l0 k (pre ++ suf) (pre.length : Nat)) v
  | [], pre, _ => by
    refine ⟨-1, rfl, Ev.done fun k => ?_⟩
    simp only [impl_isTable.l0]
    rw [if_neg (by simp)]
  | x :: suf, pre, hl => by
    have hlen : (pre ++ x :: suf).length = pre.length + 1 + suf.length := by simp; omega
    obtain ⟨v, hv, ih⟩ := impl_isTable_l suf (pre ++ [x]) (by simpa using hl)
    rw [List.append_assoc] at ih
    simp only [List.singleton_append, List.length_append, List.length_singleton] at ih
    by_cases hx : okN x = true
    · refine ⟨v, by rw [List.all_cons, hx, Bool.true_and]; exact hv, Ev.step (fun k => ?_) ih⟩
      simp only [impl_isTable.l0]
      rw [if_pos (by omega), if_pos (by omega), rd_in, wr_succ (by omega), impl_isTable_1_eq, hx]
      simp only [Option.bind_some, Bool.not_true, Bool.false_eq_true, if_false]
    · have hx' := Bool.eq_false_iff.2 hx
      refine ⟨(pre.length : Nat), by rw [List.all_cons, hx', Bool.false_and]; exact decide_eq_true (by omega), Ev.done fun k => ?_⟩
      simp only [impl_isTable.l0]
      rw [if_pos (by omega), if_pos (by omega), rd_in, impl_isTable_1_eq, hx']
      simp only [Option.bind_some, Bool.not_false, if_true]
theorem impl_isTable_ev (l : List Int) : Ev (fun k => impl_isTable.f k l) (isTab l) := by
  unfold impl_isTable.f isTab
  by_cases h : 1 ≤ l.length ∧ l.length ≤ 200
  · obtain ⟨v, hv, hev⟩ := impl_isTable_l l [] (by simp; omega)
    simp only [decide_eq_true h, if_pos (show (l.length : Int) ≥ 1 by omega), if_pos (show (l.length : Int) ≤ 200 by omega), Bool.true_and]
    have : l.all okN = !decide (v ≥ 0) := by rw [hv, Bool.not_not]
    rw [this]
    exact hev.bind (Ev.now _)
  · rw [decide_eq_false h, Bool.false_and]
    refine Ev.const fun k => ?_
    by_cases h1 : (l.length : Int) ≥ 1
    · rw [if_pos h1, if_neg (by omega)]
    · rw [if_neg h1]
theorem isTab_len {l : List Int} (ht : isTab l = true) : 1 ≤ l.length ∧ l.length ≤ 200 := by
  unfold isTab at ht
  rw [Bool.and_eq_true] at ht
  exact of_decide_eq_true ht.1
theorem isTab_at {l : List Int} (ht : isTab l = true) (j : Nat) : -1000000 ≤ rd l (j : Int) ∧ rd l (j : Int) ≤ 1000000 := by
  unfold isTab at ht
  rw [Bool.and_eq_true, List.all_eq_true] at ht
  rw [rd_at, List.getD_eq_getElem?_getD]
  cases h : l[j]? with
  | none => simp
  | some x => exact of_decide_eq_true (ht.2 x (List.mem_of_getElem? h))
theorem gcd_step (a b : Nat) : Nat.gcd a b = Nat.gcd b (a % b) := by
  rw [Nat.gcd_comm a b, Nat.gcd_rec b a, Nat.gcd_comm]
theorem spec_siCommon_ev : ∀ (b a : Nat), Ev (fun k => spec_siCommon.l0 k a b) ((Nat.gcd a b : Nat) : Int) := by
  intro b
  induction b using Nat.strongRecOn with
  | _ b ih =>
    intro a
    by_cases h : 0 < b
    · rw [gcd_step]
      refine Ev.step (fun k => ?_) (ih (a % b) (Nat.mod_lt _ h) b)
      simp only [spec_siCommon.l0]
      rw [if_pos (by omega), if_neg (by omega), tm]
    · have : b = 0 := by omega
      subst this
      rw [Nat.gcd_zero_right]
      refine Ev.done fun k => ?_
      simp only [spec_siCommon.l0]
      rw [if_neg (by omega)]
theorem impl_gcd_ev : ∀ (b a : Nat), Ev (fun k => impl_gcd.l0 k a b) ((Nat.gcd a b : Nat) : Int) := by
  intro b
  induction b using Nat.strongRecOn with
  | _ b ih =>
    intro a
    by_cases h : 0 < b
    · rw [gcd_step]
      refine Ev.step (fun k => ?_) (ih (a % b) (Nat.mod_lt _ h) b)
      simp only [impl_gcd.l0]
      rw [if_pos (by omega), if_neg (by omega), tm]
    · have : b = 0 := by omega
      subst this
      rw [Nat.gcd_zero_right]
      refine Ev.done fun k => ?_
      simp only [impl_gcd.l0]
      rw [if_neg (by omega)]
/-- The test of two numbers. -/
def spr (l : List Int) (x y : Nat) : Bool := decide (rd l ((x : Int) * y - 1) = wrap64 (rd l ((x : Int) - 1) * rd l ((y : Int) - 1)))
theorem spread_in (l : List Int) (hl : l.length ≤ 200) (x : Nat) (hx : 2 ≤ x) (hx2 : x ≤ 200) : ∀ (r y : Nat), 2 ≤ y → y + r = 102 →
    (Ev (fun k => spec_IsSpread.l1 k l x y) (false, true) ∧ Ev (fun k => impl_IsSpread.l1 k l x y) (false, true)) ∨
    ((∀ v, Ev (fun k => spec_IsSpread.l0 k l ((x + 1 : Nat) : Int)) v → Ev (fun k => spec_IsSpread.l1 k l x y) v) ∧ (∀ v, Ev (fun k => impl_IsSpread.l0 k l ((x + 1 : Nat) : Int)) v → Ev (fun k => impl_IsSpread.l1 k l x y) v)) := by
  intro r
  induction r with
  | zero =>
    intro y hy hr
    have hbig : 2 * 102 ≤ x * y := Nat.mul_le_mul hx (by omega)
    have hm : (x : Int) * y = ((x * y : Nat) : Int) := (Int.natCast_mul x y).symm
    right
    refine ⟨fun v h => Ev.step (fun k => ?_) h, fun v h => Ev.step (fun k => ?_) h⟩
    · simp only [spec_IsSpread.l1]
      rw [if_pos (by omega), hm, if_neg (by omega)]
      rfl
    · simp only [impl_IsSpread.l1]
      rw [if_pos (by omega), hm, if_neg (by omega)]
      rfl
  | succ r ih =>
    intro y hy hr
    have hm : (x : Int) * y = ((x * y : Nat) : Int) := (Int.natCast_mul x y).symm
    by_cases hb : x * y ≤ l.length
    · have go1 : ∀ v : Bool × Bool, Ev (fun k => if ((Nat.gcd x y : Nat) : Int) = 1 then (if rd l ((x : Int) * y - 1) = wrap64 (rd l ((x : Int) - 1) * rd l ((y : Int) - 1)) then spec_IsSpread.l1 k l x ((y + 1 : Nat) : Int) else some (false, true)) else spec_IsSpread.l1 k l x ((y + 1 : Nat) : Int)) v → Ev (fun k => spec_IsSpread.l1 k l x y) v := by
        intro v h
        refine Ev.step (f := fun k => (spec_siCommon.f k x y).bind fun t => if t = 1 then (if rd l ((x : Int) * y - 1) = wrap64 (rd l ((x : Int) - 1) * rd l ((y : Int) - 1)) then spec_IsSpread.l1 k l x ((y + 1 : Nat) : Int) else some (false, true)) else spec_IsSpread.l1 k l x ((y + 1 : Nat) : Int)) (fun k => ?_) (Ev.bind (f := fun k t => if t = 1 then (if rd l ((x : Int) * y - 1) = wrap64 (rd l ((x : Int) - 1) * rd l ((y : Int) - 1)) then spec_IsSpread.l1 k l x ((y + 1 : Nat) : Int) else some (false, true)) else spec_IsSpread.l1 k l x ((y + 1 : Nat) : Int)) (spec_siCommon_ev y x) h)
        simp only [spec_IsSpread.l1]
        rw [if_pos (by omega), if_pos (by omega)]
        rfl
      have go2 : ∀ v : Bool × Bool, Ev (fun k => if ((Nat.gcd x y : Nat) : Int) = 1 then (if rd l ((x : Int) * y - 1) = wrap64 (rd l ((x : Int) - 1) * rd l ((y : Int) - 1)) then impl_IsSpread.l1 k l x ((y + 1 : Nat) : Int) else some (false, true)) else impl_IsSpread.l1 k l x ((y + 1 : Nat) : Int)) v → Ev (fun k => impl_IsSpread.l1 k l x y) v := by
        intro v h
        refine Ev.step (f := fun k => (impl_gcd.f k x y).bind fun t => if t = 1 then (if rd l ((x : Int) * y - 1) = wrap64 (rd l ((x : Int) - 1) * rd l ((y : Int) - 1)) then impl_IsSpread.l1 k l x ((y + 1 : Nat) : Int) else some (false, true)) else impl_IsSpread.l1 k l x ((y + 1 : Nat) : Int)) (fun k => ?_) (Ev.bind (f := fun k t => if t = 1 then (if rd l ((x : Int) * y - 1) = wrap64 (rd l ((x : Int) - 1) * rd l ((y : Int) - 1)) then impl_IsSpread.l1 k l x ((y + 1 : Nat) : Int) else some (false, true)) else impl_IsSpread.l1 k l x ((y + 1 : Nat) : Int)) (impl_gcd_ev y x) h)
        simp only [impl_IsSpread.l1]
        rw [if_pos (by omega), if_pos (by omega)]
        rfl
      by_cases hg : ((Nat.gcd x y : Nat) : Int) = 1
      · simp only [if_pos hg] at go1 go2
        by_cases hp : rd l ((x : Int) * y - 1) = wrap64 (rd l ((x : Int) - 1) * rd l ((y : Int) - 1))
        · simp only [if_pos hp] at go1 go2
          rcases ih (y + 1) (by omega) (by omega) with ⟨k1, k2⟩ | ⟨k1, k2⟩
          · exact .inl ⟨go1 _ k1, go2 _ k2⟩
          · exact .inr ⟨fun v h => go1 v (k1 v h), fun v h => go2 v (k2 v h)⟩
        · simp only [if_neg hp] at go1 go2
          exact .inl ⟨go1 _ (Ev.now _), go2 _ (Ev.now _)⟩
      · simp only [if_neg hg] at go1 go2
        rcases ih (y + 1) (by omega) (by omega) with ⟨k1, k2⟩ | ⟨k1, k2⟩
        · exact .inl ⟨go1 _ k1, go2 _ k2⟩
        · exact .inr ⟨fun v h => go1 v (k1 v h), fun v h => go2 v (k2 v h)⟩
    · right
      refine ⟨fun v h => Ev.step (fun k => ?_) h, fun v h => Ev.step (fun k => ?_) h⟩
      · simp only [spec_IsSpread.l1]
        rw [if_pos (by omega), hm, if_neg (by omega)]
        rfl
      · simp only [impl_IsSpread.l1]
        rw [if_pos (by omega), hm, if_neg (by omega)]
        rfl
/-- One pair of which one is 1: the program passes it. -/
theorem impl_pass (l : List Int) (ht : isTab l = true) (h1 : rd l 0 = 1) (x y : Nat) (hx : 1 ≤ x) (hx2 : x ≤ 200) (hy : 1 ≤ y) (hy2 : y ≤ 200) (hb : x * y ≤ l.length) (ho : x = 1 ∨ y = 1) (v : Bool × Bool) (h : Ev (fun k => impl_IsSpread.l1 k l x ((y + 1 : Nat) : Int)) v) : Ev (fun k => impl_IsSpread.l1 k l x y) v := by
  have hl := isTab_len ht
  have hm : (x : Int) * y = ((x * y : Nat) : Int) := (Int.natCast_mul x y).symm
  have hg : ((Nat.gcd x y : Nat) : Int) = 1 := by
    rcases ho with rfl | rfl
    · rw [Nat.gcd_one_left]; rfl
    · rw [Nat.gcd_one_right]; rfl
  have hp : rd l ((x : Int) * y - 1) = wrap64 (rd l ((x : Int) - 1) * rd l ((y : Int) - 1)) := by
    rcases ho with rfl | rfl
    · have := isTab_at ht (y - 1)
      rw [show (((y - 1 : Nat) : Int)) = (y : Int) - 1 by omega] at this
      rw [show (((1 : Nat) : Int) - 1) = 0 from rfl, h1, Int.one_mul, show ((1 : Nat) : Int) * (y : Int) = y by omega, wri (by omega) (by omega)]
    · have := isTab_at ht (x - 1)
      rw [show (((x - 1 : Nat) : Int)) = (x : Int) - 1 by omega] at this
      rw [show (((1 : Nat) : Int) - 1) = 0 from rfl, h1, Int.mul_one, show (x : Int) * ((1 : Nat) : Int) = x by omega, wri (by omega) (by omega)]
  refine Ev.step (f := fun k => (impl_gcd.f k x y).bind fun t => if t = 1 then (if rd l ((x : Int) * y - 1) = wrap64 (rd l ((x : Int) - 1) * rd l ((y : Int) - 1)) then impl_IsSpread.l1 k l x ((y + 1 : Nat) : Int) else some (false, true)) else impl_IsSpread.l1 k l x ((y + 1 : Nat) : Int)) (fun k => ?_) (Ev.bind (f := fun k t => if t = 1 then (if rd l ((x : Int) * y - 1) = wrap64 (rd l ((x : Int) - 1) * rd l ((y : Int) - 1)) then impl_IsSpread.l1 k l x ((y + 1 : Nat) : Int) else some (false, true)) else impl_IsSpread.l1 k l x ((y + 1 : Nat) : Int)) (impl_gcd_ev y x) ?_)
  · simp only [impl_IsSpread.l1]
    rw [if_pos (by omega), if_pos (by omega)]
    rfl
  · simp only [if_pos hg, if_pos hp]
    exact h
theorem spread_l (l : List Int) (ht : isTab l = true) (h1 : rd l 0 = 1) : ∀ (r x : Nat), 2 ≤ x → x + r = 201 → ∃ v : Bool × Bool, Ev (fun k => spec_IsSpread.l0 k l x) v ∧ Ev (fun k => impl_IsSpread.l0 k l x) v := by
  have hl := isTab_len ht
  intro r
  induction r with
  | zero =>
    intro x hx hr
    refine ⟨(true, true), Ev.done fun k => ?_, Ev.done fun k => ?_⟩
    · simp only [spec_IsSpread.l0]
      rw [if_pos (by omega), if_neg (by omega)]
    · simp only [impl_IsSpread.l0]
      rw [if_pos (by omega), if_neg (by omega)]
  | succ r ih =>
    intro x hx hr
    by_cases hb : x ≤ l.length
    · have go1 : ∀ v, Ev (fun k => spec_IsSpread.l1 k l x ((2 : Nat) : Int)) v → Ev (fun k => spec_IsSpread.l0 k l x) v := fun v h => Ev.step (fun k => by simp only [spec_IsSpread.l0]; rw [if_pos (by omega), if_pos (by omega)]; rfl) h
      have go2 : ∀ v, Ev (fun k => impl_IsSpread.l1 k l x ((2 : Nat) : Int)) v → Ev (fun k => impl_IsSpread.l0 k l x) v := fun v h => Ev.step (fun k => by simp only [impl_IsSpread.l0]; rw [if_pos (by omega), if_pos (by omega)]; rfl) (impl_pass l ht h1 x 1 (by omega) (by omega) (by omega) (by omega) (by omega) (.inr rfl) v h)
      rcases spread_in l hl.2 x hx (by omega) 100 2 (by omega) (by omega) with ⟨k1, k2⟩ | ⟨k1, k2⟩
      · exact ⟨_, go1 _ k1, go2 _ k2⟩
      · obtain ⟨v, i1, i2⟩ := ih (x + 1) (by omega) (by omega)
        exact ⟨v, go1 _ (k1 v i1), go2 _ (k2 v i2)⟩
    · refine ⟨(true, true), Ev.done fun k => ?_, Ev.done fun k => ?_⟩
      · simp only [spec_IsSpread.l0]
        rw [if_pos (by omega), if_neg (by omega)]
      · simp only [impl_IsSpread.l0]
        rw [if_pos (by omega), if_neg (by omega)]
/-- The program's first row passes. -/
theorem spread_one (l : List Int) (ht : isTab l = true) (h1 : rd l 0 = 1) (v : Bool × Bool) (h : Ev (fun k => impl_IsSpread.l0 k l ((2 : Nat) : Int)) v) : ∀ (r y : Nat), 1 ≤ y → y + r = l.length + 1 → Ev (fun k => impl_IsSpread.l1 k l ((1 : Nat) : Int) y) v := by
  have hl := isTab_len ht
  intro r
  induction r with
  | zero =>
    intro y hy hr
    refine Ev.step (fun k => ?_) h
    simp only [impl_IsSpread.l1]
    rw [if_pos (by omega), if_neg (by omega)]
    rfl
  | succ r ih =>
    intro y hy hr
    exact impl_pass l ht h1 1 y (by omega) (by omega) hy (by omega) (by omega) (.inl rfl) v (ih (y + 1) (by omega) (by omega))
theorem spread_both (l : List Int) : ∃ v : Bool × Bool, Ev (fun k => spec_IsSpread.f k l) v ∧ Ev (fun k => impl_IsSpread.f k l) v := by
  by_cases ht : isTab l = true
  · have hl := isTab_len ht
    by_cases h1 : rd l 0 = 1
    · obtain ⟨v, k1, k2⟩ := spread_l l ht h1 199 2 (by omega) (by omega)
      refine ⟨v, ?_, ?_⟩
      · unfold spec_IsSpread.f
        refine (spec_dvIs_ev l).bind ?_
        simp only [if_pos ht, if_pos (show 0 < l.length by omega), if_pos h1]
        exact k1
      · unfold impl_IsSpread.f
        refine (impl_isTable_ev l).bind ?_
        simp only [if_pos ht, if_pos (show 0 < l.length by omega), if_pos h1]
        refine Ev.step (fun k => ?_) (spread_one l ht h1 v k2 l.length 1 (by omega) (by omega))
        simp only [impl_IsSpread.l0]
        rw [if_pos (by omega), if_pos (by omega)]
        rfl
    · refine ⟨(false, true), ?_, ?_⟩
      · unfold spec_IsSpread.f
        refine (spec_dvIs_ev l).bind ?_
        simp only [if_pos ht, if_pos (show 0 < l.length by omega), if_neg h1]
        exact Ev.now _
      · unfold impl_IsSpread.f
        refine (impl_isTable_ev l).bind ?_
        simp only [if_pos ht, if_pos (show 0 < l.length by omega), if_neg h1]
        exact Ev.now _
  · refine ⟨(false, false), ?_, ?_⟩
    · unfold spec_IsSpread.f
      refine (spec_dvIs_ev l).bind ?_
      simp only [if_neg ht]; exact Ev.now _
    · unfold impl_IsSpread.f
      refine (impl_isTable_ev l).bind ?_
      simp only [if_neg ht]; exact Ev.now _
theorem FnExactIsSpread : laws_FnExactIsSpread.Pure := by
  intro l _ _ _
  apply Ev.rounds
  by_cases hbig : l.length ≤ 1048576
  · have hto := laws_toIntS_ev l hbig
    have heql := laws_eqIntS_self l (by omega)
    obtain ⟨v, k1, k2⟩ := spread_both l
    have hj0 : Ev (fun k => laws_FnExactIsSpread.j0 k l l false) true := by
      refine Ev.step (f := ?f0) (fun k => ?a0) ?b0
      case a0 => simp only [laws_FnExactIsSpread.j0, Bool.false_eq_true, if_false]; exact rfl
      refine hto.bind (heql.bind ?_)
      simp only [if_true]
      exact Ev.now _
    unfold laws_FnExactIsSpread.f
    simp only [if_neg (show ¬ ((l.length : Int) > 1048576) by omega)]
    refine hto.bind (k1.bind (hto.bind (k2.bind ?_)))
    simp only [bne_self_eq_false, Bool.false_eq_true, if_false]
    exact hj0
  · refine Ev.const fun k => ?_
    unfold laws_FnExactIsSpread.f
    rw [if_pos (by omega)]
end Go.Proofs.Ytagnkhoonfbbdaa.Pure
