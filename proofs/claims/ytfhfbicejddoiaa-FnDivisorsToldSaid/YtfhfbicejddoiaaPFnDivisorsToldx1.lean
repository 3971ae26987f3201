-- Written for this claim by a program of this session, out of the translation and given contracts.
import Derived.Test.YtfhfbicejddoiaaPFnDivisorsToldx0
namespace Go.Proofs.Ytfhfbicejddoiaa.PFnDivisorsTold
open Go.RowKit Go.Proofs.YtfhfbicejddoiaaW.PrintWords Go.Proofs.YtfhfbicejddoiaaW.PrintLast Go.Proofs.YtfhfbicejddoiaaW.PrintMore
attribute [local go_sem] max2_int min2_int max_two min_two max_three min_three max_four min_four   -- for this text's walks alone
set_option linter.unusedVariables false
set_option linter.unusedSimpArgs false

/-! ### laws_big: function 11 -/
def laws_big.f (l0 : List Int) (l1 : List Int) : Option (Bool) := if (l0.length : Int) > 1048576 then (some true) else (some (decide ((l1.length : Int) > (wrap64 (1048576 - (l0.length : Int))))))
set_option maxHeartbeats 8000000 in
set_option maxRecDepth 100000 in
theorem laws_big.calls (A0 : Option Addr) (c0 : Nat) (l0 : List Int) (A1 : Option Addr) (c1 : Nat) (l1 : List Int) (r : Bool) (w : World) (hr0 : Kd.C (Kd.int .u8) w A0 l0.length l0) (hc0 : l0.length ≤ c0) (hr1 : Kd.C (Kd.int .u8) w A1 l1.length l1) (hc1 : l1.length ≤ c1) (h : laws_big.f l0 l1 = some r) :
    Calls Try.prog 11 #[.slice A0 l0.length c0, .slice A1 l1.length c1] w fun e w' => e = .returned (.bool r) ∧ Drawn0 w w' := by
  have HR0 := Aside0.mk hr0
  have HC0 := Aside0.mk hc0
  clear hr0 hc0
  have HR1 := Aside0.mk hr1
  have HC1 := Aside0.mk hc1
  clear hr1 hc1
  have H : (if (l0.length : Int) > 1048576 then (some true) else (some (decide ((l1.length : Int) > (wrap64 (1048576 - (l0.length : Int))))))) = some r := h
  clear h
  by_cases c3 : (l0.length : Int) > 1048576
  · rw [if_pos c3] at H
    have c3b0 : decide (1048576 < (l0.length : Int)) = true := decide_eq_true c3
    have c3b1 : decide (1048576 < l0.length) = true := decide_eq_true (by omega)
    clear c3
    obtain rfl := Option.some.inj H
    go_enter Try.func11, Try.ntmps11
    go_wp2
    go_ret
    exact ⟨by first | rfl | (simp; done) | (simp [*]; done), by repeat (first | exact Drawn0.refl _ | apply Drawn0.step)⟩
  · rw [if_neg c3] at H
    have c3b0 : decide (1048576 < (l0.length : Int)) = false := decide_eq_false c3
    have c3b1 : decide (1048576 < l0.length) = false := decide_eq_false (by omega)
    clear c3
    obtain rfl := Option.some.inj H
    go_enter Try.func11, Try.ntmps11
    go_wp2
    go_ret
    exact ⟨by first | rfl | (simp; done) | (simp [*]; done), by repeat (first | exact Drawn0.refl _ | apply Drawn0.step)⟩

/-! ### impl_isDivided: function 162 -/
def impl_isDivided.f (a0 : Int) : Option (Bool) := if a0 ≥ 1 then (some (decide (a0 ≤ 1000000))) else (some false)
set_option maxHeartbeats 8000000 in
set_option maxRecDepth 100000 in
theorem impl_isDivided.calls (a0 : Int) (r : Bool) (w : World) (h : impl_isDivided.f a0 = some r) :
    Calls Try.prog 162 #[.int .i64 a0] w fun e w' => e = .returned (.bool r) ∧ Drawn0 w w' := by
  have H : (if a0 ≥ 1 then (some (decide (a0 ≤ 1000000))) else (some false)) = some r := h
  clear h
  by_cases c2 : a0 ≥ 1
  · rw [if_pos c2] at H
    have c2b0 : decide (1 ≤ a0) = true := decide_eq_true c2
    clear c2
    obtain rfl := Option.some.inj H
    go_enter Try.func162, Try.ntmps162
    go_wp2
    go_ret
    exact ⟨by first | rfl | (simp; done) | (simp [*]; done), by repeat (first | exact Drawn0.refl _ | apply Drawn0.step)⟩
  · rw [if_neg c2] at H
    have c2b0 : decide (1 ≤ a0) = false := decide_eq_false c2
    clear c2
    obtain rfl := Option.some.inj H
    go_enter Try.func162, Try.ntmps162
    go_wp2
    go_ret
    exact ⟨by first | rfl | (simp; done) | (simp [*]; done), by repeat (first | exact Drawn0.refl _ | apply Drawn0.step)⟩

/-! ### slices_Sort_int_int: function 195 (its contract is proved by hand) -/
def slices_Sort_int_int.f (l0 : List Int) : Option (List Int) := if l0.length < 4611686018427387904 then (some (l0.mergeSort fun x y => decide (x ≤ y))) else (none)
theorem slices_Sort_int_int.calls (P0_ : Nat → Prop) (u9000_ : Value) (l0 : List Int) (r : List Int) (w0 w : World) (hB : Below w0.heap.size w0 w) (ho0 : Kd.R (Kd.int .i64) 3 w w0.heap.size P0_ u9000_ l0) (h : slices_Sort_int_int.f l0 = some r) :
    Calls Try.prog 195 #[u9000_] w fun e w' => e = .returned (.tuple #[]) ∧ Kd.R (Kd.int .i64) 3 w' w0.heap.size (fun k_ => (P0_ k_ ∨ w.heap.size ≤ k_)) u9000_ r ∧ Below w0.heap.size w0 w' ∧ Kept w w' (fun k_ => P0_ k_) := by
  unfold slices_Sort_int_int.f at h
  by_cases hsz : l0.length < 4611686018427387904
  · rw [if_pos hsz] at h
    injection h with h
    subst h
    obtain ⟨h0, inner, ho, hr⟩ := ho0
    have hr' : inner = encs (Value.int .i64) l0 := Kd.reps_encs hr
    subst hr'
    rcases ho.2 with ⟨rfl, hl⟩ | ⟨g, cap, cur, rfl, hbase, hb, h1, h2, h3, h4⟩
    · have hnil : l0 = [] := List.eq_nil_of_length_eq_zero hl
      subst hnil
      refine (Go.Proofs.Try.slices_Sort_int_none none 0 w).mono ?_
      rintro e w' ⟨rfl, rfl⟩
      exact ⟨rfl, by simpa using Kd.R_nil _ _ _ _ _, hB, Kept.refl _ _⟩
    · have hs1 : (Kd.int .i64).sz = 1 := rfl
      rw [hs1, Nat.mul_one] at h4
      have h4' : cur.toList.take l0.length = l0.map (Value.int .i64) := h4
      have hlt : g < w.heap.size := (Array.getElem?_eq_some_iff.1 hb).1
      refine (Go.Proofs.Try.slices_Sort_int g 0 cap l0 w (Go.holds_of_blockI hb h4') hlt hsz).mono ?_
      rintro e w' ⟨rfl, n, os, rfl⟩
      have hg := Go.grownBy_sortedI (w := w) (g := g) (n := n) (os := os) (l0.mergeSort fun x y => decide (x ≤ y)).toArray
      have hlen : (l0.mergeSort fun x y => decide (x ≤ y)).length = l0.length := List.length_mergeSort l0
      have hown := Go.ownsRow_sortedI (w := w) (n := n) (os := os) (ss := l0) (ts := l0.mergeSort fun x y => decide (x ≤ y)) hlen hbase hb h1 h2 h3
      refine ⟨rfl, ⟨fun k hk => .inl (h0 k hk), _, ?_, Kd.reps_scalar _⟩, hB.grown hg hB.size (fun k hk => by injection hk with hk; subst hk; exact hbase), Kept.of_grown hg (Kept.refl _ _) (fun k hk => .inl (h0 k (by injection hk with hk; subst hk; rfl)))⟩
      rw [hlen]
      exact hown
  · rw [if_neg hsz] at h
    cases h

/-! ### impl_leastFactor: function 219 -/
def impl_leastFactor.l0 : Nat → Int → Int → Option (Int)
  | 0, _, _ => none
  | k + 1, x0, x3 => if (wrap64 (x3 * x3)) ≤ x0 then (if x3 = 0 then (none) else (if (Int.tmod x0 x3) = 0 then (some x3) else (impl_leastFactor.l0 k x0 (wrap64 (x3 + 1))))) else (some x0)
def impl_leastFactor.f (k : Nat) (a0 : Int) : Option (Int) := impl_leastFactor.l0 k a0 2
theorem impl_leastFactor.mono_l : ∀ k, (∀ y0 y1, LeO (impl_leastFactor.l0 k y0 y1) (impl_leastFactor.l0 (k + 1) y0 y1))
  | 0 => fun _ _ r h => by simp [impl_leastFactor.l0] at h
  | k + 1 => by
    have ih0 := impl_leastFactor.mono_l k
    · intro y0 y1
      unfold impl_leastFactor.l0
      repeat' first
      | (with_reducible exact ih0 _ _)
      | (with_reducible exact LeO.refl _)
      | (with_reducible exact LeO.none _)
      | (with_reducible refine LeO.ite ?_ ?_)
      | (with_reducible refine LeO.bind ?_ (fun _ => ?_))
      | exact ih0 _ _
      | exact LeO.none _
      | refine LeO.ite ?_ ?_
      | refine LeO.bind ?_ (fun _ => ?_)
theorem impl_leastFactor.mono : ∀ a0 k, LeO (impl_leastFactor.f k a0) (impl_leastFactor.f (k + 1) a0) := by
  intro a0 k
  have ih0 := impl_leastFactor.mono_l k
  unfold impl_leastFactor.f
  repeat' first
      | (with_reducible exact ih0 _ _)
      | (with_reducible exact LeO.refl _)
      | (with_reducible exact LeO.none _)
      | (with_reducible refine LeO.ite ?_ ?_)
      | (with_reducible refine LeO.bind ?_ (fun _ => ?_))
      | exact ih0 _ _
      | exact LeO.none _
      | refine LeO.ite ?_ ?_
      | refine LeO.bind ?_ (fun _ => ?_)
set_option maxHeartbeats 8000000 in
set_option maxRecDepth 100000 in
theorem impl_leastFactor.calls (k : Nat) (a0 : Int) (r : Int) (w : World) (h : impl_leastFactor.f k a0 = some r) :
    Calls Try.prog 219 #[.int .i64 a0] w fun e w' => e = .returned (.int .i64 r) ∧ Drawn0 w w' := by
  have H : (impl_leastFactor.l0 k a0 2) = some r := h
  clear h
  have H' := Aside0.mk H
  clear H
  go_enter Try.func219, Try.ntmps219
  go_wp2
  go_loopg [3] k (fun kq v3 w' => ∃ (x3_1 : Int), v3 = .int .i64 x3_1 ∧ Aside0 (impl_leastFactor.l0 kq a0 x3_1 = some r) ∧ Aside0 (kq ≤ k) ∧ Drawn0 w w')
  case atStart => exact ⟨(2), (by first | rfl | (simp; done) | (simp [*]; done)), H', ⟨Nat.le_refl _⟩, by repeat (first | exact Drawn0.refl _ | apply Drawn0.step)⟩
  case round =>
    clear H'
    obtain ⟨x3_1, rfl, HA, HK1, ⟨m1, rfl⟩⟩ := hrel
    cases gk with
    | zero => exact absurd HA.out (by simp [impl_leastFactor.l0])
    | succ k1 =>
      have H := HA.out
      clear HA
      simp only [impl_leastFactor.l0] at H
      by_cases c2 : (wrap64 (x3_1 * x3_1)) ≤ a0
      · rw [if_pos c2] at H
        have c2b0 : decide ((wrap64 (x3_1 * x3_1)) ≤ a0) = true := decide_eq_true c2
        clear c2
        by_cases c3 : x3_1 = 0
        · rw [if_pos c3] at H
          exact absurd H (by simp)
        · rw [if_neg c3] at H
          have c3b0 : (x3_1 == 0) = false := beq_eq_false_iff_ne.mpr c3
          have c3b1 : (x3_1 != 0) = true := bne_iff_ne.mpr c3
          by_cases c4 : (Int.tmod a0 x3_1) = 0
          · rw [if_pos c4] at H
            have c4b0 : ((Int.tmod a0 x3_1) == 0) = true := beq_iff_eq.mpr c4
            have c4b1 : ((Int.tmod a0 x3_1) != 0) = false := bne_eq_false_iff_eq.mpr c4
            clear c4
            obtain rfl := Option.some.inj H
            go_wp2
            go_ret
            exact ⟨by first | rfl | (simp; done) | (simp [*]; done), by repeat (first | exact Drawn0.refl _ | apply Drawn0.step)⟩
          · rw [if_neg c4] at H
            have c4b0 : ((Int.tmod a0 x3_1) == 0) = false := beq_eq_false_iff_ne.mpr c4
            have c4b1 : ((Int.tmod a0 x3_1) != 0) = true := bne_iff_ne.mpr c4
            have H' := Aside0.mk H
            clear H
            go_wp2
            go_roundg k1
            case measure => have := HK1.out; omega
            case rel => exact ⟨(wrap64 (x3_1 + 1)), (by first | rfl | (simp; done) | (simp [*]; done)), H', ⟨by have := HK1.out; omega⟩, by repeat (first | exact Drawn0.refl _ | apply Drawn0.step)⟩
      · rw [if_neg c2] at H
        have c2b0 : decide ((wrap64 (x3_1 * x3_1)) ≤ a0) = false := decide_eq_false c2
        clear c2
        obtain rfl := Option.some.inj H
        go_wp2
        go_ret
        exact ⟨by first | rfl | (simp; done) | (simp [*]; done), by repeat (first | exact Drawn0.refl _ | apply Drawn0.step)⟩

/-! ### impl_factors: function 204 -/
mutual
def impl_factors.l0 : Nat → Int → List (List Int) → Option ((List (List Int)))
  | 0, _, _ => none
  | k + 1, x0, x3 => if x0 > 1 then ((impl_leastFactor.f k x0).bind fun t104 => (impl_factors.l1 k x0 x3 t104 0)) else (some x3)
def impl_factors.l1 : Nat → Int → List (List Int) → Int → Int → Option ((List (List Int)))
  | 0, _, _, _, _ => none
  | k + 1, x0, x3, x4, x5 => if x4 = 0 then (none) else (if (Int.tmod x0 x4) = 0 then (impl_factors.l1 k (wrap64 (Int.tdiv x0 x4)) x3 x4 (wrap64 (x5 + 1))) else (if x3.length < 5864062014805 then (impl_factors.l0 k x0 (x3 ++ [(([x4, x5] : List Int))])) else (none)))
end
def impl_factors.f (k : Nat) (a0 : Int) : Option ((List (List Int))) := impl_factors.l0 k a0 (([] : List (List Int)))
theorem impl_factors.mono_l : ∀ k, (∀ y0 y1, LeO (impl_factors.l0 k y0 y1) (impl_factors.l0 (k + 1) y0 y1)) ∧ (∀ y0 y1 y2 y3, LeO (impl_factors.l1 k y0 y1 y2 y3) (impl_factors.l1 (k + 1) y0 y1 y2 y3))
  | 0 => ⟨fun _ _ r h => by simp [impl_factors.l0] at h, fun _ _ _ _ r h => by simp [impl_factors.l1] at h⟩
  | k + 1 => by
    obtain ⟨ih0, ih1⟩ := impl_factors.mono_l k
    refine ⟨?_, ?_⟩
    · intro y0 y1
      unfold impl_factors.l0
      repeat' first
      | (with_reducible exact ih0 _ _)
      | (with_reducible exact ih1 _ _ _ _)
      | (with_reducible exact impl_leastFactor.mono _ _)
      | (with_reducible exact LeO.refl _)
      | (with_reducible exact LeO.none _)
      | (with_reducible refine LeO.ite ?_ ?_)
      | (with_reducible refine LeO.bind ?_ (fun _ => ?_))
      | exact ih0 _ _
      | exact ih1 _ _ _ _
      | exact impl_leastFactor.mono _ _
      | exact LeO.none _
      | refine LeO.ite ?_ ?_
      | refine LeO.bind ?_ (fun _ => ?_)
    · intro y0 y1 y2 y3
      unfold impl_factors.l1
      repeat' first
      | (with_reducible exact ih0 _ _)
      | (with_reducible exact ih1 _ _ _ _)
      | (with_reducible exact impl_leastFactor.mono _ _)
      | (with_reducible exact LeO.refl _)
      | (with_reducible exact LeO.none _)
      | (with_reducible refine LeO.ite ?_ ?_)
      | (with_reducible refine LeO.bind ?_ (fun _ => ?_))
      | exact ih0 _ _
      | exact ih1 _ _ _ _
      | exact impl_leastFactor.mono _ _
      | exact LeO.none _
      | refine LeO.ite ?_ ?_
      | refine LeO.bind ?_ (fun _ => ?_)
theorem impl_factors.mono : ∀ a0 k, LeO (impl_factors.f k a0) (impl_factors.f (k + 1) a0) := by
  intro a0 k
  obtain ⟨ih0, ih1⟩ := impl_factors.mono_l k
  unfold impl_factors.f
  repeat' first
      | (with_reducible exact ih0 _ _)
      | (with_reducible exact ih1 _ _ _ _)
      | (with_reducible exact impl_leastFactor.mono _ _)
      | (with_reducible exact LeO.refl _)
      | (with_reducible exact LeO.none _)
      | (with_reducible refine LeO.ite ?_ ?_)
      | (with_reducible refine LeO.bind ?_ (fun _ => ?_))
      | exact ih0 _ _
      | exact ih1 _ _ _ _
      | exact impl_leastFactor.mono _ _
      | exact LeO.none _
      | refine LeO.ite ?_ ?_
      | refine LeO.bind ?_ (fun _ => ?_)
set_option maxHeartbeats 8000000 in
set_option maxRecDepth 100000 in
theorem impl_factors.calls (k : Nat) (a0 : Int) (r : List (List Int)) (w : World) (h : impl_factors.f k a0 = some r) :
    Calls Try.prog 204 #[.int .i64 a0] w fun e w' => ∃ v0_ : Value, e = .returned (v0_) ∧ Kd.S (Kd.slice 3 (Kd.int .i64)) 24 w' w.heap.size (fun _ => True) v0_ r ∧ Below w.heap.size w w' := by
  have HB := Aside0.mk (Below.refl w.heap.size w)
  have H : (impl_factors.l0 k a0 (([] : List (List Int)))) = some r := h
  clear h
  obtain ⟨y101, hy101⟩ : ∃ y_ : List (List Int), y_ = (([] : List (List Int))) := ⟨_, rfl⟩
  replace H : (impl_factors.l0 k a0 y101) = some r := by first | (rw [hy101]; with_reducible exact H) | (have H2_ := (Option.bind_some _ _).symm.trans H; rw [hy101]; with_reducible exact H2_) | (have H2_ := (Option.bind_some _ _).symm.trans H; with_reducible exact H2_) | with_reducible exact H | (rw [hy101]; exact H) | exact H
  have Ny101 := Aside0.mk hy101
  clear hy101
  have H' := Aside0.mk H
  clear H
  go_enter Try.func204, Try.ntmps204
  go_wp2_with (first | ((with_reducible refine gate_dst (N := 6) rfl ?_); refine Kd.S_lit (Kd.slice 3 (Kd.int .i64)) _ 24 ?hg (N := 6) ?hd (xs := ([] : List (List Int))) (inner := []) (ok := fun _ => True) (okp := fun _ => True) ?hr ?hp (fun _ hk => hk) trivial (Below.refl _ _) (Nat.le_refl _) (by simp) ?_; (case hd => rfl); (case hg => rfl); (case hr => first | (go_simp; done) | (go_simp; rfl)); (case hp => exact (Reps.none _ _)); intro v102 w2 ho3 hb hg_ hnew_; clear hg_ hnew_; (first | rw [← Ny101.out] at ho3 | (simp only [Int.reduceToNat] at ho3; rw [← Ny101.out] at ho3)); have n0_ := Aside0.mk (Kd.S_lower ho3 (below_size (by repeat (first | (with_reducible first | exact HB.out | apply below_alloc | apply pw_below_drewN | apply below_drew1) | exact HB.out)))); have n1_ := Aside0.mk (below_step (by repeat (first | (with_reducible first | exact HB.out | apply below_alloc | apply pw_below_drewN | apply below_drew1) | exact HB.out)) hb); clear HB; have HO103 := n0_; have HB := n1_; clear n0_ n1_; clear hb ho3))
  go_loopg [0, 3] k (fun kq v0 v3 w' => ∃ (x0_1 : Int) (x3_1 : List (List Int)), v0 = .int .i64 x0_1 ∧ Aside0 (impl_factors.l0 kq x0_1 x3_1 = some r) ∧ Aside0 (kq ≤ k) ∧ Aside0 (Kd.S (Kd.slice 3 (Kd.int .i64)) 24 w' w.heap.size (fun _ => True) v3 x3_1) ∧ Aside0 (Below w.heap.size w w'))
  case atStart => exact ⟨(a0), (y101), (by first | rfl | (simp; done) | (simp [*]; done)), H', ⟨Nat.le_refl _⟩, ⟨by (with_reducible repeat (first | apply Kd.S_alloc | apply Kd.S_drewN | apply Kd.S_drew)); exact HO103.out⟩, ⟨by repeat (first | (with_reducible first | exact HB.out | apply below_alloc | apply pw_below_drewN | apply below_drew1) | exact HB.out)⟩⟩
  case round =>
    clear H'
    try clear c2
    try clear p2
    obtain ⟨x0_1, x3_1, rfl, HA, HK1, HO_3, HB⟩ := hrel
    cases gk with
    | zero => exact absurd HA.out (by simp [impl_factors.l0])
    | succ k1 =>
      have H := HA.out
      clear HA
      simp only [impl_factors.l0] at H
      by_cases c4 : x0_1 > 1
      · rw [if_pos c4] at H
        have c4b0 : decide (1 < x0_1) = true := decide_eq_true c4
        clear c4
        replace H := Option.bind_eq_some_iff.mp H
        obtain ⟨t104, A50, H⟩ := H
        replace H : (impl_factors.l1 k1 x0_1 x3_1 t104 0) = some r := H
        have A5 := Aside0.mk A50
        clear A50
        have H' := Aside0.mk H
        clear H
        go_wp2_with (first | ((with_reducible refine gate_callee (f := 219) rfl ?_); refine goesL_ (some 10) rfl rfl Try.func219 (by kernel_rfl) rfl #[.int .i64 x0_1] rfl (by (try simp only [List.map_toArray, List.map_cons, List.map_nil]); first | done | rfl | (simp only [List.length_drop, List.length_take]; rfl)) ?_; (with_reducible refine (impl_leastFactor.calls k1 x0_1 t104 _ A5.out).mono ?_); rintro e w' ⟨rfl, ⟨nd, rfl⟩⟩; refine ⟨_, rfl, ?_⟩))
        go_loopg [0, 5] k1 (fun kq v0 v5 w' => ∃ (x0_2 : Int) (x5_2 : Int), v0 = .int .i64 x0_2 ∧ v5 = .int .i64 x5_2 ∧ Aside0 (impl_factors.l1 kq x0_2 x3_1 t104 x5_2 = some r) ∧ Aside0 (kq ≤ k1) ∧ Aside0 (Kd.S (Kd.slice 3 (Kd.int .i64)) 24 w' w.heap.size (fun _ => True) u3 x3_1) ∧ Aside0 (Below w.heap.size w w'))
        case atStart => exact ⟨(x0_1), (0), (by first | rfl | (simp; done) | (simp [*]; done)), (by first | rfl | (simp; done) | (simp [*]; done)), H', ⟨Nat.le_refl _⟩, ⟨by (with_reducible repeat (first | apply Kd.S_alloc | apply Kd.S_drewN | apply Kd.S_drew)); exact HO_3.out⟩, ⟨by repeat (first | (with_reducible first | exact HB.out | apply below_alloc | apply pw_below_drewN | apply below_drew1) | exact HB.out)⟩⟩
        case round =>
          clear H'
          try clear c2
          try clear p2
          try clear c4
          try clear c4b0
          try clear p2
          obtain ⟨x0_2, x5_2, rfl, rfl, HA, HK2, HO_3, HB⟩ := hrel
          cases gk with
          | zero => exact absurd HA.out (by simp [impl_factors.l1])
          | succ k2 =>
            have H := HA.out
            clear HA
            simp only [impl_factors.l1] at H
            by_cases c6 : t104 = 0
            · rw [if_pos c6] at H
              exact absurd H (by simp)
            · rw [if_neg c6] at H
              have c6b0 : (t104 == 0) = false := beq_eq_false_iff_ne.mpr c6
              have c6b1 : (t104 != 0) = true := bne_iff_ne.mpr c6
              by_cases c7 : (Int.tmod x0_2 t104) = 0
              · rw [if_pos c7] at H
                have c7b0 : ((Int.tmod x0_2 t104) == 0) = true := beq_iff_eq.mpr c7
                have c7b1 : ((Int.tmod x0_2 t104) != 0) = false := bne_eq_false_iff_eq.mpr c7
                clear c7
                have H' := Aside0.mk H
                clear H
                go_wp2
                go_roundg k2
                case measure => have := HK1.out; have := HK2.out; omega
                case rel => exact ⟨(wrap64 (Int.tdiv x0_2 t104)), (wrap64 (x5_2 + 1)), (by first | rfl | (simp; done) | (simp [*]; done)), (by first | rfl | (simp; done) | (simp [*]; done)), H', ⟨by have := HK1.out; have := HK2.out; omega⟩, ⟨by (with_reducible repeat (first | apply Kd.S_alloc | apply Kd.S_drewN | apply Kd.S_drew)); exact HO_3.out⟩, ⟨by repeat (first | (with_reducible first | exact HB.out | apply below_alloc | apply pw_below_drewN | apply below_drew1) | exact HB.out)⟩⟩
              · rw [if_neg c7] at H
                have c7b0 : ((Int.tmod x0_2 t104) == 0) = false := beq_eq_false_iff_ne.mpr c7
                have c7b1 : ((Int.tmod x0_2 t104) != 0) = true := bne_iff_ne.mpr c7
                obtain ⟨y105, hy105⟩ : ∃ y_ : List Int, y_ = (([t104, x5_2] : List Int)) := ⟨_, rfl⟩
                replace H : (if x3_1.length < 5864062014805 then (impl_factors.l0 k2 x0_2 (x3_1 ++ [y105])) else (none)) = some r := by first | (rw [hy105]; with_reducible exact H) | (have H2_ := (Option.bind_some _ _).symm.trans H; rw [hy105]; with_reducible exact H2_) | (have H2_ := (Option.bind_some _ _).symm.trans H; with_reducible exact H2_) | with_reducible exact H | (rw [hy105]; exact H) | exact H
                have Ny105 := Aside0.mk hy105
                clear hy105
                by_cases c8 : x3_1.length < 5864062014805
                · rw [if_pos c8] at H
                  have LMc8 := Aside0.mk c8
                  clear c8
                  obtain ⟨y108, hy108⟩ : ∃ y_ : List (List Int), y_ = (x3_1 ++ [y105]) := ⟨_, rfl⟩
                  replace H : (impl_factors.l0 k2 x0_2 y108) = some r := by first | (rw [hy108]; with_reducible exact H) | (have H2_ := (Option.bind_some _ _).symm.trans H; rw [hy108]; with_reducible exact H2_) | (have H2_ := (Option.bind_some _ _).symm.trans H; with_reducible exact H2_) | with_reducible exact H | (rw [hy108]; exact H) | exact H
                  have Ny108 := Aside0.mk hy108
                  clear hy108
                  have H' := Aside0.mk H
                  clear H
                  go_wp2_with (first | ((with_reducible refine gate_dst (N := 23) rfl ?_); refine Kd.R_lit (Kd.int .i64) _ 3 ?hg (N := 23) ?hd (xs := ([t104, x5_2] : List Int)) (inner := [.int .i64 t104, .int .i64 x5_2]) (ok := fun _ => True) (okp := fun _ => True) ?hr ?hp (fun _ hk => hk) trivial (Below.refl _ _) (Nat.le_refl _) (by simp) ?_; (case hd => rfl); (case hg => rfl); (case hr => first | (go_simp; done) | (go_simp; rfl)); (case hp => exact (Reps.one (show Kd.M (Kd.int .i64) _ _ _ t104 [.int .i64 t104] from rfl) (Reps.one (show Kd.M (Kd.int .i64) _ _ _ x5_2 [.int .i64 x5_2] from rfl) (Reps.none _ _)))); intro v106 w9 ho10 hb hg_ hnew_; clear hg_ hnew_; (first | rw [← Ny105.out] at ho10 | (simp only [Int.reduceToNat] at ho10; rw [← Ny105.out] at ho10)); have n0_ := Aside0.mk (Kd.S_elder' (by (with_reducible repeat (first | apply Kd.S_alloc | apply Kd.S_drewN | apply Kd.S_drew)); exact HO_3.out) (Kd.R_base ho10) hb); have n1_ := Aside0.mk (Kd.R_lower ho10 (below_size (by repeat (first | (with_reducible first | exact HB.out | apply below_alloc | apply pw_below_drewN | apply below_drew1) | exact HB.out)))); have n2_ := Aside0.mk (below_step (by repeat (first | (with_reducible first | exact HB.out | apply below_alloc | apply pw_below_drewN | apply below_drew1) | exact HB.out)) hb); clear HO_3; clear HB; have HO_3 := n0_; have HO107 := n1_; have HB := n2_; clear n0_ n1_ n2_; clear hb ho10; obtain ⟨Ao12, co12, eo12⟩ := Kd.R_slice HO107.out; subst eo12) | ((with_reducible refine gate_builtin (b := .append) (xs := #[.tmp 20, .tmp 24]) rfl ?_); at_builtin; refine Kd.S_append (Kd.slice 3 (Kd.int .i64)) (w0 := w) w.heap.size rfl (.tmp 20) (.tmp 24) 40 24 (.slice none 0 0) 24 rfl Try.underlying40 info24 rfl (by decide) (by omega) u3 x3_1 y105 [.slice Ao12 y105.length co12] (fun _ => True) (fun k_ => some k_ = (.slice Ao12 y105.length co12 : Value).ownBlock) rfl rfl ?aP (fun k_ hk_ => ((Kd.R_mono (ok' := fun k_ => ((fun _ => True)) k_ ∧ some k_ ≠ (u3 : Value).ownBlock) (Kd.R_apart' (HO107.out) (Kd.S_typed HO_3.out) (by decide)) (fun k_ hk => ⟨trivial, hk.2⟩))).1 k_ hk_.symm) ?aF ?aO ?aB ?aS ?aL ?_; (case aP => exact Kd.M_row (Kd.R_mono (Kd.R_tight rfl (Kd.R_mono (ok' := fun k_ => ((fun _ => True)) k_ ∧ some k_ ≠ (u3 : Value).ownBlock) (Kd.R_apart' (HO107.out) (Kd.S_typed HO_3.out) (by decide)) (fun k_ hk => ⟨trivial, hk.2⟩))) (fun _ h_ => h_))); (case aB => exact (by repeat (first | (with_reducible first | exact HB.out | apply below_alloc | apply pw_below_drewN | apply below_drew1) | exact HB.out))); (case aF => exact (fun _ _ => trivial)); (case aO => exact (by (with_reducible repeat (first | apply Kd.S_alloc | apply Kd.S_drewN | apply Kd.S_drew)); exact Kd.S_mono HO_3.out (fun k_ hk => ⟨trivial, fun e_ => hk.2 e_⟩))); (case aS => exact (below_size (by repeat (first | (with_reducible first | exact HB.out | apply below_alloc | apply pw_below_drewN | apply below_drew1) | exact HB.out)))); (case aL => have := LMc8.out; omega); intro v109 w11 ho hb hg hat; rw [← Ny108.out] at ho; have n0_ := Aside0.mk (hb); have n1_ := Aside0.mk (ho); clear HB; clear HO_3; clear HO107; have HB := n0_; have HO110 := n1_; clear n0_ n1_; clear ho hb hg hat))
                  go_roundg k2
                  case measure => have := HK1.out; have := HK2.out; omega
                  case rel => exact ⟨(x0_2), (y108), (by first | rfl | (simp; done) | (simp [*]; done)), H', ⟨by have := HK1.out; have := HK2.out; omega⟩, ⟨by (with_reducible repeat (first | apply Kd.S_alloc | apply Kd.S_drewN | apply Kd.S_drew)); exact HO110.out⟩, ⟨by repeat (first | (with_reducible first | exact HB.out | apply below_alloc | apply pw_below_drewN | apply below_drew1) | exact HB.out)⟩⟩
                · rw [if_neg c8] at H
                  exact absurd H (by simp)
      · rw [if_neg c4] at H
        have c4b0 : decide (1 < x0_1) = false := decide_eq_false c4
        clear c4
        obtain rfl := Option.some.inj H
        go_wp2
        go_ret
        exact ⟨_, by first | rfl | (simp [errW_none, errW_some] <;> rfl) | (simp [*, errW_none, errW_some] <;> rfl), by (with_reducible repeat (first | apply Kd.S_alloc | apply Kd.S_drewN | apply Kd.S_drew)); exact HO_3.out, by repeat (first | (with_reducible first | exact HB.out | apply below_alloc | apply pw_below_drewN | apply below_drew1) | exact HB.out)⟩

/-! ### impl_divisors: function 163 -/
mutual
def impl_divisors.l0 : Nat → List Int → List (List Int) → Int → Int → Option (List Int)
  | 0, _, _, _, _ => none
  | k + 1, x3, x12, x13, x14 => if x14 < x13 then (if 0 ≤ x14 then (if x14 < (x12.length : Int) then (if 1 < ((rd_L2 x12 x14).length : Int) then (impl_divisors.l1 k x3 (rd_L2 x12 x14) (x3.length : Int) 1 x12 x13 x14 (rd (rd_L2 x12 x14) 1) 0) else (none)) else (none)) else (none)) else ((slices_Sort_int_int.f x3).bind fun t117 => (some t117))
def impl_divisors.l1 : Nat → List Int → List Int → Int → Int → List (List Int) → Int → Int → Int → Int → Option (List Int)
  | 0, _, _, _, _, _, _, _, _, _ => none
  | k + 1, x3, x5, x6, x7, x12, x13, x14, x22, x23 => if x23 < x22 then (if 0 < (x5.length : Int) then (if 0 ≤ x6 then (if x6 ≤ (x3.length : Int) then ((some (x3.take (x6 : Int).toNat : List Int)).bind fun y121 => (impl_divisors.l2 k x3 x5 x6 (wrap64 (x7 * (rd x5 0))) x12 x13 x14 x22 x23 y121 (y121.length : Int) 0)) else (none)) else (none)) else (none)) else (impl_divisors.l0 k x3 x12 x13 (wrap64 (x14 + 1)))
def impl_divisors.l2 : Nat → List Int → List Int → Int → Int → List (List Int) → Int → Int → Int → Int → List Int → Int → Int → Option (List Int)
  | 0, _, _, _, _, _, _, _, _, _, _, _, _ => none
  | k + 1, x3, x5, x6, x7, x12, x13, x14, x22, x23, x32, x33, x34 => if x34 < x33 then (if 0 ≤ x34 then (if x34 < (x32.length : Int) then (if x3.length < 17592186044416 then (impl_divisors.l2 k (x3 ++ [wrap64 ((rd x32 x34) * x7)]) x5 x6 x7 x12 x13 x14 x22 x23 x32 x33 (wrap64 (x34 + 1))) else (none)) else (none)) else (none)) else (impl_divisors.l1 k x3 x5 x6 x7 x12 x13 x14 x22 (wrap64 (x23 + 1)))
end
def impl_divisors.f (k : Nat) (a0 : Int) : Option (List Int) := (impl_factors.f k a0).bind fun t114 => (impl_divisors.l0 k (([1] : List Int)) t114 (t114.length : Int) 0)
theorem impl_divisors.mono_l : ∀ k, (∀ y0 y1 y2 y3, LeO (impl_divisors.l0 k y0 y1 y2 y3) (impl_divisors.l0 (k + 1) y0 y1 y2 y3)) ∧ (∀ y0 y1 y2 y3 y4 y5 y6 y7 y8, LeO (impl_divisors.l1 k y0 y1 y2 y3 y4 y5 y6 y7 y8) (impl_divisors.l1 (k + 1) y0 y1 y2 y3 y4 y5 y6 y7 y8)) ∧ (∀ y0 y1 y2 y3 y4 y5 y6 y7 y8 y9 y10 y11, LeO (impl_divisors.l2 k y0 y1 y2 y3 y4 y5 y6 y7 y8 y9 y10 y11) (impl_divisors.l2 (k + 1) y0 y1 y2 y3 y4 y5 y6 y7 y8 y9 y10 y11))
  | 0 => ⟨fun _ _ _ _ r h => by simp [impl_divisors.l0] at h, fun _ _ _ _ _ _ _ _ _ r h => by simp [impl_divisors.l1] at h, fun _ _ _ _ _ _ _ _ _ _ _ _ r h => by simp [impl_divisors.l2] at h⟩
  | k + 1 => by
    obtain ⟨ih0, ih1, ih2⟩ := impl_divisors.mono_l k
    refine ⟨?_, ?_, ?_⟩
    · intro y0 y1 y2 y3
      unfold impl_divisors.l0
      repeat' first
      | (with_reducible exact ih0 _ _ _ _)
      | (with_reducible exact ih1 _ _ _ _ _ _ _ _ _)
      | (with_reducible exact ih2 _ _ _ _ _ _ _ _ _ _ _ _)
      | (with_reducible exact impl_factors.mono _ _)
      | (with_reducible exact LeO.refl _)
      | (with_reducible exact LeO.none _)
      | (with_reducible refine LeO.ite ?_ ?_)
      | (with_reducible refine LeO.bind ?_ (fun _ => ?_))
      | exact ih0 _ _ _ _
      | exact ih1 _ _ _ _ _ _ _ _ _
      | exact ih2 _ _ _ _ _ _ _ _ _ _ _ _
      | exact impl_factors.mono _ _
      | exact LeO.none _
      | refine LeO.ite ?_ ?_
      | refine LeO.bind ?_ (fun _ => ?_)
    · intro y0 y1 y2 y3 y4 y5 y6 y7 y8
      unfold impl_divisors.l1
      repeat' first
      | (with_reducible exact ih0 _ _ _ _)
      | (with_reducible exact ih1 _ _ _ _ _ _ _ _ _)
      | (with_reducible exact ih2 _ _ _ _ _ _ _ _ _ _ _ _)
      | (with_reducible exact impl_factors.mono _ _)
      | (with_reducible exact LeO.refl _)
      | (with_reducible exact LeO.none _)
      | (with_reducible refine LeO.ite ?_ ?_)
      | (with_reducible refine LeO.bind ?_ (fun _ => ?_))
      | exact ih0 _ _ _ _
      | exact ih1 _ _ _ _ _ _ _ _ _
      | exact ih2 _ _ _ _ _ _ _ _ _ _ _ _
      | exact impl_factors.mono _ _
      | exact LeO.none _
      | refine LeO.ite ?_ ?_
      | refine LeO.bind ?_ (fun _ => ?_)
    · intro y0 y1 y2 y3 y4 y5 y6 y7 y8 y9 y10 y11
      unfold impl_divisors.l2
      repeat' first
      | (with_reducible exact ih0 _ _ _ _)
      | (with_reducible exact ih1 _ _ _ _ _ _ _ _ _)
      | (with_reducible exact ih2 _ _ _ _ _ _ _ _ _ _ _ _)
      | (with_reducible exact impl_factors.mono _ _)
      | (with_reducible exact LeO.refl _)
      | (with_reducible exact LeO.none _)
      | (with_reducible refine LeO.ite ?_ ?_)
      | (with_reducible refine LeO.bind ?_ (fun _ => ?_))
      | exact ih0 _ _ _ _
      | exact ih1 _ _ _ _ _ _ _ _ _
      | exact ih2 _ _ _ _ _ _ _ _ _ _ _ _
      | exact impl_factors.mono _ _
      | exact LeO.none _
      | refine LeO.ite ?_ ?_
      | refine LeO.bind ?_ (fun _ => ?_)
theorem impl_divisors.mono : ∀ a0 k, LeO (impl_divisors.f k a0) (impl_divisors.f (k + 1) a0) := by
  intro a0 k
  obtain ⟨ih0, ih1, ih2⟩ := impl_divisors.mono_l k
  unfold impl_divisors.f
  repeat' first
      | (with_reducible exact ih0 _ _ _ _)
      | (with_reducible exact ih1 _ _ _ _ _ _ _ _ _)
      | (with_reducible exact ih2 _ _ _ _ _ _ _ _ _ _ _ _)
      | (with_reducible exact impl_factors.mono _ _)
      | (with_reducible exact LeO.refl _)
      | (with_reducible exact LeO.none _)
      | (with_reducible refine LeO.ite ?_ ?_)
      | (with_reducible refine LeO.bind ?_ (fun _ => ?_))
      | exact ih0 _ _ _ _
      | exact ih1 _ _ _ _ _ _ _ _ _
      | exact ih2 _ _ _ _ _ _ _ _ _ _ _ _
      | exact impl_factors.mono _ _
      | exact LeO.none _
      | refine LeO.ite ?_ ?_
      | refine LeO.bind ?_ (fun _ => ?_)
theorem dvGrown {w w1 : World} (hg : w.grownBy w1 none) : Below w.heap.size w w1 :=
  ⟨hg.os, hg.tape, hg.output, hg.size, fun k hk => hg.block k hk (by simp)⟩
theorem dvCell {W : World} {g n : Nat} {u : Value} {ad : Addr} (h : ad.block ≠ g ∨ ad.off ≠ n) : (W.setCell ⟨g, n, none⟩ u).cell? ad = W.cell? ad := by
  by_cases hb : ad.block = g
  · have ho : ad.off ≠ n := h.resolve_left (fun h => h hb)
    subst hb
    simp only [World.setCell, World.cell?, Array.getElem?_modify, if_pos]
    cases hh : W.heap[ad.block]? with
    | none => rfl
    | some b =>
      cases b with
      | cells c e f => simp only [Option.map_some, Option.isSome_none, Bool.false_eq_true, if_false, Array.getElem?_setIfInBounds_ne (Ne.symm ho)]
      | _ => rfl
  · exact cell_far (p := ⟨g, n, none⟩) hb u
theorem dvSet {W : World} {g n : Nat} {u : Value} : W.grownBy (W.setCell ⟨g, n, none⟩ u) (some g) :=
  ⟨rfl, rfl, rfl, by simp [World.setCell], fun k hk hne => Below.heap_setCell W ⟨g, n, none⟩ u k (fun h => hne (by rw [h]))⟩
theorem dvC {w w1 : World} {A : Option Addr} {m : Nat} {ys : List Int} (hc : (Kd.int .i64).C w A m ys) (hk : ∀ ad, A = some ad → ∀ j, j < m → w1.cell? (ad.add j) = w.cell? (ad.add j)) : (Kd.int .i64).C w1 A m ys := by
  have h := Kd.reads_of_C (d := (0 : Int)) hc
  refine Kd.C_of_reads (d := (0 : Int)) ⟨h.1, h.2.1, fun hn => ?_⟩
  obtain ⟨ad, e, hx⟩ := h.2.2 hn
  exact ⟨ad, e, fun j hj => by rw [hk ad e j hj]; exact hx j hj⟩
section
variable {P : Program} {ops : Array Oper} {rest : List Oper} {o : Oper} {a : Act} {Q : Exit → Act → World → Prop}
theorem dvAppend {w0 W : World} (base : Nat) (hgd : o.guard = none) (s x : Operand) (t e : TypeId)
    (ho : o.op = .call { callee := .builtin .append, args := #[s, x], argTypes := #[t, t] })
    (ht : P.underlying t = some (.slice e)) (hinfo : (P.info? e).map (fun i => (i.zero, i.size, i.bytes)) = some (some (.int .i64 0), 1, 8))
    (v : Value) (xs : List Int) (p : Int) (ok : Nat → Prop) (hs : a.eval s = v) (hx : a.eval x = .slice (some ⟨W.heap.size, 0, none⟩) 1 1) (hfresh : ∀ k, W.heap.size ≤ k → ok k)
    (HO : (Kd.int .i64).R e W base ok v xs) (HB : Below base w0 W) (hbase : base ≤ W.heap.size) (hl : (xs.length + 1) * 8 ≤ 140737488355328)
    (h : ∀ v1 w1, (Kd.int .i64).R e w1 base ok v1 (xs ++ [p]) → Below base w0 w1 → W.grownBy w1 v.ownBlock → (v1.ownBlock = v.ownBlock ∨ ∃ b, v1.ownBlock = some b ∧ W.heap.size ≤ b) →
      (∀ A m ys, (Kd.int .i64).C W A m ys → m ≤ xs.length → (∀ ad, A = some ad → ad.off = 0) → (Kd.int .i64).C w1 A m ys) → wpList P ops Q rest (a.put o.dst v1) w1) :
    wpList P ops Q (o :: rest) a (W.alloc (.cells [Value.int .i64 p].toArray e)) := by
  have hown := Kd.own_of_R HO
  rcases hown.2 with ⟨rfl, h0⟩ | ⟨g, cap, cur, rfl, hgb, hh, hn, hcap, hcs, htk⟩
  · refine Kd.R_append (Kd.int .i64) (w0 := w0) base hgd s x t e (.int .i64 0) 8 ho ht hinfo rfl (by decide) (by omega) _ xs p [.int .i64 p] ok (fun _ => False) hs hx rfl (fun _ hk => hk.elim) hfresh HO HB hbase hl ?_
    intro v1 w1 ho1 hb1 hg1 hat1
    refine h v1 w1 ho1 hb1 hg1 hat1 ?_
    intro A m ys hc _ _
    exact Kd.C_below hc (dvGrown hg1)
  · obtain ⟨i0, hi, hzz⟩ := Option.map_eq_some_iff.1 hinfo
    simp only [Prod.mk.injEq] at hzz
    obtain ⟨hz0, hz1, hz2⟩ := hzz
    have hgl : g < W.heap.size := (Array.getElem?_eq_some_iff.1 hh).1
    have hh' : (W.alloc (.cells [Value.int .i64 p].toArray e)).heap[g]? = some (.cells cur e (0, 0)) := (Below.heap_alloc W _ g hgl).trans hh
    have hlen : (encs (Value.int .i64) xs).length = xs.length := encs_length _
    refine wpList_append_arg (W.alloc (.cells [Value.int .i64 p].toArray e)) hgd s x t ho e i0 (.int .i64 0) 1 8 ht hi hz0 hz1 hz2 rfl (by decide) g 0 xs.length cap (encs (Value.int .i64) xs) hs (by rw [hlen, Nat.mul_one]) ?lo
      ⟨W.heap.size, 0, none⟩ 1 1 [Value.int .i64 p] hx rfl ?nw (by simp [Value.oneCell']) ?sp ?b1 hl ?room ?grow
    case lo =>
      intro j u hj
      rw [blk_cell hh', ← htk, Nat.mul_one] at *
      rw [List.getElem?_take] at hj
      split at hj
      · rw [Nat.zero_add]; simpa using hj
      · cases hj
    case nw => simpa using World.news_of_block (cs := [Value.int .i64 p].toArray) (t := e) (fr := (0, 0)) (heap_alloc_new W (.cells [Value.int .i64 p].toArray e))
    case sp =>
      intro hr j hj
      simp only [List.length_singleton] at hj
      refine ⟨?_, blk_frozen hh' _⟩
      rw [blk_cell hh', Array.getElem?_eq_getElem (by rw [hcs]; omega)]
      rfl
    case b1 => simp only [maxLen]; omega
    case room =>
      intro hr
      have hne : W.heap.size ≠ g := by omega
      show wpList P ops Q rest _ ((W.alloc (.cells [Value.int .i64 p].toArray e)).setCell ⟨g, 0 + xs.length * 1, none⟩ (.int .i64 p))
      rw [show 0 + xs.length * 1 = xs.length from by omega]
      have hb := blk_set hh' xs.length (.int .i64 p)
      refine h _ _ ?_ ?_ ?_ (.inl rfl) ?_
      · refine Kd.R_of_own ⟨?_, .inr ⟨g, cap, _, ?_, hgb, hb, ?_, hcap, ?_, ?_⟩⟩ (fun k hk => ?_)
        · rw [encs_length]; omega
        · rw [List.length_append, List.length_singleton]
        · rw [List.length_append, List.length_singleton]; omega
        · rw [Array.size_setIfInBounds]; exact hcs
        · rw [List.length_append, List.length_singleton, Nat.mul_one, Array.toList_setIfInBounds, List.take_set, List.take_add_one]
          have hcl : xs.length < cur.toList.length := by have := Array.length_toList (xs := cur); omega
          rw [Nat.mul_one] at htk
          rw [List.getElem?_eq_getElem hcl, Option.toList_some, htk, List.set_append_right _ _ (by rw [hlen]; exact Nat.le_refl _), hlen, Nat.sub_self]
          simp [encs]
        · exact HO.1 k hk
      · exact (HB.alloc hbase _).setCell hgb _
      · exact World.grownBy.trans (World.grownBy_alloc W _ _) dvSet
      · intro A m ys hc hm hA
        refine dvC (Kd.C_alloc hc (.cells [Value.int .i64 p].toArray e)) ?_
        intro ad hAd j hj
        refine dvCell (.inr ?_)
        have := hA ad hAd
        simp only [Addr.add]
        split
        · omega
        · show ad.off + j ≠ _
          omega
    case grow =>
      intro hr v1 w1 how hgr
      have hgr' : W.grownBy w1 none := World.grownBy.trans (World.grownBy_alloc W _ _) hgr
      refine h v1 w1 ?_ ?_ ?_ ?_ (fun A m ys hc _ _ => Kd.C_below hc (dvGrown hgr'))
      · refine Kd.R_of_own ?_ (fun k hk => hfresh k ?_)
        · refine ⟨by simp [encs], ?_⟩
          rcases how.2 with ⟨_, h0⟩ | ⟨g', cap', cur', r1, r2, r3, r4, r5, r6, r7⟩
          · omega
          · refine .inr ⟨g', cap', cur', ?_, ?_, r3, ?_, r5, r6, ?_⟩
            · rw [r1, List.length_append, List.length_singleton]
            · simp at r2; omega
            · rw [List.length_append, List.length_singleton]; exact r4
            · rw [List.length_append, List.length_singleton, r7]; simp [encs]
        · have := own_base how k hk
          simp at this
          omega
      · exact (HB.alloc hbase _).grown hgr (by simp; omega) (fun k hk => by cases hk)
      · exact ⟨hgr'.os, hgr'.tape, hgr'.output, hgr'.size, fun k hk _ => hgr'.block k hk (by simp)⟩
      · rcases how.2 with ⟨_, h0⟩ | ⟨g', cap', cur', r1, r2, r3⟩
        · omega
        · refine .inr ⟨g', by rw [r1]; rfl, ?_⟩
          simp at r2; omega
end
theorem dvOff {w : World} {base : Nat} {e : TypeId} {size n m c : Nat} {A : Option Addr} {xs : List Value} (h : w.ownsRow base e size (.slice A n c) m xs) : ∀ ad, A = some ad → ad.off = 0 := by
  rintro ad rfl
  rcases h.2 with ⟨h1, _⟩ | ⟨g, cap, cur, h1, _⟩
  · cases h1
  · injection h1 with h1
    injection h1 with h1
    rw [h1]
set_option maxHeartbeats 8000000 in
set_option maxRecDepth 100000 in
theorem impl_divisors.calls (k : Nat) (a0 : Int) (r : List Int) (w : World) (h : impl_divisors.f k a0 = some r) :
    Calls Try.prog 163 #[.int .i64 a0] w fun e w' => ∃ v0_ : Value, e = .returned (v0_) ∧ Kd.R (Kd.int .i64) 3 w' w.heap.size (fun _ => True) v0_ r ∧ Below w.heap.size w w' := by
  have HB := Aside0.mk (Below.refl w.heap.size w)
  have H : ((impl_factors.f k a0).bind fun t114 => (impl_divisors.l0 k (([1] : List Int)) t114 (t114.length : Int) 0)) = some r := h
  clear h
  obtain ⟨y111, hy111⟩ : ∃ y_ : List Int, y_ = (([1] : List Int)) := ⟨_, rfl⟩
  replace H : ((impl_factors.f k a0).bind fun t114 => (impl_divisors.l0 k y111 t114 (t114.length : Int) 0)) = some r := by first | (rw [hy111]; with_reducible exact H) | (have H2_ := (Option.bind_some _ _).symm.trans H; rw [hy111]; with_reducible exact H2_) | (have H2_ := (Option.bind_some _ _).symm.trans H; with_reducible exact H2_) | with_reducible exact H | (rw [hy111]; exact H) | exact H
  have Ny111 := Aside0.mk hy111
  clear hy111
  replace H := Option.bind_eq_some_iff.mp H
  obtain ⟨t114, A20, H⟩ := H
  replace H : (impl_divisors.l0 k y111 t114 (t114.length : Int) 0) = some r := H
  have A2 := Aside0.mk A20
  clear A20
  have H' := Aside0.mk H
  clear H
  go_enter Try.func163, Try.ntmps163
  go_wp2_with (first | ((with_reducible refine gate_dst (N := 10) rfl ?_); refine Kd.R_lit (Kd.int .i64) _ 3 ?hg (N := 10) ?hd (xs := ([1] : List Int)) (inner := [.int .i64 1]) (ok := fun _ => True) (okp := fun _ => True) ?hr ?hp (fun _ hk => hk) trivial (Below.refl _ _) (Nat.le_refl _) (by simp) ?_; (case hd => rfl); (case hg => rfl); (case hr => first | (go_simp; done) | (go_simp; rfl)); (case hp => exact (Reps.one (show Kd.M (Kd.int .i64) _ _ _ 1 [.int .i64 1] from rfl) (Reps.none _ _))); intro v112 w3 ho4 hb hg_ hnew_; clear hg_ hnew_; (first | rw [← Ny111.out] at ho4 | (simp only [Int.reduceToNat] at ho4; rw [← Ny111.out] at ho4)); have n0_ := Aside0.mk (Kd.R_lower ho4 (below_size (by repeat (first | (with_reducible first | exact HB.out | apply below_alloc | apply pw_below_drewN | apply below_drew1) | exact HB.out)))); have n1_ := Aside0.mk (below_step (by repeat (first | (with_reducible first | exact HB.out | apply below_alloc | apply pw_below_drewN | apply below_drew1) | exact HB.out)) hb); clear HB; have HO113 := n0_; have HB := n1_; clear n0_ n1_; clear hb ho4) | ((with_reducible refine gate_callee (f := 204) rfl ?_); refine goesL_ (some 12) rfl rfl Try.func204 (by kernel_rfl) rfl #[.int .i64 a0] rfl (by (try simp only [List.map_toArray, List.map_cons, List.map_nil]); first | done | rfl | (simp only [List.length_drop, List.length_take]; rfl)) ?_; (with_reducible refine (impl_factors.calls k a0 t114 _ A2.out).mono ?_); rintro e w5 ⟨v115, rfl, ho0, hb⟩; refine ⟨_, rfl, ?_⟩; have n0_ := Aside0.mk (Kd.R_below (by (with_reducible repeat (first | apply Kd.R_alloc | apply Kd.R_drewN | apply Kd.R_drew)); exact HO113.out) hb); have n1_ := Aside0.mk (Kd.S_lower (Kd.S_new' ho0 (Kd.R_lt (by (with_reducible repeat (first | apply Kd.R_alloc | apply Kd.R_drewN | apply Kd.R_drew)); exact HO113.out))) (below_size (by repeat (first | (with_reducible first | exact HB.out | apply below_alloc | apply pw_below_drewN | apply below_drew1) | exact HB.out)))); have n2_ := Aside0.mk (below_step (by repeat (first | (with_reducible first | exact HB.out | apply below_alloc | apply pw_below_drewN | apply below_drew1) | exact HB.out)) hb); clear HO113; clear HB; have HO113 := n0_; have HO116 := n1_; have HB := n2_; clear n0_ n1_ n2_; (try clear hb); (try clear hb2); (try clear hk); (try clear hi); (try clear ho0); obtain ⟨Ao6, co6, eo6⟩ := Kd.S_slice HO116.out; subst eo6))
  go_loopg [3, 14] k (fun kq v3 v14 w' => ∃ (x3_1 : List Int) (x14_1 : Int), v14 = .int .i64 x14_1 ∧ Aside0 (impl_divisors.l0 kq x3_1 t114 (t114.length : Int) x14_1 = some r) ∧ Aside0 (kq ≤ k) ∧ Aside0 (Kd.R (Kd.int .i64) 3 w' w.heap.size (fun _ => True) v3 x3_1) ∧ Aside0 (Kd.S (Kd.slice 3 (Kd.int .i64)) 24 w' w.heap.size (fun k_ => some k_ ≠ (v3 : Value).ownBlock) (.slice Ao6 t114.length co6) t114) ∧ Aside0 (Below w.heap.size w w'))
  case atStart => exact ⟨(y111), (0), (by first | rfl | (simp; done) | (simp [*]; done)), H', ⟨Nat.le_refl _⟩, ⟨by (with_reducible repeat (first | apply Kd.R_alloc | apply Kd.R_drewN | apply Kd.R_drew)); exact HO113.out⟩, ⟨by (with_reducible repeat (first | apply Kd.S_alloc | apply Kd.S_drewN | apply Kd.S_drew)); exact Kd.S_mono HO116.out (fun _ hk => hk.2)⟩, ⟨by repeat (first | (with_reducible first | exact HB.out | apply below_alloc | apply pw_below_drewN | apply below_drew1) | exact HB.out)⟩⟩
  case round =>
    clear H'
    try clear c1
    try clear c2
    try clear p2
    obtain ⟨x3_1, x14_1, rfl, HA, HK1, HO_3, HO_12, HB⟩ := hrel
    cases gk with
    | zero => exact absurd HA.out (by simp [impl_divisors.l0])
    | succ k1 =>
      have H := HA.out
      clear HA
      simp only [impl_divisors.l0] at H
      by_cases c7 : x14_1 < (t114.length : Int)
      · rw [if_pos c7] at H
        have c7b0 : decide (x14_1 < (t114.length : Int)) = true := decide_eq_true c7
        clear c7
        by_cases c8 : 0 ≤ x14_1
        · rw [if_pos c8] at H
          have c8b0 : decide (0 ≤ x14_1) = true := decide_eq_true c8
          clear c8
          by_cases c9 : x14_1 < (t114.length : Int)
          · rw [if_pos c9] at H
            have c9b0 : decide (x14_1 < (t114.length : Int)) = true := decide_eq_true c9
            clear c9
            by_cases c10 : 1 < ((rd_L2 t114 x14_1).length : Int)
            · rw [if_pos c10] at H
              have c10b0 : decide (1 < ((rd_L2 t114 x14_1).length : Int)) = true := decide_eq_true c10
              have c10b1 : decide (1 < (rd_L2 t114 x14_1).length) = true := decide_eq_true (by omega)
              clear c10
              have H' := Aside0.mk H
              clear H
              have p118 : 0 ≤ (x14_1 : Int) := of_decide_eq_true (by first | (with_reducible assumption) | assumption)
              have q118 : x14_1 < (t114.length : Int) := of_decide_eq_true (by first | (with_reducible assumption) | assumption)
              obtain ⟨ad118, A118_0, c118_0, e118, hx118_0, hl118_0, hi118_0⟩ := at_L2 (Kd.S_reads' HO_12.out).2.2 x14_1 p118 q118
              cases e118
              obtain ⟨ce118, hce118, hMe118, hcc118⟩ := Kd.S_get HO_12.out [] x14_1 p118 (by first | exact q118 | exact of_decide_eq_true (by first | (with_reducible assumption) | assumption) | (have e_ := (Kd.S_reads' HO_12.out).1; omega))
              obtain ⟨ve118_0, rfl, ge118_0⟩ := hMe118
              have hv118_0 := hcc118 0 _ rfl
              rw [Nat.add_zero, show ((Kd.slice 3 (Kd.int .i64))).sz = 1 from rfl, Nat.mul_one] at hv118_0
              replace hv118_0 := Option.some.inj (hv118_0.symm.trans hx118_0)
              rw [hv118_0] at ge118_0
              have HL118_0 := Aside0.mk (show Kd.R (Kd.int .i64) 3 _ _ _ _ (rd_L2 t114 x14_1) from ge118_0)
              clear hv118_0 ge118_0
              clear hcc118 hce118
              have HR118_0 := Aside0.mk hi118_0
              have HC118_0 := Aside0.mk hl118_0
              clear hi118_0 hl118_0
              replace p118 := eq_true p118
              replace q118 := eq_true q118
              obtain ⟨Ao11, co11, eo11⟩ := Kd.R_slice HO_3.out
              subst eo11
              have p119 : 0 ≤ (1 : Int) := (by omega)
              have q119 : 1 < ((rd_L2 t114 x14_1).length : Int) := of_decide_eq_true (by first | (with_reducible assumption) | assumption)
              obtain ⟨ad119, e119, hx119_0⟩ := Kd.at_int (by repeat (first | (with_reducible exact HR118_0.out) | (with_reducible refine Kd.C_alloc ?_ _) | (with_reducible refine Kd.C_drewN ?_ _) | (with_reducible refine Kd.C_drew ?_) | exact HR118_0.out)) 1 p119 q119
              cases e119
              (try simp only [show (1 : Int).toNat = 1 from rfl, Nat.reduceMul, Nat.reduceEqDiff, Go.Addr.add, ↓reduceIte] at hx119_0)
              have qi119 : (1 < (rd_L2 t114 x14_1).length) = True := eq_true (by omega)
              (try rw [show ((1 : Int)).toNat = 1 from rfl] at hx119_0)
              replace p119 := eq_true p119
              replace q119 := eq_true q119
              go_wp2
              go_loopg [3, 7, 23] k1 (fun kq v3 v7 v23 w' => ∃ (x3_2 : List Int) (x7_2 : Int) (x23_2 : Int), v7 = .int .i64 x7_2 ∧ v23 = .int .i64 x23_2 ∧ Aside0 (impl_divisors.l1 kq x3_2 (rd_L2 t114 x14_1) (x3_1.length : Int) x7_2 t114 (t114.length : Int) x14_1 (rd (rd_L2 t114 x14_1) 1) x23_2 = some r) ∧ Aside0 (kq ≤ k1) ∧ Aside0 (Kd.R (Kd.int .i64) 3 w' w.heap.size (fun _ => True) v3 x3_2) ∧ Aside0 (Kd.S (Kd.slice 3 (Kd.int .i64)) 24 w' w.heap.size (fun k_ => some k_ ≠ (v3 : Value).ownBlock) (.slice (some ad118) t114.length co6) t114) ∧ Aside0 (Kd.R (Kd.int .i64) 3 w' w.heap.size (fun k_ => some k_ ≠ (v3 : Value).ownBlock) (.slice (some ad119) (rd_L2 t114 x14_1).length c118_0) (rd_L2 t114 x14_1)) ∧ Aside0 (Below w.heap.size w w'))
              case atStart => exact ⟨(x3_1), (1), (0), (by first | rfl | (simp; done) | (simp [*]; done)), (by first | rfl | (simp; done) | (simp [*]; done)), H', ⟨Nat.le_refl _⟩, ⟨by (with_reducible repeat (first | apply Kd.R_alloc | apply Kd.R_drewN | apply Kd.R_drew)); exact HO_3.out⟩, ⟨by (with_reducible repeat (first | apply Kd.S_alloc | apply Kd.S_drewN | apply Kd.S_drew)); exact HO_12.out⟩, ⟨by (with_reducible repeat (first | apply Kd.R_alloc | apply Kd.R_drewN | apply Kd.R_drew)); first | exact HL118_0.out | exact Kd.R_mono HL118_0.out (fun _ hk => hk.1)⟩, ⟨by repeat (first | (with_reducible first | exact HB.out | apply below_alloc | apply pw_below_drewN | apply below_drew1) | exact HB.out)⟩⟩
              case round =>
                clear H'
                try clear c1
                try clear p1
                try clear q1
                try clear hx1
                try clear qi1
                try clear c2
                try clear p2
                try clear c7
                try clear c7b0
                try clear c8
                try clear c8b0
                try clear c9
                try clear c9b0
                try clear c10
                try clear c10b0
                try clear c10b1
                try clear c11
                try clear p11
                try clear q11
                try clear hx11
                try clear qi11
                try clear hx118_0
                try clear hx119_0
                try clear p118
                try clear p119
                try clear p2
                try clear q118
                try clear q119
                obtain ⟨x3_2, x7_2, x23_2, rfl, rfl, HA, HK2, HO_3, HO_12, HLf, HB⟩ := hrel
                have HR118_0 := Aside0.mk (Kd.R_reads' HLf.out).2.2
                cases gk with
                | zero => exact absurd HA.out (by simp [impl_divisors.l1])
                | succ k2 =>
                  have H := HA.out
                  clear HA
                  simp only [impl_divisors.l1] at H
                  by_cases c12 : x23_2 < (rd (rd_L2 t114 x14_1) 1)
                  · rw [if_pos c12] at H
                    have c12b0 : decide (x23_2 < (rd (rd_L2 t114 x14_1) 1)) = true := decide_eq_true c12
                    clear c12
                    by_cases c13 : 0 < ((rd_L2 t114 x14_1).length : Int)
                    · rw [if_pos c13] at H
                      have c13b0 : decide (0 < ((rd_L2 t114 x14_1).length : Int)) = true := decide_eq_true c13
                      have c13b1 : decide (0 < (rd_L2 t114 x14_1).length) = true := decide_eq_true (by omega)
                      clear c13
                      by_cases c14 : 0 ≤ (x3_1.length : Int)
                      · rw [if_pos c14] at H
                        have c14b0 := eq_true c14
                        have c14b1 : decide (0 ≤ (x3_1.length : Int)) = true := decide_eq_true c14
                        clear c14
                        by_cases c15 : (x3_1.length : Int) ≤ (x3_2.length : Int)
                        · rw [if_pos c15] at H
                          have c15b0 := eq_true c15
                          have c15b1 : decide ((x3_1.length : Int) ≤ (x3_2.length : Int)) = true := decide_eq_true c15
                          clear c15
                          obtain ⟨y121, hy121⟩ : ∃ y_ : List Int, y_ = (x3_2.take ((x3_1.length : Int) : Int).toNat) := ⟨_, rfl⟩
                          replace H : (impl_divisors.l2 k2 x3_2 (rd_L2 t114 x14_1) (x3_1.length : Int) (wrap64 (x7_2 * (rd (rd_L2 t114 x14_1) 0))) t114 (t114.length : Int) x14_1 (rd (rd_L2 t114 x14_1) 1) x23_2 y121 (y121.length : Int) 0) = some r := by first | (rw [hy121]; with_reducible exact H) | (have H2_ := (Option.bind_some _ _).symm.trans H; rw [hy121]; with_reducible exact H2_) | (have H2_ := (Option.bind_some _ _).symm.trans H; with_reducible exact H2_) | with_reducible exact H | (rw [hy121]; exact H) | exact H
                          have Ny121 := Aside0.mk hy121
                          clear hy121
                          have H' := Aside0.mk H
                          clear H
                          have p120 : 0 ≤ (0 : Int) := (by omega)
                          have q120 : 0 < ((rd_L2 t114 x14_1).length : Int) := of_decide_eq_true (by first | (with_reducible assumption) | assumption)
                          obtain ⟨ad120, e120, hx120_0⟩ := Kd.at_int HR118_0.out 0 p120 q120
                          obtain rfl : ad119 = ad120 := (by injection e120)
                          have qi120 : (0 < (rd_L2 t114 x14_1).length) = True := eq_true (by omega)
                          (try rw [show ((0 : Int)).toNat = 0 from rfl] at hx120_0)
                          (try rw [Addr.add_zero'] at hx120_0)
                          (try replace hx120_0 := (HB.out.cell (World.block_lt_of_cell? w _ hx120_0)).trans hx120_0)
                          replace p120 := eq_true p120
                          replace q120 := eq_true q120
                          obtain ⟨Ao17, co17, eo17⟩ := Kd.R_slice HO_3.out
                          subst eo17
                          have q16 : ((x3_1.length : Int) : Int) ≤ ((x3_2.length : Int) : Int) := of_decide_eq_true (by first | (with_reducible assumption) | assumption)
                          obtain ⟨i016, hi016, _, hsz16, _⟩ := info_parts info3
                          have hroom16 : x3_2.length ≤ co17 := (Kd.R_reads' HO_3.out).2.1
                          have hC16 : Kd.C (Kd.int .i64) _ Ao17 x3_2.length x3_2 := (Kd.R_reads' HO_3.out).2.2
                          have hcut16 := cut_to (P := Try.prog) 24 3 .i64 Try.underlying24 hi016 Ao17 x3_2.length co17 (x3_1.length : Int) (of_decide_eq_true (by first | (with_reducible assumption) | assumption)) q16 hroom16
                          have hr16 := Kd.C_take (m := ((x3_1.length : Int) : Int).toNat) hC16 (by omega)
                          have hy16 : y121.length = ((x3_1.length : Int) : Int).toNat := (by rw [Ny121.out, List.length_take]; omega)
                          rw [← Ny121.out] at hr16
                          rw [← hy16] at hcut16
                          have HR124 := Aside0.mk hr16
                          have hA0_ := Aside0.mk (dvOff (Kd.own_of_R HO_3.out))
                          have HC124 := Aside0.mk (show y121.length ≤ co17 from by omega)
                          clear hr16 hC16 hroom16 hi016 hsz16
                          have KY16 := Aside0.mk hy16
                          clear hy16
                          have KL16 := Aside0.mk (show ((x3_1.length : Int) : Int).toNat ≤ x3_2.length from by omega)
                          replace q16 := eq_true q16
                          go_wp2
                          go_loopg [3, 34] k2 (fun kq v3 v34 w' => ∃ (x3_3 : List Int) (x34_3 : Int), v34 = .int .i64 x34_3 ∧ Aside0 (impl_divisors.l2 kq x3_3 (rd_L2 t114 x14_1) (x3_1.length : Int) (wrap64 (x7_2 * (rd (rd_L2 t114 x14_1) 0))) t114 (t114.length : Int) x14_1 (rd (rd_L2 t114 x14_1) 1) x23_2 y121 (y121.length : Int) x34_3 = some r) ∧ Aside0 (kq ≤ k2) ∧ Aside0 (Kd.R (Kd.int .i64) 3 w' w.heap.size (fun _ => True) v3 x3_3) ∧ Aside0 (Kd.S (Kd.slice 3 (Kd.int .i64)) 24 w' w.heap.size (fun k_ => some k_ ≠ (v3 : Value).ownBlock) (.slice (some ad118) t114.length co6) t114) ∧ Aside0 (Kd.R (Kd.int .i64) 3 w' w.heap.size (fun k_ => some k_ ≠ (v3 : Value).ownBlock) (.slice (some ad119) (rd_L2 t114 x14_1).length c118_0) (rd_L2 t114 x14_1)) ∧ Aside0 (Kd.C (Kd.int .i64) w' Ao17 y121.length y121) ∧ Aside0 (y121.length ≤ x3_3.length) ∧ Aside0 (Below w.heap.size w w'))
                          case atStart => exact ⟨(x3_2), (0), (by first | rfl | (simp; done) | (simp [*]; done)), H', ⟨Nat.le_refl _⟩, ⟨by (with_reducible repeat (first | apply Kd.R_alloc | apply Kd.R_drewN | apply Kd.R_drew)); exact HO_3.out⟩, ⟨by (with_reducible repeat (first | apply Kd.S_alloc | apply Kd.S_drewN | apply Kd.S_drew)); exact HO_12.out⟩, ⟨by (with_reducible repeat (first | apply Kd.R_alloc | apply Kd.R_drewN | apply Kd.R_drew)); first | exact HLf.out | exact Kd.R_mono HLf.out (fun _ hk => hk.1)⟩, ⟨by (with_reducible repeat (first | apply Kd.C_alloc | apply Kd.C_drewN | apply Kd.C_drew)); exact HR124.out⟩, ⟨by have := KY16.out; have := KL16.out; omega⟩, ⟨by repeat (first | (with_reducible first | exact HB.out | apply below_alloc | apply pw_below_drewN | apply below_drew1) | exact HB.out)⟩⟩
                          case round =>
                            clear H'
                            try clear c1
                            try clear p1
                            try clear q1
                            try clear hx1
                            try clear qi1
                            try clear c2
                            try clear p2
                            try clear p6
                            try clear c7
                            try clear c7b0
                            try clear c8
                            try clear c8b0
                            try clear c9
                            try clear c9b0
                            try clear c10
                            try clear c10b0
                            try clear c10b1
                            try clear c11
                            try clear p11
                            try clear q11
                            try clear hx11
                            try clear qi11
                            try clear c12
                            try clear c12b0
                            try clear p12
                            try clear q12
                            try clear hx12
                            try clear qi12
                            try clear c13
                            try clear c13b0
                            try clear c13b1
                            try clear c14
                            try clear c14b0
                            try clear c14b1
                            try clear c15
                            try clear c15b0
                            try clear c15b1
                            try clear c16
                            try clear q16
                            try clear hx118_0
                            try clear hx119_0
                            try clear hx120_0
                            try clear p1
                            try clear p11
                            try clear p118
                            try clear p119
                            try clear p120
                            try clear p2
                            try clear q1
                            try clear q11
                            try clear q118
                            try clear q119
                            try clear q120
                            try clear q16
                            clear HR124
                            clear HO_3
                            clear HO_12
                            clear HLf
                            obtain ⟨x3_3, x34_3, rfl, HA, HK3, HO_3, HO_12, HLf, HR124, HCl, HB⟩ := hrel
                            have HR118_0 := Aside0.mk (Kd.R_reads' HLf.out).2.2
                            cases gk with
                            | zero => exact absurd HA.out (by simp [impl_divisors.l2])
                            | succ k3 =>
                              have H := HA.out
                              clear HA
                              simp only [impl_divisors.l2] at H
                              by_cases c18 : x34_3 < (y121.length : Int)
                              · rw [if_pos c18] at H
                                have c18b0 : decide (x34_3 < (y121.length : Int)) = true := decide_eq_true c18
                                clear c18
                                by_cases c19 : 0 ≤ x34_3
                                · rw [if_pos c19] at H
                                  have c19b0 : decide (0 ≤ x34_3) = true := decide_eq_true c19
                                  clear c19
                                  by_cases c20 : x34_3 < (y121.length : Int)
                                  · rw [if_pos c20] at H
                                    have c20b0 : decide (x34_3 < (y121.length : Int)) = true := decide_eq_true c20
                                    clear c20
                                    by_cases c21 : x3_3.length < 17592186044416
                                    · rw [if_pos c21] at H
                                      have LMc21 := Aside0.mk c21
                                      clear c21
                                      obtain ⟨y126, hy126⟩ : ∃ y_ : List Int, y_ = (x3_3 ++ [wrap64 ((rd y121 x34_3) * (wrap64 (x7_2 * (rd (rd_L2 t114 x14_1) 0))))]) := ⟨_, rfl⟩
                                      replace H : (impl_divisors.l2 k3 y126 (rd_L2 t114 x14_1) (x3_1.length : Int) (wrap64 (x7_2 * (rd (rd_L2 t114 x14_1) 0))) t114 (t114.length : Int) x14_1 (rd (rd_L2 t114 x14_1) 1) x23_2 y121 (y121.length : Int) (wrap64 (x34_3 + 1))) = some r := by first | (rw [hy126]; with_reducible exact H) | (have H2_ := (Option.bind_some _ _).symm.trans H; rw [hy126]; with_reducible exact H2_) | (have H2_ := (Option.bind_some _ _).symm.trans H; with_reducible exact H2_) | with_reducible exact H | (rw [hy126]; exact H) | exact H
                                      have Ny126 := Aside0.mk hy126
                                      clear hy126
                                      have H' := Aside0.mk H
                                      clear H
                                      have p125 : 0 ≤ (x34_3 : Int) := of_decide_eq_true (by first | (with_reducible assumption) | assumption)
                                      have q125 : x34_3 < (y121.length : Int) := of_decide_eq_true (by first | (with_reducible assumption) | assumption)
                                      obtain ⟨ad125, e125, hx125_0⟩ := Kd.at_int HR124.out x34_3 p125 q125
                                      cases e125
                                      (try replace hx125_0 := (HB.out.cell (World.block_lt_of_cell? w _ hx125_0)).trans hx125_0)
                                      replace p125 := eq_true p125
                                      replace q125 := eq_true q125
                                      go_wp2_with (first | ((with_reducible refine gate_builtin (b := .append) (xs := #[.tmp 38, .tmp 42]) rfl ?_); at_builtin; refine dvAppend (w0 := w) w.heap.size rfl (.tmp 38) (.tmp 42) 24 3 rfl Try.underlying24 info3 u3 x3_3 (wrap64 ((rd y121 x34_3) * (wrap64 (x7_2 * (rd (rd_L2 t114 x14_1) 0))))) (fun _ => True) rfl rfl ?aF ?aO ?aB ?aS ?aL ?_; (case aB => exact (by repeat (first | (with_reducible first | exact HB.out | apply below_alloc | apply pw_below_drewN | apply below_drew1) | exact HB.out))); (case aF => exact (fun _ _ => trivial)); (case aO => exact (by (with_reducible repeat (first | apply Kd.R_alloc | apply Kd.R_drewN | apply Kd.R_drew)); exact HO_3.out)); (case aS => exact (below_size (by repeat (first | (with_reducible first | exact HB.out | apply below_alloc | apply pw_below_drewN | apply below_drew1) | exact HB.out)))); (case aL => have := LMc21.out; omega); intro v127 w22 ho hb hg hat hc; rw [← Ny126.out] at ho; have n9_ := Aside0.mk (Kd.R_after (ok := (fun _ => True)) (by (with_reducible repeat (first | apply Kd.R_alloc | apply Kd.R_drewN | apply Kd.R_drew)); exact Kd.R_mono HLf.out (fun _ hk => ⟨trivial, hk⟩)) hg hat); clear HLf HR118_0; have HLf := n9_; clear n9_; have n8_ := Aside0.mk (hc _ _ _ (by (with_reducible repeat (first | apply Kd.C_alloc | apply Kd.C_drewN | apply Kd.C_drew)); exact HR124.out) HCl.out hA0_.out); clear HR124; have HR124 := n8_; clear n8_; have n0_ := Aside0.mk (Kd.S_after (ok := (fun _ => True)) (by (with_reducible repeat (first | apply Kd.S_alloc | apply Kd.S_drewN | apply Kd.S_drew)); exact Kd.S_mono HO_12.out (fun _ hk => ⟨trivial, hk⟩)) hg hat); have n1_ := Aside0.mk (hb); have n2_ := Aside0.mk (ho); clear HO_12; clear HB; clear HO_3; have HO_12 := n0_; have HB := n1_; have HO128 := n2_; clear n0_ n1_ n2_; clear hc ho hb hg hat))
                                      go_roundg k3
                                      case measure => have := HK1.out; have := HK2.out; have := HK3.out; omega
                                      case rel => exact ⟨(y126), (wrap64 (x34_3 + 1)), (by first | rfl | (simp; done) | (simp [*]; done)), H', ⟨by have := HK1.out; have := HK2.out; have := HK3.out; omega⟩, ⟨by (with_reducible repeat (first | apply Kd.R_alloc | apply Kd.R_drewN | apply Kd.R_drew)); exact HO128.out⟩, ⟨by (with_reducible repeat (first | apply Kd.S_alloc | apply Kd.S_drewN | apply Kd.S_drew)); exact Kd.S_mono HO_12.out (fun _ hk => hk.2)⟩, ⟨by (with_reducible repeat (first | apply Kd.R_alloc | apply Kd.R_drewN | apply Kd.R_drew)); first | exact HLf.out | exact Kd.R_mono HLf.out (fun _ hk => hk.2)⟩, ⟨by (with_reducible repeat (first | apply Kd.C_alloc | apply Kd.C_drewN | apply Kd.C_drew)); exact HR124.out⟩, ⟨by have h1_ := HCl.out; have h2_ := congrArg List.length Ny126.out; rw [List.length_append] at h2_; omega⟩, ⟨by repeat (first | (with_reducible first | exact HB.out | apply below_alloc | apply pw_below_drewN | apply below_drew1) | exact HB.out)⟩⟩
                                    · rw [if_neg c21] at H
                                      exact absurd H (by simp)
                                  · rw [if_neg c20] at H
                                    exact absurd H (by simp)
                                · rw [if_neg c19] at H
                                  exact absurd H (by simp)
                              · rw [if_neg c18] at H
                                have c18b0 : decide (x34_3 < (y121.length : Int)) = false := decide_eq_false c18
                                clear c18
                                have H' := Aside0.mk H
                                clear H
                                go_wp2
                                go_roundg k3
                                case measure => have := HK1.out; have := HK2.out; have := HK3.out; omega
                                case rel => exact ⟨(x3_3), ((wrap64 (x7_2 * (rd (rd_L2 t114 x14_1) 0)))), (wrap64 (x23_2 + 1)), (by first | rfl | (simp; done) | (simp [*]; done)), (by first | rfl | (simp; done) | (simp [*]; done)), H', ⟨by have := HK1.out; have := HK2.out; have := HK3.out; omega⟩, ⟨by (with_reducible repeat (first | apply Kd.R_alloc | apply Kd.R_drewN | apply Kd.R_drew)); exact HO_3.out⟩, ⟨by (with_reducible repeat (first | apply Kd.S_alloc | apply Kd.S_drewN | apply Kd.S_drew)); exact HO_12.out⟩, ⟨by (with_reducible repeat (first | apply Kd.R_alloc | apply Kd.R_drewN | apply Kd.R_drew)); first | exact HLf.out | exact Kd.R_mono HLf.out (fun _ hk => hk.2)⟩, ⟨by repeat (first | (with_reducible first | exact HB.out | apply below_alloc | apply pw_below_drewN | apply below_drew1) | exact HB.out)⟩⟩
                        · rw [if_neg c15] at H
                          exact absurd H (by simp)
                      · rw [if_neg c14] at H
                        exact absurd H (by simp)
                    · rw [if_neg c13] at H
                      exact absurd H (by simp)
                  · rw [if_neg c12] at H
                    have c12b0 : decide (x23_2 < (rd (rd_L2 t114 x14_1) 1)) = false := decide_eq_false c12
                    clear c12
                    have H' := Aside0.mk H
                    clear H
                    go_wp2
                    go_roundg k2
                    case measure => have := HK1.out; have := HK2.out; omega
                    case rel => exact ⟨(x3_2), (wrap64 (x14_1 + 1)), (by first | rfl | (simp; done) | (simp [*]; done)), H', ⟨by have := HK1.out; have := HK2.out; omega⟩, ⟨by (with_reducible repeat (first | apply Kd.R_alloc | apply Kd.R_drewN | apply Kd.R_drew)); exact HO_3.out⟩, ⟨by (with_reducible repeat (first | apply Kd.S_alloc | apply Kd.S_drewN | apply Kd.S_drew)); exact HO_12.out⟩, ⟨by repeat (first | (with_reducible first | exact HB.out | apply below_alloc | apply pw_below_drewN | apply below_drew1) | exact HB.out)⟩⟩
            · rw [if_neg c10] at H
              exact absurd H (by simp)
          · rw [if_neg c9] at H
            exact absurd H (by simp)
        · rw [if_neg c8] at H
          exact absurd H (by simp)
      · rw [if_neg c7] at H
        have c7b0 : decide (x14_1 < (t114.length : Int)) = false := decide_eq_false c7
        clear c7
        replace H := Option.bind_eq_some_iff.mp H
        obtain ⟨t117, A230, H⟩ := H
        replace H : (some t117) = some r := H
        have A23 := Aside0.mk A230
        clear A230
        obtain rfl := Option.some.inj H
        obtain ⟨Ao24, co24, eo24⟩ := Kd.R_slice HO_3.out
        subst eo24
        go_wp2_with (first | ((with_reducible refine gate_callee (f := 195) rfl ?_); refine goesL_ (some 48) rfl rfl Try.func195 (by kernel_rfl) rfl #[.slice Ao24 x3_1.length co24] rfl (by (try simp only [List.map_toArray, List.map_cons, List.map_nil]); first | done | rfl | (simp only [List.length_drop, List.length_take]; rfl)) ?_; (with_reducible refine (slices_Sort_int_int.calls (fun k_ => some k_ = (.slice Ao24 x3_1.length co24 : Value).ownBlock) (.slice Ao24 x3_1.length co24) x3_1 t117 w _ ?side1 ?side2 A23.out).mono ?_); (case side1 => repeat (first | (with_reducible first | exact HB.out | apply below_alloc | apply pw_below_drewN | apply below_drew1) | exact HB.out)); (case side2 => exact Kd.R_tight rfl HO_3.out); rintro e w25 ⟨rfl, hy0, hb, hkp⟩; refine ⟨_, rfl, ?_⟩; have n0_ := Aside0.mk (Kd.R_reok rfl hy0 (fun k_ e_ => HO_3.out.1 k_ e_)); have n1_ := Aside0.mk (Kd.S_mono (ok' := fun k_ => some k_ ≠ (.slice Ao24 x3_1.length co24 : Value).ownBlock) (Kd.S_keptB (HO_12.out) hkp (fun k_ hk_ hs_ => (hk_) hs_)) (fun k_ hk_ => hk_.1)); have n2_ := Aside0.mk (hb); clear HO_3; clear HO_12; clear HB; have HO_3 := n0_; have HO_12 := n1_; have HB := n2_; clear n0_ n1_ n2_; (try clear hb); (try clear hkp); (try clear hy0)))
        go_ret
        exact ⟨_, by first | rfl | (simp [errW_none, errW_some] <;> rfl) | (simp [*, errW_none, errW_some] <;> rfl), by (with_reducible repeat (first | apply Kd.R_alloc | apply Kd.R_drewN | apply Kd.R_drew)); exact HO_3.out, by repeat (first | (with_reducible first | exact HB.out | apply below_alloc | apply pw_below_drewN | apply below_drew1) | exact HB.out)⟩

end Go.Proofs.Ytfhfbicejddoiaa.PFnDivisorsTold
