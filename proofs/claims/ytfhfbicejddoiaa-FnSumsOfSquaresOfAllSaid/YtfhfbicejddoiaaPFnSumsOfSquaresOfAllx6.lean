-- Written for this claim by a program of this session, out of the translation and given contracts.
import Derived.Test.YtfhfbicejddoiaaPFnSumsOfSquaresOfAllx2
import Derived.Test.YtfhfbicejddoiaaPFnSumsOfSquaresOfAllx3
import Derived.Test.YtfhfbicejddoiaaPFnSumsOfSquaresOfAllx5
import Derived.Test.YtfhfbicejddoiaaPFnSumsOfSquaresOfAllx0
import Derived.Test.YtfhfbicejddoiaaPFnSumsOfSquaresOfAllx1
import Derived.Test.YtfhfbicejddoiaaPFnSumsOfSquaresOfAllx4
namespace Go.Proofs.Ytfhfbicejddoiaa.PFnSumsOfSquaresOfAll
open Go.RowKit Go.Proofs.YtfhfbicejddoiaaW.PrintWords Go.Proofs.YtfhfbicejddoiaaW.PrintLast Go.Proofs.YtfhfbicejddoiaaW.PrintMore
attribute [local go_sem] max2_int min2_int max_two min_two max_three min_three max_four min_four   -- for this text's walks alone
set_option linter.unusedVariables false
set_option linter.unusedSimpArgs false

/-! ### impl_CountInCircle: function 116 -/
def impl_CountInCircle.l0 : Nat → Int → Int → Int → Option (Int × Bool)
  | 0, _, _, _ => none
  | k + 1, x0, x4, x5 => if (wrap64 (x5 * x5)) ≤ x0 then ((impl_rootOf.f (wrap64 (x0 - (wrap64 (x5 * x5))))).bind fun t186 => (impl_CountInCircle.l0 k x0 (wrap64 (x4 + (wrap64 ((wrap64 (2 * t186)) + 1)))) (wrap64 (x5 + 1)))) else (some (x4, true))
def impl_CountInCircle.f (k : Nat) (a0 : Int) : Option (Int × Bool) := (impl_isAsked.f a0).bind fun t184 => (if t184 = true then ((impl_rootOf.f a0).bind fun t185 => (impl_CountInCircle.l0 k a0 0 (wrap64 (-t185)))) else (some (0, false)))
theorem impl_CountInCircle.mono_l : ∀ k, (∀ y0 y1 y2, LeO (impl_CountInCircle.l0 k y0 y1 y2) (impl_CountInCircle.l0 (k + 1) y0 y1 y2))
  | 0 => fun _ _ _ r h => by simp [impl_CountInCircle.l0] at h
  | k + 1 => by
    have ih0 := impl_CountInCircle.mono_l k
    · intro y0 y1 y2
      unfold impl_CountInCircle.l0
      repeat' first
      | (with_reducible exact ih0 _ _ _)
      | (with_reducible exact LeO.refl _)
      | (with_reducible exact LeO.none _)
      | (with_reducible refine LeO.ite ?_ ?_)
      | (with_reducible refine LeO.bind ?_ (fun _ => ?_))
      | exact ih0 _ _ _
      | exact LeO.none _
      | refine LeO.ite ?_ ?_
      | refine LeO.bind ?_ (fun _ => ?_)
theorem impl_CountInCircle.mono : ∀ a0 k, LeO (impl_CountInCircle.f k a0) (impl_CountInCircle.f (k + 1) a0) := by
  intro a0 k
  have ih0 := impl_CountInCircle.mono_l k
  unfold impl_CountInCircle.f
  repeat' first
      | (with_reducible exact ih0 _ _ _)
      | (with_reducible exact LeO.refl _)
      | (with_reducible exact LeO.none _)
      | (with_reducible refine LeO.ite ?_ ?_)
      | (with_reducible refine LeO.bind ?_ (fun _ => ?_))
      | exact ih0 _ _ _
      | exact LeO.none _
      | refine LeO.ite ?_ ?_
      | refine LeO.bind ?_ (fun _ => ?_)
set_option maxHeartbeats 8000000 in
set_option maxRecDepth 100000 in
theorem impl_CountInCircle.calls (k : Nat) (a0 : Int) (r1 : Int) (r2 : Bool) (w : World) (h : impl_CountInCircle.f k a0 = some (r1, r2)) :
    Calls Try.prog 116 #[.int .i64 a0] w fun e w' => e = .returned (.tuple #[.int .i64 r1, .bool r2]) ∧ Drawn0 w w' := by
  have H : ((impl_isAsked.f a0).bind fun t184 => (if t184 = true then ((impl_rootOf.f a0).bind fun t185 => (impl_CountInCircle.l0 k a0 0 (wrap64 (-t185)))) else (some (0, false)))) = some (r1, r2) := h
  clear h
  replace H := Option.bind_eq_some_iff.mp H
  obtain ⟨t184, A20, H⟩ := H
  replace H : (if t184 = true then ((impl_rootOf.f a0).bind fun t185 => (impl_CountInCircle.l0 k a0 0 (wrap64 (-t185)))) else (some (0, false))) = some (r1, r2) := H
  have A2 := Aside0.mk A20
  clear A20
  by_cases c3 : t184 = true
  · subst c3
    have H1 : ((impl_rootOf.f a0).bind fun t185 => (impl_CountInCircle.l0 k a0 0 (wrap64 (-t185)))) = some (r1, r2) := by rw [if_pos rfl] at H; exact H
    clear H
    have H := H1
    clear H1
    replace H := Option.bind_eq_some_iff.mp H
    obtain ⟨t185, A40, H⟩ := H
    replace H : (impl_CountInCircle.l0 k a0 0 (wrap64 (-t185))) = some (r1, r2) := H
    have A4 := Aside0.mk A40
    clear A40
    have H' := Aside0.mk H
    clear H
    go_enter Try.func116, Try.ntmps116
    go_wp2_with (first | ((with_reducible refine gate_callee (f := 146) rfl ?_); refine goesL_ (some 7) rfl rfl Try.func146 (by kernel_rfl) rfl #[.int .i64 a0] rfl (by (try simp only [List.map_toArray, List.map_cons, List.map_nil]); first | done | rfl | (simp only [List.length_drop, List.length_take]; rfl)) ?_; (with_reducible refine (impl_isAsked.calls a0 true _ A2.out).mono ?_); rintro e w' ⟨rfl, ⟨nd, rfl⟩⟩; refine ⟨_, rfl, ?_⟩) | ((with_reducible refine gate_callee (f := 185) rfl ?_); refine goesL_ (some 10) rfl rfl Try.func185 (by kernel_rfl) rfl #[.int .i64 a0] rfl (by (try simp only [List.map_toArray, List.map_cons, List.map_nil]); first | done | rfl | (simp only [List.length_drop, List.length_take]; rfl)) ?_; (with_reducible refine (impl_rootOf.calls a0 t185 _ A4.out).mono ?_); rintro e w' ⟨rfl, ⟨nd, rfl⟩⟩; refine ⟨_, rfl, ?_⟩))
    go_loopg [4, 5] k (fun kq v4 v5 w' => ∃ (x4_1 : Int) (x5_1 : Int), v4 = .int .i64 x4_1 ∧ v5 = .int .i64 x5_1 ∧ Aside0 (impl_CountInCircle.l0 kq a0 x4_1 x5_1 = some (r1, r2)) ∧ Aside0 (kq ≤ k) ∧ Drawn0 w w')
    case atStart => exact ⟨(0), (wrap64 (-t185)), (by first | rfl | (simp; done) | (simp [*]; done)), (by first | rfl | (simp; done) | (simp [*]; done)), H', ⟨Nat.le_refl _⟩, by repeat (first | exact Drawn0.refl _ | apply Drawn0.step)⟩
    case round =>
      clear H'
      try clear c1
      try clear p2
      try clear c3
      obtain ⟨x4_1, x5_1, rfl, rfl, HA, HK1, ⟨m1, rfl⟩⟩ := hrel
      cases gk with
      | zero => exact absurd HA.out (by simp [impl_CountInCircle.l0])
      | succ k1 =>
        have H := HA.out
        clear HA
        simp only [impl_CountInCircle.l0] at H
        by_cases c5 : (wrap64 (x5_1 * x5_1)) ≤ a0
        · rw [if_pos c5] at H
          have c5b0 : decide ((wrap64 (x5_1 * x5_1)) ≤ a0) = true := decide_eq_true c5
          clear c5
          replace H := Option.bind_eq_some_iff.mp H
          obtain ⟨t186, A60, H⟩ := H
          replace H : (impl_CountInCircle.l0 k1 a0 (wrap64 (x4_1 + (wrap64 ((wrap64 (2 * t186)) + 1)))) (wrap64 (x5_1 + 1))) = some (r1, r2) := H
          have A6 := Aside0.mk A60
          clear A60
          have H' := Aside0.mk H
          clear H
          go_wp2_with (first | ((with_reducible refine gate_callee (f := 185) rfl ?_); refine goesL_ (some 25) rfl rfl Try.func185 (by kernel_rfl) rfl #[.int .i64 (wrap64 (a0 - (wrap64 (x5_1 * x5_1))))] rfl (by (try simp only [List.map_toArray, List.map_cons, List.map_nil]); first | done | rfl | (simp only [List.length_drop, List.length_take]; rfl)) ?_; (with_reducible refine (impl_rootOf.calls (wrap64 (a0 - (wrap64 (x5_1 * x5_1)))) t186 _ A6.out).mono ?_); rintro e w' ⟨rfl, ⟨nd, rfl⟩⟩; refine ⟨_, rfl, ?_⟩))
          go_roundg k1
          case measure => have := HK1.out; omega
          case rel => exact ⟨(wrap64 (x4_1 + (wrap64 ((wrap64 (2 * t186)) + 1)))), (wrap64 (x5_1 + 1)), (by first | rfl | (simp; done) | (simp [*]; done)), (by first | rfl | (simp; done) | (simp [*]; done)), H', ⟨by have := HK1.out; omega⟩, by repeat (first | exact Drawn0.refl _ | apply Drawn0.step)⟩
        · rw [if_neg c5] at H
          have c5b0 : decide ((wrap64 (x5_1 * x5_1)) ≤ a0) = false := decide_eq_false c5
          clear c5
          simp only [Option.some.injEq, Prod.mk.injEq] at H
          obtain ⟨rfl, rfl⟩ := H
          go_wp2
          go_ret2
          exact ⟨by first | rfl | (simp; done) | (simp [*]; done), by repeat (first | exact Drawn0.refl _ | apply Drawn0.step)⟩
  · replace c3 := Bool.eq_false_iff.mpr c3
    subst c3
    have H1 : (some (0, false)) = some (r1, r2) := by rw [if_neg (show ¬ (false = true) by decide)] at H; exact H
    clear H
    have H := H1
    clear H1
    simp only [Option.some.injEq, Prod.mk.injEq] at H
    obtain ⟨rfl, rfl⟩ := H
    go_enter Try.func116, Try.ntmps116
    go_wp2_with (first | ((with_reducible refine gate_callee (f := 146) rfl ?_); refine goesL_ (some 7) rfl rfl Try.func146 (by kernel_rfl) rfl #[.int .i64 a0] rfl (by (try simp only [List.map_toArray, List.map_cons, List.map_nil]); first | done | rfl | (simp only [List.length_drop, List.length_take]; rfl)) ?_; (with_reducible refine (impl_isAsked.calls a0 false _ A2.out).mono ?_); rintro e w' ⟨rfl, ⟨nd, rfl⟩⟩; refine ⟨_, rfl, ?_⟩))
    go_ret2
    exact ⟨by first | rfl | (simp; done) | (simp [*]; done), by repeat (first | exact Drawn0.refl _ | apply Drawn0.step)⟩

/-! ### spec_CountInCircle: function 117 -/
def spec_CountInCircle.l0 : Nat → Int → Int → Int → Int → Option (Int × Bool)
  | 0, _, _, _, _ => none
  | k + 1, x0, x4, x5, x6 => if x6 ≤ x5 then ((spec_sqRoot.f k (wrap64 (x0 - (wrap64 (x6 * x6))))).bind fun t189 => (spec_CountInCircle.l0 k x0 (wrap64 (x4 + (wrap64 ((wrap64 (2 * t189)) + 1)))) x5 (wrap64 (x6 + 1)))) else (some (x4, true))
def spec_CountInCircle.f (k : Nat) (a0 : Int) : Option (Int × Bool) := (spec_sqGood.f a0).bind fun t187 => (if t187 = true then ((spec_sqRoot.f k a0).bind fun t188 => (spec_CountInCircle.l0 k a0 0 t188 (wrap64 (-t188)))) else (some (0, false)))
theorem spec_CountInCircle.mono_l : ∀ k, (∀ y0 y1 y2 y3, LeO (spec_CountInCircle.l0 k y0 y1 y2 y3) (spec_CountInCircle.l0 (k + 1) y0 y1 y2 y3))
  | 0 => fun _ _ _ _ r h => by simp [spec_CountInCircle.l0] at h
  | k + 1 => by
    have ih0 := spec_CountInCircle.mono_l k
    · intro y0 y1 y2 y3
      unfold spec_CountInCircle.l0
      repeat' first
      | (with_reducible exact ih0 _ _ _ _)
      | (with_reducible exact spec_sqRoot.mono _ _)
      | (with_reducible exact LeO.refl _)
      | (with_reducible exact LeO.none _)
      | (with_reducible refine LeO.ite ?_ ?_)
      | (with_reducible refine LeO.bind ?_ (fun _ => ?_))
      | exact ih0 _ _ _ _
      | exact spec_sqRoot.mono _ _
      | exact LeO.none _
      | refine LeO.ite ?_ ?_
      | refine LeO.bind ?_ (fun _ => ?_)
theorem spec_CountInCircle.mono : ∀ a0 k, LeO (spec_CountInCircle.f k a0) (spec_CountInCircle.f (k + 1) a0) := by
  intro a0 k
  have ih0 := spec_CountInCircle.mono_l k
  unfold spec_CountInCircle.f
  repeat' first
      | (with_reducible exact ih0 _ _ _ _)
      | (with_reducible exact spec_sqRoot.mono _ _)
      | (with_reducible exact LeO.refl _)
      | (with_reducible exact LeO.none _)
      | (with_reducible refine LeO.ite ?_ ?_)
      | (with_reducible refine LeO.bind ?_ (fun _ => ?_))
      | exact ih0 _ _ _ _
      | exact spec_sqRoot.mono _ _
      | exact LeO.none _
      | refine LeO.ite ?_ ?_
      | refine LeO.bind ?_ (fun _ => ?_)
set_option maxHeartbeats 8000000 in
set_option maxRecDepth 100000 in
theorem spec_CountInCircle.calls (k : Nat) (a0 : Int) (r1 : Int) (r2 : Bool) (w : World) (h : spec_CountInCircle.f k a0 = some (r1, r2)) :
    Calls Try.prog 117 #[.int .i64 a0] w fun e w' => e = .returned (.tuple #[.int .i64 r1, .bool r2]) ∧ Drawn0 w w' := by
  have H : ((spec_sqGood.f a0).bind fun t187 => (if t187 = true then ((spec_sqRoot.f k a0).bind fun t188 => (spec_CountInCircle.l0 k a0 0 t188 (wrap64 (-t188)))) else (some (0, false)))) = some (r1, r2) := h
  clear h
  replace H := Option.bind_eq_some_iff.mp H
  obtain ⟨t187, A20, H⟩ := H
  replace H : (if t187 = true then ((spec_sqRoot.f k a0).bind fun t188 => (spec_CountInCircle.l0 k a0 0 t188 (wrap64 (-t188)))) else (some (0, false))) = some (r1, r2) := H
  have A2 := Aside0.mk A20
  clear A20
  by_cases c3 : t187 = true
  · subst c3
    have H1 : ((spec_sqRoot.f k a0).bind fun t188 => (spec_CountInCircle.l0 k a0 0 t188 (wrap64 (-t188)))) = some (r1, r2) := by rw [if_pos rfl] at H; exact H
    clear H
    have H := H1
    clear H1
    replace H := Option.bind_eq_some_iff.mp H
    obtain ⟨t188, A40, H⟩ := H
    replace H : (spec_CountInCircle.l0 k a0 0 t188 (wrap64 (-t188))) = some (r1, r2) := H
    have A4 := Aside0.mk A40
    clear A40
    have H' := Aside0.mk H
    clear H
    go_enter Try.func117, Try.ntmps117
    go_wp2_with (first | ((with_reducible refine gate_callee (f := 148) rfl ?_); refine goesL_ (some 8) rfl rfl Try.func148 (by kernel_rfl) rfl #[.int .i64 a0] rfl (by (try simp only [List.map_toArray, List.map_cons, List.map_nil]); first | done | rfl | (simp only [List.length_drop, List.length_take]; rfl)) ?_; (with_reducible refine (spec_sqGood.calls a0 true _ A2.out).mono ?_); rintro e w' ⟨rfl, ⟨nd, rfl⟩⟩; refine ⟨_, rfl, ?_⟩) | ((with_reducible refine gate_callee (f := 186) rfl ?_); refine goesL_ (some 11) rfl rfl Try.func186 (by kernel_rfl) rfl #[.int .i64 a0] rfl (by (try simp only [List.map_toArray, List.map_cons, List.map_nil]); first | done | rfl | (simp only [List.length_drop, List.length_take]; rfl)) ?_; (with_reducible refine (spec_sqRoot.calls k a0 t188 _ A4.out).mono ?_); rintro e w' ⟨rfl, ⟨nd, rfl⟩⟩; refine ⟨_, rfl, ?_⟩))
    go_loopg [4, 6] k (fun kq v4 v6 w' => ∃ (x4_1 : Int) (x6_1 : Int), v4 = .int .i64 x4_1 ∧ v6 = .int .i64 x6_1 ∧ Aside0 (spec_CountInCircle.l0 kq a0 x4_1 t188 x6_1 = some (r1, r2)) ∧ Aside0 (kq ≤ k) ∧ Drawn0 w w')
    case atStart => exact ⟨(0), (wrap64 (-t188)), (by first | rfl | (simp; done) | (simp [*]; done)), (by first | rfl | (simp; done) | (simp [*]; done)), H', ⟨Nat.le_refl _⟩, by repeat (first | exact Drawn0.refl _ | apply Drawn0.step)⟩
    case round =>
      clear H'
      try clear c1
      try clear p2
      try clear c3
      obtain ⟨x4_1, x6_1, rfl, rfl, HA, HK1, ⟨m1, rfl⟩⟩ := hrel
      cases gk with
      | zero => exact absurd HA.out (by simp [spec_CountInCircle.l0])
      | succ k1 =>
        have H := HA.out
        clear HA
        simp only [spec_CountInCircle.l0] at H
        by_cases c5 : x6_1 ≤ t188
        · rw [if_pos c5] at H
          have c5b0 : decide (x6_1 ≤ t188) = true := decide_eq_true c5
          clear c5
          replace H := Option.bind_eq_some_iff.mp H
          obtain ⟨t189, A60, H⟩ := H
          replace H : (spec_CountInCircle.l0 k1 a0 (wrap64 (x4_1 + (wrap64 ((wrap64 (2 * t189)) + 1)))) t188 (wrap64 (x6_1 + 1))) = some (r1, r2) := H
          have A6 := Aside0.mk A60
          clear A60
          have H' := Aside0.mk H
          clear H
          go_wp2_with (first | ((with_reducible refine gate_callee (f := 186) rfl ?_); refine goesL_ (some 25) rfl rfl Try.func186 (by kernel_rfl) rfl #[.int .i64 (wrap64 (a0 - (wrap64 (x6_1 * x6_1))))] rfl (by (try simp only [List.map_toArray, List.map_cons, List.map_nil]); first | done | rfl | (simp only [List.length_drop, List.length_take]; rfl)) ?_; (with_reducible refine (spec_sqRoot.calls k1 (wrap64 (a0 - (wrap64 (x6_1 * x6_1)))) t189 _ A6.out).mono ?_); rintro e w' ⟨rfl, ⟨nd, rfl⟩⟩; refine ⟨_, rfl, ?_⟩))
          go_roundg k1
          case measure => have := HK1.out; omega
          case rel => exact ⟨(wrap64 (x4_1 + (wrap64 ((wrap64 (2 * t189)) + 1)))), (wrap64 (x6_1 + 1)), (by first | rfl | (simp; done) | (simp [*]; done)), (by first | rfl | (simp; done) | (simp [*]; done)), H', ⟨by have := HK1.out; omega⟩, by repeat (first | exact Drawn0.refl _ | apply Drawn0.step)⟩
        · rw [if_neg c5] at H
          have c5b0 : decide (x6_1 ≤ t188) = false := decide_eq_false c5
          clear c5
          simp only [Option.some.injEq, Prod.mk.injEq] at H
          obtain ⟨rfl, rfl⟩ := H
          go_wp2
          go_ret2
          exact ⟨by first | rfl | (simp; done) | (simp [*]; done), by repeat (first | exact Drawn0.refl _ | apply Drawn0.step)⟩
  · replace c3 := Bool.eq_false_iff.mpr c3
    subst c3
    have H1 : (some (0, false)) = some (r1, r2) := by rw [if_neg (show ¬ (false = true) by decide)] at H; exact H
    clear H
    have H := H1
    clear H1
    simp only [Option.some.injEq, Prod.mk.injEq] at H
    obtain ⟨rfl, rfl⟩ := H
    go_enter Try.func117, Try.ntmps117
    go_wp2_with (first | ((with_reducible refine gate_callee (f := 148) rfl ?_); refine goesL_ (some 8) rfl rfl Try.func148 (by kernel_rfl) rfl #[.int .i64 a0] rfl (by (try simp only [List.map_toArray, List.map_cons, List.map_nil]); first | done | rfl | (simp only [List.length_drop, List.length_take]; rfl)) ?_; (with_reducible refine (spec_sqGood.calls a0 false _ A2.out).mono ?_); rintro e w' ⟨rfl, ⟨nd, rfl⟩⟩; refine ⟨_, rfl, ?_⟩))
    go_ret2
    exact ⟨by first | rfl | (simp; done) | (simp [*]; done), by repeat (first | exact Drawn0.refl _ | apply Drawn0.step)⟩

/-! ### impl_isMost: function 156 -/
def impl_isMost.f (a0 : Int) : Option (Bool) := if a0 ≥ 0 then (some (decide (a0 ≤ 600))) else (some false)
set_option maxHeartbeats 8000000 in
set_option maxRecDepth 100000 in
theorem impl_isMost.calls (a0 : Int) (r : Bool) (w : World) (h : impl_isMost.f a0 = some r) :
    Calls Try.prog 156 #[.int .i64 a0] w fun e w' => e = .returned (.bool r) ∧ Drawn0 w w' := by
  have H : (if a0 ≥ 0 then (some (decide (a0 ≤ 600))) else (some false)) = some r := h
  clear h
  by_cases c2 : a0 ≥ 0
  · rw [if_pos c2] at H
    have c2b0 : decide (0 ≤ a0) = true := decide_eq_true c2
    clear c2
    obtain rfl := Option.some.inj H
    go_enter Try.func156, Try.ntmps156
    go_wp2
    go_ret
    exact ⟨by first | rfl | (simp; done) | (simp [*]; done), by repeat (first | exact Drawn0.refl _ | apply Drawn0.step)⟩
  · rw [if_neg c2] at H
    have c2b0 : decide (0 ≤ a0) = false := decide_eq_false c2
    clear c2
    obtain rfl := Option.some.inj H
    go_enter Try.func156, Try.ntmps156
    go_wp2
    go_ret
    exact ⟨by first | rfl | (simp; done) | (simp [*]; done), by repeat (first | exact Drawn0.refl _ | apply Drawn0.step)⟩

/-! ### slices_DeleteFunc_int_int: function 157 (its contract is proved by hand) -/
/-- What is kept, each element asked once. -/
def delKeep (q : Int → Option Bool) : List Int → Option (List Int)
  | [] => some []
  | x :: l => (q x).bind fun b => (delKeep q l).bind fun r => some (if b = true then r else x :: r)
theorem delKeep_mono {q q' : Int → Option Bool} (h : ∀ x, LeO (q x) (q' x)) : ∀ l, LeO (delKeep q l) (delKeep q' l)
  | [] => LeO.refl _
  | x :: l => LeO.bind (h x) (fun _ => LeO.bind (delKeep_mono h l) (fun _ => LeO.refl _))
theorem delKeep_some {q : Int → Option Bool} : ∀ {l r : List Int}, delKeep q l = some r → (∀ x ∈ l, q x = some ((q x).getD false)) ∧ r = l.filter (fun x => !(q x).getD false)
  | [], r, h => by simp only [delKeep, Option.some.injEq] at h; subst h; simp
  | x :: l, r, h => by
    obtain ⟨b, hb, h⟩ := Option.bind_eq_some_iff.mp h
    obtain ⟨r', hr, h⟩ := Option.bind_eq_some_iff.mp h
    obtain ⟨h1, h2⟩ := delKeep_some hr
    have hx : (q x).getD false = b := by rw [hb]; rfl
    refine ⟨fun y hy => ?_, ?_⟩
    · rcases List.mem_cons.1 hy with rfl | hy
      · rw [hx]; exact hb
      · exact h1 y hy
    · injection h with h
      rw [← h, List.filter_cons, hx, h2]
      cases b <;> simp
/-- Where the first element is of which p holds, or -1. -/
def idxOf (p : Int → Bool) (l : List Int) : Int := if l.findIdx p < l.length then (l.findIdx p : Int) else -1
theorem rd_nat (l : List Int) (j : Nat) (hj : j < l.length) : rd l (j : Int) = l[j] := by unfold rd; simp [hj]
set_option maxHeartbeats 2000000 in
set_option maxRecDepth 100000 in
theorem idx_calls (p : Int → Bool) (g : Nat) (A0 : Option Addr) (c0 : Nat) (l0 : List Int) (w : World) (hlen : l0.length ≤ 9223372036854775807)
    (hp : ∀ (x : Int) (W : World), x ∈ l0 → Calls Try.prog g #[.int .i64 x] W fun e w' => e = .returned (.bool (p x)) ∧ Below W.heap.size W w')
    (eg : ∀ args w, (callFunc g args).run Try.prog w = .ok (.enter g args) w)
    (hr0 : Kd.C (Kd.int .i64) w A0 l0.length l0) :
    Calls Try.prog 205 #[.slice A0 l0.length c0, .func (.func g) #[] #[]] w fun e w' => e = .returned (.int .i64 (idxOf p l0)) ∧ Below w.heap.size w w' := by
  have HR0 := Aside0.mk hr0
  have HP := Aside0.mk hp
  clear hr0 hp
  go_enter Try.func205, Try.ntmps205
  go_wp2
  go_loopg [5, 8] l0.length (fun gg v5 v8 wr => ∃ kk : Nat, kk ≤ l0.length ∧ l0.length - kk ≤ gg ∧ v8 = .int .i64 kk ∧ Aside0 (Below w.heap.size w wr) ∧ Aside0 (∀ j, (hj : j < l0.length) → j < kk → p l0[j] = false))
  case atStart => exact ⟨0, by omega, by omega, rfl, ⟨Below.refl _ w⟩, ⟨fun j _ hj => absurd hj (Nat.not_lt_zero _)⟩⟩
  case round =>
    obtain ⟨kk, hkk, hgg, rfl, HB, HN⟩ := hrel
    by_cases hlt : kk < l0.length
    · have hltz : (kk : Int) < (l0.length : Int) := by omega
      have c1 : decide ((kk : Int) < (l0.length : Int)) = true := decide_eq_true hltz
      obtain ⟨ad, e1, hx⟩ := Kd.at_int (Kd.C_below HR0.out HB.out) (kk : Int) (by omega) hltz
      cases e1
      rw [rd_nat l0 kk hlt, Int.toNat_natCast] at hx
      have hcall := HP.out l0[kk] wr (List.getElem_mem hlt)
      cases hq : p l0[kk] with
      | true =>
        rw [hq] at hcall
        have HC := Aside0.mk hcall
        have HQ := Aside0.mk hq
        clear hcall hq
        generalize hy : l0[kk] = y at hx HC
        have HY := Aside0.mk hy
        clear hy
        go_wp2_with fail
        refine HC.out.mono ?_
        rintro e w' ⟨rfl, hb'⟩
        have HB2 := Aside0.mk (below_step HB.out hb')
        clear hb'
        go_wp2
        go_ret
        refine ⟨?_, HB2.out⟩
        have : l0.findIdx p = kk := by
          rw [List.findIdx_eq hlt]
          exact ⟨HQ.out, fun j hj => HN.out j (by omega) hj⟩
        unfold idxOf
        rw [this, if_pos hlt]
        rfl
      | false =>
        rw [hq] at hcall
        have HC := Aside0.mk hcall
        have HQ := Aside0.mk hq
        clear hcall hq
        generalize hy : l0[kk] = y at hx HC
        have HY := Aside0.mk hy
        clear hy
        go_wp2_with fail
        refine HC.out.mono ?_
        rintro e w' ⟨rfl, hb'⟩
        have HB2 := Aside0.mk (below_step HB.out hb')
        clear hb'
        go_wp2
        go_roundg (l0.length - (kk + 1))
        case measure => omega
        case rel =>
          refine ⟨kk + 1, by omega, by omega, by go_num, ⟨HB2.out⟩, ⟨fun j hj hjk => ?_⟩⟩
          by_cases he : j = kk
          · subst he; exact HQ.out
          · exact HN.out j hj (by omega)
    · have hltz : ¬ (kk : Int) < (l0.length : Int) := by omega
      have c1 : decide ((kk : Int) < (l0.length : Int)) = false := decide_eq_false hltz
      have hk : kk = l0.length := by omega
      have HK := Aside0.mk hk
      clear hk
      go_wp2
      go_ret
      refine ⟨?_, HB.out⟩
      have : ¬ l0.findIdx p < l0.length := by
        intro hc
        have := List.findIdx_getElem (w := hc)
        rw [HN.out _ hc (by rw [HK.out]; exact hc)] at this
        cases this
      unfold idxOf
      rw [if_neg this]
      rfl
theorem fill_zero {v0 : Value} {g cap n base : Nat} {P : Nat → Prop} : ∀ (m o : Nat) (W : World) (xs : List Int), Kd.R (Kd.int .i64) 3 W base P (.slice (some ⟨g, 0, none⟩) n cap) xs →
    ∃ ys, Kd.R (Kd.int .i64) 3 (W.setCells g o (List.replicate m (.int .i64 0))) base P (.slice (some ⟨g, 0, none⟩) n cap) ys ∧ ys.take o = xs.take o ∧ ys.length = xs.length
  | 0, o, W, xs, h => ⟨xs, h, rfl, rfl⟩
  | m + 1, o, W, xs, h => by
    have h1 := Kd.R_putn h (o : Int) (0 : Int)
    rw [Int.toNat_natCast] at h1
    obtain ⟨ys, h2, h3, h4⟩ := fill_zero (v0 := v0) m (o + 1) _ _ h1
    refine ⟨ys, h2, ?_, by rw [h4, List.length_set]⟩
    have h5 : (ys.take (o + 1)).take o = ((xs.set o 0).take (o + 1)).take o := by rw [h3]
    rw [List.take_take, List.take_take, Nat.min_eq_left (by omega)] at h5
    rw [h5, List.take_set_of_le (by omega)]
theorem take_set_snoc (l : List Int) (i : Nat) (x : Int) (h : i < l.length) : (l.set i x).take (i + 1) = l.take i ++ [x] := by
  rw [List.take_succ_eq_append_getElem (by simpa using h), List.take_set_of_le (by omega)]
  simp
set_option maxHeartbeats 4000000 in
set_option maxRecDepth 100000 in
theorem del_calls (p : Int → Bool) (g : Nat) (P0 : Nat → Prop) (v : Value) (l0 : List Int) (w0 w : World) (hlen : l0.length ≤ 9223372036854775807)
    (hp : ∀ (x : Int) (W : World), x ∈ l0 → Calls Try.prog g #[.int .i64 x] W fun e w' => e = .returned (.bool (p x)) ∧ Below W.heap.size W w')
    (eg : ∀ args w, (callFunc g args).run Try.prog w = .ok (.enter g args) w)
    (hB : Below w0.heap.size w0 w) (ho : Kd.R (Kd.int .i64) 3 w w0.heap.size P0 v l0) :
    Calls Try.prog 157 #[v, .func (.func g) #[] #[]] w fun e w' => ∃ v', e = .returned v' ∧ Kd.R (Kd.int .i64) 3 w' w0.heap.size P0 v' (l0.filter (fun x => !p x)) ∧ Below w0.heap.size w0 w' := by
  obtain ⟨A, c, rfl⟩ := Kd.R_slice ho
  have HO := Aside0.mk ho
  have HB := Aside0.mk hB
  have HI := Aside0.mk (idx_calls p g A c l0 w hlen hp eg (Kd.R_reads' ho).2.2)
  have HP := Aside0.mk hp
  clear ho hB hp
  by_cases hnone : l0.findIdx p < l0.length
  · obtain ⟨k0, hk0⟩ : ∃ k0, k0 = l0.findIdx p := ⟨_, rfl⟩
    have hidx : idxOf p l0 = (k0 : Int) := by unfold idxOf; rw [if_pos hnone, hk0]
    have hk : k0 < l0.length := by omega
    have hpk : p l0[k0] = true := by subst hk0; exact List.findIdx_getElem (w := hnone)
    have hpj : ∀ j, (hj : j < l0.length) → j < k0 → p l0[j] = false := fun j hj hjk => by
      subst hk0
      simpa using List.not_of_lt_findIdx hjk
    rw [hidx] at HI
    have HF := Aside0.mk (And.intro hpk hpj)
    clear hk0 hidx hnone hpk hpj
    obtain ⟨gg0, cc0, ev, gb, gl, cl, hcl⟩ := Kd.R_form HO.out (by omega)
    injection ev with e1 e2 e3
    subst e1 e3
    clear e2
    have HG := Aside0.mk (And.intro gb (And.intro gl hcl))
    clear gb gl hcl
    have hcap := (Kd.R_reads' HO.out).2.1
    have hne1 : ((k0 : Int) == -1) = false := beq_eq_false_iff_ne.2 (by omega)
    go_enter Try.func157, Try.ntmps157
    go_wp2_with fail
    refine HI.out.mono ?_
    rintro e w1 ⟨rfl, hb1⟩
    have HO1 := Aside0.mk (Kd.R_below HO.out hb1)
    have HB1 := Aside0.mk (below_step HB.out hb1)
    clear HO HB HI hb1
    go_wp2
    go_loopg [5, 6, 7] l0.length (fun gg v5 v6 v7 wr => ∃ (i j : Nat) (dk : List Int), v5 = .int .i64 i ∧ v6 = .int .i64 j ∧ j ≤ l0.length ∧ i < j ∧ l0.length - j ≤ gg ∧ Aside0 (Kd.R (Kd.int .i64) 3 wr w0.heap.size P0 (.slice (some ⟨gg0, 0, none⟩) l0.length c) dk) ∧ Aside0 (Below w0.heap.size w0 wr) ∧ Aside0 (dk.length = l0.length ∧ dk.take i = (l0.take j).filter (fun x => !p x) ∧ dk.drop j = l0.drop j))
    case atStart =>
      refine ⟨k0, k0 + 1, l0, rfl, by go_num, by omega, by omega, by omega, HO1, HB1, ⟨rfl, ?_, rfl⟩⟩
      have : l0.take (k0 + 1) = l0.take k0 ++ [l0[k0]] := List.take_succ_eq_append_getElem hk
      rw [this, List.filter_append, List.filter_cons, HF.out.1]
      simp only [Bool.not_true, Bool.false_eq_true, if_false, List.filter_nil, List.append_nil]
      symm
      rw [List.filter_eq_self]
      intro x hx
      obtain ⟨j, hj, rfl⟩ := List.getElem_of_mem hx
      rw [List.length_take] at hj
      rw [List.getElem_take, HF.out.2 j (by omega) (by omega)]; rfl
    case round =>
      obtain ⟨i, j, dk, rfl, rfl, hj, hij, hgg, HR, HBr, HD⟩ := hrel
      by_cases hlt : j < l0.length
      · have hltz : (j : Int) < (l0.length : Int) := by omega
        have c1 : decide ((j : Int) < (l0.length : Int)) = true := decide_eq_true hltz
        have hdl := HD.out.1
        have hgetj : dk[j]'(by omega) = l0[j] := by
          have h1 : (dk.drop j)[0]'(by rw [List.length_drop]; omega) = (l0.drop j)[0]'(by rw [List.length_drop]; omega) := by simp only [HD.out.2.2]
          simpa using h1
        obtain ⟨hx, hfz⟩ := Kd.R_celln 0 HR.out (j : Int) (by omega) (by omega)
        have hrdj : rdOf 0 dk (j : Int) = l0[j] := by
          unfold rdOf; rw [Int.toNat_natCast, List.getD_eq_getElem?_getD, List.getElem?_eq_getElem (by omega)]; exact hgetj
        rw [hrdj, Int.toNat_natCast] at hx
        rw [Int.toNat_natCast] at hfz
        have hcall := HP.out l0[j] wr (List.getElem_mem hlt)
        have hsn : (l0.take (j + 1)).filter (fun x => !p x) = (l0.take j).filter (fun x => !p x) ++ (if p l0[j] = true then [] else [l0[j]]) := by
          rw [List.take_succ_eq_append_getElem hlt, List.filter_append, List.filter_cons]
          cases p l0[j] <;> simp
        have hdrop : l0.drop (j + 1) = (l0.drop j).drop 1 := by rw [List.drop_drop]
        have HS := Aside0.mk (And.intro hsn hdrop)
        have HJ := Aside0.mk (And.intro hdl hrdj)
        clear hsn hdrop hdl hrdj hgetj
        cases hq : p l0[j] with
        | true =>
          rw [hq] at hcall
          have HC := Aside0.mk hcall
          have HQ := Aside0.mk hq
          clear hcall hq
          generalize hy : l0[j] = y at hx HC HQ
          have HY := Aside0.mk hy
          clear hy
          go_wp2_with fail
          refine HC.out.mono ?_
          rintro e w2 ⟨rfl, hb2⟩
          have HR2 := Aside0.mk (Kd.R_below HR.out hb2)
          have HB2 := Aside0.mk (below_step HBr.out hb2)
          clear hb2 HR HBr
          go_wp2
          go_roundg (l0.length - (j + 1))
          case measure => omega
          case rel =>
            refine ⟨i, j + 1, dk, rfl, by go_num, by omega, by omega, by omega, HR2, HB2, ⟨HD.out.1, ?_, ?_⟩⟩
            · rw [HS.out.1, HY.out, HQ.out]; simpa using HD.out.2.1
            · rw [HS.out.2, ← HD.out.2.2, List.drop_drop]
        | false =>
          rw [hq] at hcall
          have HC := Aside0.mk hcall
          have HQ := Aside0.mk hq
          clear hcall hq
          generalize hy : l0[j] = y at hx HC HQ
          have HY := Aside0.mk hy
          clear hy
          go_wp2_with fail
          refine HC.out.mono ?_
          rintro e w2 ⟨rfl, hb2⟩
          have HR2 := Aside0.mk (Kd.R_below HR.out hb2)
          have HB2 := Aside0.mk (below_step HBr.out hb2)
          clear hb2 HR HBr
          obtain ⟨hx2, hf2⟩ := Kd.R_celln 0 HR2.out (i : Int) (by omega) (by omega)
          rw [Int.toNat_natCast] at hx2 hf2
          have HP2 := Kd.R_putg HR2.out (i : Int) y
          rw [Int.toNat_natCast] at HP2
          have HP3 := Aside0.mk HP2
          clear HP2 hx hfz
          have hiz : (i : Int) < (l0.length : Int) := by omega
          go_wp2
          go_roundg (l0.length - (j + 1))
          case measure => omega
          case rel =>
            refine ⟨i + 1, j + 1, dk.set i y, by go_num, by go_num, by omega, by omega, by omega, ⟨HP3.out.1⟩, ⟨below_set HB2.out HG.out.1⟩, ⟨by rw [List.length_set]; exact HD.out.1, ?_, ?_⟩⟩
            · rw [HS.out.1, HY.out, HQ.out, take_set_snoc dk i y (by have := HD.out.1; omega), HD.out.2.1]; rfl
            · rw [HS.out.2, ← HD.out.2.2, List.drop_drop, List.drop_set_of_lt (by omega)]
      · have hltz : ¬ (j : Int) < (l0.length : Int) := by omega
        have c1 : decide ((j : Int) < (l0.length : Int)) = false := decide_eq_false hltz
        obtain ⟨ys, hys, hyt, hyl⟩ := fill_zero (v0 := .bool true) (l0.length - i) i wr dk HR.out
        have HY := Aside0.mk (And.intro hys (And.intro hyt hyl))
        clear hys hyt hyl
        have hdl := Aside0.mk HD.out.1
        have hcl : ∀ ty, (Builtin.clear_ #[24] ty #[.slice (some ⟨gg0, i, none⟩) (l0.length - i) (c - i)]).run Try.prog wr = .ok (.tuple #[]) (wr.setCells gg0 i (List.replicate (l0.length - i) (.int .i64 0))) :=
          fun ty => Lib.run_clear_slice wr _ _ ty _ Try.underlying24 (fun _ => by kernel_rfl) rfl rfl gg0 i _ _ (by omega)
            (fun m hm => by
              have := (Kd.R_celln 0 HR.out ((i + m : Nat) : Int) (by omega) (by omega)).1
              rw [Int.toNat_natCast] at this; rw [this]; rfl)
            (fun m hm => by
              have := (Kd.R_celln 0 HR.out ((i + m : Nat) : Int) (by omega) (by omega)).2
              rw [Int.toNat_natCast] at this; exact this)
        go_wp2
        go_ret
        refine ⟨_, rfl, ?_, HBr.out.trans (Lib.below_setCells_w HG.out.1 _ _ _)⟩
        have ht := Kd.R_take HY.out.1 (m := i) (by rw [HY.out.2.2, hdl.out]; omega)
        rw [HY.out.2.1, HD.out.2.1, List.take_of_length_le (by omega)] at ht
        exact ht
  · have hidx : idxOf p l0 = -1 := by unfold idxOf; rw [if_neg hnone]
    rw [hidx] at HI
    have hall : l0.filter (fun x => !p x) = l0 := by
      rw [List.filter_eq_self]
      intro x hx
      have : l0.findIdx p = l0.length := by have := List.findIdx_le_length (xs := l0) (p := p); omega
      have h2 := List.findIdx_eq_length.1 this x hx
      rw [h2]; rfl
    have HA := Aside0.mk hall
    clear hidx hnone hall
    go_enter Try.func157, Try.ntmps157
    go_wp2_with fail
    refine HI.out.mono ?_
    rintro e w1 ⟨rfl, hb1⟩
    have HO1 := Aside0.mk (Kd.R_below HO.out hb1)
    have HB1 := Aside0.mk (below_step HB.out hb1)
    clear HO HB HI hb1
    go_wp2
    go_ret
    exact ⟨_, rfl, by rw [HA.out]; exact HO1.out, HB1.out⟩
theorem row_len {w : World} {base : Nat} {P : Nat → Prop} {v : Value} {xs : List Int} (h : Kd.R (Kd.int .i64) 3 w base P v xs) : xs.length ≤ 9223372036854775807 := by
  obtain ⟨inner, ho⟩ := Kd.R_own h
  rcases ho.2 with ⟨_, h0⟩ | ⟨g, cap, cur, _, _, _, h1, h2, _⟩
  · omega
  · unfold maxLen at h2; omega

/-! ### impl_upTo: function 158 -/
def impl_upTo.l0 : Nat → Int → Int → List Int → Int → Option (List Int)
  | 0, _, _, _, _ => none
  | k + 1, x1, x2, x7, x8 => if x8 ≤ x1 then (if x7.length < 17592186044416 then (impl_upTo.l0 k x1 x2 (x7 ++ [x8]) (wrap64 (x8 + x2))) else (none)) else (some x7)
def impl_upTo.f (k : Nat) (a0 : Int) (a1 : Int) (a2 : Int) : Option (List Int) := impl_upTo.l0 k a1 a2 (([] : List Int)) a0
theorem impl_upTo.mono_l : ∀ k, (∀ y0 y1 y2 y3, LeO (impl_upTo.l0 k y0 y1 y2 y3) (impl_upTo.l0 (k + 1) y0 y1 y2 y3))
  | 0 => fun _ _ _ _ r h => by simp [impl_upTo.l0] at h
  | k + 1 => by
    have ih0 := impl_upTo.mono_l k
    · intro y0 y1 y2 y3
      unfold impl_upTo.l0
      repeat' first
      | (with_reducible exact ih0 _ _ _ _)
      | (with_reducible exact LeO.refl _)
      | (with_reducible exact LeO.none _)
      | (with_reducible refine LeO.ite ?_ ?_)
      | (with_reducible refine LeO.bind ?_ (fun _ => ?_))
      | exact ih0 _ _ _ _
      | exact LeO.none _
      | refine LeO.ite ?_ ?_
      | refine LeO.bind ?_ (fun _ => ?_)
theorem impl_upTo.mono : ∀ a0 a1 a2 k, LeO (impl_upTo.f k a0 a1 a2) (impl_upTo.f (k + 1) a0 a1 a2) := by
  intro a0 a1 a2 k
  have ih0 := impl_upTo.mono_l k
  unfold impl_upTo.f
  repeat' first
      | (with_reducible exact ih0 _ _ _ _)
      | (with_reducible exact LeO.refl _)
      | (with_reducible exact LeO.none _)
      | (with_reducible refine LeO.ite ?_ ?_)
      | (with_reducible refine LeO.bind ?_ (fun _ => ?_))
      | exact ih0 _ _ _ _
      | exact LeO.none _
      | refine LeO.ite ?_ ?_
      | refine LeO.bind ?_ (fun _ => ?_)
set_option maxHeartbeats 8000000 in
set_option maxRecDepth 100000 in
theorem impl_upTo.calls (k : Nat) (a0 : Int) (a1 : Int) (a2 : Int) (r : List Int) (w : World) (h : impl_upTo.f k a0 a1 a2 = some r) :
    Calls Try.prog 158 #[.int .i64 a0, .int .i64 a1, .int .i64 a2] w fun e w' => ∃ v0_ : Value, e = .returned (v0_) ∧ Kd.R (Kd.int .i64) 3 w' w.heap.size (fun _ => True) v0_ r ∧ Below w.heap.size w w' := by
  have HB := Aside0.mk (Below.refl w.heap.size w)
  have H : (impl_upTo.l0 k a1 a2 (([] : List Int)) a0) = some r := h
  clear h
  obtain ⟨y190, hy190⟩ : ∃ y_ : List Int, y_ = (([] : List Int)) := ⟨_, rfl⟩
  replace H : (impl_upTo.l0 k a1 a2 y190 a0) = some r := by first | (rw [hy190]; with_reducible exact H) | (have H2_ := (Option.bind_some _ _).symm.trans H; rw [hy190]; with_reducible exact H2_) | (have H2_ := (Option.bind_some _ _).symm.trans H; with_reducible exact H2_) | with_reducible exact H | (rw [hy190]; exact H) | exact H
  have Ny190 := Aside0.mk hy190
  clear hy190
  have H' := Aside0.mk H
  clear H
  go_enter Try.func158, Try.ntmps158
  go_wp2_with (first | ((with_reducible refine gate_dst (N := 9) rfl ?_); refine Kd.R_lit (Kd.int .i64) _ 3 ?hg (N := 9) ?hd (xs := ([] : List Int)) (inner := []) (ok := fun _ => True) (okp := fun _ => True) ?hr ?hp (fun _ hk => hk) trivial (Below.refl _ _) (Nat.le_refl _) (by simp) ?_; (case hd => rfl); (case hg => rfl); (case hr => first | (go_simp; done) | (go_simp; rfl)); (case hp => exact (Reps.none _ _)); intro v191 w4 ho5 hb hg_ hnew_; clear hg_ hnew_; (first | rw [← Ny190.out] at ho5 | (simp only [Int.reduceToNat] at ho5; rw [← Ny190.out] at ho5)); have n0_ := Aside0.mk (Kd.R_lower ho5 (below_size (by repeat (first | (with_reducible first | exact HB.out | apply below_alloc | apply pw_below_drewN | apply below_drew1) | exact HB.out)))); have n1_ := Aside0.mk (below_step (by repeat (first | (with_reducible first | exact HB.out | apply below_alloc | apply pw_below_drewN | apply below_drew1) | exact HB.out)) hb); clear HB; have HO192 := n0_; have HB := n1_; clear n0_ n1_; clear hb ho5))
  go_loopg [7, 8] k (fun kq v7 v8 w' => ∃ (x7_1 : List Int) (x8_1 : Int), v8 = .int .i64 x8_1 ∧ Aside0 (impl_upTo.l0 kq a1 a2 x7_1 x8_1 = some r) ∧ Aside0 (kq ≤ k) ∧ Aside0 (Kd.R (Kd.int .i64) 3 w' w.heap.size (fun _ => True) v7 x7_1) ∧ Aside0 (Below w.heap.size w w'))
  case atStart => exact ⟨(y190), (a0), (by first | rfl | (simp; done) | (simp [*]; done)), H', ⟨Nat.le_refl _⟩, ⟨by (with_reducible repeat (first | apply Kd.R_alloc | apply Kd.R_drewN | apply Kd.R_drew)); exact HO192.out⟩, ⟨by repeat (first | (with_reducible first | exact HB.out | apply below_alloc | apply pw_below_drewN | apply below_drew1) | exact HB.out)⟩⟩
  case round =>
    clear H'
    try clear c1
    try clear p2
    obtain ⟨x7_1, x8_1, rfl, HA, HK1, HO_7, HB⟩ := hrel
    cases gk with
    | zero => exact absurd HA.out (by simp [impl_upTo.l0])
    | succ k1 =>
      have H := HA.out
      clear HA
      simp only [impl_upTo.l0] at H
      by_cases c6 : x8_1 ≤ a1
      · rw [if_pos c6] at H
        have c6b0 : decide (x8_1 ≤ a1) = true := decide_eq_true c6
        clear c6
        by_cases c7 : x7_1.length < 17592186044416
        · rw [if_pos c7] at H
          have LMc7 := Aside0.mk c7
          clear c7
          obtain ⟨y193, hy193⟩ : ∃ y_ : List Int, y_ = (x7_1 ++ [x8_1]) := ⟨_, rfl⟩
          replace H : (impl_upTo.l0 k1 a1 a2 y193 (wrap64 (x8_1 + a2))) = some r := by first | (rw [hy193]; with_reducible exact H) | (have H2_ := (Option.bind_some _ _).symm.trans H; rw [hy193]; with_reducible exact H2_) | (have H2_ := (Option.bind_some _ _).symm.trans H; with_reducible exact H2_) | with_reducible exact H | (rw [hy193]; exact H) | exact H
          have Ny193 := Aside0.mk hy193
          clear hy193
          have H' := Aside0.mk H
          clear H
          go_wp2_with (first | ((with_reducible refine gate_builtin (b := .append) (xs := #[.tmp 17, .tmp 19]) rfl ?_); at_builtin; refine Kd.R_append (Kd.int .i64) (w0 := w) w.heap.size rfl (.tmp 17) (.tmp 19) 24 3 (.int .i64 0) 8 rfl Try.underlying24 info3 rfl (by decide) (by omega) u7 x7_1 x8_1 [.int .i64 x8_1] (fun _ => True) (fun _ => False) rfl rfl ?aP (fun _ hk => hk.elim) ?aF ?aO ?aB ?aS ?aL ?_; (case aP => exact rfl); (case aB => exact (by repeat (first | (with_reducible first | exact HB.out | apply below_alloc | apply pw_below_drewN | apply below_drew1) | exact HB.out))); (case aF => exact (fun _ _ => trivial)); (case aO => exact (by (with_reducible repeat (first | apply Kd.R_alloc | apply Kd.R_drewN | apply Kd.R_drew)); exact HO_7.out)); (case aS => exact (below_size (by repeat (first | (with_reducible first | exact HB.out | apply below_alloc | apply pw_below_drewN | apply below_drew1) | exact HB.out)))); (case aL => have := LMc7.out; omega); intro v194 w8 ho hb hg hat; rw [← Ny193.out] at ho; have n0_ := Aside0.mk (hb); have n1_ := Aside0.mk (ho); clear HB; clear HO_7; have HB := n0_; have HO195 := n1_; clear n0_ n1_; clear ho hb hg hat))
          go_roundg k1
          case measure => have := HK1.out; omega
          case rel => exact ⟨(y193), (wrap64 (x8_1 + a2)), (by first | rfl | (simp; done) | (simp [*]; done)), H', ⟨by have := HK1.out; omega⟩, ⟨by (with_reducible repeat (first | apply Kd.R_alloc | apply Kd.R_drewN | apply Kd.R_drew)); exact HO195.out⟩, ⟨by repeat (first | (with_reducible first | exact HB.out | apply below_alloc | apply pw_below_drewN | apply below_drew1) | exact HB.out)⟩⟩
        · rw [if_neg c7] at H
          exact absurd H (by simp)
      · rw [if_neg c6] at H
        have c6b0 : decide (x8_1 ≤ a1) = false := decide_eq_false c6
        clear c6
        obtain rfl := Option.some.inj H
        go_wp2
        go_ret
        exact ⟨_, by first | rfl | (simp [errW_none, errW_some] <;> rfl) | (simp [*, errW_none, errW_some] <;> rfl), by (with_reducible repeat (first | apply Kd.R_alloc | apply Kd.R_drewN | apply Kd.R_drew)); exact HO_7.out, by repeat (first | (with_reducible first | exact HB.out | apply below_alloc | apply pw_below_drewN | apply below_drew1) | exact HB.out)⟩

/-! ### impl_SumsOfTwoUpTo_1: function 189 -/
def impl_SumsOfTwoUpTo_1.f (k : Nat) (a0 : Int) : Option (Bool) := (impl_isSumOfTwo.f k a0).bind fun t196 => (some (!t196))
theorem impl_SumsOfTwoUpTo_1.mono : ∀ a0 k, LeO (impl_SumsOfTwoUpTo_1.f k a0) (impl_SumsOfTwoUpTo_1.f (k + 1) a0) := by
  intro a0 k
  unfold impl_SumsOfTwoUpTo_1.f
  repeat' first
      | (with_reducible exact impl_isSumOfTwo.mono _ _)
      | (with_reducible exact LeO.refl _)
      | (with_reducible exact LeO.none _)
      | (with_reducible refine LeO.ite ?_ ?_)
      | (with_reducible refine LeO.bind ?_ (fun _ => ?_))
      | exact impl_isSumOfTwo.mono _ _
      | exact LeO.none _
      | refine LeO.ite ?_ ?_
      | refine LeO.bind ?_ (fun _ => ?_)
set_option maxHeartbeats 8000000 in
set_option maxRecDepth 100000 in
theorem impl_SumsOfTwoUpTo_1.calls (k : Nat) (a0 : Int) (r : Bool) (w : World) (h : impl_SumsOfTwoUpTo_1.f k a0 = some r) :
    Calls Try.prog 189 #[.int .i64 a0] w fun e w' => e = .returned (.bool r) ∧ Below w.heap.size w w' := by
  have HB := Aside0.mk (Below.refl w.heap.size w)
  have H : ((impl_isSumOfTwo.f k a0).bind fun t196 => (some (!t196))) = some r := h
  clear h
  replace H := Option.bind_eq_some_iff.mp H
  obtain ⟨t196, A20, H⟩ := H
  replace H : (some (!t196)) = some r := H
  have A2 := Aside0.mk A20
  clear A20
  obtain rfl := Option.some.inj H
  go_enter Try.func189, Try.ntmps189
  go_wp2_with (first | ((with_reducible refine gate_callee (f := 187) rfl ?_); refine goesL_ (some 4) rfl rfl Try.func187 (by kernel_rfl) rfl #[.int .i64 a0] rfl (by (try simp only [List.map_toArray, List.map_cons, List.map_nil]); first | done | rfl | (simp only [List.length_drop, List.length_take]; rfl)) ?_; (with_reducible refine (impl_isSumOfTwo.calls k a0 t196 _ A2.out).mono ?_); rintro e w3 ⟨rfl, hb⟩; refine ⟨_, rfl, ?_⟩; have n0_ := Aside0.mk (below_step (by repeat (first | (with_reducible first | exact HB.out | apply below_alloc | apply pw_below_drewN | apply below_drew1) | exact HB.out)) hb); clear HB; have HB := n0_; clear n0_; (try clear hb); (try clear hb2); (try clear hk); (try clear hi)))
  go_ret
  exact ⟨by first | rfl | (simp [errW_none, errW_some] <;> rfl) | (simp [*, errW_none, errW_some] <;> rfl), by repeat (first | (with_reducible first | exact HB.out | apply below_alloc | apply pw_below_drewN | apply below_drew1) | exact HB.out)⟩

/-! ### impl_SumsOfTwoUpTo: function 118 (its contract is proved by hand) -/
def impl_SumsOfTwoUpTo.f (k : Nat) (a0 : Int) : Option (List Int × Bool) := (impl_isMost.f a0).bind fun t => if t = true then ((impl_upTo.f k 1 a0 1).bind fun l => (delKeep (impl_SumsOfTwoUpTo_1.f k) l).bind fun r => some (r, true)) else some (([] : List Int), false)
theorem impl_SumsOfTwoUpTo.mono : ∀ a0 k, LeO (impl_SumsOfTwoUpTo.f k a0) (impl_SumsOfTwoUpTo.f (k + 1) a0) := by
  intro a0 k
  unfold impl_SumsOfTwoUpTo.f
  exact LeO.bind (LeO.refl _) (fun _ => LeO.ite (LeO.bind (impl_upTo.mono _ _ _ _) (fun _ => LeO.bind (delKeep_mono (fun x => impl_SumsOfTwoUpTo_1.mono x k) _) (fun _ => LeO.refl _))) (LeO.refl _))
set_option maxHeartbeats 2000000 in
set_option maxRecDepth 100000 in
theorem impl_SumsOfTwoUpTo.calls (k : Nat) (a0 : Int) (r1 : List Int) (r2 : Bool) (w : World) (h : impl_SumsOfTwoUpTo.f k a0 = some (r1, r2)) :
    Calls Try.prog 118 #[.int .i64 a0] w fun e w' => ∃ v0_ : Value, e = .returned (.tuple #[v0_, .bool r2]) ∧ Kd.R (Kd.int .i64) 3 w' w.heap.size (fun _ => True) v0_ r1 ∧ Below w.heap.size w w' := by
  unfold impl_SumsOfTwoUpTo.f at h
  obtain ⟨t, h1, h⟩ := Option.bind_eq_some_iff.mp h
  have A1 := Aside0.mk h1
  clear h1
  cases t with
  | false =>
    rw [if_neg (by simp)] at h
    injection h with h
    injection h with e1 e2
    subst e1 e2
    go_enter Try.func118, Try.ntmps118
    go_wp2_with (go_at_call 156; refine (impl_isMost.calls a0 false _ A1.out).mono ?_; rintro e w' ⟨rfl, ⟨nd, rfl⟩⟩)
    go_ret2
    exact ⟨_, rfl, Kd.R_nil _ _ _ _ _, by repeat (first | exact Below.refl _ _ | apply below_alloc | apply pw_below_drewN | apply below_drew1)⟩
  | true =>
    rw [if_pos rfl] at h
    obtain ⟨l, h2, h⟩ := Option.bind_eq_some_iff.mp h
    obtain ⟨r, h3, h⟩ := Option.bind_eq_some_iff.mp h
    injection h with h
    injection h with e1 e2
    subst e1 e2
    obtain ⟨h4, h5⟩ := delKeep_some h3
    have A2 := Aside0.mk h2
    have A4 := Aside0.mk h4
    have A5 := Aside0.mk h5
    clear h2 h3 h4 h5
    go_enter Try.func118, Try.ntmps118
    go_wp2_with (go_at_call 156; refine (impl_isMost.calls a0 true _ A1.out).mono ?_; rintro e w' ⟨rfl, ⟨nd, rfl⟩⟩)
    refine (impl_upTo.calls k 1 a0 1 l _ A2.out).mono ?_
    rintro e w2 ⟨v2, rfl, ho, hb⟩
    have HB := Aside0.mk (show Below w.heap.size w w2 from below_step (pw_below_drewN (Below.refl _ w) _) hb)
    have HO := Aside0.mk (show Kd.R (Kd.int .i64) 3 w2 w.heap.size (fun _ => True) v2 l from Kd.R_lower ho (below_size (pw_below_drewN (Below.refl _ w) _)))
    clear ho hb
    go_wp2_with fail
    refine (del_calls (fun x => (impl_SumsOfTwoUpTo_1.f k x).getD false) 189 (fun _ => True) v2 l w _ (row_len HO.out) (fun x W hx => impl_SumsOfTwoUpTo_1.calls k x _ W (A4.out x hx)) (enters_ Try.func189 (by kernel_rfl) rfl) HB.out HO.out).mono ?_
    rintro e w3 ⟨v3, rfl, ho, hb⟩
    have HB3 := Aside0.mk hb
    have HO3 := Aside0.mk ho
    clear ho hb
    go_wp2
    go_ret2
    exact ⟨_, rfl, by rw [A5.out]; exact HO3.out, HB3.out⟩

/-! ### spec_sqMost: function 160 -/
def spec_sqMost.f (a0 : Int) : Option (Bool) := (spec_l1In.f a0 0 600).bind fun t197 => (some t197)
set_option maxHeartbeats 8000000 in
set_option maxRecDepth 100000 in
theorem spec_sqMost.calls (a0 : Int) (r : Bool) (w : World) (h : spec_sqMost.f a0 = some r) :
    Calls Try.prog 160 #[.int .i64 a0] w fun e w' => e = .returned (.bool r) ∧ Drawn0 w w' := by
  have H : ((spec_l1In.f a0 0 600).bind fun t197 => (some t197)) = some r := h
  clear h
  replace H := Option.bind_eq_some_iff.mp H
  obtain ⟨t197, A20, H⟩ := H
  replace H : (some t197) = some r := H
  have A2 := Aside0.mk A20
  clear A20
  obtain rfl := Option.some.inj H
  go_enter Try.func160, Try.ntmps160
  go_wp2_with (first | ((with_reducible refine gate_callee (f := 134) rfl ?_); refine goesL_ (some 4) rfl rfl Try.func134 (by kernel_rfl) rfl #[.int .i64 a0, .int .i64 0, .int .i64 600] rfl (by (try simp only [List.map_toArray, List.map_cons, List.map_nil]); first | done | rfl | (simp only [List.length_drop, List.length_take]; rfl)) ?_; (with_reducible refine (spec_l1In.calls a0 0 600 t197 _ A2.out).mono ?_); rintro e w' ⟨rfl, ⟨nd, rfl⟩⟩; refine ⟨_, rfl, ?_⟩))
  go_ret
  exact ⟨by first | rfl | (simp; done) | (simp [*]; done), by repeat (first | exact Drawn0.refl _ | apply Drawn0.step)⟩

/-! ### spec_SumsOfTwoUpTo: function 119 -/
def spec_SumsOfTwoUpTo.l0 : Nat → Int → List Int → Int → Option (List Int × Bool)
  | 0, _, _, _ => none
  | k + 1, x0, x4, x5 => if x5 ≤ x0 then ((spec_sqTwo.f k x5).bind fun t199 => (if t199 = true then (if x4.length < 17592186044416 then (spec_SumsOfTwoUpTo.l0 k x0 (x4 ++ [x5]) (wrap64 (x5 + 1))) else (none)) else (spec_SumsOfTwoUpTo.l0 k x0 x4 (wrap64 (x5 + 1))))) else (some (x4, true))
def spec_SumsOfTwoUpTo.f (k : Nat) (a0 : Int) : Option (List Int × Bool) := (spec_sqMost.f a0).bind fun t198 => (if t198 = true then (spec_SumsOfTwoUpTo.l0 k a0 ([] : List Int) 1) else (some (([] : List Int), false)))
theorem spec_SumsOfTwoUpTo.mono_l : ∀ k, (∀ y0 y1 y2, LeO (spec_SumsOfTwoUpTo.l0 k y0 y1 y2) (spec_SumsOfTwoUpTo.l0 (k + 1) y0 y1 y2))
  | 0 => fun _ _ _ r h => by simp [spec_SumsOfTwoUpTo.l0] at h
  | k + 1 => by
    have ih0 := spec_SumsOfTwoUpTo.mono_l k
    · intro y0 y1 y2
      unfold spec_SumsOfTwoUpTo.l0
      repeat' first
      | (with_reducible exact ih0 _ _ _)
      | (with_reducible exact spec_sqTwo.mono _ _)
      | (with_reducible exact LeO.refl _)
      | (with_reducible exact LeO.none _)
      | (with_reducible refine LeO.ite ?_ ?_)
      | (with_reducible refine LeO.bind ?_ (fun _ => ?_))
      | exact ih0 _ _ _
      | exact spec_sqTwo.mono _ _
      | exact LeO.none _
      | refine LeO.ite ?_ ?_
      | refine LeO.bind ?_ (fun _ => ?_)
theorem spec_SumsOfTwoUpTo.mono : ∀ a0 k, LeO (spec_SumsOfTwoUpTo.f k a0) (spec_SumsOfTwoUpTo.f (k + 1) a0) := by
  intro a0 k
  have ih0 := spec_SumsOfTwoUpTo.mono_l k
  unfold spec_SumsOfTwoUpTo.f
  repeat' first
      | (with_reducible exact ih0 _ _ _)
      | (with_reducible exact spec_sqTwo.mono _ _)
      | (with_reducible exact LeO.refl _)
      | (with_reducible exact LeO.none _)
      | (with_reducible refine LeO.ite ?_ ?_)
      | (with_reducible refine LeO.bind ?_ (fun _ => ?_))
      | exact ih0 _ _ _
      | exact spec_sqTwo.mono _ _
      | exact LeO.none _
      | refine LeO.ite ?_ ?_
      | refine LeO.bind ?_ (fun _ => ?_)
set_option maxHeartbeats 8000000 in
set_option maxRecDepth 100000 in
theorem spec_SumsOfTwoUpTo.calls (k : Nat) (a0 : Int) (r1 : List Int) (r2 : Bool) (w : World) (h : spec_SumsOfTwoUpTo.f k a0 = some (r1, r2)) :
    Calls Try.prog 119 #[.int .i64 a0] w fun e w' => ∃ v0_ : Value, e = .returned (.tuple #[v0_, .bool r2]) ∧ Kd.R (Kd.int .i64) 3 w' w.heap.size (fun _ => True) v0_ r1 ∧ Below w.heap.size w w' := by
  have HB := Aside0.mk (Below.refl w.heap.size w)
  have H : ((spec_sqMost.f a0).bind fun t198 => (if t198 = true then (spec_SumsOfTwoUpTo.l0 k a0 ([] : List Int) 1) else (some (([] : List Int), false)))) = some (r1, r2) := h
  clear h
  replace H := Option.bind_eq_some_iff.mp H
  obtain ⟨t198, A20, H⟩ := H
  replace H : (if t198 = true then (spec_SumsOfTwoUpTo.l0 k a0 ([] : List Int) 1) else (some (([] : List Int), false))) = some (r1, r2) := H
  have A2 := Aside0.mk A20
  clear A20
  by_cases c3 : t198 = true
  · subst c3
    have H1 : (spec_SumsOfTwoUpTo.l0 k a0 ([] : List Int) 1) = some (r1, r2) := by rw [if_pos rfl] at H; exact H
    clear H
    have H := H1
    clear H1
    have H' := Aside0.mk H
    clear H
    go_enter Try.func119, Try.ntmps119
    go_wp2_with (first | ((with_reducible refine gate_callee (f := 160) rfl ?_); refine goesL_ (some 7) rfl rfl Try.func160 (by kernel_rfl) rfl #[.int .i64 a0] rfl (by (try simp only [List.map_toArray, List.map_cons, List.map_nil]); first | done | rfl | (simp only [List.length_drop, List.length_take]; rfl)) ?_; (with_reducible refine (spec_sqMost.calls a0 true _ A2.out).mono ?_); rintro e w' ⟨rfl, ⟨nd, rfl⟩⟩; refine ⟨_, rfl, ?_⟩))
    go_loopg [4, 5] k (fun kq v4 v5 w' => ∃ (x4_1 : List Int) (x5_1 : Int), v5 = .int .i64 x5_1 ∧ Aside0 (spec_SumsOfTwoUpTo.l0 kq a0 x4_1 x5_1 = some (r1, r2)) ∧ Aside0 (kq ≤ k) ∧ Aside0 (Kd.R (Kd.int .i64) 3 w' w.heap.size (fun _ => True) v4 x4_1) ∧ Aside0 (Below w.heap.size w w'))
    case atStart => exact ⟨(([] : List Int)), (1), (by first | rfl | (simp; done) | (simp [*]; done)), H', ⟨Nat.le_refl _⟩, ⟨by first | exact Kd.R_nil _ _ _ _ _ | exact Kd.N_nil _ _ _ _ _ | exact Kd.V_nil _ _ _ _ _ | exact Kd.Q_nil _ _ _ _ _ | exact Kd.S_nil _ _ _ _ _⟩, ⟨by repeat (first | (with_reducible first | exact HB.out | apply below_alloc | apply pw_below_drewN | apply below_drew1) | exact HB.out)⟩⟩
    case round =>
      clear H'
      try clear c1
      try clear p2
      try clear c3
      obtain ⟨x4_1, x5_1, rfl, HA, HK1, HO_4, HB⟩ := hrel
      cases gk with
      | zero => exact absurd HA.out (by simp [spec_SumsOfTwoUpTo.l0])
      | succ k1 =>
        have H := HA.out
        clear HA
        simp only [spec_SumsOfTwoUpTo.l0] at H
        by_cases c4 : x5_1 ≤ a0
        · rw [if_pos c4] at H
          have c4b0 : decide (x5_1 ≤ a0) = true := decide_eq_true c4
          clear c4
          replace H := Option.bind_eq_some_iff.mp H
          obtain ⟨t199, A50, H⟩ := H
          replace H : (if t199 = true then (if x4_1.length < 17592186044416 then (spec_SumsOfTwoUpTo.l0 k1 a0 (x4_1 ++ [x5_1]) (wrap64 (x5_1 + 1))) else (none)) else (spec_SumsOfTwoUpTo.l0 k1 a0 x4_1 (wrap64 (x5_1 + 1)))) = some (r1, r2) := H
          have A5 := Aside0.mk A50
          clear A50
          by_cases c6 : t199 = true
          · subst c6
            have H1 : (if x4_1.length < 17592186044416 then (spec_SumsOfTwoUpTo.l0 k1 a0 (x4_1 ++ [x5_1]) (wrap64 (x5_1 + 1))) else (none)) = some (r1, r2) := by rw [if_pos rfl] at H; exact H
            clear H
            have H := H1
            clear H1
            by_cases c7 : x4_1.length < 17592186044416
            · rw [if_pos c7] at H
              have LMc7 := Aside0.mk c7
              clear c7
              obtain ⟨y200, hy200⟩ : ∃ y_ : List Int, y_ = (x4_1 ++ [x5_1]) := ⟨_, rfl⟩
              replace H : (spec_SumsOfTwoUpTo.l0 k1 a0 y200 (wrap64 (x5_1 + 1))) = some (r1, r2) := by first | (rw [hy200]; with_reducible exact H) | (have H2_ := (Option.bind_some _ _).symm.trans H; rw [hy200]; with_reducible exact H2_) | (have H2_ := (Option.bind_some _ _).symm.trans H; with_reducible exact H2_) | with_reducible exact H | (rw [hy200]; exact H) | exact H
              have Ny200 := Aside0.mk hy200
              clear hy200
              have H' := Aside0.mk H
              clear H
              go_wp2_with (first | ((with_reducible refine gate_callee (f := 188) rfl ?_); refine goesL_ (some 15) rfl rfl Try.func188 (by kernel_rfl) rfl #[.int .i64 x5_1] rfl (by (try simp only [List.map_toArray, List.map_cons, List.map_nil]); first | done | rfl | (simp only [List.length_drop, List.length_take]; rfl)) ?_; (with_reducible refine (spec_sqTwo.calls k1 x5_1 true _ A5.out).mono ?_); rintro e w' ⟨rfl, ⟨nd, rfl⟩⟩; refine ⟨_, rfl, ?_⟩) | ((with_reducible refine gate_builtin (b := .append) (xs := #[.tmp 16, .tmp 18]) rfl ?_); at_builtin; refine Kd.R_append (Kd.int .i64) (w0 := w) w.heap.size rfl (.tmp 16) (.tmp 18) 24 3 (.int .i64 0) 8 rfl Try.underlying24 info3 rfl (by decide) (by omega) u4 x4_1 x5_1 [.int .i64 x5_1] (fun _ => True) (fun _ => False) rfl rfl ?aP (fun _ hk => hk.elim) ?aF ?aO ?aB ?aS ?aL ?_; (case aP => exact rfl); (case aB => exact (by repeat (first | (with_reducible first | exact HB.out | apply below_alloc | apply pw_below_drewN | apply below_drew1) | exact HB.out))); (case aF => exact (fun _ _ => trivial)); (case aO => exact (by (with_reducible repeat (first | apply Kd.R_alloc | apply Kd.R_drewN | apply Kd.R_drew)); exact HO_4.out)); (case aS => exact (below_size (by repeat (first | (with_reducible first | exact HB.out | apply below_alloc | apply pw_below_drewN | apply below_drew1) | exact HB.out)))); (case aL => have := LMc7.out; omega); intro v201 w8 ho hb hg hat; rw [← Ny200.out] at ho; have n0_ := Aside0.mk (hb); have n1_ := Aside0.mk (ho); clear HB; clear HO_4; have HB := n0_; have HO202 := n1_; clear n0_ n1_; clear ho hb hg hat))
              go_roundg k1
              case measure => have := HK1.out; omega
              case rel => exact ⟨(y200), (wrap64 (x5_1 + 1)), (by first | rfl | (simp; done) | (simp [*]; done)), H', ⟨by have := HK1.out; omega⟩, ⟨by (with_reducible repeat (first | apply Kd.R_alloc | apply Kd.R_drewN | apply Kd.R_drew)); exact HO202.out⟩, ⟨by repeat (first | (with_reducible first | exact HB.out | apply below_alloc | apply pw_below_drewN | apply below_drew1) | exact HB.out)⟩⟩
            · rw [if_neg c7] at H
              exact absurd H (by simp)
          · replace c6 := Bool.eq_false_iff.mpr c6
            subst c6
            have H1 : (spec_SumsOfTwoUpTo.l0 k1 a0 x4_1 (wrap64 (x5_1 + 1))) = some (r1, r2) := by rw [if_neg (show ¬ (false = true) by decide)] at H; exact H
            clear H
            have H := H1
            clear H1
            have H' := Aside0.mk H
            clear H
            go_wp2_with (first | ((with_reducible refine gate_callee (f := 188) rfl ?_); refine goesL_ (some 15) rfl rfl Try.func188 (by kernel_rfl) rfl #[.int .i64 x5_1] rfl (by (try simp only [List.map_toArray, List.map_cons, List.map_nil]); first | done | rfl | (simp only [List.length_drop, List.length_take]; rfl)) ?_; (with_reducible refine (spec_sqTwo.calls k1 x5_1 false _ A5.out).mono ?_); rintro e w' ⟨rfl, ⟨nd, rfl⟩⟩; refine ⟨_, rfl, ?_⟩))
            go_roundg k1
            case measure => have := HK1.out; omega
            case rel => exact ⟨(x4_1), (wrap64 (x5_1 + 1)), (by first | rfl | (simp; done) | (simp [*]; done)), H', ⟨by have := HK1.out; omega⟩, ⟨by (with_reducible repeat (first | apply Kd.R_alloc | apply Kd.R_drewN | apply Kd.R_drew)); exact HO_4.out⟩, ⟨by repeat (first | (with_reducible first | exact HB.out | apply below_alloc | apply pw_below_drewN | apply below_drew1) | exact HB.out)⟩⟩
        · rw [if_neg c4] at H
          have c4b0 : decide (x5_1 ≤ a0) = false := decide_eq_false c4
          clear c4
          simp only [Option.some.injEq, Prod.mk.injEq] at H
          obtain ⟨rfl, rfl⟩ := H
          go_wp2
          go_ret2
          exact ⟨_, by first | rfl | (simp [errW_none, errW_some] <;> rfl) | (simp [*, errW_none, errW_some] <;> rfl), by (with_reducible repeat (first | apply Kd.R_alloc | apply Kd.R_drewN | apply Kd.R_drew)); exact HO_4.out, by repeat (first | (with_reducible first | exact HB.out | apply below_alloc | apply pw_below_drewN | apply below_drew1) | exact HB.out)⟩
  · replace c3 := Bool.eq_false_iff.mpr c3
    subst c3
    have H1 : (some (([] : List Int), false)) = some (r1, r2) := by rw [if_neg (show ¬ (false = true) by decide)] at H; exact H
    clear H
    have H := H1
    clear H1
    simp only [Option.some.injEq, Prod.mk.injEq] at H
    obtain ⟨rfl, rfl⟩ := H
    go_enter Try.func119, Try.ntmps119
    go_wp2_with (first | ((with_reducible refine gate_callee (f := 160) rfl ?_); refine goesL_ (some 7) rfl rfl Try.func160 (by kernel_rfl) rfl #[.int .i64 a0] rfl (by (try simp only [List.map_toArray, List.map_cons, List.map_nil]); first | done | rfl | (simp only [List.length_drop, List.length_take]; rfl)) ?_; (with_reducible refine (spec_sqMost.calls a0 false _ A2.out).mono ?_); rintro e w' ⟨rfl, ⟨nd, rfl⟩⟩; refine ⟨_, rfl, ?_⟩))
    go_ret2
    exact ⟨_, by first | rfl | (simp [errW_none, errW_some] <;> rfl) | (simp [*, errW_none, errW_some] <;> rfl), by first | exact Kd.R_nil _ _ _ _ _ | exact Kd.N_nil _ _ _ _ _ | exact Kd.V_nil _ _ _ _ _ | exact Kd.Q_nil _ _ _ _ _ | exact Kd.S_nil _ _ _ _ _, by repeat (first | (with_reducible first | exact HB.out | apply below_alloc | apply pw_below_drewN | apply below_drew1) | exact HB.out)⟩

/-! ### laws_FnSumsOfSquaresOfAll: function 9 -/
mutual
def laws_FnSumsOfSquaresOfAll.j0 : Nat → Int → Int → List (List Int) → Bool → Int → Bool → Bool → List Int → Bool → Int → Int → Bool → Option (Bool)
 | 0, _, _, _, _, _, _, _, _, _, _, _, _ => none
 | k + 1, x0, x1, x5, x6, x9, x13, x17, x21, x22, x25, x29, x226 => if x226 = true then (some false) else (if x6 = true then (laws_FnSumsOfSquaresOfAll.l0 k x0 x1 x5 x6 x9 x13 x17 x21 x22 x25 x29 0 x5 (x5.length : Int) 0) else (laws_FnSumsOfSquaresOfAll.j3 k x0 x1 x6 x13 x17 x21 x22))
def laws_FnSumsOfSquaresOfAll.j3 : Nat → Int → Int → Bool → Bool → Bool → List Int → Bool → Option (Bool)
 | 0, _, _, _, _, _, _, _ => none
 | k + 1, x0, x1, x6, x13, x17, x21, x22 => if x22 = true then (laws_FnSumsOfSquaresOfAll.l1 k x0 x1 x6 x13 x17 x21 0 x21 (x21.length : Int) 0) else (laws_FnSumsOfSquaresOfAll.j5 k x0 x1 x6 x13)
def laws_FnSumsOfSquaresOfAll.j5 : Nat → Int → Int → Bool → Bool → Option (Bool)
 | 0, _, _, _, _ => none
 | k + 1, x0, x1, x6, x13 => (impl_SumsOfTwoUpTo.f k x1).bind fun bt263 => ((spec_SumsOfTwoUpTo.f k x1).bind fun bt267 => (if (bt263.2 != bt267.2) = true then (laws_FnSumsOfSquaresOfAll.j6 k x0 x1 x6 x13 bt263.1 bt263.2 true) else ((laws_tSame.f k bt263.1 bt267.1).bind fun t271 => (laws_FnSumsOfSquaresOfAll.j6 k x0 x1 x6 x13 bt263.1 bt263.2 (!t271)))))
def laws_FnSumsOfSquaresOfAll.j6 : Nat → Int → Int → Bool → Bool → List Int → Bool → Bool → Option (Bool)
 | 0, _, _, _, _, _, _, _ => none
 | k + 1, x0, x1, x6, x13, x42, x43, x409 => if x409 = true then (some false) else (if x43 = true then (laws_FnSumsOfSquaresOfAll.l2 k x0 x1 x6 x13 x42 1) else (some true))
def laws_FnSumsOfSquaresOfAll.l2 : Nat → Int → Int → Bool → Bool → List Int → Int → Option (Bool)
 | 0, _, _, _, _, _, _ => none
 | k + 1, x0, x1, x6, x13, x42, x46 => if x46 ≤ x1 then ((impl_IsSumOfTwo.f k x46).bind fun bt272 => (if bt272.2 = true then ((laws_tHas.f k x42 x46).bind fun t274 => (if (bt272.1 != t274) = true then (some false) else (laws_FnSumsOfSquaresOfAll.l2 k x0 x1 x6 x13 x42 (wrap64 (x46 + 1))))) else (some false))) else (laws_FnSumsOfSquaresOfAll.l3 k x0 x6 x13 x42 (x42.length : Int) 0)
def laws_FnSumsOfSquaresOfAll.l3 : Nat → Int → Bool → Bool → List Int → Int → Int → Option (Bool)
 | 0, _, _, _, _, _, _ => none
 | k + 1, x0, x6, x13, x430, x431, x432 => if x432 < x431 then (if 0 ≤ x432 then (if x432 < (x430.length : Int) then (if x432 > 6 then (laws_FnSumsOfSquaresOfAll.j9 k x0 x6 x13 (rd x430 x432) x430 x431 x432 true) else (if x6 = true then (if x13 = true then (if x0 < 1 then (laws_FnSumsOfSquaresOfAll.j9 k x0 x6 x13 (rd x430 x432) x430 x431 x432 true) else (if (rd x430 x432) = 0 then (none) else (laws_FnSumsOfSquaresOfAll.j9 k x0 x6 x13 (rd x430 x432) x430 x431 x432 (decide (x0 > (wrap64 (Int.tdiv 100000 (rd x430 x432)))))))) else (laws_FnSumsOfSquaresOfAll.j9 k x0 x6 x13 (rd x430 x432) x430 x431 x432 true)) else (if x0 < 1 then (laws_FnSumsOfSquaresOfAll.j9 k x0 x6 x13 (rd x430 x432) x430 x431 x432 true) else (if (rd x430 x432) = 0 then (none) else (laws_FnSumsOfSquaresOfAll.j9 k x0 x6 x13 (rd x430 x432) x430 x431 x432 (decide (x0 > (wrap64 (Int.tdiv 100000 (rd x430 x432)))))))))) else (none)) else (none)) else (some true)
def laws_FnSumsOfSquaresOfAll.j9 : Nat → Int → Bool → Bool → Int → List Int → Int → Int → Bool → Option (Bool)
 | 0, _, _, _, _, _, _, _, _ => none
 | k + 1, x0, x6, x13, x50, x430, x431, x432, x455 => if x455 = true then (some true) else ((impl_IsSumOfTwo.f k (wrap64 (x50 * x0))).bind fun bt276 => (if x6 = true then (if bt276.2 = true then (if bt276.1 = true then (laws_FnSumsOfSquaresOfAll.l3 k x0 x6 x13 x430 x431 (wrap64 (x432 + 1))) else (some false)) else (some false)) else (laws_FnSumsOfSquaresOfAll.l3 k x0 x6 x13 x430 x431 (wrap64 (x432 + 1)))))
def laws_FnSumsOfSquaresOfAll.l1 : Nat → Int → Int → Bool → Bool → Bool → List Int → Int → List Int → Int → Int → Option (Bool)
 | 0, _, _, _, _, _, _, _, _, _, _ => none
 | k + 1, x0, x1, x6, x13, x17, x21, x39, x347, x348, x349 => if x349 < x348 then (if 0 ≤ x349 then (if x349 < (x347.length : Int) then (if (rd x347 x349) < 0 then (some false) else (if x349 > 0 then (if 0 ≤ (wrap64 (x349 - 1)) then (if (wrap64 (x349 - 1)) < (x21.length : Int) then (if (rd x21 (wrap64 (x349 - 1))) > (rd x347 x349) then (some false) else (laws_FnSumsOfSquaresOfAll.l1 k x0 x1 x6 x13 x17 x21 (wrap64 (x39 + (wrap64 ((rd x347 x349) * (rd x347 x349))))) x347 x348 (wrap64 (x349 + 1)))) else (none)) else (none)) else (laws_FnSumsOfSquaresOfAll.l1 k x0 x1 x6 x13 x17 x21 (wrap64 (x39 + (wrap64 ((rd x347 x349) * (rd x347 x349))))) x347 x348 (wrap64 (x349 + 1))))) else (none)) else (none)) else (if (x21.length : Int) = 4 then (if x39 = x0 then (if 0 < (x21.length : Int) then (if (x17 != ((rd x21 0) == 0)) = true then (some false) else (laws_FnSumsOfSquaresOfAll.j5 k x0 x1 x6 x13)) else (none)) else (some false)) else (some false))
def laws_FnSumsOfSquaresOfAll.l0 : Nat → Int → Int → List (List Int) → Bool → Int → Bool → Bool → List Int → Bool → Int → Int → Int → List (List Int) → Int → Int → Option (Bool)
 | 0, _, _, _, _, _, _, _, _, _, _, _, _, _, _, _ => none
 | k + 1, x0, x1, x5, x6, x9, x13, x17, x21, x22, x25, x29, x33, x228, x229, x230 => if x230 < x229 then (if 0 ≤ x230 then (if x230 < (x228.length : Int) then (if ((rd_L1 x228 x230).length : Int) = 2 then (if 0 < ((rd_L1 x228 x230).length : Int) then (if (rd (rd_L1 x228 x230) 0) < 0 then (some false) else (if 1 < ((rd_L1 x228 x230).length : Int) then (if (rd (rd_L1 x228 x230) 0) > (rd (rd_L1 x228 x230) 1) then (some false) else (if (wrap64 ((wrap64 ((rd (rd_L1 x228 x230) 0) * (rd (rd_L1 x228 x230) 0))) + (wrap64 ((rd (rd_L1 x228 x230) 1) * (rd (rd_L1 x228 x230) 1))))) = x0 then (if x230 > 0 then (if 0 ≤ (wrap64 (x230 - 1)) then (if (wrap64 (x230 - 1)) < (x5.length : Int) then (if 0 < ((rd_L1 x5 (wrap64 (x230 - 1))).length : Int) then (if (rd (rd_L1 x5 (wrap64 (x230 - 1))) 0) ≥ (rd (rd_L1 x228 x230) 0) then (some false) else (if (rd (rd_L1 x228 x230) 0) = 0 then (laws_FnSumsOfSquaresOfAll.l0 k x0 x1 x5 x6 x9 x13 x17 x21 x22 x25 x29 (wrap64 (x33 + 4)) x228 x229 (wrap64 (x230 + 1))) else (if (rd (rd_L1 x228 x230) 0) = (rd (rd_L1 x228 x230) 1) then (laws_FnSumsOfSquaresOfAll.l0 k x0 x1 x5 x6 x9 x13 x17 x21 x22 x25 x29 (wrap64 (x33 + 4)) x228 x229 (wrap64 (x230 + 1))) else (laws_FnSumsOfSquaresOfAll.l0 k x0 x1 x5 x6 x9 x13 x17 x21 x22 x25 x29 (wrap64 (x33 + 8)) x228 x229 (wrap64 (x230 + 1)))))) else (none)) else (none)) else (none)) else (if (rd (rd_L1 x228 x230) 0) = 0 then (laws_FnSumsOfSquaresOfAll.l0 k x0 x1 x5 x6 x9 x13 x17 x21 x22 x25 x29 (wrap64 (x33 + 4)) x228 x229 (wrap64 (x230 + 1))) else (if (rd (rd_L1 x228 x230) 0) = (rd (rd_L1 x228 x230) 1) then (laws_FnSumsOfSquaresOfAll.l0 k x0 x1 x5 x6 x9 x13 x17 x21 x22 x25 x29 (wrap64 (x33 + 4)) x228 x229 (wrap64 (x230 + 1))) else (laws_FnSumsOfSquaresOfAll.l0 k x0 x1 x5 x6 x9 x13 x17 x21 x22 x25 x29 (wrap64 (x33 + 8)) x228 x229 (wrap64 (x230 + 1)))))) else (some false))) else (none))) else (none)) else (some false)) else (none)) else (none)) else (if x33 = x9 then (if (x13 != (decide ((x5.length : Int) > 0))) = true then (laws_FnSumsOfSquaresOfAll.j2 k x0 x1 x6 x9 x13 x17 x21 x22 x29 true) else (if x13 = true then (if x17 = true then (laws_FnSumsOfSquaresOfAll.j2 k x0 x1 x6 x9 x13 x17 x21 x22 x29 (decide (x25 < 8))) else (laws_FnSumsOfSquaresOfAll.j2 k x0 x1 x6 x9 x13 x17 x21 x22 x29 true)) else (laws_FnSumsOfSquaresOfAll.j2 k x0 x1 x6 x9 x13 x17 x21 x22 x29 (decide (x25 < 8))))) else (laws_FnSumsOfSquaresOfAll.j2 k x0 x1 x6 x9 x13 x17 x21 x22 x29 true))
def laws_FnSumsOfSquaresOfAll.j2 : Nat → Int → Int → Bool → Int → Bool → Bool → List Int → Bool → Int → Bool → Option (Bool)
 | 0, _, _, _, _, _, _, _, _, _, _ => none
 | k + 1, x0, x1, x6, x9, x13, x17, x21, x22, x29, x326 => if x326 = true then (some false) else (if x0 > 1 then ((impl_CountInCircle.f k (wrap64 (x0 - 1))).bind fun bt258 => (if bt258.2 = true then (if (wrap64 (x29 - bt258.1)) = x9 then (laws_FnSumsOfSquaresOfAll.j3 k x0 x1 x6 x13 x17 x21 x22) else (some false)) else (some false))) else (if x29 = 5 then (laws_FnSumsOfSquaresOfAll.j3 k x0 x1 x6 x13 x17 x21 x22) else (some false)))
end
def laws_FnSumsOfSquaresOfAll.f (k : Nat) (a0 : Int) (a1 : Int) : Option (Bool) := (impl_TwoSquares.f k a0).bind fun bt203 => ((spec_TwoSquares.f k a0).bind fun bt207 => ((impl_CountAsTwo.f k a0).bind fun bt211 => ((spec_CountAsTwo.f k a0).bind fun bt213 => ((impl_IsSumOfTwo.f k a0).bind fun bt215 => ((spec_IsSumOfTwo.f k a0).bind fun bt217 => ((impl_IsSumOfThree.f k a0).bind fun bt219 => ((spec_IsSumOfThree.f k a0).bind fun bt221 => ((impl_FourSquares.f k a0).bind fun bt223 => ((spec_FourSquares.f k a0).bind fun bt227 => ((impl_CountAsFour.f k a0).bind fun bt231 => ((spec_CountAsFour.f k a0).bind fun bt233 => ((impl_CountInCircle.f k a0).bind fun bt235 => ((spec_CountInCircle.f k a0).bind fun bt237 => (if (bt203.2 != bt207.2) = true then (laws_FnSumsOfSquaresOfAll.j0 k a0 a1 bt203.1 bt203.2 bt211.1 bt215.1 bt219.1 bt223.1 bt223.2 bt231.1 bt235.1 true) else ((laws_tRows.f k bt203.1 bt207.1).bind fun t239 => (if t239 = true then (if (bt211.2 != bt213.2) = true then (laws_FnSumsOfSquaresOfAll.j0 k a0 a1 bt203.1 bt203.2 bt211.1 bt215.1 bt219.1 bt223.1 bt223.2 bt231.1 bt235.1 true) else (if bt211.1 = bt213.1 then (if (bt215.2 != bt217.2) = true then (laws_FnSumsOfSquaresOfAll.j0 k a0 a1 bt203.1 bt203.2 bt211.1 bt215.1 bt219.1 bt223.1 bt223.2 bt231.1 bt235.1 true) else (if (bt215.1 != bt217.1) = true then (laws_FnSumsOfSquaresOfAll.j0 k a0 a1 bt203.1 bt203.2 bt211.1 bt215.1 bt219.1 bt223.1 bt223.2 bt231.1 bt235.1 true) else (if (bt219.2 != bt221.2) = true then (laws_FnSumsOfSquaresOfAll.j0 k a0 a1 bt203.1 bt203.2 bt211.1 bt215.1 bt219.1 bt223.1 bt223.2 bt231.1 bt235.1 true) else (if (bt219.1 != bt221.1) = true then (laws_FnSumsOfSquaresOfAll.j0 k a0 a1 bt203.1 bt203.2 bt211.1 bt215.1 bt219.1 bt223.1 bt223.2 bt231.1 bt235.1 true) else (if (bt223.2 != bt227.2) = true then (laws_FnSumsOfSquaresOfAll.j0 k a0 a1 bt203.1 bt203.2 bt211.1 bt215.1 bt219.1 bt223.1 bt223.2 bt231.1 bt235.1 true) else ((laws_tSame.f k bt223.1 bt227.1).bind fun t240 => (if t240 = true then (if (bt231.2 != bt233.2) = true then (laws_FnSumsOfSquaresOfAll.j0 k a0 a1 bt203.1 bt203.2 bt211.1 bt215.1 bt219.1 bt223.1 bt223.2 bt231.1 bt235.1 true) else (if bt231.1 = bt233.1 then (if (bt235.2 != bt237.2) = true then (laws_FnSumsOfSquaresOfAll.j0 k a0 a1 bt203.1 bt203.2 bt211.1 bt215.1 bt219.1 bt223.1 bt223.2 bt231.1 bt235.1 true) else (if bt235.1 = bt237.1 then (if (bt211.2 != bt203.2) = true then (laws_FnSumsOfSquaresOfAll.j0 k a0 a1 bt203.1 bt203.2 bt211.1 bt215.1 bt219.1 bt223.1 bt223.2 bt231.1 bt235.1 true) else (if (bt215.2 != bt203.2) = true then (laws_FnSumsOfSquaresOfAll.j0 k a0 a1 bt203.1 bt203.2 bt211.1 bt215.1 bt219.1 bt223.1 bt223.2 bt231.1 bt235.1 true) else (if (bt219.2 != bt203.2) = true then (laws_FnSumsOfSquaresOfAll.j0 k a0 a1 bt203.1 bt203.2 bt211.1 bt215.1 bt219.1 bt223.1 bt223.2 bt231.1 bt235.1 true) else (if bt203.2 = true then (if (bt223.2 != (decide (a0 ≤ 5000))) = true then (laws_FnSumsOfSquaresOfAll.j0 k a0 a1 bt203.1 bt203.2 bt211.1 bt215.1 bt219.1 bt223.1 bt223.2 bt231.1 bt235.1 true) else (if (bt231.2 != bt203.2) = true then (laws_FnSumsOfSquaresOfAll.j0 k a0 a1 bt203.1 bt203.2 bt211.1 bt215.1 bt219.1 bt223.1 bt223.2 bt231.1 bt235.1 true) else (laws_FnSumsOfSquaresOfAll.j0 k a0 a1 bt203.1 bt203.2 bt211.1 bt215.1 bt219.1 bt223.1 bt223.2 bt231.1 bt235.1 (bt235.2 != bt203.2)))) else (if (bt223.2 != false) = true then (laws_FnSumsOfSquaresOfAll.j0 k a0 a1 bt203.1 bt203.2 bt211.1 bt215.1 bt219.1 bt223.1 bt223.2 bt231.1 bt235.1 true) else (if (bt231.2 != bt203.2) = true then (laws_FnSumsOfSquaresOfAll.j0 k a0 a1 bt203.1 bt203.2 bt211.1 bt215.1 bt219.1 bt223.1 bt223.2 bt231.1 bt235.1 true) else (laws_FnSumsOfSquaresOfAll.j0 k a0 a1 bt203.1 bt203.2 bt211.1 bt215.1 bt219.1 bt223.1 bt223.2 bt231.1 bt235.1 (bt235.2 != bt203.2)))))))) else (laws_FnSumsOfSquaresOfAll.j0 k a0 a1 bt203.1 bt203.2 bt211.1 bt215.1 bt219.1 bt223.1 bt223.2 bt231.1 bt235.1 true))) else (laws_FnSumsOfSquaresOfAll.j0 k a0 a1 bt203.1 bt203.2 bt211.1 bt215.1 bt219.1 bt223.1 bt223.2 bt231.1 bt235.1 true))) else (laws_FnSumsOfSquaresOfAll.j0 k a0 a1 bt203.1 bt203.2 bt211.1 bt215.1 bt219.1 bt223.1 bt223.2 bt231.1 bt235.1 true)))))))) else (laws_FnSumsOfSquaresOfAll.j0 k a0 a1 bt203.1 bt203.2 bt211.1 bt215.1 bt219.1 bt223.1 bt223.2 bt231.1 bt235.1 true))) else (laws_FnSumsOfSquaresOfAll.j0 k a0 a1 bt203.1 bt203.2 bt211.1 bt215.1 bt219.1 bt223.1 bt223.2 bt231.1 bt235.1 true)))))))))))))))))
open laws_FnSumsOfSquaresOfAll
theorem laws_FnSumsOfSquaresOfAll.mono_l : ∀ k, (∀ y0 y1 y2 y3 y4 y5 y6 y7 y8 y9 y10 y11, LeO (j0 k y0 y1 y2 y3 y4 y5 y6 y7 y8 y9 y10 y11) (j0 (k + 1) y0 y1 y2 y3 y4 y5 y6 y7 y8 y9 y10 y11)) ∧ (∀ y0 y1 y2 y3 y4 y5 y6, LeO (j3 k y0 y1 y2 y3 y4 y5 y6) (j3 (k + 1) y0 y1 y2 y3 y4 y5 y6)) ∧ (∀ y0 y1 y2 y3, LeO (j5 k y0 y1 y2 y3) (j5 (k + 1) y0 y1 y2 y3)) ∧ (∀ y0 y1 y2 y3 y4 y5 y6, LeO (j6 k y0 y1 y2 y3 y4 y5 y6) (j6 (k + 1) y0 y1 y2 y3 y4 y5 y6)) ∧ (∀ y0 y1 y2 y3 y4 y5, LeO (laws_FnSumsOfSquaresOfAll.l2 k y0 y1 y2 y3 y4 y5) (laws_FnSumsOfSquaresOfAll.l2 (k + 1) y0 y1 y2 y3 y4 y5)) ∧ (∀ y0 y1 y2 y3 y4 y5, LeO (laws_FnSumsOfSquaresOfAll.l3 k y0 y1 y2 y3 y4 y5) (laws_FnSumsOfSquaresOfAll.l3 (k + 1) y0 y1 y2 y3 y4 y5)) ∧ (∀ y0 y1 y2 y3 y4 y5 y6 y7, LeO (j9 k y0 y1 y2 y3 y4 y5 y6 y7) (j9 (k + 1) y0 y1 y2 y3 y4 y5 y6 y7)) ∧ (∀ y0 y1 y2 y3 y4 y5 y6 y7 y8 y9, LeO (laws_FnSumsOfSquaresOfAll.l1 k y0 y1 y2 y3 y4 y5 y6 y7 y8 y9) (laws_FnSumsOfSquaresOfAll.l1 (k + 1) y0 y1 y2 y3 y4 y5 y6 y7 y8 y9)) ∧ (∀ y0 y1 y2 y3 y4 y5 y6 y7 y8 y9 y10 y11 y12 y13 y14, LeO (laws_FnSumsOfSquaresOfAll.l0 k y0 y1 y2 y3 y4 y5 y6 y7 y8 y9 y10 y11 y12 y13 y14) (laws_FnSumsOfSquaresOfAll.l0 (k + 1) y0 y1 y2 y3 y4 y5 y6 y7 y8 y9 y10 y11 y12 y13 y14)) ∧ (∀ y0 y1 y2 y3 y4 y5 y6 y7 y8 y9, LeO (j2 k y0 y1 y2 y3 y4 y5 y6 y7 y8 y9) (j2 (k + 1) y0 y1 y2 y3 y4 y5 y6 y7 y8 y9))
 | 0 => ⟨fun _ _ _ _ _ _ _ _ _ _ _ _ r h => by simp [j0] at h, fun _ _ _ _ _ _ _ r h => by simp [j3] at h, fun _ _ _ _ r h => by simp [j5] at h, fun _ _ _ _ _ _ _ r h => by simp [j6] at h, fun _ _ _ _ _ _ r h => by simp [laws_FnSumsOfSquaresOfAll.l2] at h, fun _ _ _ _ _ _ r h => by simp [laws_FnSumsOfSquaresOfAll.l3] at h, fun _ _ _ _ _ _ _ _ r h => by simp [j9] at h, fun _ _ _ _ _ _ _ _ _ _ r h => by simp [laws_FnSumsOfSquaresOfAll.l1] at h, fun _ _ _ _ _ _ _ _ _ _ _ _ _ _ _ r h => by simp [laws_FnSumsOfSquaresOfAll.l0] at h, fun _ _ _ _ _ _ _ _ _ _ r h => by simp [j2] at h⟩
 | k + 1 => by
  obtain ⟨ih0, ih1, ih2, ih3, ih4, ih5, ih6, ih7, ih8, ih9⟩ := laws_FnSumsOfSquaresOfAll.mono_l k
  refine ⟨?_, ?_, ?_, ?_, ?_, ?_, ?_, ?_, ?_, ?_⟩
  ·
   intro y0 y1 y2 y3 y4 y5 y6 y7 y8 y9 y10 y11
   unfold j0
   repeat' first
   | (with_reducible first | exact ih0 _ _ _ _ _ _ _ _ _ _ _ _ | exact ih1 _ _ _ _ _ _ _ | exact ih2 _ _ _ _ | exact ih3 _ _ _ _ _ _ _ | exact ih4 _ _ _ _ _ _ | exact ih5 _ _ _ _ _ _ | exact ih6 _ _ _ _ _ _ _ _ | exact ih7 _ _ _ _ _ _ _ _ _ _ | exact ih8 _ _ _ _ _ _ _ _ _ _ _ _ _ _ _ | exact ih9 _ _ _ _ _ _ _ _ _ _ | exact impl_CountAsFour.mono _ _ | exact impl_CountAsTwo.mono _ _ | exact impl_CountInCircle.mono _ _ | exact impl_FourSquares.mono _ _ | exact impl_IsSumOfThree.mono _ _ | exact impl_IsSumOfTwo.mono _ _ | exact impl_SumsOfTwoUpTo.mono _ _ | exact impl_TwoSquares.mono _ _ | exact laws_tHas.mono _ _ _ | exact laws_tRows.mono _ _ _ | exact laws_tSame.mono _ _ _ | exact spec_CountAsFour.mono _ _ | exact spec_CountAsTwo.mono _ _ | exact spec_CountInCircle.mono _ _ | exact spec_FourSquares.mono _ _ | exact spec_IsSumOfThree.mono _ _ | exact spec_IsSumOfTwo.mono _ _ | exact spec_SumsOfTwoUpTo.mono _ _ | exact spec_TwoSquares.mono _ _ | exact LeO.refl _ | exact LeO.none _ | refine LeO.ite ?_ ?_ | refine LeO.bind ?_ (fun _ => ?_))
  ·
   intro y0 y1 y2 y3 y4 y5 y6
   unfold j3
   repeat' first
   | (with_reducible first | exact ih0 _ _ _ _ _ _ _ _ _ _ _ _ | exact ih1 _ _ _ _ _ _ _ | exact ih2 _ _ _ _ | exact ih3 _ _ _ _ _ _ _ | exact ih4 _ _ _ _ _ _ | exact ih5 _ _ _ _ _ _ | exact ih6 _ _ _ _ _ _ _ _ | exact ih7 _ _ _ _ _ _ _ _ _ _ | exact ih8 _ _ _ _ _ _ _ _ _ _ _ _ _ _ _ | exact ih9 _ _ _ _ _ _ _ _ _ _ | exact impl_CountAsFour.mono _ _ | exact impl_CountAsTwo.mono _ _ | exact impl_CountInCircle.mono _ _ | exact impl_FourSquares.mono _ _ | exact impl_IsSumOfThree.mono _ _ | exact impl_IsSumOfTwo.mono _ _ | exact impl_SumsOfTwoUpTo.mono _ _ | exact impl_TwoSquares.mono _ _ | exact laws_tHas.mono _ _ _ | exact laws_tRows.mono _ _ _ | exact laws_tSame.mono _ _ _ | exact spec_CountAsFour.mono _ _ | exact spec_CountAsTwo.mono _ _ | exact spec_CountInCircle.mono _ _ | exact spec_FourSquares.mono _ _ | exact spec_IsSumOfThree.mono _ _ | exact spec_IsSumOfTwo.mono _ _ | exact spec_SumsOfTwoUpTo.mono _ _ | exact spec_TwoSquares.mono _ _ | exact LeO.refl _ | exact LeO.none _ | refine LeO.ite ?_ ?_ | refine LeO.bind ?_ (fun _ => ?_))
  ·
   intro y0 y1 y2 y3
   unfold j5
   repeat' first
   | (with_reducible first | exact ih0 _ _ _ _ _ _ _ _ _ _ _ _ | exact ih1 _ _ _ _ _ _ _ | exact ih2 _ _ _ _ | exact ih3 _ _ _ _ _ _ _ | exact ih4 _ _ _ _ _ _ | exact ih5 _ _ _ _ _ _ | exact ih6 _ _ _ _ _ _ _ _ | exact ih7 _ _ _ _ _ _ _ _ _ _ | exact ih8 _ _ _ _ _ _ _ _ _ _ _ _ _ _ _ | exact ih9 _ _ _ _ _ _ _ _ _ _ | exact impl_CountAsFour.mono _ _ | exact impl_CountAsTwo.mono _ _ | exact impl_CountInCircle.mono _ _ | exact impl_FourSquares.mono _ _ | exact impl_IsSumOfThree.mono _ _ | exact impl_IsSumOfTwo.mono _ _ | exact impl_SumsOfTwoUpTo.mono _ _ | exact impl_TwoSquares.mono _ _ | exact laws_tHas.mono _ _ _ | exact laws_tRows.mono _ _ _ | exact laws_tSame.mono _ _ _ | exact spec_CountAsFour.mono _ _ | exact spec_CountAsTwo.mono _ _ | exact spec_CountInCircle.mono _ _ | exact spec_FourSquares.mono _ _ | exact spec_IsSumOfThree.mono _ _ | exact spec_IsSumOfTwo.mono _ _ | exact spec_SumsOfTwoUpTo.mono _ _ | exact spec_TwoSquares.mono _ _ | exact LeO.refl _ | exact LeO.none _ | refine LeO.ite ?_ ?_ | refine LeO.bind ?_ (fun _ => ?_))
  ·
   intro y0 y1 y2 y3 y4 y5 y6
   unfold j6
   repeat' first
   | (with_reducible first | exact ih0 _ _ _ _ _ _ _ _ _ _ _ _ | exact ih1 _ _ _ _ _ _ _ | exact ih2 _ _ _ _ | exact ih3 _ _ _ _ _ _ _ | exact ih4 _ _ _ _ _ _ | exact ih5 _ _ _ _ _ _ | exact ih6 _ _ _ _ _ _ _ _ | exact ih7 _ _ _ _ _ _ _ _ _ _ | exact ih8 _ _ _ _ _ _ _ _ _ _ _ _ _ _ _ | exact ih9 _ _ _ _ _ _ _ _ _ _ | exact impl_CountAsFour.mono _ _ | exact impl_CountAsTwo.mono _ _ | exact impl_CountInCircle.mono _ _ | exact impl_FourSquares.mono _ _ | exact impl_IsSumOfThree.mono _ _ | exact impl_IsSumOfTwo.mono _ _ | exact impl_SumsOfTwoUpTo.mono _ _ | exact impl_TwoSquares.mono _ _ | exact laws_tHas.mono _ _ _ | exact laws_tRows.mono _ _ _ | exact laws_tSame.mono _ _ _ | exact spec_CountAsFour.mono _ _ | exact spec_CountAsTwo.mono _ _ | exact spec_CountInCircle.mono _ _ | exact spec_FourSquares.mono _ _ | exact spec_IsSumOfThree.mono _ _ | exact spec_IsSumOfTwo.mono _ _ | exact spec_SumsOfTwoUpTo.mono _ _ | exact spec_TwoSquares.mono _ _ | exact LeO.refl _ | exact LeO.none _ | refine LeO.ite ?_ ?_ | refine LeO.bind ?_ (fun _ => ?_))
  ·
   intro y0 y1 y2 y3 y4 y5
   unfold laws_FnSumsOfSquaresOfAll.l2
   repeat' first
   | (with_reducible first | exact ih0 _ _ _ _ _ _ _ _ _ _ _ _ | exact ih1 _ _ _ _ _ _ _ | exact ih2 _ _ _ _ | exact ih3 _ _ _ _ _ _ _ | exact ih4 _ _ _ _ _ _ | exact ih5 _ _ _ _ _ _ | exact ih6 _ _ _ _ _ _ _ _ | exact ih7 _ _ _ _ _ _ _ _ _ _ | exact ih8 _ _ _ _ _ _ _ _ _ _ _ _ _ _ _ | exact ih9 _ _ _ _ _ _ _ _ _ _ | exact impl_CountAsFour.mono _ _ | exact impl_CountAsTwo.mono _ _ | exact impl_CountInCircle.mono _ _ | exact impl_FourSquares.mono _ _ | exact impl_IsSumOfThree.mono _ _ | exact impl_IsSumOfTwo.mono _ _ | exact impl_SumsOfTwoUpTo.mono _ _ | exact impl_TwoSquares.mono _ _ | exact laws_tHas.mono _ _ _ | exact laws_tRows.mono _ _ _ | exact laws_tSame.mono _ _ _ | exact spec_CountAsFour.mono _ _ | exact spec_CountAsTwo.mono _ _ | exact spec_CountInCircle.mono _ _ | exact spec_FourSquares.mono _ _ | exact spec_IsSumOfThree.mono _ _ | exact spec_IsSumOfTwo.mono _ _ | exact spec_SumsOfTwoUpTo.mono _ _ | exact spec_TwoSquares.mono _ _ | exact LeO.refl _ | exact LeO.none _ | refine LeO.ite ?_ ?_ | refine LeO.bind ?_ (fun _ => ?_))
  ·
   intro y0 y1 y2 y3 y4 y5
   unfold laws_FnSumsOfSquaresOfAll.l3
   repeat' first
   | (with_reducible first | exact ih0 _ _ _ _ _ _ _ _ _ _ _ _ | exact ih1 _ _ _ _ _ _ _ | exact ih2 _ _ _ _ | exact ih3 _ _ _ _ _ _ _ | exact ih4 _ _ _ _ _ _ | exact ih5 _ _ _ _ _ _ | exact ih6 _ _ _ _ _ _ _ _ | exact ih7 _ _ _ _ _ _ _ _ _ _ | exact ih8 _ _ _ _ _ _ _ _ _ _ _ _ _ _ _ | exact ih9 _ _ _ _ _ _ _ _ _ _ | exact impl_CountAsFour.mono _ _ | exact impl_CountAsTwo.mono _ _ | exact impl_CountInCircle.mono _ _ | exact impl_FourSquares.mono _ _ | exact impl_IsSumOfThree.mono _ _ | exact impl_IsSumOfTwo.mono _ _ | exact impl_SumsOfTwoUpTo.mono _ _ | exact impl_TwoSquares.mono _ _ | exact laws_tHas.mono _ _ _ | exact laws_tRows.mono _ _ _ | exact laws_tSame.mono _ _ _ | exact spec_CountAsFour.mono _ _ | exact spec_CountAsTwo.mono _ _ | exact spec_CountInCircle.mono _ _ | exact spec_FourSquares.mono _ _ | exact spec_IsSumOfThree.mono _ _ | exact spec_IsSumOfTwo.mono _ _ | exact spec_SumsOfTwoUpTo.mono _ _ | exact spec_TwoSquares.mono _ _ | exact LeO.refl _ | exact LeO.none _ | refine LeO.ite ?_ ?_ | refine LeO.bind ?_ (fun _ => ?_))
  ·
   intro y0 y1 y2 y3 y4 y5 y6 y7
   unfold j9
   repeat' first
   | (with_reducible first | exact ih0 _ _ _ _ _ _ _ _ _ _ _ _ | exact ih1 _ _ _ _ _ _ _ | exact ih2 _ _ _ _ | exact ih3 _ _ _ _ _ _ _ | exact ih4 _ _ _ _ _ _ | exact ih5 _ _ _ _ _ _ | exact ih6 _ _ _ _ _ _ _ _ | exact ih7 _ _ _ _ _ _ _ _ _ _ | exact ih8 _ _ _ _ _ _ _ _ _ _ _ _ _ _ _ | exact ih9 _ _ _ _ _ _ _ _ _ _ | exact impl_CountAsFour.mono _ _ | exact impl_CountAsTwo.mono _ _ | exact impl_CountInCircle.mono _ _ | exact impl_FourSquares.mono _ _ | exact impl_IsSumOfThree.mono _ _ | exact impl_IsSumOfTwo.mono _ _ | exact impl_SumsOfTwoUpTo.mono _ _ | exact impl_TwoSquares.mono _ _ | exact laws_tHas.mono _ _ _ | exact laws_tRows.mono _ _ _ | exact laws_tSame.mono _ _ _ | exact spec_CountAsFour.mono _ _ | exact spec_CountAsTwo.mono _ _ | exact spec_CountInCircle.mono _ _ | exact spec_FourSquares.mono _ _ | exact spec_IsSumOfThree.mono _ _ | exact spec_IsSumOfTwo.mono _ _ | exact spec_SumsOfTwoUpTo.mono _ _ | exact spec_TwoSquares.mono _ _ | exact LeO.refl _ | exact LeO.none _ | refine LeO.ite ?_ ?_ | refine LeO.bind ?_ (fun _ => ?_))
  ·
   intro y0 y1 y2 y3 y4 y5 y6 y7 y8 y9
   unfold laws_FnSumsOfSquaresOfAll.l1
   repeat' first
   | (with_reducible first | exact ih0 _ _ _ _ _ _ _ _ _ _ _ _ | exact ih1 _ _ _ _ _ _ _ | exact ih2 _ _ _ _ | exact ih3 _ _ _ _ _ _ _ | exact ih4 _ _ _ _ _ _ | exact ih5 _ _ _ _ _ _ | exact ih6 _ _ _ _ _ _ _ _ | exact ih7 _ _ _ _ _ _ _ _ _ _ | exact ih8 _ _ _ _ _ _ _ _ _ _ _ _ _ _ _ | exact ih9 _ _ _ _ _ _ _ _ _ _ | exact impl_CountAsFour.mono _ _ | exact impl_CountAsTwo.mono _ _ | exact impl_CountInCircle.mono _ _ | exact impl_FourSquares.mono _ _ | exact impl_IsSumOfThree.mono _ _ | exact impl_IsSumOfTwo.mono _ _ | exact impl_SumsOfTwoUpTo.mono _ _ | exact impl_TwoSquares.mono _ _ | exact laws_tHas.mono _ _ _ | exact laws_tRows.mono _ _ _ | exact laws_tSame.mono _ _ _ | exact spec_CountAsFour.mono _ _ | exact spec_CountAsTwo.mono _ _ | exact spec_CountInCircle.mono _ _ | exact spec_FourSquares.mono _ _ | exact spec_IsSumOfThree.mono _ _ | exact spec_IsSumOfTwo.mono _ _ | exact spec_SumsOfTwoUpTo.mono _ _ | exact spec_TwoSquares.mono _ _ | exact LeO.refl _ | exact LeO.none _ | refine LeO.ite ?_ ?_ | refine LeO.bind ?_ (fun _ => ?_))
  ·
   intro y0 y1 y2 y3 y4 y5 y6 y7 y8 y9 y10 y11 y12 y13 y14
   unfold laws_FnSumsOfSquaresOfAll.l0
   repeat' first
   | (with_reducible first | exact ih0 _ _ _ _ _ _ _ _ _ _ _ _ | exact ih1 _ _ _ _ _ _ _ | exact ih2 _ _ _ _ | exact ih3 _ _ _ _ _ _ _ | exact ih4 _ _ _ _ _ _ | exact ih5 _ _ _ _ _ _ | exact ih6 _ _ _ _ _ _ _ _ | exact ih7 _ _ _ _ _ _ _ _ _ _ | exact ih8 _ _ _ _ _ _ _ _ _ _ _ _ _ _ _ | exact ih9 _ _ _ _ _ _ _ _ _ _ | exact impl_CountAsFour.mono _ _ | exact impl_CountAsTwo.mono _ _ | exact impl_CountInCircle.mono _ _ | exact impl_FourSquares.mono _ _ | exact impl_IsSumOfThree.mono _ _ | exact impl_IsSumOfTwo.mono _ _ | exact impl_SumsOfTwoUpTo.mono _ _ | exact impl_TwoSquares.mono _ _ | exact laws_tHas.mono _ _ _ | exact laws_tRows.mono _ _ _ | exact laws_tSame.mono _ _ _ | exact spec_CountAsFour.mono _ _ | exact spec_CountAsTwo.mono _ _ | exact spec_CountInCircle.mono _ _ | exact spec_FourSquares.mono _ _ | exact spec_IsSumOfThree.mono _ _ | exact spec_IsSumOfTwo.mono _ _ | exact spec_SumsOfTwoUpTo.mono _ _ | exact spec_TwoSquares.mono _ _ | exact LeO.refl _ | exact LeO.none _ | refine LeO.ite ?_ ?_ | refine LeO.bind ?_ (fun _ => ?_))
  ·
   intro y0 y1 y2 y3 y4 y5 y6 y7 y8 y9
   unfold j2
   repeat' first
   | (with_reducible first | exact ih0 _ _ _ _ _ _ _ _ _ _ _ _ | exact ih1 _ _ _ _ _ _ _ | exact ih2 _ _ _ _ | exact ih3 _ _ _ _ _ _ _ | exact ih4 _ _ _ _ _ _ | exact ih5 _ _ _ _ _ _ | exact ih6 _ _ _ _ _ _ _ _ | exact ih7 _ _ _ _ _ _ _ _ _ _ | exact ih8 _ _ _ _ _ _ _ _ _ _ _ _ _ _ _ | exact ih9 _ _ _ _ _ _ _ _ _ _ | exact impl_CountAsFour.mono _ _ | exact impl_CountAsTwo.mono _ _ | exact impl_CountInCircle.mono _ _ | exact impl_FourSquares.mono _ _ | exact impl_IsSumOfThree.mono _ _ | exact impl_IsSumOfTwo.mono _ _ | exact impl_SumsOfTwoUpTo.mono _ _ | exact impl_TwoSquares.mono _ _ | exact laws_tHas.mono _ _ _ | exact laws_tRows.mono _ _ _ | exact laws_tSame.mono _ _ _ | exact spec_CountAsFour.mono _ _ | exact spec_CountAsTwo.mono _ _ | exact spec_CountInCircle.mono _ _ | exact spec_FourSquares.mono _ _ | exact spec_IsSumOfThree.mono _ _ | exact spec_IsSumOfTwo.mono _ _ | exact spec_SumsOfTwoUpTo.mono _ _ | exact spec_TwoSquares.mono _ _ | exact LeO.refl _ | exact LeO.none _ | refine LeO.ite ?_ ?_ | refine LeO.bind ?_ (fun _ => ?_))
theorem laws_FnSumsOfSquaresOfAll.mono : ∀ a0 a1 k, LeO (laws_FnSumsOfSquaresOfAll.f k a0 a1) (laws_FnSumsOfSquaresOfAll.f (k + 1) a0 a1) := by
 intro a0 a1 k
 obtain ⟨ih0, ih1, ih2, ih3, ih4, ih5, ih6, ih7, ih8, ih9⟩ := laws_FnSumsOfSquaresOfAll.mono_l k
 unfold laws_FnSumsOfSquaresOfAll.f
 repeat' first
   | (with_reducible first | exact ih0 _ _ _ _ _ _ _ _ _ _ _ _ | exact ih1 _ _ _ _ _ _ _ | exact ih2 _ _ _ _ | exact ih3 _ _ _ _ _ _ _ | exact ih4 _ _ _ _ _ _ | exact ih5 _ _ _ _ _ _ | exact ih6 _ _ _ _ _ _ _ _ | exact ih7 _ _ _ _ _ _ _ _ _ _ | exact ih8 _ _ _ _ _ _ _ _ _ _ _ _ _ _ _ | exact ih9 _ _ _ _ _ _ _ _ _ _ | exact impl_CountAsFour.mono _ _ | exact impl_CountAsTwo.mono _ _ | exact impl_CountInCircle.mono _ _ | exact impl_FourSquares.mono _ _ | exact impl_IsSumOfThree.mono _ _ | exact impl_IsSumOfTwo.mono _ _ | exact impl_SumsOfTwoUpTo.mono _ _ | exact impl_TwoSquares.mono _ _ | exact laws_tHas.mono _ _ _ | exact laws_tRows.mono _ _ _ | exact laws_tSame.mono _ _ _ | exact spec_CountAsFour.mono _ _ | exact spec_CountAsTwo.mono _ _ | exact spec_CountInCircle.mono _ _ | exact spec_FourSquares.mono _ _ | exact spec_IsSumOfThree.mono _ _ | exact spec_IsSumOfTwo.mono _ _ | exact spec_SumsOfTwoUpTo.mono _ _ | exact spec_TwoSquares.mono _ _ | exact LeO.refl _ | exact LeO.none _ | refine LeO.ite ?_ ?_ | refine LeO.bind ?_ (fun _ => ?_))
theorem laws_FnSumsOfSquaresOfAll.j0_no : ∀ k y0 y1 y2 y3 y4 y5 y6 y7 y8 y9 y10, j0 k y0 y1 y2 y3 y4 y5 y6 y7 y8 y9 y10 true = some true → False := by
 intro k y0 y1 y2 y3 y4 y5 y6 y7 y8 y9 y10 h
 cases k with
 | zero => simp [j0] at h
 | succ k => simp [j0] at h
theorem laws_FnSumsOfSquaresOfAll.j6_no : ∀ k y0 y1 y2 y3 y4 y5, j6 k y0 y1 y2 y3 y4 y5 true = some true → False := by
 intro k y0 y1 y2 y3 y4 y5 h
 cases k with
 | zero => simp [j6] at h
 | succ k => simp [j6] at h
theorem laws_FnSumsOfSquaresOfAll.j2_no : ∀ k y0 y1 y2 y3 y4 y5 y6 y7 y8, j2 k y0 y1 y2 y3 y4 y5 y6 y7 y8 true = some true → False := by
 intro k y0 y1 y2 y3 y4 y5 y6 y7 y8 h
 cases k with
 | zero => simp [j2] at h
 | succ k => simp [j2] at h

end Go.Proofs.Ytfhfbicejddoiaa.PFnSumsOfSquaresOfAll
