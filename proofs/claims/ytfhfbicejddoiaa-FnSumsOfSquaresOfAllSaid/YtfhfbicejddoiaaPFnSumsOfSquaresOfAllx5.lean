-- Written for this claim by a program of this session, out of the translation and given contracts.
import Derived.Test.YtfhfbicejddoiaaPFnSumsOfSquaresOfAllx0
import Derived.Test.YtfhfbicejddoiaaPFnSumsOfSquaresOfAllx1
import Derived.Test.YtfhfbicejddoiaaPFnSumsOfSquaresOfAllx3
namespace Go.Proofs.Ytfhfbicejddoiaa.PFnSumsOfSquaresOfAll
open Go.RowKit Go.Proofs.YtfhfbicejddoiaaW.PrintWords Go.Proofs.YtfhfbicejddoiaaW.PrintLast Go.Proofs.YtfhfbicejddoiaaW.PrintMore
attribute [local go_sem] max2_int min2_int max_two min_two max_three min_three max_four min_four   -- for this text's walks alone
set_option linter.unusedVariables false
set_option linter.unusedSimpArgs false

/-! ### impl_FourSquares: function 112 -/
mutual
def impl_FourSquares.j0 : Nat → Int → Bool → Option (List Int × Bool)
  | 0, _, _ => none
  | k + 1, x0, x14 => if x14 = true then (some (([] : List Int), false)) else (impl_FourSquares.l0 k x0 0)
def impl_FourSquares.l0 : Nat → Int → Int → Option (List Int × Bool)
  | 0, _, _ => none
  | k + 1, x0, x4 => impl_FourSquares.l1 k x0 x4 x4
def impl_FourSquares.l1 : Nat → Int → Int → Int → Option (List Int × Bool)
  | 0, _, _, _ => none
  | k + 1, x0, x4, x5 => if (wrap64 ((wrap64 (x4 * x4)) + (wrap64 (x5 * x5)))) ≤ x0 then (impl_FourSquares.l2 k x0 x4 x5 x5) else (impl_FourSquares.l0 k x0 (wrap64 (x4 + 1)))
def impl_FourSquares.l2 : Nat → Int → Int → Int → Int → Option (List Int × Bool)
  | 0, _, _, _, _ => none
  | k + 1, x0, x4, x5, x6 => if (wrap64 ((wrap64 ((wrap64 (x4 * x4)) + (wrap64 (x5 * x5)))) + (wrap64 ((wrap64 (2 * x6)) * x6)))) ≤ x0 then ((impl_rootOf.f (wrap64 ((wrap64 ((wrap64 (x0 - (wrap64 (x4 * x4)))) - (wrap64 (x5 * x5)))) - (wrap64 (x6 * x6))))).bind fun t169 => (if (wrap64 (t169 * t169)) = (wrap64 ((wrap64 ((wrap64 (x0 - (wrap64 (x4 * x4)))) - (wrap64 (x5 * x5)))) - (wrap64 (x6 * x6)))) then (some ((([x4, x5, x6, t169] : List Int)), true)) else (impl_FourSquares.l2 k x0 x4 x5 (wrap64 (x6 + 1))))) else (impl_FourSquares.l1 k x0 x4 (wrap64 (x5 + 1)))
end
def impl_FourSquares.f (k : Nat) (a0 : Int) : Option (List Int × Bool) := if a0 < 1 then (impl_FourSquares.j0 k a0 true) else (impl_FourSquares.j0 k a0 (decide (a0 > 5000)))
theorem impl_FourSquares.mono_l : ∀ k, (∀ y0 y1, LeO (impl_FourSquares.j0 k y0 y1) (impl_FourSquares.j0 (k + 1) y0 y1)) ∧ (∀ y0 y1, LeO (impl_FourSquares.l0 k y0 y1) (impl_FourSquares.l0 (k + 1) y0 y1)) ∧ (∀ y0 y1 y2, LeO (impl_FourSquares.l1 k y0 y1 y2) (impl_FourSquares.l1 (k + 1) y0 y1 y2)) ∧ (∀ y0 y1 y2 y3, LeO (impl_FourSquares.l2 k y0 y1 y2 y3) (impl_FourSquares.l2 (k + 1) y0 y1 y2 y3))
  | 0 => ⟨fun _ _ r h => by simp [impl_FourSquares.j0] at h, fun _ _ r h => by simp [impl_FourSquares.l0] at h, fun _ _ _ r h => by simp [impl_FourSquares.l1] at h, fun _ _ _ _ r h => by simp [impl_FourSquares.l2] at h⟩
  | k + 1 => by
    obtain ⟨ih0, ih1, ih2, ih3⟩ := impl_FourSquares.mono_l k
    refine ⟨?_, ?_, ?_, ?_⟩
    · intro y0 y1
      unfold impl_FourSquares.j0
      repeat' first
      | (with_reducible exact ih0 _ _)
      | (with_reducible exact ih1 _ _)
      | (with_reducible exact ih2 _ _ _)
      | (with_reducible exact ih3 _ _ _ _)
      | (with_reducible exact LeO.refl _)
      | (with_reducible exact LeO.none _)
      | (with_reducible refine LeO.ite ?_ ?_)
      | (with_reducible refine LeO.bind ?_ (fun _ => ?_))
      | exact ih0 _ _
      | exact ih1 _ _
      | exact ih2 _ _ _
      | exact ih3 _ _ _ _
      | exact LeO.none _
      | refine LeO.ite ?_ ?_
      | refine LeO.bind ?_ (fun _ => ?_)
    · intro y0 y1
      unfold impl_FourSquares.l0
      repeat' first
      | (with_reducible exact ih0 _ _)
      | (with_reducible exact ih1 _ _)
      | (with_reducible exact ih2 _ _ _)
      | (with_reducible exact ih3 _ _ _ _)
      | (with_reducible exact LeO.refl _)
      | (with_reducible exact LeO.none _)
      | (with_reducible refine LeO.ite ?_ ?_)
      | (with_reducible refine LeO.bind ?_ (fun _ => ?_))
      | exact ih0 _ _
      | exact ih1 _ _
      | exact ih2 _ _ _
      | exact ih3 _ _ _ _
      | exact LeO.none _
      | refine LeO.ite ?_ ?_
      | refine LeO.bind ?_ (fun _ => ?_)
    · intro y0 y1 y2
      unfold impl_FourSquares.l1
      repeat' first
      | (with_reducible exact ih0 _ _)
      | (with_reducible exact ih1 _ _)
      | (with_reducible exact ih2 _ _ _)
      | (with_reducible exact ih3 _ _ _ _)
      | (with_reducible exact LeO.refl _)
      | (with_reducible exact LeO.none _)
      | (with_reducible refine LeO.ite ?_ ?_)
      | (with_reducible refine LeO.bind ?_ (fun _ => ?_))
      | exact ih0 _ _
      | exact ih1 _ _
      | exact ih2 _ _ _
      | exact ih3 _ _ _ _
      | exact LeO.none _
      | refine LeO.ite ?_ ?_
      | refine LeO.bind ?_ (fun _ => ?_)
    · intro y0 y1 y2 y3
      unfold impl_FourSquares.l2
      repeat' first
      | (with_reducible exact ih0 _ _)
      | (with_reducible exact ih1 _ _)
      | (with_reducible exact ih2 _ _ _)
      | (with_reducible exact ih3 _ _ _ _)
      | (with_reducible exact LeO.refl _)
      | (with_reducible exact LeO.none _)
      | (with_reducible refine LeO.ite ?_ ?_)
      | (with_reducible refine LeO.bind ?_ (fun _ => ?_))
      | exact ih0 _ _
      | exact ih1 _ _
      | exact ih2 _ _ _
      | exact ih3 _ _ _ _
      | exact LeO.none _
      | refine LeO.ite ?_ ?_
      | refine LeO.bind ?_ (fun _ => ?_)
theorem impl_FourSquares.mono : ∀ a0 k, LeO (impl_FourSquares.f k a0) (impl_FourSquares.f (k + 1) a0) := by
  intro a0 k
  obtain ⟨ih0, ih1, ih2, ih3⟩ := impl_FourSquares.mono_l k
  unfold impl_FourSquares.f
  repeat' first
      | (with_reducible exact ih0 _ _)
      | (with_reducible exact ih1 _ _)
      | (with_reducible exact ih2 _ _ _)
      | (with_reducible exact ih3 _ _ _ _)
      | (with_reducible exact LeO.refl _)
      | (with_reducible exact LeO.none _)
      | (with_reducible refine LeO.ite ?_ ?_)
      | (with_reducible refine LeO.bind ?_ (fun _ => ?_))
      | exact ih0 _ _
      | exact ih1 _ _
      | exact ih2 _ _ _
      | exact ih3 _ _ _ _
      | exact LeO.none _
      | refine LeO.ite ?_ ?_
      | refine LeO.bind ?_ (fun _ => ?_)
set_option maxHeartbeats 8000000 in
set_option maxRecDepth 100000 in
theorem impl_FourSquares.calls (k : Nat) (a0 : Int) (r1 : List Int) (r2 : Bool) (w : World) (h : impl_FourSquares.f k a0 = some (r1, r2)) :
    Calls Try.prog 112 #[.int .i64 a0] w fun e w' => ∃ v0_ : Value, e = .returned (.tuple #[v0_, .bool r2]) ∧ Kd.R (Kd.int .i64) 3 w' w.heap.size (fun _ => True) v0_ r1 ∧ Below w.heap.size w w' := by
  have HB := Aside0.mk (Below.refl w.heap.size w)
  have H : (if a0 < 1 then (impl_FourSquares.j0 k a0 true) else (impl_FourSquares.j0 k a0 (decide (a0 > 5000)))) = some (r1, r2) := h
  clear h
  have HC2 := Aside0.mk H
  clear H
  go_enter Try.func112, Try.ntmps112
  go_upto_region 1 with (fail)
  go_cut [14] (fun v14 wc => ∃ (kq : Nat) (x14_1 : Bool), v14 = .bool x14_1 ∧ Aside0 (impl_FourSquares.j0 kq a0 x14_1 = some (r1, r2)) ∧ Aside0 (kq ≤ k) ∧ Aside0 (Below w.heap.size w wc))
  case first =>
    have H := HC2.out
    clear HC2
    by_cases c3 : a0 < 1
    · rw [if_pos c3] at H
      have c3b0 : decide (a0 < 1) = true := decide_eq_true c3
      clear c3
      (first | rw [c3b0] | (simp only [i64_w, i32_w]; rw [c3b0]) | skip)
      have H' := Aside0.mk H
      clear H
      go_wp2
      go_meet
      case rel => exact ⟨_, (true), (by first | rfl | (simp; done) | (simp [*]; done)), H', ⟨by first | omega | exact Nat.le_refl _⟩, ⟨by repeat (first | (with_reducible first | exact HB.out | apply below_alloc | apply pw_below_drewN | apply below_drew1) | exact HB.out)⟩⟩
    · rw [if_neg c3] at H
      have c3b0 : decide (a0 < 1) = false := decide_eq_false c3
      clear c3
      (first | rw [c3b0] | (simp only [i64_w, i32_w]; rw [c3b0]) | skip)
      have H' := Aside0.mk H
      clear H
      go_wp2
      go_meet
      case rel => exact ⟨_, (decide (a0 > 5000)), (by first | rfl | (simp; done) | (simp [*]; done)), H', ⟨by first | omega | exact Nat.le_refl _⟩, ⟨by repeat (first | (with_reducible first | exact HB.out | apply below_alloc | apply pw_below_drewN | apply below_drew1) | exact HB.out)⟩⟩
  case rest =>
    clear HC2
    try clear c1
    try clear p2
    try clear c3
    try clear c3b0
    obtain ⟨kq, x14_1, rfl, HA, HJ1, HB⟩ := hcut
    cases kq with
    | zero => exact absurd HA.out (by simp [impl_FourSquares.j0])
    | succ kj1 =>
      have H := HA.out
      clear HA
      simp only [impl_FourSquares.j0] at H
      by_cases c4 : x14_1 = true
      · subst c4
        have H1 : (some (([] : List Int), false)) = some (r1, r2) := by rw [if_pos rfl] at H; exact H
        clear H
        have H := H1
        clear H1
        simp only [Option.some.injEq, Prod.mk.injEq] at H
        obtain ⟨rfl, rfl⟩ := H
        go_wp2
        go_ret2
        exact ⟨_, by first | rfl | (simp [errW_none, errW_some] <;> rfl) | (simp [*, errW_none, errW_some] <;> rfl), by first | exact Kd.R_nil _ _ _ _ _ | exact Kd.N_nil _ _ _ _ _ | exact Kd.V_nil _ _ _ _ _ | exact Kd.Q_nil _ _ _ _ _ | exact Kd.S_nil _ _ _ _ _, by repeat (first | (with_reducible first | exact HB.out | apply below_alloc | apply pw_below_drewN | apply below_drew1) | exact HB.out)⟩
      · replace c4 := Bool.eq_false_iff.mpr c4
        subst c4
        have H1 : (impl_FourSquares.l0 kj1 a0 0) = some (r1, r2) := by rw [if_neg (show ¬ (false = true) by decide)] at H; exact H
        clear H
        have H := H1
        clear H1
        have H' := Aside0.mk H
        clear H
        go_wp2
        go_loopg [4] kj1 (fun kq v4 w' => ∃ (x4_2 : Int), v4 = .int .i64 x4_2 ∧ Aside0 (impl_FourSquares.l0 kq a0 x4_2 = some (r1, r2)) ∧ Aside0 (kq ≤ kj1) ∧ Aside0 (Below w.heap.size w w'))
        case atStart => exact ⟨(0), (by first | rfl | (simp; done) | (simp [*]; done)), H', ⟨Nat.le_refl _⟩, ⟨by repeat (first | (with_reducible first | exact HB.out | apply below_alloc | apply pw_below_drewN | apply below_drew1) | exact HB.out)⟩⟩
        case round =>
          clear H'
          try clear c1
          try clear p2
          try clear c3
          try clear c3b0
          try clear c4
          try clear p2
          obtain ⟨x4_2, rfl, HA, HK2, HB⟩ := hrel
          cases gk with
          | zero => exact absurd HA.out (by simp [impl_FourSquares.l0])
          | succ k2 =>
            have H := HA.out
            clear HA
            simp only [impl_FourSquares.l0] at H
            have H' := Aside0.mk H
            clear H
            go_wp2
            go_loopg [5] k2 (fun kq v5 w' => ∃ (x5_3 : Int), v5 = .int .i64 x5_3 ∧ Aside0 (impl_FourSquares.l1 kq a0 x4_2 x5_3 = some (r1, r2)) ∧ Aside0 (kq ≤ k2) ∧ Aside0 (Below w.heap.size w w'))
            case atStart => exact ⟨(x4_2), (by first | rfl | (simp; done) | (simp [*]; done)), H', ⟨Nat.le_refl _⟩, ⟨by repeat (first | (with_reducible first | exact HB.out | apply below_alloc | apply pw_below_drewN | apply below_drew1) | exact HB.out)⟩⟩
            case round =>
              clear H'
              try clear c1
              try clear p2
              try clear c3
              try clear c3b0
              try clear c4
              try clear p2
              obtain ⟨x5_3, rfl, HA, HK3, HB⟩ := hrel
              cases gk with
              | zero => exact absurd HA.out (by simp [impl_FourSquares.l1])
              | succ k3 =>
                have H := HA.out
                clear HA
                simp only [impl_FourSquares.l1] at H
                by_cases c5 : (wrap64 ((wrap64 (x4_2 * x4_2)) + (wrap64 (x5_3 * x5_3)))) ≤ a0
                · rw [if_pos c5] at H
                  have c5b0 : decide ((wrap64 ((wrap64 (x4_2 * x4_2)) + (wrap64 (x5_3 * x5_3)))) ≤ a0) = true := decide_eq_true c5
                  clear c5
                  have H' := Aside0.mk H
                  clear H
                  go_wp2
                  go_loopg [6] k3 (fun kq v6 w' => ∃ (x6_4 : Int), v6 = .int .i64 x6_4 ∧ Aside0 (impl_FourSquares.l2 kq a0 x4_2 x5_3 x6_4 = some (r1, r2)) ∧ Aside0 (kq ≤ k3) ∧ Aside0 (Below w.heap.size w w'))
                  case atStart => exact ⟨(x5_3), (by first | rfl | (simp; done) | (simp [*]; done)), H', ⟨Nat.le_refl _⟩, ⟨by repeat (first | (with_reducible first | exact HB.out | apply below_alloc | apply pw_below_drewN | apply below_drew1) | exact HB.out)⟩⟩
                  case round =>
                    clear H'
                    try clear c1
                    try clear p2
                    try clear c3
                    try clear c3b0
                    try clear c4
                    try clear c5
                    try clear c5b0
                    try clear p2
                    obtain ⟨x6_4, rfl, HA, HK4, HB⟩ := hrel
                    cases gk with
                    | zero => exact absurd HA.out (by simp [impl_FourSquares.l2])
                    | succ k4 =>
                      have H := HA.out
                      clear HA
                      simp only [impl_FourSquares.l2] at H
                      by_cases c6 : (wrap64 ((wrap64 ((wrap64 (x4_2 * x4_2)) + (wrap64 (x5_3 * x5_3)))) + (wrap64 ((wrap64 (2 * x6_4)) * x6_4)))) ≤ a0
                      · rw [if_pos c6] at H
                        have c6b0 : decide ((wrap64 ((wrap64 ((wrap64 (x4_2 * x4_2)) + (wrap64 (x5_3 * x5_3)))) + (wrap64 ((wrap64 (2 * x6_4)) * x6_4)))) ≤ a0) = true := decide_eq_true c6
                        clear c6
                        replace H := Option.bind_eq_some_iff.mp H
                        obtain ⟨t169, A70, H⟩ := H
                        replace H : (if (wrap64 (t169 * t169)) = (wrap64 ((wrap64 ((wrap64 (a0 - (wrap64 (x4_2 * x4_2)))) - (wrap64 (x5_3 * x5_3)))) - (wrap64 (x6_4 * x6_4)))) then (some ((([x4_2, x5_3, x6_4, t169] : List Int)), true)) else (impl_FourSquares.l2 k4 a0 x4_2 x5_3 (wrap64 (x6_4 + 1)))) = some (r1, r2) := H
                        have A7 := Aside0.mk A70
                        clear A70
                        by_cases c8 : (wrap64 (t169 * t169)) = (wrap64 ((wrap64 ((wrap64 (a0 - (wrap64 (x4_2 * x4_2)))) - (wrap64 (x5_3 * x5_3)))) - (wrap64 (x6_4 * x6_4))))
                        · rw [if_pos c8] at H
                          have c8b0 : ((wrap64 (t169 * t169)) == (wrap64 ((wrap64 ((wrap64 (a0 - (wrap64 (x4_2 * x4_2)))) - (wrap64 (x5_3 * x5_3)))) - (wrap64 (x6_4 * x6_4))))) = true := beq_iff_eq.mpr c8
                          have c8b1 : ((wrap64 (t169 * t169)) != (wrap64 ((wrap64 ((wrap64 (a0 - (wrap64 (x4_2 * x4_2)))) - (wrap64 (x5_3 * x5_3)))) - (wrap64 (x6_4 * x6_4))))) = false := bne_eq_false_iff_eq.mpr c8
                          clear c8
                          obtain ⟨y170, hy170⟩ : ∃ y_ : List Int, y_ = (([x4_2, x5_3, x6_4, t169] : List Int)) := ⟨_, rfl⟩
                          replace H : (some (y170, true)) = some (r1, r2) := by first | (rw [hy170]; with_reducible exact H) | (have H2_ := (Option.bind_some _ _).symm.trans H; rw [hy170]; with_reducible exact H2_) | (have H2_ := (Option.bind_some _ _).symm.trans H; with_reducible exact H2_) | with_reducible exact H | (rw [hy170]; exact H) | exact H
                          have Ny170 := Aside0.mk hy170
                          clear hy170
                          simp only [Option.some.injEq, Prod.mk.injEq] at H
                          obtain ⟨rfl, rfl⟩ := H
                          go_wp2_with (first | ((with_reducible refine gate_callee (f := 185) rfl ?_); refine goesL_ (some 60) rfl rfl Try.func185 (by kernel_rfl) rfl #[.int .i64 (wrap64 ((wrap64 ((wrap64 (a0 - (wrap64 (x4_2 * x4_2)))) - (wrap64 (x5_3 * x5_3)))) - (wrap64 (x6_4 * x6_4))))] rfl (by (try simp only [List.map_toArray, List.map_cons, List.map_nil]); first | done | rfl | (simp only [List.length_drop, List.length_take]; rfl)) ?_; (with_reducible refine (impl_rootOf.calls (wrap64 ((wrap64 ((wrap64 (a0 - (wrap64 (x4_2 * x4_2)))) - (wrap64 (x5_3 * x5_3)))) - (wrap64 (x6_4 * x6_4)))) t169 _ A7.out).mono ?_); rintro e w' ⟨rfl, ⟨nd, rfl⟩⟩; refine ⟨_, rfl, ?_⟩) | ((with_reducible refine gate_dst (N := 70) rfl ?_); refine Kd.R_lit (Kd.int .i64) _ 3 ?hg (N := 70) ?hd (xs := ([x4_2, x5_3, x6_4, t169] : List Int)) (inner := [.int .i64 x4_2, .int .i64 x5_3, .int .i64 x6_4, .int .i64 t169]) (ok := fun _ => True) (okp := fun _ => True) ?hr ?hp (fun _ hk => hk) trivial (Below.refl _ _) (Nat.le_refl _) (by simp) ?_; (case hd => rfl); (case hg => rfl); (case hr => first | (go_simp; done) | (go_simp; rfl)); (case hp => exact (Reps.one (show Kd.M (Kd.int .i64) _ _ _ x4_2 [.int .i64 x4_2] from rfl) (Reps.one (show Kd.M (Kd.int .i64) _ _ _ x5_3 [.int .i64 x5_3] from rfl) (Reps.one (show Kd.M (Kd.int .i64) _ _ _ x6_4 [.int .i64 x6_4] from rfl) (Reps.one (show Kd.M (Kd.int .i64) _ _ _ t169 [.int .i64 t169] from rfl) (Reps.none _ _)))))); intro v171 w9 ho10 hb hg_ hnew_; clear hg_ hnew_; (first | rw [← Ny170.out] at ho10 | (simp only [Int.reduceToNat] at ho10; rw [← Ny170.out] at ho10)); have n0_ := Aside0.mk (Kd.R_lower ho10 (below_size (by repeat (first | (with_reducible first | exact HB.out | apply below_alloc | apply pw_below_drewN | apply below_drew1) | exact HB.out)))); have n1_ := Aside0.mk (below_step (by repeat (first | (with_reducible first | exact HB.out | apply below_alloc | apply pw_below_drewN | apply below_drew1) | exact HB.out)) hb); clear HB; have HO172 := n0_; have HB := n1_; clear n0_ n1_; clear hb ho10))
                          go_ret2
                          exact ⟨_, by first | rfl | (simp [errW_none, errW_some] <;> rfl) | (simp [*, errW_none, errW_some] <;> rfl), by (with_reducible repeat (first | apply Kd.R_alloc | apply Kd.R_drewN | apply Kd.R_drew)); exact HO172.out, by repeat (first | (with_reducible first | exact HB.out | apply below_alloc | apply pw_below_drewN | apply below_drew1) | exact HB.out)⟩
                        · rw [if_neg c8] at H
                          have c8b0 : ((wrap64 (t169 * t169)) == (wrap64 ((wrap64 ((wrap64 (a0 - (wrap64 (x4_2 * x4_2)))) - (wrap64 (x5_3 * x5_3)))) - (wrap64 (x6_4 * x6_4))))) = false := beq_eq_false_iff_ne.mpr c8
                          have c8b1 : ((wrap64 (t169 * t169)) != (wrap64 ((wrap64 ((wrap64 (a0 - (wrap64 (x4_2 * x4_2)))) - (wrap64 (x5_3 * x5_3)))) - (wrap64 (x6_4 * x6_4))))) = true := bne_iff_ne.mpr c8
                          have H' := Aside0.mk H
                          clear H
                          go_wp2_with (first | ((with_reducible refine gate_callee (f := 185) rfl ?_); refine goesL_ (some 60) rfl rfl Try.func185 (by kernel_rfl) rfl #[.int .i64 (wrap64 ((wrap64 ((wrap64 (a0 - (wrap64 (x4_2 * x4_2)))) - (wrap64 (x5_3 * x5_3)))) - (wrap64 (x6_4 * x6_4))))] rfl (by (try simp only [List.map_toArray, List.map_cons, List.map_nil]); first | done | rfl | (simp only [List.length_drop, List.length_take]; rfl)) ?_; (with_reducible refine (impl_rootOf.calls (wrap64 ((wrap64 ((wrap64 (a0 - (wrap64 (x4_2 * x4_2)))) - (wrap64 (x5_3 * x5_3)))) - (wrap64 (x6_4 * x6_4)))) t169 _ A7.out).mono ?_); rintro e w' ⟨rfl, ⟨nd, rfl⟩⟩; refine ⟨_, rfl, ?_⟩))
                          go_roundg k4
                          case measure => have := HJ1.out; have := HK2.out; have := HK3.out; have := HK4.out; omega
                          case rel => exact ⟨(wrap64 (x6_4 + 1)), (by first | rfl | (simp; done) | (simp [*]; done)), H', ⟨by have := HJ1.out; have := HK2.out; have := HK3.out; have := HK4.out; omega⟩, ⟨by repeat (first | (with_reducible first | exact HB.out | apply below_alloc | apply pw_below_drewN | apply below_drew1) | exact HB.out)⟩⟩
                      · rw [if_neg c6] at H
                        have c6b0 : decide ((wrap64 ((wrap64 ((wrap64 (x4_2 * x4_2)) + (wrap64 (x5_3 * x5_3)))) + (wrap64 ((wrap64 (2 * x6_4)) * x6_4)))) ≤ a0) = false := decide_eq_false c6
                        clear c6
                        have H' := Aside0.mk H
                        clear H
                        go_wp2
                        go_roundg k4
                        case measure => have := HJ1.out; have := HK2.out; have := HK3.out; have := HK4.out; omega
                        case rel => exact ⟨(wrap64 (x5_3 + 1)), (by first | rfl | (simp; done) | (simp [*]; done)), H', ⟨by have := HJ1.out; have := HK2.out; have := HK3.out; have := HK4.out; omega⟩, ⟨by repeat (first | (with_reducible first | exact HB.out | apply below_alloc | apply pw_below_drewN | apply below_drew1) | exact HB.out)⟩⟩
                · rw [if_neg c5] at H
                  have c5b0 : decide ((wrap64 ((wrap64 (x4_2 * x4_2)) + (wrap64 (x5_3 * x5_3)))) ≤ a0) = false := decide_eq_false c5
                  clear c5
                  have H' := Aside0.mk H
                  clear H
                  go_wp2
                  go_roundg k3
                  case measure => have := HJ1.out; have := HK2.out; have := HK3.out; omega
                  case rel => exact ⟨(wrap64 (x4_2 + 1)), (by first | rfl | (simp; done) | (simp [*]; done)), H', ⟨by have := HJ1.out; have := HK2.out; have := HK3.out; omega⟩, ⟨by repeat (first | (with_reducible first | exact HB.out | apply below_alloc | apply pw_below_drewN | apply below_drew1) | exact HB.out)⟩⟩

/-! ### spec_FourSquares: function 113 -/
mutual
def spec_FourSquares.l0 : Nat → Int → Int → Option (List Int × Bool)
  | 0, _, _ => none
  | k + 1, x0, x4 => if (wrap64 ((wrap64 (4 * x4)) * x4)) ≤ x0 then (spec_FourSquares.l1 k x0 x4 x4) else (some (([] : List Int), false))
def spec_FourSquares.l1 : Nat → Int → Int → Int → Option (List Int × Bool)
  | 0, _, _, _ => none
  | k + 1, x0, x4, x5 => if (wrap64 ((wrap64 (x4 * x4)) + (wrap64 ((wrap64 (3 * x5)) * x5)))) ≤ x0 then (spec_FourSquares.l2 k x0 x4 x5 x5) else (spec_FourSquares.l0 k x0 (wrap64 (x4 + 1)))
def spec_FourSquares.l2 : Nat → Int → Int → Int → Int → Option (List Int × Bool)
  | 0, _, _, _, _ => none
  | k + 1, x0, x4, x5, x6 => if (wrap64 ((wrap64 ((wrap64 (x4 * x4)) + (wrap64 (x5 * x5)))) + (wrap64 ((wrap64 (2 * x6)) * x6)))) ≤ x0 then ((spec_sqRoot.f k (wrap64 ((wrap64 ((wrap64 (x0 - (wrap64 (x4 * x4)))) - (wrap64 (x5 * x5)))) - (wrap64 (x6 * x6))))).bind fun t174 => (if (wrap64 (t174 * t174)) = (wrap64 ((wrap64 ((wrap64 (x0 - (wrap64 (x4 * x4)))) - (wrap64 (x5 * x5)))) - (wrap64 (x6 * x6)))) then (some ((([x4, x5, x6, t174] : List Int)), true)) else (spec_FourSquares.l2 k x0 x4 x5 (wrap64 (x6 + 1))))) else (spec_FourSquares.l1 k x0 x4 (wrap64 (x5 + 1)))
end
def spec_FourSquares.f (k : Nat) (a0 : Int) : Option (List Int × Bool) := (spec_l1In.f a0 1 5000).bind fun t173 => (if t173 = true then (spec_FourSquares.l0 k a0 0) else (some (([] : List Int), false)))
theorem spec_FourSquares.mono_l : ∀ k, (∀ y0 y1, LeO (spec_FourSquares.l0 k y0 y1) (spec_FourSquares.l0 (k + 1) y0 y1)) ∧ (∀ y0 y1 y2, LeO (spec_FourSquares.l1 k y0 y1 y2) (spec_FourSquares.l1 (k + 1) y0 y1 y2)) ∧ (∀ y0 y1 y2 y3, LeO (spec_FourSquares.l2 k y0 y1 y2 y3) (spec_FourSquares.l2 (k + 1) y0 y1 y2 y3))
  | 0 => ⟨fun _ _ r h => by simp [spec_FourSquares.l0] at h, fun _ _ _ r h => by simp [spec_FourSquares.l1] at h, fun _ _ _ _ r h => by simp [spec_FourSquares.l2] at h⟩
  | k + 1 => by
    obtain ⟨ih0, ih1, ih2⟩ := spec_FourSquares.mono_l k
    refine ⟨?_, ?_, ?_⟩
    · intro y0 y1
      unfold spec_FourSquares.l0
      repeat' first
      | (with_reducible exact ih0 _ _)
      | (with_reducible exact ih1 _ _ _)
      | (with_reducible exact ih2 _ _ _ _)
      | (with_reducible exact spec_sqRoot.mono _ _)
      | (with_reducible exact LeO.refl _)
      | (with_reducible exact LeO.none _)
      | (with_reducible refine LeO.ite ?_ ?_)
      | (with_reducible refine LeO.bind ?_ (fun _ => ?_))
      | exact ih0 _ _
      | exact ih1 _ _ _
      | exact ih2 _ _ _ _
      | exact spec_sqRoot.mono _ _
      | exact LeO.none _
      | refine LeO.ite ?_ ?_
      | refine LeO.bind ?_ (fun _ => ?_)
    · intro y0 y1 y2
      unfold spec_FourSquares.l1
      repeat' first
      | (with_reducible exact ih0 _ _)
      | (with_reducible exact ih1 _ _ _)
      | (with_reducible exact ih2 _ _ _ _)
      | (with_reducible exact spec_sqRoot.mono _ _)
      | (with_reducible exact LeO.refl _)
      | (with_reducible exact LeO.none _)
      | (with_reducible refine LeO.ite ?_ ?_)
      | (with_reducible refine LeO.bind ?_ (fun _ => ?_))
      | exact ih0 _ _
      | exact ih1 _ _ _
      | exact ih2 _ _ _ _
      | exact spec_sqRoot.mono _ _
      | exact LeO.none _
      | refine LeO.ite ?_ ?_
      | refine LeO.bind ?_ (fun _ => ?_)
    · intro y0 y1 y2 y3
      unfold spec_FourSquares.l2
      repeat' first
      | (with_reducible exact ih0 _ _)
      | (with_reducible exact ih1 _ _ _)
      | (with_reducible exact ih2 _ _ _ _)
      | (with_reducible exact spec_sqRoot.mono _ _)
      | (with_reducible exact LeO.refl _)
      | (with_reducible exact LeO.none _)
      | (with_reducible refine LeO.ite ?_ ?_)
      | (with_reducible refine LeO.bind ?_ (fun _ => ?_))
      | exact ih0 _ _
      | exact ih1 _ _ _
      | exact ih2 _ _ _ _
      | exact spec_sqRoot.mono _ _
      | exact LeO.none _
      | refine LeO.ite ?_ ?_
      | refine LeO.bind ?_ (fun _ => ?_)
theorem spec_FourSquares.mono : ∀ a0 k, LeO (spec_FourSquares.f k a0) (spec_FourSquares.f (k + 1) a0) := by
  intro a0 k
  obtain ⟨ih0, ih1, ih2⟩ := spec_FourSquares.mono_l k
  unfold spec_FourSquares.f
  repeat' first
      | (with_reducible exact ih0 _ _)
      | (with_reducible exact ih1 _ _ _)
      | (with_reducible exact ih2 _ _ _ _)
      | (with_reducible exact spec_sqRoot.mono _ _)
      | (with_reducible exact LeO.refl _)
      | (with_reducible exact LeO.none _)
      | (with_reducible refine LeO.ite ?_ ?_)
      | (with_reducible refine LeO.bind ?_ (fun _ => ?_))
      | exact ih0 _ _
      | exact ih1 _ _ _
      | exact ih2 _ _ _ _
      | exact spec_sqRoot.mono _ _
      | exact LeO.none _
      | refine LeO.ite ?_ ?_
      | refine LeO.bind ?_ (fun _ => ?_)
set_option maxHeartbeats 8000000 in
set_option maxRecDepth 100000 in
theorem spec_FourSquares.calls (k : Nat) (a0 : Int) (r1 : List Int) (r2 : Bool) (w : World) (h : spec_FourSquares.f k a0 = some (r1, r2)) :
    Calls Try.prog 113 #[.int .i64 a0] w fun e w' => ∃ v0_ : Value, e = .returned (.tuple #[v0_, .bool r2]) ∧ Kd.R (Kd.int .i64) 3 w' w.heap.size (fun _ => True) v0_ r1 ∧ Below w.heap.size w w' := by
  have HB := Aside0.mk (Below.refl w.heap.size w)
  have H : ((spec_l1In.f a0 1 5000).bind fun t173 => (if t173 = true then (spec_FourSquares.l0 k a0 0) else (some (([] : List Int), false)))) = some (r1, r2) := h
  clear h
  replace H := Option.bind_eq_some_iff.mp H
  obtain ⟨t173, A20, H⟩ := H
  replace H : (if t173 = true then (spec_FourSquares.l0 k a0 0) else (some (([] : List Int), false))) = some (r1, r2) := H
  have A2 := Aside0.mk A20
  clear A20
  by_cases c3 : t173 = true
  · subst c3
    have H1 : (spec_FourSquares.l0 k a0 0) = some (r1, r2) := by rw [if_pos rfl] at H; exact H
    clear H
    have H := H1
    clear H1
    have H' := Aside0.mk H
    clear H
    go_enter Try.func113, Try.ntmps113
    go_wp2_with (first | ((with_reducible refine gate_callee (f := 134) rfl ?_); refine goesL_ (some 10) rfl rfl Try.func134 (by kernel_rfl) rfl #[.int .i64 a0, .int .i64 1, .int .i64 5000] rfl (by (try simp only [List.map_toArray, List.map_cons, List.map_nil]); first | done | rfl | (simp only [List.length_drop, List.length_take]; rfl)) ?_; (with_reducible refine (spec_l1In.calls a0 1 5000 true _ A2.out).mono ?_); rintro e w' ⟨rfl, ⟨nd, rfl⟩⟩; refine ⟨_, rfl, ?_⟩))
    go_loopg [4] k (fun kq v4 w' => ∃ (x4_1 : Int), v4 = .int .i64 x4_1 ∧ Aside0 (spec_FourSquares.l0 kq a0 x4_1 = some (r1, r2)) ∧ Aside0 (kq ≤ k) ∧ Aside0 (Below w.heap.size w w'))
    case atStart => exact ⟨(0), (by first | rfl | (simp; done) | (simp [*]; done)), H', ⟨Nat.le_refl _⟩, ⟨by repeat (first | (with_reducible first | exact HB.out | apply below_alloc | apply pw_below_drewN | apply below_drew1) | exact HB.out)⟩⟩
    case round =>
      clear H'
      try clear c1
      try clear p2
      try clear c3
      obtain ⟨x4_1, rfl, HA, HK1, HB⟩ := hrel
      cases gk with
      | zero => exact absurd HA.out (by simp [spec_FourSquares.l0])
      | succ k1 =>
        have H := HA.out
        clear HA
        simp only [spec_FourSquares.l0] at H
        by_cases c4 : (wrap64 ((wrap64 (4 * x4_1)) * x4_1)) ≤ a0
        · rw [if_pos c4] at H
          have c4b0 : decide ((wrap64 ((wrap64 (4 * x4_1)) * x4_1)) ≤ a0) = true := decide_eq_true c4
          clear c4
          have H' := Aside0.mk H
          clear H
          go_wp2
          go_loopg [5] k1 (fun kq v5 w' => ∃ (x5_2 : Int), v5 = .int .i64 x5_2 ∧ Aside0 (spec_FourSquares.l1 kq a0 x4_1 x5_2 = some (r1, r2)) ∧ Aside0 (kq ≤ k1) ∧ Aside0 (Below w.heap.size w w'))
          case atStart => exact ⟨(x4_1), (by first | rfl | (simp; done) | (simp [*]; done)), H', ⟨Nat.le_refl _⟩, ⟨by repeat (first | (with_reducible first | exact HB.out | apply below_alloc | apply pw_below_drewN | apply below_drew1) | exact HB.out)⟩⟩
          case round =>
            clear H'
            try clear c1
            try clear p2
            try clear c3
            try clear c4
            try clear c4b0
            try clear p2
            obtain ⟨x5_2, rfl, HA, HK2, HB⟩ := hrel
            cases gk with
            | zero => exact absurd HA.out (by simp [spec_FourSquares.l1])
            | succ k2 =>
              have H := HA.out
              clear HA
              simp only [spec_FourSquares.l1] at H
              by_cases c5 : (wrap64 ((wrap64 (x4_1 * x4_1)) + (wrap64 ((wrap64 (3 * x5_2)) * x5_2)))) ≤ a0
              · rw [if_pos c5] at H
                have c5b0 : decide ((wrap64 ((wrap64 (x4_1 * x4_1)) + (wrap64 ((wrap64 (3 * x5_2)) * x5_2)))) ≤ a0) = true := decide_eq_true c5
                clear c5
                have H' := Aside0.mk H
                clear H
                go_wp2
                go_loopg [6] k2 (fun kq v6 w' => ∃ (x6_3 : Int), v6 = .int .i64 x6_3 ∧ Aside0 (spec_FourSquares.l2 kq a0 x4_1 x5_2 x6_3 = some (r1, r2)) ∧ Aside0 (kq ≤ k2) ∧ Aside0 (Below w.heap.size w w'))
                case atStart => exact ⟨(x5_2), (by first | rfl | (simp; done) | (simp [*]; done)), H', ⟨Nat.le_refl _⟩, ⟨by repeat (first | (with_reducible first | exact HB.out | apply below_alloc | apply pw_below_drewN | apply below_drew1) | exact HB.out)⟩⟩
                case round =>
                  clear H'
                  try clear c1
                  try clear p2
                  try clear c3
                  try clear c4
                  try clear c4b0
                  try clear c5
                  try clear c5b0
                  try clear p2
                  obtain ⟨x6_3, rfl, HA, HK3, HB⟩ := hrel
                  cases gk with
                  | zero => exact absurd HA.out (by simp [spec_FourSquares.l2])
                  | succ k3 =>
                    have H := HA.out
                    clear HA
                    simp only [spec_FourSquares.l2] at H
                    by_cases c6 : (wrap64 ((wrap64 ((wrap64 (x4_1 * x4_1)) + (wrap64 (x5_2 * x5_2)))) + (wrap64 ((wrap64 (2 * x6_3)) * x6_3)))) ≤ a0
                    · rw [if_pos c6] at H
                      have c6b0 : decide ((wrap64 ((wrap64 ((wrap64 (x4_1 * x4_1)) + (wrap64 (x5_2 * x5_2)))) + (wrap64 ((wrap64 (2 * x6_3)) * x6_3)))) ≤ a0) = true := decide_eq_true c6
                      clear c6
                      replace H := Option.bind_eq_some_iff.mp H
                      obtain ⟨t174, A70, H⟩ := H
                      replace H : (if (wrap64 (t174 * t174)) = (wrap64 ((wrap64 ((wrap64 (a0 - (wrap64 (x4_1 * x4_1)))) - (wrap64 (x5_2 * x5_2)))) - (wrap64 (x6_3 * x6_3)))) then (some ((([x4_1, x5_2, x6_3, t174] : List Int)), true)) else (spec_FourSquares.l2 k3 a0 x4_1 x5_2 (wrap64 (x6_3 + 1)))) = some (r1, r2) := H
                      have A7 := Aside0.mk A70
                      clear A70
                      by_cases c8 : (wrap64 (t174 * t174)) = (wrap64 ((wrap64 ((wrap64 (a0 - (wrap64 (x4_1 * x4_1)))) - (wrap64 (x5_2 * x5_2)))) - (wrap64 (x6_3 * x6_3))))
                      · rw [if_pos c8] at H
                        have c8b0 : ((wrap64 (t174 * t174)) == (wrap64 ((wrap64 ((wrap64 (a0 - (wrap64 (x4_1 * x4_1)))) - (wrap64 (x5_2 * x5_2)))) - (wrap64 (x6_3 * x6_3))))) = true := beq_iff_eq.mpr c8
                        have c8b1 : ((wrap64 (t174 * t174)) != (wrap64 ((wrap64 ((wrap64 (a0 - (wrap64 (x4_1 * x4_1)))) - (wrap64 (x5_2 * x5_2)))) - (wrap64 (x6_3 * x6_3))))) = false := bne_eq_false_iff_eq.mpr c8
                        clear c8
                        obtain ⟨y175, hy175⟩ : ∃ y_ : List Int, y_ = (([x4_1, x5_2, x6_3, t174] : List Int)) := ⟨_, rfl⟩
                        replace H : (some (y175, true)) = some (r1, r2) := by first | (rw [hy175]; with_reducible exact H) | (have H2_ := (Option.bind_some _ _).symm.trans H; rw [hy175]; with_reducible exact H2_) | (have H2_ := (Option.bind_some _ _).symm.trans H; with_reducible exact H2_) | with_reducible exact H | (rw [hy175]; exact H) | exact H
                        have Ny175 := Aside0.mk hy175
                        clear hy175
                        simp only [Option.some.injEq, Prod.mk.injEq] at H
                        obtain ⟨rfl, rfl⟩ := H
                        go_wp2_with (first | ((with_reducible refine gate_callee (f := 186) rfl ?_); refine goesL_ (some 64) rfl rfl Try.func186 (by kernel_rfl) rfl #[.int .i64 (wrap64 ((wrap64 ((wrap64 (a0 - (wrap64 (x4_1 * x4_1)))) - (wrap64 (x5_2 * x5_2)))) - (wrap64 (x6_3 * x6_3))))] rfl (by (try simp only [List.map_toArray, List.map_cons, List.map_nil]); first | done | rfl | (simp only [List.length_drop, List.length_take]; rfl)) ?_; (with_reducible refine (spec_sqRoot.calls k3 (wrap64 ((wrap64 ((wrap64 (a0 - (wrap64 (x4_1 * x4_1)))) - (wrap64 (x5_2 * x5_2)))) - (wrap64 (x6_3 * x6_3)))) t174 _ A7.out).mono ?_); rintro e w' ⟨rfl, ⟨nd, rfl⟩⟩; refine ⟨_, rfl, ?_⟩) | ((with_reducible refine gate_dst (N := 74) rfl ?_); refine Kd.R_lit (Kd.int .i64) _ 3 ?hg (N := 74) ?hd (xs := ([x4_1, x5_2, x6_3, t174] : List Int)) (inner := [.int .i64 x4_1, .int .i64 x5_2, .int .i64 x6_3, .int .i64 t174]) (ok := fun _ => True) (okp := fun _ => True) ?hr ?hp (fun _ hk => hk) trivial (Below.refl _ _) (Nat.le_refl _) (by simp) ?_; (case hd => rfl); (case hg => rfl); (case hr => first | (go_simp; done) | (go_simp; rfl)); (case hp => exact (Reps.one (show Kd.M (Kd.int .i64) _ _ _ x4_1 [.int .i64 x4_1] from rfl) (Reps.one (show Kd.M (Kd.int .i64) _ _ _ x5_2 [.int .i64 x5_2] from rfl) (Reps.one (show Kd.M (Kd.int .i64) _ _ _ x6_3 [.int .i64 x6_3] from rfl) (Reps.one (show Kd.M (Kd.int .i64) _ _ _ t174 [.int .i64 t174] from rfl) (Reps.none _ _)))))); intro v176 w9 ho10 hb hg_ hnew_; clear hg_ hnew_; (first | rw [← Ny175.out] at ho10 | (simp only [Int.reduceToNat] at ho10; rw [← Ny175.out] at ho10)); have n0_ := Aside0.mk (Kd.R_lower ho10 (below_size (by repeat (first | (with_reducible first | exact HB.out | apply below_alloc | apply pw_below_drewN | apply below_drew1) | exact HB.out)))); have n1_ := Aside0.mk (below_step (by repeat (first | (with_reducible first | exact HB.out | apply below_alloc | apply pw_below_drewN | apply below_drew1) | exact HB.out)) hb); clear HB; have HO177 := n0_; have HB := n1_; clear n0_ n1_; clear hb ho10))
                        go_ret2
                        exact ⟨_, by first | rfl | (simp [errW_none, errW_some] <;> rfl) | (simp [*, errW_none, errW_some] <;> rfl), by (with_reducible repeat (first | apply Kd.R_alloc | apply Kd.R_drewN | apply Kd.R_drew)); exact HO177.out, by repeat (first | (with_reducible first | exact HB.out | apply below_alloc | apply pw_below_drewN | apply below_drew1) | exact HB.out)⟩
                      · rw [if_neg c8] at H
                        have c8b0 : ((wrap64 (t174 * t174)) == (wrap64 ((wrap64 ((wrap64 (a0 - (wrap64 (x4_1 * x4_1)))) - (wrap64 (x5_2 * x5_2)))) - (wrap64 (x6_3 * x6_3))))) = false := beq_eq_false_iff_ne.mpr c8
                        have c8b1 : ((wrap64 (t174 * t174)) != (wrap64 ((wrap64 ((wrap64 (a0 - (wrap64 (x4_1 * x4_1)))) - (wrap64 (x5_2 * x5_2)))) - (wrap64 (x6_3 * x6_3))))) = true := bne_iff_ne.mpr c8
                        have H' := Aside0.mk H
                        clear H
                        go_wp2_with (first | ((with_reducible refine gate_callee (f := 186) rfl ?_); refine goesL_ (some 64) rfl rfl Try.func186 (by kernel_rfl) rfl #[.int .i64 (wrap64 ((wrap64 ((wrap64 (a0 - (wrap64 (x4_1 * x4_1)))) - (wrap64 (x5_2 * x5_2)))) - (wrap64 (x6_3 * x6_3))))] rfl (by (try simp only [List.map_toArray, List.map_cons, List.map_nil]); first | done | rfl | (simp only [List.length_drop, List.length_take]; rfl)) ?_; (with_reducible refine (spec_sqRoot.calls k3 (wrap64 ((wrap64 ((wrap64 (a0 - (wrap64 (x4_1 * x4_1)))) - (wrap64 (x5_2 * x5_2)))) - (wrap64 (x6_3 * x6_3)))) t174 _ A7.out).mono ?_); rintro e w' ⟨rfl, ⟨nd, rfl⟩⟩; refine ⟨_, rfl, ?_⟩))
                        go_roundg k3
                        case measure => have := HK1.out; have := HK2.out; have := HK3.out; omega
                        case rel => exact ⟨(wrap64 (x6_3 + 1)), (by first | rfl | (simp; done) | (simp [*]; done)), H', ⟨by have := HK1.out; have := HK2.out; have := HK3.out; omega⟩, ⟨by repeat (first | (with_reducible first | exact HB.out | apply below_alloc | apply pw_below_drewN | apply below_drew1) | exact HB.out)⟩⟩
                    · rw [if_neg c6] at H
                      have c6b0 : decide ((wrap64 ((wrap64 ((wrap64 (x4_1 * x4_1)) + (wrap64 (x5_2 * x5_2)))) + (wrap64 ((wrap64 (2 * x6_3)) * x6_3)))) ≤ a0) = false := decide_eq_false c6
                      clear c6
                      have H' := Aside0.mk H
                      clear H
                      go_wp2
                      go_roundg k3
                      case measure => have := HK1.out; have := HK2.out; have := HK3.out; omega
                      case rel => exact ⟨(wrap64 (x5_2 + 1)), (by first | rfl | (simp; done) | (simp [*]; done)), H', ⟨by have := HK1.out; have := HK2.out; have := HK3.out; omega⟩, ⟨by repeat (first | (with_reducible first | exact HB.out | apply below_alloc | apply pw_below_drewN | apply below_drew1) | exact HB.out)⟩⟩
              · rw [if_neg c5] at H
                have c5b0 : decide ((wrap64 ((wrap64 (x4_1 * x4_1)) + (wrap64 ((wrap64 (3 * x5_2)) * x5_2)))) ≤ a0) = false := decide_eq_false c5
                clear c5
                have H' := Aside0.mk H
                clear H
                go_wp2
                go_roundg k2
                case measure => have := HK1.out; have := HK2.out; omega
                case rel => exact ⟨(wrap64 (x4_1 + 1)), (by first | rfl | (simp; done) | (simp [*]; done)), H', ⟨by have := HK1.out; have := HK2.out; omega⟩, ⟨by repeat (first | (with_reducible first | exact HB.out | apply below_alloc | apply pw_below_drewN | apply below_drew1) | exact HB.out)⟩⟩
        · rw [if_neg c4] at H
          have c4b0 : decide ((wrap64 ((wrap64 (4 * x4_1)) * x4_1)) ≤ a0) = false := decide_eq_false c4
          clear c4
          simp only [Option.some.injEq, Prod.mk.injEq] at H
          obtain ⟨rfl, rfl⟩ := H
          go_wp2
          go_ret2
          exact ⟨_, by first | rfl | (simp [errW_none, errW_some] <;> rfl) | (simp [*, errW_none, errW_some] <;> rfl), by first | exact Kd.R_nil _ _ _ _ _ | exact Kd.N_nil _ _ _ _ _ | exact Kd.V_nil _ _ _ _ _ | exact Kd.Q_nil _ _ _ _ _ | exact Kd.S_nil _ _ _ _ _, by repeat (first | (with_reducible first | exact HB.out | apply below_alloc | apply pw_below_drewN | apply below_drew1) | exact HB.out)⟩
  · replace c3 := Bool.eq_false_iff.mpr c3
    subst c3
    have H1 : (some (([] : List Int), false)) = some (r1, r2) := by rw [if_neg (show ¬ (false = true) by decide)] at H; exact H
    clear H
    have H := H1
    clear H1
    simp only [Option.some.injEq, Prod.mk.injEq] at H
    obtain ⟨rfl, rfl⟩ := H
    go_enter Try.func113, Try.ntmps113
    go_wp2_with (first | ((with_reducible refine gate_callee (f := 134) rfl ?_); refine goesL_ (some 10) rfl rfl Try.func134 (by kernel_rfl) rfl #[.int .i64 a0, .int .i64 1, .int .i64 5000] rfl (by (try simp only [List.map_toArray, List.map_cons, List.map_nil]); first | done | rfl | (simp only [List.length_drop, List.length_take]; rfl)) ?_; (with_reducible refine (spec_l1In.calls a0 1 5000 false _ A2.out).mono ?_); rintro e w' ⟨rfl, ⟨nd, rfl⟩⟩; refine ⟨_, rfl, ?_⟩))
    go_ret2
    exact ⟨_, by first | rfl | (simp [errW_none, errW_some] <;> rfl) | (simp [*, errW_none, errW_some] <;> rfl), by first | exact Kd.R_nil _ _ _ _ _ | exact Kd.N_nil _ _ _ _ _ | exact Kd.V_nil _ _ _ _ _ | exact Kd.Q_nil _ _ _ _ _ | exact Kd.S_nil _ _ _ _ _, by repeat (first | (with_reducible first | exact HB.out | apply below_alloc | apply pw_below_drewN | apply below_drew1) | exact HB.out)⟩

/-! ### impl_CountAsFour: function 114 -/
def impl_CountAsFour.l0 : Nat → Int → List Int → Int → Int → Option (Int × Bool)
  | 0, _, _, _, _ => none
  | k + 1, x4, x11, x12, x13 => if x13 < x12 then (if 0 ≤ x13 then (if x13 < (x11.length : Int) then (if (Int.tmod (rd x11 x13) 4) = 0 then (impl_CountAsFour.l0 k x4 x11 x12 (wrap64 (x13 + 1))) else (impl_CountAsFour.l0 k (wrap64 (x4 + (wrap64 (8 * (rd x11 x13))))) x11 x12 (wrap64 (x13 + 1)))) else (none)) else (none)) else (some (x4, true))
def impl_CountAsFour.f (k : Nat) (a0 : Int) : Option (Int × Bool) := (impl_isAsked.f a0).bind fun t178 => (if t178 = true then ((impl_divisors.f k a0).bind fun t179 => (impl_CountAsFour.l0 k 0 t179 (t179.length : Int) 0)) else (some (0, false)))
theorem impl_CountAsFour.mono_l : ∀ k, (∀ y0 y1 y2 y3, LeO (impl_CountAsFour.l0 k y0 y1 y2 y3) (impl_CountAsFour.l0 (k + 1) y0 y1 y2 y3))
  | 0 => fun _ _ _ _ r h => by simp [impl_CountAsFour.l0] at h
  | k + 1 => by
    have ih0 := impl_CountAsFour.mono_l k
    · intro y0 y1 y2 y3
      unfold impl_CountAsFour.l0
      repeat' first
      | (with_reducible exact ih0 _ _ _ _)
      | (with_reducible exact impl_divisors.mono _ _)
      | (with_reducible exact LeO.refl _)
      | (with_reducible exact LeO.none _)
      | (with_reducible refine LeO.ite ?_ ?_)
      | (with_reducible refine LeO.bind ?_ (fun _ => ?_))
      | exact ih0 _ _ _ _
      | exact impl_divisors.mono _ _
      | exact LeO.none _
      | refine LeO.ite ?_ ?_
      | refine LeO.bind ?_ (fun _ => ?_)
theorem impl_CountAsFour.mono : ∀ a0 k, LeO (impl_CountAsFour.f k a0) (impl_CountAsFour.f (k + 1) a0) := by
  intro a0 k
  have ih0 := impl_CountAsFour.mono_l k
  unfold impl_CountAsFour.f
  repeat' first
      | (with_reducible exact ih0 _ _ _ _)
      | (with_reducible exact impl_divisors.mono _ _)
      | (with_reducible exact LeO.refl _)
      | (with_reducible exact LeO.none _)
      | (with_reducible refine LeO.ite ?_ ?_)
      | (with_reducible refine LeO.bind ?_ (fun _ => ?_))
      | exact ih0 _ _ _ _
      | exact impl_divisors.mono _ _
      | exact LeO.none _
      | refine LeO.ite ?_ ?_
      | refine LeO.bind ?_ (fun _ => ?_)
set_option maxHeartbeats 8000000 in
set_option maxRecDepth 100000 in
theorem impl_CountAsFour.calls (k : Nat) (a0 : Int) (r1 : Int) (r2 : Bool) (w : World) (h : impl_CountAsFour.f k a0 = some (r1, r2)) :
    Calls Try.prog 114 #[.int .i64 a0] w fun e w' => e = .returned (.tuple #[.int .i64 r1, .bool r2]) ∧ Below w.heap.size w w' := by
  have HB := Aside0.mk (Below.refl w.heap.size w)
  have H : ((impl_isAsked.f a0).bind fun t178 => (if t178 = true then ((impl_divisors.f k a0).bind fun t179 => (impl_CountAsFour.l0 k 0 t179 (t179.length : Int) 0)) else (some (0, false)))) = some (r1, r2) := h
  clear h
  replace H := Option.bind_eq_some_iff.mp H
  obtain ⟨t178, A20, H⟩ := H
  replace H : (if t178 = true then ((impl_divisors.f k a0).bind fun t179 => (impl_CountAsFour.l0 k 0 t179 (t179.length : Int) 0)) else (some (0, false))) = some (r1, r2) := H
  have A2 := Aside0.mk A20
  clear A20
  by_cases c3 : t178 = true
  · subst c3
    have H1 : ((impl_divisors.f k a0).bind fun t179 => (impl_CountAsFour.l0 k 0 t179 (t179.length : Int) 0)) = some (r1, r2) := by rw [if_pos rfl] at H; exact H
    clear H
    have H := H1
    clear H1
    replace H := Option.bind_eq_some_iff.mp H
    obtain ⟨t179, A40, H⟩ := H
    replace H : (impl_CountAsFour.l0 k 0 t179 (t179.length : Int) 0) = some (r1, r2) := H
    have A4 := Aside0.mk A40
    clear A40
    have H' := Aside0.mk H
    clear H
    go_enter Try.func114, Try.ntmps114
    go_wp2_with (first | ((with_reducible refine gate_callee (f := 146) rfl ?_); refine goesL_ (some 8) rfl rfl Try.func146 (by kernel_rfl) rfl #[.int .i64 a0] rfl (by (try simp only [List.map_toArray, List.map_cons, List.map_nil]); first | done | rfl | (simp only [List.length_drop, List.length_take]; rfl)) ?_; (with_reducible refine (impl_isAsked.calls a0 true _ A2.out).mono ?_); rintro e w' ⟨rfl, ⟨nd, rfl⟩⟩; refine ⟨_, rfl, ?_⟩) | ((with_reducible refine gate_callee (f := 163) rfl ?_); refine goesL_ (some 11) rfl rfl Try.func163 (by kernel_rfl) rfl #[.int .i64 a0] rfl (by (try simp only [List.map_toArray, List.map_cons, List.map_nil]); first | done | rfl | (simp only [List.length_drop, List.length_take]; rfl)) ?_; (with_reducible refine (impl_divisors.calls k a0 t179 _ A4.out).mono ?_); rintro e w5 ⟨v180, rfl, ho0, hb⟩; refine ⟨_, rfl, ?_⟩; have n0_ := Aside0.mk (Kd.R_lower ho0 (below_size (by repeat (first | (with_reducible first | exact HB.out | apply below_alloc | apply pw_below_drewN | apply below_drew1) | exact HB.out)))); have n1_ := Aside0.mk (below_step (by repeat (first | (with_reducible first | exact HB.out | apply below_alloc | apply pw_below_drewN | apply below_drew1) | exact HB.out)) hb); clear HB; have HO181 := n0_; have HB := n1_; clear n0_ n1_; (try clear hb); (try clear hb2); (try clear hk); (try clear hi); (try clear ho0); obtain ⟨Ao6, co6, eo6⟩ := Kd.R_slice HO181.out; subst eo6))
    go_loopg [4, 13] k (fun kq v4 v13 w' => ∃ (x4_1 : Int) (x13_1 : Int), v4 = .int .i64 x4_1 ∧ v13 = .int .i64 x13_1 ∧ Aside0 (impl_CountAsFour.l0 kq x4_1 t179 (t179.length : Int) x13_1 = some (r1, r2)) ∧ Aside0 (kq ≤ k) ∧ Aside0 (Kd.R (Kd.int .i64) 3 w' w.heap.size (fun _ => True) (.slice Ao6 t179.length co6) t179) ∧ Aside0 (Below w.heap.size w w'))
    case atStart => exact ⟨(0), (0), (by first | rfl | (simp; done) | (simp [*]; done)), (by first | rfl | (simp; done) | (simp [*]; done)), H', ⟨Nat.le_refl _⟩, ⟨by (with_reducible repeat (first | apply Kd.R_alloc | apply Kd.R_drewN | apply Kd.R_drew)); exact HO181.out⟩, ⟨by repeat (first | (with_reducible first | exact HB.out | apply below_alloc | apply pw_below_drewN | apply below_drew1) | exact HB.out)⟩⟩
    case round =>
      clear H'
      try clear c1
      try clear p2
      try clear c3
      obtain ⟨x4_1, x13_1, rfl, rfl, HA, HK1, HO_11, HB⟩ := hrel
      cases gk with
      | zero => exact absurd HA.out (by simp [impl_CountAsFour.l0])
      | succ k1 =>
        have H := HA.out
        clear HA
        simp only [impl_CountAsFour.l0] at H
        by_cases c7 : x13_1 < (t179.length : Int)
        · rw [if_pos c7] at H
          have c7b0 : decide (x13_1 < (t179.length : Int)) = true := decide_eq_true c7
          clear c7
          by_cases c8 : 0 ≤ x13_1
          · rw [if_pos c8] at H
            have c8b0 : decide (0 ≤ x13_1) = true := decide_eq_true c8
            clear c8
            by_cases c9 : x13_1 < (t179.length : Int)
            · rw [if_pos c9] at H
              have c9b0 : decide (x13_1 < (t179.length : Int)) = true := decide_eq_true c9
              clear c9
              by_cases c10 : (Int.tmod (rd t179 x13_1) 4) = 0
              · rw [if_pos c10] at H
                have c10b0 : ((Int.tmod (rd t179 x13_1) 4) == 0) = true := beq_iff_eq.mpr c10
                have c10b1 : ((Int.tmod (rd t179 x13_1) 4) != 0) = false := bne_eq_false_iff_eq.mpr c10
                clear c10
                have H' := Aside0.mk H
                clear H
                have p182 : 0 ≤ (x13_1 : Int) := of_decide_eq_true (by first | (with_reducible assumption) | assumption)
                have q182 : x13_1 < (t179.length : Int) := of_decide_eq_true (by first | (with_reducible assumption) | assumption)
                obtain ⟨ad182, e182, hx182_0⟩ := Kd.at_int (Kd.R_reads' HO_11.out).2.2 x13_1 p182 q182
                cases e182
                replace p182 := eq_true p182
                replace q182 := eq_true q182
                go_wp2
                go_roundg k1
                case measure => have := HK1.out; omega
                case rel => exact ⟨(x4_1), (wrap64 (x13_1 + 1)), (by first | rfl | (simp; done) | (simp [*]; done)), (by first | rfl | (simp; done) | (simp [*]; done)), H', ⟨by have := HK1.out; omega⟩, ⟨by (with_reducible repeat (first | apply Kd.R_alloc | apply Kd.R_drewN | apply Kd.R_drew)); exact HO_11.out⟩, ⟨by repeat (first | (with_reducible first | exact HB.out | apply below_alloc | apply pw_below_drewN | apply below_drew1) | exact HB.out)⟩⟩
              · rw [if_neg c10] at H
                have c10b0 : ((Int.tmod (rd t179 x13_1) 4) == 0) = false := beq_eq_false_iff_ne.mpr c10
                have c10b1 : ((Int.tmod (rd t179 x13_1) 4) != 0) = true := bne_iff_ne.mpr c10
                have H' := Aside0.mk H
                clear H
                have p182 : 0 ≤ (x13_1 : Int) := of_decide_eq_true (by first | (with_reducible assumption) | assumption)
                have q182 : x13_1 < (t179.length : Int) := of_decide_eq_true (by first | (with_reducible assumption) | assumption)
                obtain ⟨ad182, e182, hx182_0⟩ := Kd.at_int (Kd.R_reads' HO_11.out).2.2 x13_1 p182 q182
                cases e182
                replace p182 := eq_true p182
                replace q182 := eq_true q182
                go_wp2
                go_roundg k1
                case measure => have := HK1.out; omega
                case rel => exact ⟨(wrap64 (x4_1 + (wrap64 (8 * (rd t179 x13_1))))), (wrap64 (x13_1 + 1)), (by first | rfl | (simp; done) | (simp [*]; done)), (by first | rfl | (simp; done) | (simp [*]; done)), H', ⟨by have := HK1.out; omega⟩, ⟨by (with_reducible repeat (first | apply Kd.R_alloc | apply Kd.R_drewN | apply Kd.R_drew)); exact HO_11.out⟩, ⟨by repeat (first | (with_reducible first | exact HB.out | apply below_alloc | apply pw_below_drewN | apply below_drew1) | exact HB.out)⟩⟩
            · rw [if_neg c9] at H
              exact absurd H (by simp)
          · rw [if_neg c8] at H
            exact absurd H (by simp)
        · rw [if_neg c7] at H
          have c7b0 : decide (x13_1 < (t179.length : Int)) = false := decide_eq_false c7
          clear c7
          simp only [Option.some.injEq, Prod.mk.injEq] at H
          obtain ⟨rfl, rfl⟩ := H
          go_wp2
          go_ret2
          exact ⟨by first | rfl | (simp [errW_none, errW_some] <;> rfl) | (simp [*, errW_none, errW_some] <;> rfl), by repeat (first | (with_reducible first | exact HB.out | apply below_alloc | apply pw_below_drewN | apply below_drew1) | exact HB.out)⟩
  · replace c3 := Bool.eq_false_iff.mpr c3
    subst c3
    have H1 : (some (0, false)) = some (r1, r2) := by rw [if_neg (show ¬ (false = true) by decide)] at H; exact H
    clear H
    have H := H1
    clear H1
    simp only [Option.some.injEq, Prod.mk.injEq] at H
    obtain ⟨rfl, rfl⟩ := H
    go_enter Try.func114, Try.ntmps114
    go_wp2_with (first | ((with_reducible refine gate_callee (f := 146) rfl ?_); refine goesL_ (some 8) rfl rfl Try.func146 (by kernel_rfl) rfl #[.int .i64 a0] rfl (by (try simp only [List.map_toArray, List.map_cons, List.map_nil]); first | done | rfl | (simp only [List.length_drop, List.length_take]; rfl)) ?_; (with_reducible refine (impl_isAsked.calls a0 false _ A2.out).mono ?_); rintro e w' ⟨rfl, ⟨nd, rfl⟩⟩; refine ⟨_, rfl, ?_⟩))
    go_ret2
    exact ⟨by first | rfl | (simp [errW_none, errW_some] <;> rfl) | (simp [*, errW_none, errW_some] <;> rfl), by repeat (first | (with_reducible first | exact HB.out | apply below_alloc | apply pw_below_drewN | apply below_drew1) | exact HB.out)⟩

/-! ### spec_CountAsFour: function 115 -/
def spec_CountAsFour.l0 : Nat → Int → Int → Int → Option (Int × Bool)
  | 0, _, _, _ => none
  | k + 1, x0, x4, x5 => if x5 ≤ x0 then (if x5 = 0 then (none) else (if (Int.tmod x0 x5) = 0 then (if (Int.tmod x5 4) = 0 then (spec_CountAsFour.l0 k x0 x4 (wrap64 (x5 + 1))) else (spec_CountAsFour.l0 k x0 (wrap64 (x4 + (wrap64 (8 * x5)))) (wrap64 (x5 + 1)))) else (spec_CountAsFour.l0 k x0 x4 (wrap64 (x5 + 1))))) else (some (x4, true))
def spec_CountAsFour.f (k : Nat) (a0 : Int) : Option (Int × Bool) := (spec_sqGood.f a0).bind fun t183 => (if t183 = true then (spec_CountAsFour.l0 k a0 0 1) else (some (0, false)))
theorem spec_CountAsFour.mono_l : ∀ k, (∀ y0 y1 y2, LeO (spec_CountAsFour.l0 k y0 y1 y2) (spec_CountAsFour.l0 (k + 1) y0 y1 y2))
  | 0 => fun _ _ _ r h => by simp [spec_CountAsFour.l0] at h
  | k + 1 => by
    have ih0 := spec_CountAsFour.mono_l k
    · intro y0 y1 y2
      unfold spec_CountAsFour.l0
      repeat' first
      | (with_reducible exact ih0 _ _ _)
      | (with_reducible exact LeO.refl _)
      | (with_reducible exact LeO.none _)
      | (with_reducible refine LeO.ite ?_ ?_)
      | (with_reducible refine LeO.bind ?_ (fun _ => ?_))
      | exact ih0 _ _ _
      | exact LeO.none _
      | refine LeO.ite ?_ ?_
      | refine LeO.bind ?_ (fun _ => ?_)
theorem spec_CountAsFour.mono : ∀ a0 k, LeO (spec_CountAsFour.f k a0) (spec_CountAsFour.f (k + 1) a0) := by
  intro a0 k
  have ih0 := spec_CountAsFour.mono_l k
  unfold spec_CountAsFour.f
  repeat' first
      | (with_reducible exact ih0 _ _ _)
      | (with_reducible exact LeO.refl _)
      | (with_reducible exact LeO.none _)
      | (with_reducible refine LeO.ite ?_ ?_)
      | (with_reducible refine LeO.bind ?_ (fun _ => ?_))
      | exact ih0 _ _ _
      | exact LeO.none _
      | refine LeO.ite ?_ ?_
      | refine LeO.bind ?_ (fun _ => ?_)
set_option maxHeartbeats 8000000 in
set_option maxRecDepth 100000 in
theorem spec_CountAsFour.calls (k : Nat) (a0 : Int) (r1 : Int) (r2 : Bool) (w : World) (h : spec_CountAsFour.f k a0 = some (r1, r2)) :
    Calls Try.prog 115 #[.int .i64 a0] w fun e w' => e = .returned (.tuple #[.int .i64 r1, .bool r2]) ∧ Drawn0 w w' := by
  have H : ((spec_sqGood.f a0).bind fun t183 => (if t183 = true then (spec_CountAsFour.l0 k a0 0 1) else (some (0, false)))) = some (r1, r2) := h
  clear h
  replace H := Option.bind_eq_some_iff.mp H
  obtain ⟨t183, A20, H⟩ := H
  replace H : (if t183 = true then (spec_CountAsFour.l0 k a0 0 1) else (some (0, false))) = some (r1, r2) := H
  have A2 := Aside0.mk A20
  clear A20
  by_cases c3 : t183 = true
  · subst c3
    have H1 : (spec_CountAsFour.l0 k a0 0 1) = some (r1, r2) := by rw [if_pos rfl] at H; exact H
    clear H
    have H := H1
    clear H1
    have H' := Aside0.mk H
    clear H
    go_enter Try.func115, Try.ntmps115
    go_wp2_with (first | ((with_reducible refine gate_callee (f := 148) rfl ?_); refine goesL_ (some 7) rfl rfl Try.func148 (by kernel_rfl) rfl #[.int .i64 a0] rfl (by (try simp only [List.map_toArray, List.map_cons, List.map_nil]); first | done | rfl | (simp only [List.length_drop, List.length_take]; rfl)) ?_; (with_reducible refine (spec_sqGood.calls a0 true _ A2.out).mono ?_); rintro e w' ⟨rfl, ⟨nd, rfl⟩⟩; refine ⟨_, rfl, ?_⟩))
    go_loopg [4, 5] k (fun kq v4 v5 w' => ∃ (x4_1 : Int) (x5_1 : Int), v4 = .int .i64 x4_1 ∧ v5 = .int .i64 x5_1 ∧ Aside0 (spec_CountAsFour.l0 kq a0 x4_1 x5_1 = some (r1, r2)) ∧ Aside0 (kq ≤ k) ∧ Drawn0 w w')
    case atStart => exact ⟨(0), (1), (by first | rfl | (simp; done) | (simp [*]; done)), (by first | rfl | (simp; done) | (simp [*]; done)), H', ⟨Nat.le_refl _⟩, by repeat (first | exact Drawn0.refl _ | apply Drawn0.step)⟩
    case round =>
      clear H'
      try clear c1
      try clear p2
      try clear c3
      obtain ⟨x4_1, x5_1, rfl, rfl, HA, HK1, ⟨m1, rfl⟩⟩ := hrel
      cases gk with
      | zero => exact absurd HA.out (by simp [spec_CountAsFour.l0])
      | succ k1 =>
        have H := HA.out
        clear HA
        simp only [spec_CountAsFour.l0] at H
        by_cases c4 : x5_1 ≤ a0
        · rw [if_pos c4] at H
          have c4b0 : decide (x5_1 ≤ a0) = true := decide_eq_true c4
          clear c4
          by_cases c5 : x5_1 = 0
          · rw [if_pos c5] at H
            exact absurd H (by simp)
          · rw [if_neg c5] at H
            have c5b0 : (x5_1 == 0) = false := beq_eq_false_iff_ne.mpr c5
            have c5b1 : (x5_1 != 0) = true := bne_iff_ne.mpr c5
            by_cases c6 : (Int.tmod a0 x5_1) = 0
            · rw [if_pos c6] at H
              have c6b0 : ((Int.tmod a0 x5_1) == 0) = true := beq_iff_eq.mpr c6
              have c6b1 : ((Int.tmod a0 x5_1) != 0) = false := bne_eq_false_iff_eq.mpr c6
              clear c6
              by_cases c7 : (Int.tmod x5_1 4) = 0
              · rw [if_pos c7] at H
                have c7b0 : ((Int.tmod x5_1 4) == 0) = true := beq_iff_eq.mpr c7
                have c7b1 : ((Int.tmod x5_1 4) != 0) = false := bne_eq_false_iff_eq.mpr c7
                clear c7
                have H' := Aside0.mk H
                clear H
                go_wp2
                go_roundg k1
                case measure => have := HK1.out; omega
                case rel => exact ⟨(x4_1), (wrap64 (x5_1 + 1)), (by first | rfl | (simp; done) | (simp [*]; done)), (by first | rfl | (simp; done) | (simp [*]; done)), H', ⟨by have := HK1.out; omega⟩, by repeat (first | exact Drawn0.refl _ | apply Drawn0.step)⟩
              · rw [if_neg c7] at H
                have c7b0 : ((Int.tmod x5_1 4) == 0) = false := beq_eq_false_iff_ne.mpr c7
                have c7b1 : ((Int.tmod x5_1 4) != 0) = true := bne_iff_ne.mpr c7
                have H' := Aside0.mk H
                clear H
                go_wp2
                go_roundg k1
                case measure => have := HK1.out; omega
                case rel => exact ⟨(wrap64 (x4_1 + (wrap64 (8 * x5_1)))), (wrap64 (x5_1 + 1)), (by first | rfl | (simp; done) | (simp [*]; done)), (by first | rfl | (simp; done) | (simp [*]; done)), H', ⟨by have := HK1.out; omega⟩, by repeat (first | exact Drawn0.refl _ | apply Drawn0.step)⟩
            · rw [if_neg c6] at H
              have c6b0 : ((Int.tmod a0 x5_1) == 0) = false := beq_eq_false_iff_ne.mpr c6
              have c6b1 : ((Int.tmod a0 x5_1) != 0) = true := bne_iff_ne.mpr c6
              have H' := Aside0.mk H
              clear H
              go_wp2
              go_roundg k1
              case measure => have := HK1.out; omega
              case rel => exact ⟨(x4_1), (wrap64 (x5_1 + 1)), (by first | rfl | (simp; done) | (simp [*]; done)), (by first | rfl | (simp; done) | (simp [*]; done)), H', ⟨by have := HK1.out; omega⟩, by repeat (first | exact Drawn0.refl _ | apply Drawn0.step)⟩
        · rw [if_neg c4] at H
          have c4b0 : decide (x5_1 ≤ a0) = false := decide_eq_false c4
          clear c4
          simp only [Option.some.injEq, Prod.mk.injEq] at H
          obtain ⟨rfl, rfl⟩ := H
          go_wp2
          go_ret2
          exact ⟨by first | rfl | (simp; done) | (simp [*]; done), by repeat (first | exact Drawn0.refl _ | apply Drawn0.step)⟩
  · replace c3 := Bool.eq_false_iff.mpr c3
    subst c3
    have H1 : (some (0, false)) = some (r1, r2) := by rw [if_neg (show ¬ (false = true) by decide)] at H; exact H
    clear H
    have H := H1
    clear H1
    simp only [Option.some.injEq, Prod.mk.injEq] at H
    obtain ⟨rfl, rfl⟩ := H
    go_enter Try.func115, Try.ntmps115
    go_wp2_with (first | ((with_reducible refine gate_callee (f := 148) rfl ?_); refine goesL_ (some 7) rfl rfl Try.func148 (by kernel_rfl) rfl #[.int .i64 a0] rfl (by (try simp only [List.map_toArray, List.map_cons, List.map_nil]); first | done | rfl | (simp only [List.length_drop, List.length_take]; rfl)) ?_; (with_reducible refine (spec_sqGood.calls a0 false _ A2.out).mono ?_); rintro e w' ⟨rfl, ⟨nd, rfl⟩⟩; refine ⟨_, rfl, ?_⟩))
    go_ret2
    exact ⟨by first | rfl | (simp; done) | (simp [*]; done), by repeat (first | exact Drawn0.refl _ | apply Drawn0.step)⟩

end Go.Proofs.Ytfhfbicejddoiaa.PFnSumsOfSquaresOfAll
