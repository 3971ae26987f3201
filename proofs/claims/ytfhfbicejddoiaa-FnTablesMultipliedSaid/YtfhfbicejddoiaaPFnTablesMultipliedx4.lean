-- Written for this claim by a program of this session, out of the translation and given contracts.
import Derived.Test.YtfhfbicejddoiaaPFnTablesMultipliedx0
import Derived.Test.YtfhfbicejddoiaaPFnTablesMultipliedx3
namespace Go.Proofs.Ytfhfbicejddoiaa.PFnTablesMultiplied
open Go.RowKit Go.Proofs.YtfhfbicejddoiaaW.PrintWords Go.Proofs.YtfhfbicejddoiaaW.PrintLast Go.Proofs.YtfhfbicejddoiaaW.PrintMore
attribute [local go_sem] max2_int min2_int max_two min_two max_three min_three max_four min_four   -- for this text's walks alone
set_option linter.unusedVariables false
set_option linter.unusedSimpArgs false

/-! ### impl_factors: function 204 -/
mutual
def impl_factors.l0 : Nat → Int → List (List Int) → Option ((List (List Int)))
 | 0, _, _ => none
 | k + 1, x0, x3 => if x0 > 1 then ((impl_leastFactor.f k x0).bind fun t140 => (impl_factors.l1 k x0 x3 t140 0)) else (some x3)
def impl_factors.l1 : Nat → Int → List (List Int) → Int → Int → Option ((List (List Int)))
 | 0, _, _, _, _ => none
 | k + 1, x0, x3, x4, x5 => if x4 = 0 then (none) else (if (Int.tmod x0 x4) = 0 then (impl_factors.l1 k (wrap64 (Int.tdiv x0 x4)) x3 x4 (wrap64 (x5 + 1))) else (if x3.length < 5864062014805 then (impl_factors.l0 k x0 (x3 ++ [(([x4, x5] : List Int))])) else (none)))
end
def impl_factors.f (k : Nat) (a0 : Int) : Option ((List (List Int))) := impl_factors.l0 k a0 (([] : List (List Int)))
theorem impl_factors.mono_l : ∀ k, (∀ y0 y1, LeO (impl_factors.l0 k y0 y1) (impl_factors.l0 (k + 1) y0 y1)) ∧ (∀ y0 y1 y2 y3, LeO (impl_factors.l1 k y0 y1 y2 y3) (impl_factors.l1 (k + 1) y0 y1 y2 y3))
 | 0 => ⟨fun _ _ r h => by simp [impl_factors.l0] at h, fun _ _ _ _ r h => by simp [impl_factors.l1] at h⟩
 | k + 1 => by
  obtain ⟨ih0, ih1⟩ := impl_factors.mono_l k
  refine ⟨?_, ?_⟩
  ·
   intro y0 y1
   unfold impl_factors.l0
   repeat' first
   | (with_reducible first | exact ih0 _ _ | exact ih1 _ _ _ _ | exact impl_leastFactor.mono _ _ | exact LeO.refl _ | exact LeO.none _ | refine LeO.ite ?_ ?_ | refine LeO.bind ?_ (fun _ => ?_))
  ·
   intro y0 y1 y2 y3
   unfold impl_factors.l1
   repeat' first
   | (with_reducible first | exact ih0 _ _ | exact ih1 _ _ _ _ | exact impl_leastFactor.mono _ _ | exact LeO.refl _ | exact LeO.none _ | refine LeO.ite ?_ ?_ | refine LeO.bind ?_ (fun _ => ?_))
theorem impl_factors.mono : ∀ a0 k, LeO (impl_factors.f k a0) (impl_factors.f (k + 1) a0) := by
 intro a0 k
 obtain ⟨ih0, ih1⟩ := impl_factors.mono_l k
 unfold impl_factors.f
 repeat' first
   | (with_reducible first | exact ih0 _ _ | exact ih1 _ _ _ _ | exact impl_leastFactor.mono _ _ | exact LeO.refl _ | exact LeO.none _ | refine LeO.ite ?_ ?_ | refine LeO.bind ?_ (fun _ => ?_))
set_option maxHeartbeats 200000000 in
set_option maxRecDepth 100000 in
theorem impl_factors.calls (k : Nat) (a0 : Int) (r : List (List Int)) (w : World) (h : impl_factors.f k a0 = some r) :
  Calls Try.prog 204 #[.int .i64 a0] w fun e w' => ∃ v0_ : Value, e = .returned (v0_) ∧ Kd.S (Kd.slice 3 (Kd.int .i64)) 24 w' w.heap.size (fun _ => True) v0_ r ∧ Below w.heap.size w w' := by
 have HB := Aside0.mk (Below.refl w.heap.size w)
 have H : (impl_factors.l0 k a0 (([] : List (List Int)))) = some r := h
 clear h
 obtain ⟨y137, hy137⟩ : ∃ y_ : List (List Int), y_ = (([] : List (List Int))) := ⟨_, rfl⟩
 replace H : (impl_factors.l0 k a0 y137) = some r := by first | (rw [hy137]; with_reducible exact H) | (have H2_ := (Option.bind_some _ _).symm.trans H; rw [hy137]; with_reducible exact H2_) | (have H2_ := (Option.bind_some _ _).symm.trans H; with_reducible exact H2_) | with_reducible exact H | (rw [hy137]; exact H) | exact H
 have Ny137 := Aside0.mk hy137
 clear hy137
 have H' := Aside0.mk H
 clear H
 go_enter Try.func204, Try.ntmps204
 go_wp2_with (first | ((with_reducible refine gate_dst (N := 6) rfl ?_); refine Kd.S_lit (Kd.slice 3 (Kd.int .i64)) _ 24 ?hg (N := 6) ?hd (xs := ([] : List (List Int))) (inner := []) (ok := fun _ => True) (okp := fun _ => True) ?hr ?hp (fun _ hk => hk) trivial (Below.refl _ _) (Nat.le_refl _) (by simp) ?_; (case hd => rfl); (case hg => rfl); (case hr => first | (go_simp; done) | (go_simp; rfl)); (case hp => exact (Reps.none _ _)); intro v138 w2 ho3 hb hg_ hnew_; clear hg_ hnew_; (first | rw [← Ny137.out] at ho3 | (simp only [Int.reduceToNat] at ho3; rw [← Ny137.out] at ho3)); have n0_ := Aside0.mk (Kd.S_lower ho3 (below_size (by repeat (first | (with_reducible first | exact HB.out | apply below_alloc | apply pw_below_drewN | apply below_drew1))))); have n1_ := Aside0.mk (below_step (by repeat (first | (with_reducible first | exact HB.out | apply below_alloc | apply pw_below_drewN | apply below_drew1))) hb); clear HB; have HO139 := n0_; have HB := n1_; clear n0_ n1_; clear hb ho3))
 go_loopg [0, 3] k (fun kq v0 v3 w' => ∃ (x0_1 : Int) (x3_1 : List (List Int)), v0 = .int .i64 x0_1 ∧ Aside0 (impl_factors.l0 kq x0_1 x3_1 = some r) ∧ Aside0 (kq ≤ k) ∧ Aside0 (Kd.S (Kd.slice 3 (Kd.int .i64)) 24 w' w.heap.size (fun _ => True) v3 x3_1) ∧ Aside0 (Below w.heap.size w w'))
 case atStart => exact ⟨(a0), (y137), (by first | rfl | (simp; done) | (simp [*]; done)), H', ⟨Nat.le_refl _⟩, ⟨by (with_reducible repeat (first | apply Kd.S_alloc | apply Kd.S_drewN | apply Kd.S_drew)); exact HO139.out⟩, ⟨by repeat (first | (with_reducible first | exact HB.out | apply below_alloc | apply pw_below_drewN | apply below_drew1))⟩⟩
 case round =>
  clear H'
  obtain ⟨x0_1, x3_1, rfl, HA, HK1, HO_3, HB⟩ := hrel
  cases gk with
  | zero => exact absurd HA.out (by simp [impl_factors.l0])
  | succ k1 =>
   have H := HA.out
   clear HA
   simp only [impl_factors.l0] at H
   by_cases c4 : x0_1 > 1
   ·
    rw [if_pos c4] at H
    have c4b0 : decide (1 < x0_1) = true := decide_eq_true c4
    clear c4
    replace H := Option.bind_eq_some_iff.mp H
    obtain ⟨t140, A50, H⟩ := H
    replace H : (impl_factors.l1 k1 x0_1 x3_1 t140 0) = some r := H
    have A5 := Aside0.mk A50
    clear A50
    have H' := Aside0.mk H
    clear H
    go_wp2_with (first | ((with_reducible refine gate_callee (f := 219) rfl ?_); refine goesL_ (some 10) rfl rfl Try.func219 (by kernel_rfl) rfl #[.int .i64 x0_1] rfl (by (try simp only [List.map_toArray, List.map_cons, List.map_nil]); first | done | rfl | (simp only [List.length_drop, List.length_take]; rfl)) ?_; (with_reducible refine (impl_leastFactor.calls k1 x0_1 t140 _ A5.out).mono ?_); rintro e w' ⟨rfl, ⟨nd, rfl⟩⟩; refine ⟨_, rfl, ?_⟩))
    go_loopg [0, 5] k1 (fun kq v0 v5 w' => ∃ (x0_2 : Int) (x5_2 : Int), v0 = .int .i64 x0_2 ∧ v5 = .int .i64 x5_2 ∧ Aside0 (impl_factors.l1 kq x0_2 x3_1 t140 x5_2 = some r) ∧ Aside0 (kq ≤ k1) ∧ Aside0 (Kd.S (Kd.slice 3 (Kd.int .i64)) 24 w' w.heap.size (fun _ => True) u3 x3_1) ∧ Aside0 (Below w.heap.size w w'))
    case atStart => exact ⟨(x0_1), (0), (by first | rfl | (simp; done) | (simp [*]; done)), (by first | rfl | (simp; done) | (simp [*]; done)), H', ⟨Nat.le_refl _⟩, ⟨by (with_reducible repeat (first | apply Kd.S_alloc | apply Kd.S_drewN | apply Kd.S_drew)); exact HO_3.out⟩, ⟨by repeat (first | (with_reducible first | exact HB.out | apply below_alloc | apply pw_below_drewN | apply below_drew1))⟩⟩
    case round =>
     clear H'
     obtain ⟨x0_2, x5_2, rfl, rfl, HA, HK2, HO_3, HB⟩ := hrel
     cases gk with
     | zero => exact absurd HA.out (by simp [impl_factors.l1])
     | succ k2 =>
      have H := HA.out
      clear HA
      simp only [impl_factors.l1] at H
      by_cases c6 : t140 = 0
      ·
       rw [if_pos c6] at H
       exact absurd H (by simp)
      ·
       rw [if_neg c6] at H
       have c6b0 : (t140 == 0) = false := beq_eq_false_iff_ne.mpr c6
       have c6b1 : (t140 != 0) = true := bne_iff_ne.mpr c6
       by_cases c7 : (Int.tmod x0_2 t140) = 0
       ·
        rw [if_pos c7] at H
        have c7b0 : ((Int.tmod x0_2 t140) == 0) = true := beq_iff_eq.mpr c7
        have c7b1 : ((Int.tmod x0_2 t140) != 0) = false := bne_eq_false_iff_eq.mpr c7
        clear c7
        have H' := Aside0.mk H
        clear H
        go_wp2
        go_roundg k2
        case measure => have := HK1.out; have := HK2.out; omega
        case rel => exact ⟨(wrap64 (Int.tdiv x0_2 t140)), (wrap64 (x5_2 + 1)), (by first | rfl | (simp; done) | (simp [*]; done)), (by first | rfl | (simp; done) | (simp [*]; done)), H', ⟨by have := HK1.out; have := HK2.out; omega⟩, ⟨by (with_reducible repeat (first | apply Kd.S_alloc | apply Kd.S_drewN | apply Kd.S_drew)); exact HO_3.out⟩, ⟨by repeat (first | (with_reducible first | exact HB.out | apply below_alloc | apply pw_below_drewN | apply below_drew1))⟩⟩
       ·
        rw [if_neg c7] at H
        have c7b0 : ((Int.tmod x0_2 t140) == 0) = false := beq_eq_false_iff_ne.mpr c7
        have c7b1 : ((Int.tmod x0_2 t140) != 0) = true := bne_iff_ne.mpr c7
        obtain ⟨y141, hy141⟩ : ∃ y_ : List Int, y_ = (([t140, x5_2] : List Int)) := ⟨_, rfl⟩
        replace H : (if x3_1.length < 5864062014805 then (impl_factors.l0 k2 x0_2 (x3_1 ++ [y141])) else (none)) = some r := by first | (rw [hy141]; with_reducible exact H) | (have H2_ := (Option.bind_some _ _).symm.trans H; rw [hy141]; with_reducible exact H2_) | (have H2_ := (Option.bind_some _ _).symm.trans H; with_reducible exact H2_) | with_reducible exact H | (rw [hy141]; exact H) | exact H
        have Ny141 := Aside0.mk hy141
        clear hy141
        by_cases c8 : x3_1.length < 5864062014805
        ·
         rw [if_pos c8] at H
         have LMc8 := Aside0.mk c8
         clear c8
         obtain ⟨y144, hy144⟩ : ∃ y_ : List (List Int), y_ = (x3_1 ++ [y141]) := ⟨_, rfl⟩
         replace H : (impl_factors.l0 k2 x0_2 y144) = some r := by first | (rw [hy144]; with_reducible exact H) | (have H2_ := (Option.bind_some _ _).symm.trans H; rw [hy144]; with_reducible exact H2_) | (have H2_ := (Option.bind_some _ _).symm.trans H; with_reducible exact H2_) | with_reducible exact H | (rw [hy144]; exact H) | exact H
         have Ny144 := Aside0.mk hy144
         clear hy144
         have H' := Aside0.mk H
         clear H
         go_wp2_with (first | ((with_reducible refine gate_dst (N := 23) rfl ?_); refine Kd.R_lit (Kd.int .i64) _ 3 ?hg (N := 23) ?hd (xs := ([t140, x5_2] : List Int)) (inner := [.int .i64 t140, .int .i64 x5_2]) (ok := fun _ => True) (okp := fun _ => True) ?hr ?hp (fun _ hk => hk) trivial (Below.refl _ _) (Nat.le_refl _) (by simp) ?_; (case hd => rfl); (case hg => rfl); (case hr => first | (go_simp; done) | (go_simp; rfl)); (case hp => exact (Reps.one (show Kd.M (Kd.int .i64) _ _ _ t140 [.int .i64 t140] from rfl) (Reps.one (show Kd.M (Kd.int .i64) _ _ _ x5_2 [.int .i64 x5_2] from rfl) (Reps.none _ _)))); intro v142 w9 ho10 hb hg_ hnew_; clear hg_ hnew_; (first | rw [← Ny141.out] at ho10 | (simp only [Int.reduceToNat] at ho10; rw [← Ny141.out] at ho10)); have n0_ := Aside0.mk (Kd.S_elder' (by (with_reducible repeat (first | apply Kd.S_alloc | apply Kd.S_drewN | apply Kd.S_drew)); exact HO_3.out) (Kd.R_base ho10) hb); have n1_ := Aside0.mk (Kd.R_lower ho10 (below_size (by repeat (first | (with_reducible first | exact HB.out | apply below_alloc | apply pw_below_drewN | apply below_drew1))))); have n2_ := Aside0.mk (below_step (by repeat (first | (with_reducible first | exact HB.out | apply below_alloc | apply pw_below_drewN | apply below_drew1))) hb); clear HO_3; clear HB; have HO_3 := n0_; have HO143 := n1_; have HB := n2_; clear n0_ n1_ n2_; clear hb ho10; obtain ⟨Ao12, co12, eo12⟩ := Kd.R_slice HO143.out; subst eo12) | ((with_reducible refine gate_builtin (b := .append) (xs := #[.tmp 20, .tmp 24]) rfl ?_); at_builtin; refine Kd.S_append (Kd.slice 3 (Kd.int .i64)) (w0 := w) w.heap.size rfl (.tmp 20) (.tmp 24) 40 24 (.slice none 0 0) 24 rfl Try.underlying40 info24 rfl (by decide) (by omega) u3 x3_1 y141 [.slice Ao12 y141.length co12] (fun _ => True) (fun k_ => some k_ = (.slice Ao12 y141.length co12 : Value).ownBlock) rfl rfl ?aP (fun k_ hk_ => ((Kd.R_mono (ok' := fun k_ => ((fun _ => True)) k_ ∧ some k_ ≠ (u3 : Value).ownBlock) (Kd.R_apart' (HO143.out) (Kd.S_typed HO_3.out) (by decide)) (fun k_ hk => ⟨trivial, hk.2⟩))).1 k_ hk_.symm) ?aF ?aO ?aB ?aS ?aL ?_; (case aP => exact Kd.M_row (Kd.R_mono (Kd.R_tight rfl (Kd.R_mono (ok' := fun k_ => ((fun _ => True)) k_ ∧ some k_ ≠ (u3 : Value).ownBlock) (Kd.R_apart' (HO143.out) (Kd.S_typed HO_3.out) (by decide)) (fun k_ hk => ⟨trivial, hk.2⟩))) (fun _ h_ => h_))); (case aB => exact (by repeat (first | (with_reducible first | exact HB.out | apply below_alloc | apply pw_below_drewN | apply below_drew1)))); (case aF => exact (fun _ _ => trivial)); (case aO => exact (by (with_reducible repeat (first | apply Kd.S_alloc | apply Kd.S_drewN | apply Kd.S_drew)); exact Kd.S_mono HO_3.out (fun k_ hk => ⟨trivial, fun e_ => hk.2 e_⟩))); (case aS => exact (below_size (by repeat (first | (with_reducible first | exact HB.out | apply below_alloc | apply pw_below_drewN | apply below_drew1))))); (case aL => have := LMc8.out; omega); intro v145 w11 ho hb hg hat; rw [← Ny144.out] at ho; have n0_ := Aside0.mk (hb); have n1_ := Aside0.mk (ho); clear HB; clear HO_3; clear HO143; have HB := n0_; have HO146 := n1_; clear n0_ n1_; clear ho hb hg hat))
         go_roundg k2
         case measure => have := HK1.out; have := HK2.out; omega
         case rel => exact ⟨(x0_2), (y144), (by first | rfl | (simp; done) | (simp [*]; done)), H', ⟨by have := HK1.out; have := HK2.out; omega⟩, ⟨by (with_reducible repeat (first | apply Kd.S_alloc | apply Kd.S_drewN | apply Kd.S_drew)); exact HO146.out⟩, ⟨by repeat (first | (with_reducible first | exact HB.out | apply below_alloc | apply pw_below_drewN | apply below_drew1))⟩⟩
        ·
         rw [if_neg c8] at H
         exact absurd H (by simp)
   ·
    rw [if_neg c4] at H
    have c4b0 : decide (1 < x0_1) = false := decide_eq_false c4
    clear c4
    obtain rfl := Option.some.inj H
    go_wp2
    go_ret
    exact ⟨_, by first | rfl | (simp [errW_none, errW_some] <;> rfl) | (simp [*, errW_none, errW_some] <;> rfl), by (with_reducible repeat (first | apply Kd.S_alloc | apply Kd.S_drewN | apply Kd.S_drew)); exact HO_3.out, by repeat (first | (with_reducible first | exact HB.out | apply below_alloc | apply pw_below_drewN | apply below_drew1))⟩

/-! ### impl_divisors: function 163 -/
mutual
def impl_divisors.l0 : Nat → List Int → List (List Int) → Int → Int → Option (List Int)
 | 0, _, _, _, _ => none
 | k + 1, x3, x12, x13, x14 => if x14 < x13 then (if 0 ≤ x14 then (if x14 < (x12.length : Int) then (if 1 < ((rd_L2 x12 x14).length : Int) then (impl_divisors.l1 k x3 (rd_L2 x12 x14) (x3.length : Int) 1 x12 x13 x14 (rd (rd_L2 x12 x14) 1) 0) else (none)) else (none)) else (none)) else ((slices_Sort_int_int.f x3).bind fun t153 => (some t153))
def impl_divisors.l1 : Nat → List Int → List Int → Int → Int → List (List Int) → Int → Int → Int → Int → Option (List Int)
 | 0, _, _, _, _, _, _, _, _, _ => none
 | k + 1, x3, x5, x6, x7, x12, x13, x14, x22, x23 => if x23 < x22 then (if 0 < (x5.length : Int) then (if 0 ≤ x6 then (if x6 ≤ (x3.length : Int) then ((some (x3.take (x6 : Int).toNat : List Int)).bind fun y157 => (impl_divisors.l2 k x3 x5 x6 (wrap64 (x7 * (rd x5 0))) x12 x13 x14 x22 x23 y157 (y157.length : Int) 0)) else (none)) else (none)) else (none)) else (impl_divisors.l0 k x3 x12 x13 (wrap64 (x14 + 1)))
def impl_divisors.l2 : Nat → List Int → List Int → Int → Int → List (List Int) → Int → Int → Int → Int → List Int → Int → Int → Option (List Int)
 | 0, _, _, _, _, _, _, _, _, _, _, _, _ => none
 | k + 1, x3, x5, x6, x7, x12, x13, x14, x22, x23, x32, x33, x34 => if x34 < x33 then (if 0 ≤ x34 then (if x34 < (x32.length : Int) then (if x3.length < 17592186044416 then (impl_divisors.l2 k (x3 ++ [wrap64 ((rd x32 x34) * x7)]) x5 x6 x7 x12 x13 x14 x22 x23 x32 x33 (wrap64 (x34 + 1))) else (none)) else (none)) else (none)) else (impl_divisors.l1 k x3 x5 x6 x7 x12 x13 x14 x22 (wrap64 (x23 + 1)))
end
def impl_divisors.f (k : Nat) (a0 : Int) : Option (List Int) := (impl_factors.f k a0).bind fun t150 => (impl_divisors.l0 k (([1] : List Int)) t150 (t150.length : Int) 0)
theorem impl_divisors.mono_l : ∀ k, (∀ y0 y1 y2 y3, LeO (impl_divisors.l0 k y0 y1 y2 y3) (impl_divisors.l0 (k + 1) y0 y1 y2 y3)) ∧ (∀ y0 y1 y2 y3 y4 y5 y6 y7 y8, LeO (impl_divisors.l1 k y0 y1 y2 y3 y4 y5 y6 y7 y8) (impl_divisors.l1 (k + 1) y0 y1 y2 y3 y4 y5 y6 y7 y8)) ∧ (∀ y0 y1 y2 y3 y4 y5 y6 y7 y8 y9 y10 y11, LeO (impl_divisors.l2 k y0 y1 y2 y3 y4 y5 y6 y7 y8 y9 y10 y11) (impl_divisors.l2 (k + 1) y0 y1 y2 y3 y4 y5 y6 y7 y8 y9 y10 y11))
 | 0 => ⟨fun _ _ _ _ r h => by simp [impl_divisors.l0] at h, fun _ _ _ _ _ _ _ _ _ r h => by simp [impl_divisors.l1] at h, fun _ _ _ _ _ _ _ _ _ _ _ _ r h => by simp [impl_divisors.l2] at h⟩
 | k + 1 => by
  obtain ⟨ih0, ih1, ih2⟩ := impl_divisors.mono_l k
  refine ⟨?_, ?_, ?_⟩
  ·
   intro y0 y1 y2 y3
   unfold impl_divisors.l0
   repeat' first
   | (with_reducible first | exact ih0 _ _ _ _ | exact ih1 _ _ _ _ _ _ _ _ _ | exact ih2 _ _ _ _ _ _ _ _ _ _ _ _ | exact impl_factors.mono _ _ | exact LeO.refl _ | exact LeO.none _ | refine LeO.ite ?_ ?_ | refine LeO.bind ?_ (fun _ => ?_))
  ·
   intro y0 y1 y2 y3 y4 y5 y6 y7 y8
   unfold impl_divisors.l1
   repeat' first
   | (with_reducible first | exact ih0 _ _ _ _ | exact ih1 _ _ _ _ _ _ _ _ _ | exact ih2 _ _ _ _ _ _ _ _ _ _ _ _ | exact impl_factors.mono _ _ | exact LeO.refl _ | exact LeO.none _ | refine LeO.ite ?_ ?_ | refine LeO.bind ?_ (fun _ => ?_))
  ·
   intro y0 y1 y2 y3 y4 y5 y6 y7 y8 y9 y10 y11
   unfold impl_divisors.l2
   repeat' first
   | (with_reducible first | exact ih0 _ _ _ _ | exact ih1 _ _ _ _ _ _ _ _ _ | exact ih2 _ _ _ _ _ _ _ _ _ _ _ _ | exact impl_factors.mono _ _ | exact LeO.refl _ | exact LeO.none _ | refine LeO.ite ?_ ?_ | refine LeO.bind ?_ (fun _ => ?_))
theorem impl_divisors.mono : ∀ a0 k, LeO (impl_divisors.f k a0) (impl_divisors.f (k + 1) a0) := by
 intro a0 k
 obtain ⟨ih0, ih1, ih2⟩ := impl_divisors.mono_l k
 unfold impl_divisors.f
 repeat' first
   | (with_reducible first | exact ih0 _ _ _ _ | exact ih1 _ _ _ _ _ _ _ _ _ | exact ih2 _ _ _ _ _ _ _ _ _ _ _ _ | exact impl_factors.mono _ _ | exact LeO.refl _ | exact LeO.none _ | refine LeO.ite ?_ ?_ | refine LeO.bind ?_ (fun _ => ?_))
theorem dvGrown {w w1 : World} (hg : w.grownBy w1 none) : Below w.heap.size w w1 :=
  ⟨hg.os, hg.tape, hg.output, hg.size, fun k hk => hg.block k hk (by simp)⟩
theorem dvCell {W : World} {g n : Nat} {u : Value} {ad : Addr} (h : ad.block ≠ g ∨ ad.off ≠ n) : (W.setCell ⟨g, n, none⟩ u).cell? ad = W.cell? ad := by
  by_cases hb : ad.block = g
  · have ho : ad.off ≠ n := h.resolve_left (fun h => h hb)
    subst hb
    simp only [World.setCell, World.cell?, Array.getElem?_modify, if_pos]
    cases hh : W.heap[ad.block]? with
    | none => rfl
    | some b =>
      cases b with
      | cells c e f => simp only [Option.map_some, Option.isSome_none, Bool.false_eq_true, if_false, Array.getElem?_setIfInBounds_ne (Ne.symm ho)]
      | _ => rfl
  · exact cell_far (p := ⟨g, n, none⟩) hb u
theorem dvSet {W : World} {g n : Nat} {u : Value} : W.grownBy (W.setCell ⟨g, n, none⟩ u) (some g) :=
  ⟨rfl, rfl, rfl, by simp [World.setCell], fun k hk hne => Below.heap_setCell W ⟨g, n, none⟩ u k (fun h => hne (by rw [h]))⟩
theorem dvC {w w1 : World} {A : Option Addr} {m : Nat} {ys : List Int} (hc : (Kd.int .i64).C w A m ys) (hk : ∀ ad, A = some ad → ∀ j, j < m → w1.cell? (ad.add j) = w.cell? (ad.add j)) : (Kd.int .i64).C w1 A m ys := by
  have h := Kd.reads_of_C (d := (0 : Int)) hc
  refine Kd.C_of_reads (d := (0 : Int)) ⟨h.1, h.2.1, fun hn => ?_⟩
  obtain ⟨ad, e, hx⟩ := h.2.2 hn
  exact ⟨ad, e, fun j hj => by rw [hk ad e j hj]; exact hx j hj⟩
section
variable {P : Program} {ops : Array Oper} {rest : List Oper} {o : Oper} {a : Act} {Q : Exit → Act → World → Prop}
theorem dvAppend {w0 W : World} (base : Nat) (hgd : o.guard = none) (s x : Operand) (t e : TypeId)
    (ho : o.op = .call { callee := .builtin .append, args := #[s, x], argTypes := #[t, t] })
    (ht : P.underlying t = some (.slice e)) (hinfo : (P.info? e).map (fun i => (i.zero, i.size, i.bytes)) = some (some (.int .i64 0), 1, 8))
    (v : Value) (xs : List Int) (p : Int) (ok : Nat → Prop) (hs : a.eval s = v) (hx : a.eval x = .slice (some ⟨W.heap.size, 0, none⟩) 1 1) (hfresh : ∀ k, W.heap.size ≤ k → ok k)
    (HO : (Kd.int .i64).R e W base ok v xs) (HB : Below base w0 W) (hbase : base ≤ W.heap.size) (hl : (xs.length + 1) * 8 ≤ 140737488355328)
    (h : ∀ v1 w1, (Kd.int .i64).R e w1 base ok v1 (xs ++ [p]) → Below base w0 w1 → W.grownBy w1 v.ownBlock → (v1.ownBlock = v.ownBlock ∨ ∃ b, v1.ownBlock = some b ∧ W.heap.size ≤ b) →
      (∀ A m ys, (Kd.int .i64).C W A m ys → m ≤ xs.length → (∀ ad, A = some ad → ad.off = 0) → (Kd.int .i64).C w1 A m ys) → wpList P ops Q rest (a.put o.dst v1) w1) :
    wpList P ops Q (o :: rest) a (W.alloc (.cells [Value.int .i64 p].toArray e)) := by
  have hown := Kd.own_of_R HO
  rcases hown.2 with ⟨rfl, h0⟩ | ⟨g, cap, cur, rfl, hgb, hh, hn, hcap, hcs, htk⟩
  · refine Kd.R_append (Kd.int .i64) (w0 := w0) base hgd s x t e (.int .i64 0) 8 ho ht hinfo rfl (by decide) (by omega) _ xs p [.int .i64 p] ok (fun _ => False) hs hx rfl (fun _ hk => hk.elim) hfresh HO HB hbase hl ?_
    intro v1 w1 ho1 hb1 hg1 hat1
    refine h v1 w1 ho1 hb1 hg1 hat1 ?_
    intro A m ys hc _ _
    exact Kd.C_below hc (dvGrown hg1)
  · obtain ⟨i0, hi, hzz⟩ := Option.map_eq_some_iff.1 hinfo
    simp only [Prod.mk.injEq] at hzz
    obtain ⟨hz0, hz1, hz2⟩ := hzz
    have hgl : g < W.heap.size := (Array.getElem?_eq_some_iff.1 hh).1
    have hh' : (W.alloc (.cells [Value.int .i64 p].toArray e)).heap[g]? = some (.cells cur e (0, 0)) := (Below.heap_alloc W _ g hgl).trans hh
    have hlen : (encs (Value.int .i64) xs).length = xs.length := encs_length _
    refine wpList_append_arg (W.alloc (.cells [Value.int .i64 p].toArray e)) hgd s x t ho e i0 (.int .i64 0) 1 8 ht hi hz0 hz1 hz2 rfl (by decide) g 0 xs.length cap (encs (Value.int .i64) xs) hs (by rw [hlen, Nat.mul_one]) ?lo
      ⟨W.heap.size, 0, none⟩ 1 1 [Value.int .i64 p] hx rfl ?nw (by simp [Value.oneCell']) ?sp ?b1 hl ?room ?grow
    case lo =>
      intro j u hj
      rw [blk_cell hh', ← htk, Nat.mul_one] at *
      rw [List.getElem?_take] at hj
      split at hj
      · rw [Nat.zero_add]; simpa using hj
      · cases hj
    case nw => simpa using World.news_of_block (cs := [Value.int .i64 p].toArray) (t := e) (fr := (0, 0)) (heap_alloc_new W (.cells [Value.int .i64 p].toArray e))
    case sp =>
      intro hr j hj
      simp only [List.length_singleton] at hj
      refine ⟨?_, blk_frozen hh' _⟩
      rw [blk_cell hh', Array.getElem?_eq_getElem (by rw [hcs]; omega)]
      rfl
    case b1 => simp only [maxLen]; omega
    case room =>
      intro hr
      have hne : W.heap.size ≠ g := by omega
      show wpList P ops Q rest _ ((W.alloc (.cells [Value.int .i64 p].toArray e)).setCell ⟨g, 0 + xs.length * 1, none⟩ (.int .i64 p))
      rw [show 0 + xs.length * 1 = xs.length from by omega]
      have hb := blk_set hh' xs.length (.int .i64 p)
      refine h _ _ ?_ ?_ ?_ (.inl rfl) ?_
      · refine Kd.R_of_own ⟨?_, .inr ⟨g, cap, _, ?_, hgb, hb, ?_, hcap, ?_, ?_⟩⟩ (fun k hk => ?_)
        · rw [encs_length]; omega
        · rw [List.length_append, List.length_singleton]
        · rw [List.length_append, List.length_singleton]; omega
        · rw [Array.size_setIfInBounds]; exact hcs
        · rw [List.length_append, List.length_singleton, Nat.mul_one, Array.toList_setIfInBounds, List.take_set, List.take_add_one]
          have hcl : xs.length < cur.toList.length := by have := Array.length_toList (xs := cur); omega
          rw [Nat.mul_one] at htk
          rw [List.getElem?_eq_getElem hcl, Option.toList_some, htk, List.set_append_right _ _ (by rw [hlen]; exact Nat.le_refl _), hlen, Nat.sub_self]
          simp [encs]
        · exact HO.1 k hk
      · exact (HB.alloc hbase _).setCell hgb _
      · exact World.grownBy.trans (World.grownBy_alloc W _ _) dvSet
      · intro A m ys hc hm hA
        refine dvC (Kd.C_alloc hc (.cells [Value.int .i64 p].toArray e)) ?_
        intro ad hAd j hj
        refine dvCell (.inr ?_)
        have := hA ad hAd
        simp only [Addr.add]
        split
        · omega
        · show ad.off + j ≠ _
          omega
    case grow =>
      intro hr v1 w1 how hgr
      have hgr' : W.grownBy w1 none := World.grownBy.trans (World.grownBy_alloc W _ _) hgr
      refine h v1 w1 ?_ ?_ ?_ ?_ (fun A m ys hc _ _ => Kd.C_below hc (dvGrown hgr'))
      · refine Kd.R_of_own ?_ (fun k hk => hfresh k ?_)
        · refine ⟨by simp [encs], ?_⟩
          rcases how.2 with ⟨_, h0⟩ | ⟨g', cap', cur', r1, r2, r3, r4, r5, r6, r7⟩
          · omega
          · refine .inr ⟨g', cap', cur', ?_, ?_, r3, ?_, r5, r6, ?_⟩
            · rw [r1, List.length_append, List.length_singleton]
            · simp at r2; omega
            · rw [List.length_append, List.length_singleton]; exact r4
            · rw [List.length_append, List.length_singleton, r7]; simp [encs]
        · have := own_base how k hk
          simp at this
          omega
      · exact (HB.alloc hbase _).grown hgr (by simp; omega) (fun k hk => by cases hk)
      · exact ⟨hgr'.os, hgr'.tape, hgr'.output, hgr'.size, fun k hk _ => hgr'.block k hk (by simp)⟩
      · rcases how.2 with ⟨_, h0⟩ | ⟨g', cap', cur', r1, r2, r3⟩
        · omega
        · refine .inr ⟨g', by rw [r1]; rfl, ?_⟩
          simp at r2; omega
end
theorem dvOff {w : World} {base : Nat} {e : TypeId} {size n m c : Nat} {A : Option Addr} {xs : List Value} (h : w.ownsRow base e size (.slice A n c) m xs) : ∀ ad, A = some ad → ad.off = 0 := by
  rintro ad rfl
  rcases h.2 with ⟨h1, _⟩ | ⟨g, cap, cur, h1, _⟩
  · cases h1
  · injection h1 with h1
    injection h1 with h1
    rw [h1]
set_option maxHeartbeats 200000000 in
set_option maxRecDepth 100000 in
theorem impl_divisors.calls (k : Nat) (a0 : Int) (r : List Int) (w : World) (h : impl_divisors.f k a0 = some r) :
  Calls Try.prog 163 #[.int .i64 a0] w fun e w' => ∃ v0_ : Value, e = .returned (v0_) ∧ Kd.R (Kd.int .i64) 3 w' w.heap.size (fun _ => True) v0_ r ∧ Below w.heap.size w w' := by
 have HB := Aside0.mk (Below.refl w.heap.size w)
 have H : ((impl_factors.f k a0).bind fun t150 => (impl_divisors.l0 k (([1] : List Int)) t150 (t150.length : Int) 0)) = some r := h
 clear h
 obtain ⟨y147, hy147⟩ : ∃ y_ : List Int, y_ = (([1] : List Int)) := ⟨_, rfl⟩
 replace H : ((impl_factors.f k a0).bind fun t150 => (impl_divisors.l0 k y147 t150 (t150.length : Int) 0)) = some r := by first | (rw [hy147]; with_reducible exact H) | (have H2_ := (Option.bind_some _ _).symm.trans H; rw [hy147]; with_reducible exact H2_) | (have H2_ := (Option.bind_some _ _).symm.trans H; with_reducible exact H2_) | with_reducible exact H | (rw [hy147]; exact H) | exact H
 have Ny147 := Aside0.mk hy147
 clear hy147
 replace H := Option.bind_eq_some_iff.mp H
 obtain ⟨t150, A20, H⟩ := H
 replace H : (impl_divisors.l0 k y147 t150 (t150.length : Int) 0) = some r := H
 have A2 := Aside0.mk A20
 clear A20
 have H' := Aside0.mk H
 clear H
 go_enter Try.func163, Try.ntmps163
 go_wp2_with (first | ((with_reducible refine gate_dst (N := 10) rfl ?_); refine Kd.R_lit (Kd.int .i64) _ 3 ?hg (N := 10) ?hd (xs := ([1] : List Int)) (inner := [.int .i64 1]) (ok := fun _ => True) (okp := fun _ => True) ?hr ?hp (fun _ hk => hk) trivial (Below.refl _ _) (Nat.le_refl _) (by simp) ?_; (case hd => rfl); (case hg => rfl); (case hr => first | (go_simp; done) | (go_simp; rfl)); (case hp => exact (Reps.one (show Kd.M (Kd.int .i64) _ _ _ 1 [.int .i64 1] from rfl) (Reps.none _ _))); intro v148 w3 ho4 hb hg_ hnew_; clear hg_ hnew_; (first | rw [← Ny147.out] at ho4 | (simp only [Int.reduceToNat] at ho4; rw [← Ny147.out] at ho4)); have n0_ := Aside0.mk (Kd.R_lower ho4 (below_size (by repeat (first | (with_reducible first | exact HB.out | apply below_alloc | apply pw_below_drewN | apply below_drew1))))); have n1_ := Aside0.mk (below_step (by repeat (first | (with_reducible first | exact HB.out | apply below_alloc | apply pw_below_drewN | apply below_drew1))) hb); clear HB; have HO149 := n0_; have HB := n1_; clear n0_ n1_; clear hb ho4) | ((with_reducible refine gate_callee (f := 204) rfl ?_); refine goesL_ (some 12) rfl rfl Try.func204 (by kernel_rfl) rfl #[.int .i64 a0] rfl (by (try simp only [List.map_toArray, List.map_cons, List.map_nil]); first | done | rfl | (simp only [List.length_drop, List.length_take]; rfl)) ?_; (with_reducible refine (impl_factors.calls k a0 t150 _ A2.out).mono ?_); rintro e w5 ⟨v151, rfl, ho0, hb⟩; refine ⟨_, rfl, ?_⟩; have n0_ := Aside0.mk (Kd.R_below (by (with_reducible repeat (first | apply Kd.R_alloc | apply Kd.R_drewN | apply Kd.R_drew)); exact HO149.out) hb); have n1_ := Aside0.mk (Kd.S_lower (Kd.S_new' ho0 (Kd.R_lt (by (with_reducible repeat (first | apply Kd.R_alloc | apply Kd.R_drewN | apply Kd.R_drew)); exact HO149.out))) (below_size (by repeat (first | (with_reducible first | exact HB.out | apply below_alloc | apply pw_below_drewN | apply below_drew1))))); have n2_ := Aside0.mk (below_step (by repeat (first | (with_reducible first | exact HB.out | apply below_alloc | apply pw_below_drewN | apply below_drew1))) hb); clear HO149; clear HB; have HO149 := n0_; have HO152 := n1_; have HB := n2_; clear n0_ n1_ n2_; (try clear hb); (try clear ho0); obtain ⟨Ao6, co6, eo6⟩ := Kd.S_slice HO152.out; subst eo6))
 go_loopg [3, 14] k (fun kq v3 v14 w' => ∃ (x3_1 : List Int) (x14_1 : Int), v14 = .int .i64 x14_1 ∧ Aside0 (impl_divisors.l0 kq x3_1 t150 (t150.length : Int) x14_1 = some r) ∧ Aside0 (kq ≤ k) ∧ Aside0 (Kd.R (Kd.int .i64) 3 w' w.heap.size (fun _ => True) v3 x3_1) ∧ Aside0 (Kd.S (Kd.slice 3 (Kd.int .i64)) 24 w' w.heap.size (fun k_ => some k_ ≠ (v3 : Value).ownBlock) (.slice Ao6 t150.length co6) t150) ∧ Aside0 (Below w.heap.size w w'))
 case atStart => exact ⟨(y147), (0), (by first | rfl | (simp; done) | (simp [*]; done)), H', ⟨Nat.le_refl _⟩, ⟨by (with_reducible repeat (first | apply Kd.R_alloc | apply Kd.R_drewN | apply Kd.R_drew)); exact HO149.out⟩, ⟨by (with_reducible repeat (first | apply Kd.S_alloc | apply Kd.S_drewN | apply Kd.S_drew)); exact Kd.S_mono HO152.out (fun _ hk => hk.2)⟩, ⟨by repeat (first | (with_reducible first | exact HB.out | apply below_alloc | apply pw_below_drewN | apply below_drew1))⟩⟩
 case round =>
  clear H'
  obtain ⟨x3_1, x14_1, rfl, HA, HK1, HO_3, HO_12, HB⟩ := hrel
  cases gk with
  | zero => exact absurd HA.out (by simp [impl_divisors.l0])
  | succ k1 =>
   have H := HA.out
   clear HA
   simp only [impl_divisors.l0] at H
   by_cases c7 : x14_1 < (t150.length : Int)
   ·
    rw [if_pos c7] at H
    have c7b0 : decide (x14_1 < (t150.length : Int)) = true := decide_eq_true c7
    clear c7
    by_cases c8 : 0 ≤ x14_1
    ·
     rw [if_pos c8] at H
     have c8b0 : decide (0 ≤ x14_1) = true := decide_eq_true c8
     clear c8
     by_cases c9 : x14_1 < (t150.length : Int)
     ·
      rw [if_pos c9] at H
      have c9b0 : decide (x14_1 < (t150.length : Int)) = true := decide_eq_true c9
      clear c9
      by_cases c10 : 1 < ((rd_L2 t150 x14_1).length : Int)
      ·
       rw [if_pos c10] at H
       have c10b0 : decide (1 < ((rd_L2 t150 x14_1).length : Int)) = true := decide_eq_true c10
       have c10b1 : decide (1 < (rd_L2 t150 x14_1).length) = true := decide_eq_true (by omega)
       clear c10
       have H' := Aside0.mk H
       clear H
       have p154 : 0 ≤ (x14_1 : Int) := of_decide_eq_true (by first | (with_reducible assumption) | assumption)
       have q154 : x14_1 < (t150.length : Int) := of_decide_eq_true (by first | (with_reducible assumption) | assumption)
       obtain ⟨ad154, A154_0, c154_0, e154, hx154_0, hl154_0, hi154_0⟩ := at_L2 (Kd.S_reads' HO_12.out).2.2 x14_1 p154 q154
       cases e154
       obtain ⟨ce154, hce154, hMe154, hcc154⟩ := Kd.S_get HO_12.out [] x14_1 p154 (by first | exact q154 | exact of_decide_eq_true (by first | (with_reducible assumption) | assumption) | (have e_ := (Kd.S_reads' HO_12.out).1; omega))
       obtain ⟨ve154_0, rfl, ge154_0⟩ := hMe154
       have hv154_0 := hcc154 0 _ rfl
       rw [Nat.add_zero, show ((Kd.slice 3 (Kd.int .i64))).sz = 1 from rfl, Nat.mul_one] at hv154_0
       replace hv154_0 := Option.some.inj (hv154_0.symm.trans hx154_0)
       rw [hv154_0] at ge154_0
       have HL154_0 := Aside0.mk (show Kd.R (Kd.int .i64) 3 _ _ _ _ (rd_L2 t150 x14_1) from ge154_0)
       clear hv154_0 ge154_0
       clear hcc154 hce154
       have HR154_0 := Aside0.mk hi154_0
       have HC154_0 := Aside0.mk hl154_0
       clear hi154_0 hl154_0
       replace p154 := eq_true p154
       replace q154 := eq_true q154
       obtain ⟨Ao11, co11, eo11⟩ := Kd.R_slice HO_3.out
       subst eo11
       have p155 : 0 ≤ (1 : Int) := (by omega)
       have q155 : 1 < ((rd_L2 t150 x14_1).length : Int) := of_decide_eq_true (by first | (with_reducible assumption) | assumption)
       obtain ⟨ad155, e155, hx155_0⟩ := Kd.at_int (by repeat (first | (with_reducible exact HR154_0.out) | (with_reducible refine Kd.C_alloc ?_ _) | (with_reducible refine Kd.C_drewN ?_ _) | (with_reducible refine Kd.C_drew ?_) | exact HR154_0.out)) 1 p155 q155
       cases e155
       (try simp only [show (1 : Int).toNat = 1 from rfl, Nat.reduceMul, Nat.reduceEqDiff, Go.Addr.add, ↓reduceIte] at hx155_0)
       have qi155 : (1 < (rd_L2 t150 x14_1).length) = True := eq_true (by omega)
       (try rw [show ((1 : Int)).toNat = 1 from rfl] at hx155_0)
       replace p155 := eq_true p155
       replace q155 := eq_true q155
       go_wp2
       go_loopg [3, 7, 23] k1 (fun kq v3 v7 v23 w' => ∃ (x3_2 : List Int) (x7_2 : Int) (x23_2 : Int), v7 = .int .i64 x7_2 ∧ v23 = .int .i64 x23_2 ∧ Aside0 (impl_divisors.l1 kq x3_2 (rd_L2 t150 x14_1) (x3_1.length : Int) x7_2 t150 (t150.length : Int) x14_1 (rd (rd_L2 t150 x14_1) 1) x23_2 = some r) ∧ Aside0 (kq ≤ k1) ∧ Aside0 (Kd.R (Kd.int .i64) 3 w' w.heap.size (fun _ => True) v3 x3_2) ∧ Aside0 (Kd.S (Kd.slice 3 (Kd.int .i64)) 24 w' w.heap.size (fun k_ => some k_ ≠ (v3 : Value).ownBlock) (.slice (some ad154) t150.length co6) t150) ∧ Aside0 (Kd.R (Kd.int .i64) 3 w' w.heap.size (fun k_ => some k_ ≠ (v3 : Value).ownBlock) (.slice (some ad155) (rd_L2 t150 x14_1).length c154_0) (rd_L2 t150 x14_1)) ∧ Aside0 (Below w.heap.size w w'))
       case atStart => exact ⟨(x3_1), (1), (0), (by first | rfl | (simp; done) | (simp [*]; done)), (by first | rfl | (simp; done) | (simp [*]; done)), H', ⟨Nat.le_refl _⟩, ⟨by (with_reducible repeat (first | apply Kd.R_alloc | apply Kd.R_drewN | apply Kd.R_drew)); exact HO_3.out⟩, ⟨by (with_reducible repeat (first | apply Kd.S_alloc | apply Kd.S_drewN | apply Kd.S_drew)); exact HO_12.out⟩, ⟨by (with_reducible repeat (first | apply Kd.R_alloc | apply Kd.R_drewN | apply Kd.R_drew)); first | exact HL154_0.out | exact Kd.R_mono HL154_0.out (fun _ hk => hk.1)⟩, ⟨by repeat (first | (with_reducible first | exact HB.out | apply below_alloc | apply pw_below_drewN | apply below_drew1))⟩⟩
       case round =>
        clear H'
        obtain ⟨x3_2, x7_2, x23_2, rfl, rfl, HA, HK2, HO_3, HO_12, HLf, HB⟩ := hrel
        have HR154_0 := Aside0.mk (Kd.R_reads' HLf.out).2.2
        cases gk with
        | zero => exact absurd HA.out (by simp [impl_divisors.l1])
        | succ k2 =>
         have H := HA.out
         clear HA
         simp only [impl_divisors.l1] at H
         by_cases c12 : x23_2 < (rd (rd_L2 t150 x14_1) 1)
         ·
          rw [if_pos c12] at H
          have c12b0 : decide (x23_2 < (rd (rd_L2 t150 x14_1) 1)) = true := decide_eq_true c12
          clear c12
          by_cases c13 : 0 < ((rd_L2 t150 x14_1).length : Int)
          ·
           rw [if_pos c13] at H
           have c13b0 : decide (0 < ((rd_L2 t150 x14_1).length : Int)) = true := decide_eq_true c13
           have c13b1 : decide (0 < (rd_L2 t150 x14_1).length) = true := decide_eq_true (by omega)
           clear c13
           by_cases c14 : 0 ≤ (x3_1.length : Int)
           ·
            rw [if_pos c14] at H
            have c14b0 := eq_true c14
            have c14b1 : decide (0 ≤ (x3_1.length : Int)) = true := decide_eq_true c14
            clear c14
            by_cases c15 : (x3_1.length : Int) ≤ (x3_2.length : Int)
            ·
             rw [if_pos c15] at H
             have c15b0 := eq_true c15
             have c15b1 : decide ((x3_1.length : Int) ≤ (x3_2.length : Int)) = true := decide_eq_true c15
             clear c15
             obtain ⟨y157, hy157⟩ : ∃ y_ : List Int, y_ = (x3_2.take ((x3_1.length : Int) : Int).toNat) := ⟨_, rfl⟩
             replace H : (impl_divisors.l2 k2 x3_2 (rd_L2 t150 x14_1) (x3_1.length : Int) (wrap64 (x7_2 * (rd (rd_L2 t150 x14_1) 0))) t150 (t150.length : Int) x14_1 (rd (rd_L2 t150 x14_1) 1) x23_2 y157 (y157.length : Int) 0) = some r := by first | (rw [hy157]; with_reducible exact H) | (have H2_ := (Option.bind_some _ _).symm.trans H; rw [hy157]; with_reducible exact H2_) | (have H2_ := (Option.bind_some _ _).symm.trans H; with_reducible exact H2_) | with_reducible exact H | (rw [hy157]; exact H) | exact H
             have Ny157 := Aside0.mk hy157
             clear hy157
             have H' := Aside0.mk H
             clear H
             have p156 : 0 ≤ (0 : Int) := (by omega)
             have q156 : 0 < ((rd_L2 t150 x14_1).length : Int) := of_decide_eq_true (by first | (with_reducible assumption) | assumption)
             obtain ⟨ad156, e156, hx156_0⟩ := Kd.at_int HR154_0.out 0 p156 q156
             obtain rfl : ad155 = ad156 := (by injection e156)
             have qi156 : (0 < (rd_L2 t150 x14_1).length) = True := eq_true (by omega)
             (try rw [show ((0 : Int)).toNat = 0 from rfl] at hx156_0)
             (try rw [Addr.add_zero'] at hx156_0)
             (try replace hx156_0 := (HB.out.cell (World.block_lt_of_cell? w _ hx156_0)).trans hx156_0)
             replace p156 := eq_true p156
             replace q156 := eq_true q156
             obtain ⟨Ao17, co17, eo17⟩ := Kd.R_slice HO_3.out
             subst eo17
             have q16 : ((x3_1.length : Int) : Int) ≤ ((x3_2.length : Int) : Int) := of_decide_eq_true (by first | (with_reducible assumption) | assumption)
             obtain ⟨i016, hi016, _, hsz16, _⟩ := info_parts info3
             have hroom16 : x3_2.length ≤ co17 := (Kd.R_reads' HO_3.out).2.1
             have hC16 : Kd.C (Kd.int .i64) _ Ao17 x3_2.length x3_2 := (Kd.R_reads' HO_3.out).2.2
             have hcut16 := cut_to (P := Try.prog) 24 3 .i64 Try.underlying24 hi016 Ao17 x3_2.length co17 (x3_1.length : Int) (of_decide_eq_true (by first | (with_reducible assumption) | assumption)) q16 hroom16
             have hr16 := Kd.C_take (m := ((x3_1.length : Int) : Int).toNat) hC16 (by omega)
             have hy16 : y157.length = ((x3_1.length : Int) : Int).toNat := (by rw [Ny157.out, List.length_take]; omega)
             rw [← Ny157.out] at hr16
             rw [← hy16] at hcut16
             have HR160 := Aside0.mk hr16
             have hA0_ := Aside0.mk (dvOff (Kd.own_of_R HO_3.out))
             have HC160 := Aside0.mk (show y157.length ≤ co17 from by omega)
             clear hr16 hC16 hroom16 hi016 hsz16
             have KY16 := Aside0.mk hy16
             clear hy16
             have KL16 := Aside0.mk (show ((x3_1.length : Int) : Int).toNat ≤ x3_2.length from by omega)
             replace q16 := eq_true q16
             go_wp2
             go_loopg [3, 34] k2 (fun kq v3 v34 w' => ∃ (x3_3 : List Int) (x34_3 : Int), v34 = .int .i64 x34_3 ∧ Aside0 (impl_divisors.l2 kq x3_3 (rd_L2 t150 x14_1) (x3_1.length : Int) (wrap64 (x7_2 * (rd (rd_L2 t150 x14_1) 0))) t150 (t150.length : Int) x14_1 (rd (rd_L2 t150 x14_1) 1) x23_2 y157 (y157.length : Int) x34_3 = some r) ∧ Aside0 (kq ≤ k2) ∧ Aside0 (Kd.R (Kd.int .i64) 3 w' w.heap.size (fun _ => True) v3 x3_3) ∧ Aside0 (Kd.S (Kd.slice 3 (Kd.int .i64)) 24 w' w.heap.size (fun k_ => some k_ ≠ (v3 : Value).ownBlock) (.slice (some ad154) t150.length co6) t150) ∧ Aside0 (Kd.R (Kd.int .i64) 3 w' w.heap.size (fun k_ => some k_ ≠ (v3 : Value).ownBlock) (.slice (some ad155) (rd_L2 t150 x14_1).length c154_0) (rd_L2 t150 x14_1)) ∧ Aside0 (Kd.C (Kd.int .i64) w' Ao17 y157.length y157) ∧ Aside0 (y157.length ≤ x3_3.length) ∧ Aside0 (Below w.heap.size w w'))
             case atStart => exact ⟨(x3_2), (0), (by first | rfl | (simp; done) | (simp [*]; done)), H', ⟨Nat.le_refl _⟩, ⟨by (with_reducible repeat (first | apply Kd.R_alloc | apply Kd.R_drewN | apply Kd.R_drew)); exact HO_3.out⟩, ⟨by (with_reducible repeat (first | apply Kd.S_alloc | apply Kd.S_drewN | apply Kd.S_drew)); exact HO_12.out⟩, ⟨by (with_reducible repeat (first | apply Kd.R_alloc | apply Kd.R_drewN | apply Kd.R_drew)); first | exact HLf.out | exact Kd.R_mono HLf.out (fun _ hk => hk.1)⟩, ⟨by (with_reducible repeat (first | apply Kd.C_alloc | apply Kd.C_drewN | apply Kd.C_drew)); exact HR160.out⟩, ⟨by have := KY16.out; have := KL16.out; omega⟩, ⟨by repeat (first | (with_reducible first | exact HB.out | apply below_alloc | apply pw_below_drewN | apply below_drew1))⟩⟩
             case round =>
              clear H'
              clear HR160
              clear HO_3
              clear HO_12
              clear HLf
              obtain ⟨x3_3, x34_3, rfl, HA, HK3, HO_3, HO_12, HLf, HR160, HCl, HB⟩ := hrel
              have HR154_0 := Aside0.mk (Kd.R_reads' HLf.out).2.2
              cases gk with
              | zero => exact absurd HA.out (by simp [impl_divisors.l2])
              | succ k3 =>
               have H := HA.out
               clear HA
               simp only [impl_divisors.l2] at H
               by_cases c18 : x34_3 < (y157.length : Int)
               ·
                rw [if_pos c18] at H
                have c18b0 : decide (x34_3 < (y157.length : Int)) = true := decide_eq_true c18
                clear c18
                by_cases c19 : 0 ≤ x34_3
                ·
                 rw [if_pos c19] at H
                 have c19b0 : decide (0 ≤ x34_3) = true := decide_eq_true c19
                 clear c19
                 by_cases c20 : x34_3 < (y157.length : Int)
                 ·
                  rw [if_pos c20] at H
                  have c20b0 : decide (x34_3 < (y157.length : Int)) = true := decide_eq_true c20
                  clear c20
                  by_cases c21 : x3_3.length < 17592186044416
                  ·
                   rw [if_pos c21] at H
                   have LMc21 := Aside0.mk c21
                   clear c21
                   obtain ⟨y162, hy162⟩ : ∃ y_ : List Int, y_ = (x3_3 ++ [wrap64 ((rd y157 x34_3) * (wrap64 (x7_2 * (rd (rd_L2 t150 x14_1) 0))))]) := ⟨_, rfl⟩
                   replace H : (impl_divisors.l2 k3 y162 (rd_L2 t150 x14_1) (x3_1.length : Int) (wrap64 (x7_2 * (rd (rd_L2 t150 x14_1) 0))) t150 (t150.length : Int) x14_1 (rd (rd_L2 t150 x14_1) 1) x23_2 y157 (y157.length : Int) (wrap64 (x34_3 + 1))) = some r := by first | (rw [hy162]; with_reducible exact H) | (have H2_ := (Option.bind_some _ _).symm.trans H; rw [hy162]; with_reducible exact H2_) | (have H2_ := (Option.bind_some _ _).symm.trans H; with_reducible exact H2_) | with_reducible exact H | (rw [hy162]; exact H) | exact H
                   have Ny162 := Aside0.mk hy162
                   clear hy162
                   have H' := Aside0.mk H
                   clear H
                   have p161 : 0 ≤ (x34_3 : Int) := of_decide_eq_true (by first | (with_reducible assumption) | assumption)
                   have q161 : x34_3 < (y157.length : Int) := of_decide_eq_true (by first | (with_reducible assumption) | assumption)
                   obtain ⟨ad161, e161, hx161_0⟩ := Kd.at_int HR160.out x34_3 p161 q161
                   cases e161
                   (try replace hx161_0 := (HB.out.cell (World.block_lt_of_cell? w _ hx161_0)).trans hx161_0)
                   replace p161 := eq_true p161
                   replace q161 := eq_true q161
                   go_wp2_with (first | ((with_reducible refine gate_builtin (b := .append) (xs := #[.tmp 38, .tmp 42]) rfl ?_); at_builtin; refine dvAppend (w0 := w) w.heap.size rfl (.tmp 38) (.tmp 42) 24 3 rfl Try.underlying24 info3 u3 x3_3 (wrap64 ((rd y157 x34_3) * (wrap64 (x7_2 * (rd (rd_L2 t150 x14_1) 0))))) (fun _ => True) rfl rfl ?aF ?aO ?aB ?aS ?aL ?_; (case aB => exact (by repeat (first | (with_reducible first | exact HB.out | apply below_alloc | apply pw_below_drewN | apply below_drew1)))); (case aF => exact (fun _ _ => trivial)); (case aO => exact (by (with_reducible repeat (first | apply Kd.R_alloc | apply Kd.R_drewN | apply Kd.R_drew)); exact HO_3.out)); (case aS => exact (below_size (by repeat (first | (with_reducible first | exact HB.out | apply below_alloc | apply pw_below_drewN | apply below_drew1))))); (case aL => have := LMc21.out; omega); intro v163 w22 ho hb hg hat hc; rw [← Ny162.out] at ho; have n9_ := Aside0.mk (Kd.R_after (ok := (fun _ => True)) (by (with_reducible repeat (first | apply Kd.R_alloc | apply Kd.R_drewN | apply Kd.R_drew)); exact Kd.R_mono HLf.out (fun _ hk => ⟨trivial, hk⟩)) hg hat); clear HLf HR154_0; have HLf := n9_; clear n9_; have n8_ := Aside0.mk (hc _ _ _ (by (with_reducible repeat (first | apply Kd.C_alloc | apply Kd.C_drewN | apply Kd.C_drew)); exact HR160.out) HCl.out hA0_.out); clear HR160; have HR160 := n8_; clear n8_; have n0_ := Aside0.mk (Kd.S_after (ok := (fun _ => True)) (by (with_reducible repeat (first | apply Kd.S_alloc | apply Kd.S_drewN | apply Kd.S_drew)); exact Kd.S_mono HO_12.out (fun _ hk => ⟨trivial, hk⟩)) hg hat); have n1_ := Aside0.mk (hb); have n2_ := Aside0.mk (ho); clear HO_12; clear HB; clear HO_3; have HO_12 := n0_; have HB := n1_; have HO164 := n2_; clear n0_ n1_ n2_; clear hc ho hb hg hat))
                   go_roundg k3
                   case measure => have := HK1.out; have := HK2.out; have := HK3.out; omega
                   case rel => exact ⟨(y162), (wrap64 (x34_3 + 1)), (by first | rfl | (simp; done) | (simp [*]; done)), H', ⟨by have := HK1.out; have := HK2.out; have := HK3.out; omega⟩, ⟨by (with_reducible repeat (first | apply Kd.R_alloc | apply Kd.R_drewN | apply Kd.R_drew)); exact HO164.out⟩, ⟨by (with_reducible repeat (first | apply Kd.S_alloc | apply Kd.S_drewN | apply Kd.S_drew)); exact Kd.S_mono HO_12.out (fun _ hk => hk.2)⟩, ⟨by (with_reducible repeat (first | apply Kd.R_alloc | apply Kd.R_drewN | apply Kd.R_drew)); first | exact HLf.out | exact Kd.R_mono HLf.out (fun _ hk => hk.2)⟩, ⟨by (with_reducible repeat (first | apply Kd.C_alloc | apply Kd.C_drewN | apply Kd.C_drew)); exact HR160.out⟩, ⟨by have h1_ := HCl.out; have h2_ := congrArg List.length Ny162.out; rw [List.length_append] at h2_; omega⟩, ⟨by repeat (first | (with_reducible first | exact HB.out | apply below_alloc | apply pw_below_drewN | apply below_drew1))⟩⟩
                  ·
                   rw [if_neg c21] at H
                   exact absurd H (by simp)
                 ·
                  rw [if_neg c20] at H
                  exact absurd H (by simp)
                ·
                 rw [if_neg c19] at H
                 exact absurd H (by simp)
               ·
                rw [if_neg c18] at H
                have c18b0 : decide (x34_3 < (y157.length : Int)) = false := decide_eq_false c18
                clear c18
                have H' := Aside0.mk H
                clear H
                go_wp2
                go_roundg k3
                case measure => have := HK1.out; have := HK2.out; have := HK3.out; omega
                case rel => exact ⟨(x3_3), ((wrap64 (x7_2 * (rd (rd_L2 t150 x14_1) 0)))), (wrap64 (x23_2 + 1)), (by first | rfl | (simp; done) | (simp [*]; done)), (by first | rfl | (simp; done) | (simp [*]; done)), H', ⟨by have := HK1.out; have := HK2.out; have := HK3.out; omega⟩, ⟨by (with_reducible repeat (first | apply Kd.R_alloc | apply Kd.R_drewN | apply Kd.R_drew)); exact HO_3.out⟩, ⟨by (with_reducible repeat (first | apply Kd.S_alloc | apply Kd.S_drewN | apply Kd.S_drew)); exact HO_12.out⟩, ⟨by (with_reducible repeat (first | apply Kd.R_alloc | apply Kd.R_drewN | apply Kd.R_drew)); first | exact HLf.out | exact Kd.R_mono HLf.out (fun _ hk => hk.2)⟩, ⟨by repeat (first | (with_reducible first | exact HB.out | apply below_alloc | apply pw_below_drewN | apply below_drew1))⟩⟩
            ·
             rw [if_neg c15] at H
             exact absurd H (by simp)
           ·
            rw [if_neg c14] at H
            exact absurd H (by simp)
          ·
           rw [if_neg c13] at H
           exact absurd H (by simp)
         ·
          rw [if_neg c12] at H
          have c12b0 : decide (x23_2 < (rd (rd_L2 t150 x14_1) 1)) = false := decide_eq_false c12
          clear c12
          have H' := Aside0.mk H
          clear H
          go_wp2
          go_roundg k2
          case measure => have := HK1.out; have := HK2.out; omega
          case rel => exact ⟨(x3_2), (wrap64 (x14_1 + 1)), (by first | rfl | (simp; done) | (simp [*]; done)), H', ⟨by have := HK1.out; have := HK2.out; omega⟩, ⟨by (with_reducible repeat (first | apply Kd.R_alloc | apply Kd.R_drewN | apply Kd.R_drew)); exact HO_3.out⟩, ⟨by (with_reducible repeat (first | apply Kd.S_alloc | apply Kd.S_drewN | apply Kd.S_drew)); exact HO_12.out⟩, ⟨by repeat (first | (with_reducible first | exact HB.out | apply below_alloc | apply pw_below_drewN | apply below_drew1))⟩⟩
      ·
       rw [if_neg c10] at H
       exact absurd H (by simp)
     ·
      rw [if_neg c9] at H
      exact absurd H (by simp)
    ·
     rw [if_neg c8] at H
     exact absurd H (by simp)
   ·
    rw [if_neg c7] at H
    have c7b0 : decide (x14_1 < (t150.length : Int)) = false := decide_eq_false c7
    clear c7
    replace H := Option.bind_eq_some_iff.mp H
    obtain ⟨t153, A230, H⟩ := H
    replace H : (some t153) = some r := H
    have A23 := Aside0.mk A230
    clear A230
    obtain rfl := Option.some.inj H
    obtain ⟨Ao24, co24, eo24⟩ := Kd.R_slice HO_3.out
    subst eo24
    go_wp2_with (first | ((with_reducible refine gate_callee (f := 195) rfl ?_); refine goesL_ (some 48) rfl rfl Try.func195 (by kernel_rfl) rfl #[.slice Ao24 x3_1.length co24] rfl (by (try simp only [List.map_toArray, List.map_cons, List.map_nil]); first | done | rfl | (simp only [List.length_drop, List.length_take]; rfl)) ?_; (with_reducible refine (slices_Sort_int_int.calls (fun k_ => some k_ = (.slice Ao24 x3_1.length co24 : Value).ownBlock) (.slice Ao24 x3_1.length co24) x3_1 t153 w _ ?side1 ?side2 A23.out).mono ?_); (case side1 => repeat (first | (with_reducible first | exact HB.out | apply below_alloc | apply pw_below_drewN | apply below_drew1))); (case side2 => exact Kd.R_tight rfl HO_3.out); rintro e w25 ⟨rfl, hy0, hb, hkp⟩; refine ⟨_, rfl, ?_⟩; have n0_ := Aside0.mk (Kd.R_reok rfl hy0 (fun k_ e_ => HO_3.out.1 k_ e_)); have n1_ := Aside0.mk (Kd.S_mono (ok' := fun k_ => some k_ ≠ (.slice Ao24 x3_1.length co24 : Value).ownBlock) (Kd.S_keptB (HO_12.out) hkp (fun k_ hk_ hs_ => (hk_) hs_)) (fun k_ hk_ => hk_.1)); have n2_ := Aside0.mk (hb); clear HO_3; clear HO_12; clear HB; have HO_3 := n0_; have HO_12 := n1_; have HB := n2_; clear n0_ n1_ n2_; (try clear hb); (try clear hkp); (try clear hy0)))
    go_ret
    exact ⟨_, by first | rfl | (simp [errW_none, errW_some] <;> rfl) | (simp [*, errW_none, errW_some] <;> rfl), by (with_reducible repeat (first | apply Kd.R_alloc | apply Kd.R_drewN | apply Kd.R_drew)); exact HO_3.out, by repeat (first | (with_reducible first | exact HB.out | apply below_alloc | apply pw_below_drewN | apply below_drew1))⟩

end Go.Proofs.Ytfhfbicejddoiaa.PFnTablesMultiplied
