-- Written for this claim by a program of this session, out of the translation and given contracts.
import Derived.Test.YtfhfbicejddoiaaPFnTablesMultipliedx0
import Derived.Test.YtfhfbicejddoiaaPFnTablesMultipliedx1
import Derived.Test.YtfhfbicejddoiaaPFnTablesMultipliedx2
namespace Go.Proofs.Ytfhfbicejddoiaa.PFnTablesMultiplied
open Go.RowKit Go.Proofs.YtfhfbicejddoiaaW.PrintWords Go.Proofs.YtfhfbicejddoiaaW.PrintLast Go.Proofs.YtfhfbicejddoiaaW.PrintMore
attribute [local go_sem] max2_int min2_int max_two min_two max_three min_three max_four min_four   -- for this text's walks alone
set_option linter.unusedVariables false
set_option linter.unusedSimpArgs false

/-! ### spec_OverDivisors: function 95 -/
def spec_OverDivisors.j0 : Nat → List Int → List Int → Bool → Option (List Int × Bool)
 | 0, _, _, _ => none
 | k + 1, x0, x1, x21 => if x21 = true then (some (([] : List Int), false)) else ((spec_dvOver.f k x0 x1).bind fun t133 => ((spec_dvIs.f k t133).bind fun t136 => (if t136 = true then (some (t133, true)) else (some (([] : List Int), false)))))
def spec_OverDivisors.f (k : Nat) (l0 : List Int) (l1 : List Int) : Option (List Int × Bool) := (spec_dvIs.f k l0).bind fun t131 => (if t131 = true then ((spec_dvIs.f k l1).bind fun t132 => (if t132 = true then (spec_OverDivisors.j0 k l0 l1 ((l0.length : Int) != (l1.length : Int))) else (spec_OverDivisors.j0 k l0 l1 true))) else (spec_OverDivisors.j0 k l0 l1 true))
theorem spec_OverDivisors.mono_l : ∀ k, (∀ y0 y1 y2, LeO (spec_OverDivisors.j0 k y0 y1 y2) (spec_OverDivisors.j0 (k + 1) y0 y1 y2))
 | 0 => fun _ _ _ r h => by simp [spec_OverDivisors.j0] at h
 | k + 1 => by
  have ih0 := spec_OverDivisors.mono_l k
  ·
   intro y0 y1 y2
   unfold spec_OverDivisors.j0
   repeat' first
   | (with_reducible first | exact ih0 _ _ _ | exact spec_dvIs.mono _ _ | exact spec_dvOver.mono _ _ _ | exact LeO.refl _ | exact LeO.none _ | refine LeO.ite ?_ ?_ | refine LeO.bind ?_ (fun _ => ?_))
theorem spec_OverDivisors.mono : ∀ a0 a1 k, LeO (spec_OverDivisors.f k a0 a1) (spec_OverDivisors.f (k + 1) a0 a1) := by
 intro a0 a1 k
 have ih0 := spec_OverDivisors.mono_l k
 unfold spec_OverDivisors.f
 repeat' first
   | (with_reducible first | exact ih0 _ _ _ | exact spec_dvIs.mono _ _ | exact spec_dvOver.mono _ _ _ | exact LeO.refl _ | exact LeO.none _ | refine LeO.ite ?_ ?_ | refine LeO.bind ?_ (fun _ => ?_))
set_option maxHeartbeats 200000000 in
set_option maxRecDepth 100000 in
theorem spec_OverDivisors.calls (k : Nat) (A0 : Option Addr) (c0 : Nat) (l0 : List Int) (A1 : Option Addr) (c1 : Nat) (l1 : List Int) (r1 : List Int) (r2 : Bool) (w : World) (hr0 : Kd.C (Kd.int .i64) w A0 l0.length l0) (hc0 : l0.length ≤ c0) (hr1 : Kd.C (Kd.int .i64) w A1 l1.length l1) (hc1 : l1.length ≤ c1) (h : spec_OverDivisors.f k l0 l1 = some (r1, r2)) :
  Calls Try.prog 95 #[.slice A0 l0.length c0, .slice A1 l1.length c1] w fun e w' => ∃ v0_ : Value, e = .returned (.tuple #[v0_, .bool r2]) ∧ Kd.R (Kd.int .i64) 3 w' w.heap.size (fun _ => True) v0_ r1 ∧ Below w.heap.size w w' := by
 have HR0 := Aside0.mk hr0
 have HC0 := Aside0.mk hc0
 clear hr0 hc0
 have HR1 := Aside0.mk hr1
 have HC1 := Aside0.mk hc1
 clear hr1 hc1
 have HB := Aside0.mk (Below.refl w.heap.size w)
 have H : ((spec_dvIs.f k l0).bind fun t131 => (if t131 = true then ((spec_dvIs.f k l1).bind fun t132 => (if t132 = true then (spec_OverDivisors.j0 k l0 l1 ((l0.length : Int) != (l1.length : Int))) else (spec_OverDivisors.j0 k l0 l1 true))) else (spec_OverDivisors.j0 k l0 l1 true))) = some (r1, r2) := h
 clear h
 have HC3 := Aside0.mk H
 clear H
 go_enter Try.func95, Try.ntmps95
 go_upto_region 1 with (fail)
 go_cut [21] (fun v21 wc => ∃ (kq : Nat) (x21_2 : Bool), v21 = .bool x21_2 ∧ Aside0 (spec_OverDivisors.j0 kq l0 l1 x21_2 = some (r1, r2)) ∧ Aside0 (kq ≤ k) ∧ Aside0 (Below w.heap.size w wc))
 case first =>
  have H := HC3.out
  clear HC3
  replace H := Option.bind_eq_some_iff.mp H
  obtain ⟨t131, A40, H⟩ := H
  replace H : (if t131 = true then ((spec_dvIs.f k l1).bind fun t132 => (if t132 = true then (spec_OverDivisors.j0 k l0 l1 ((l0.length : Int) != (l1.length : Int))) else (spec_OverDivisors.j0 k l0 l1 true))) else (spec_OverDivisors.j0 k l0 l1 true)) = some (r1, r2) := H
  have A4 := Aside0.mk A40
  clear A40
  by_cases c5 : t131 = true
  ·
   subst c5
   have H1 : ((spec_dvIs.f k l1).bind fun t132 => (if t132 = true then (spec_OverDivisors.j0 k l0 l1 ((l0.length : Int) != (l1.length : Int))) else (spec_OverDivisors.j0 k l0 l1 true))) = some (r1, r2) := by rw [if_pos rfl] at H; exact H
   clear H
   have H := H1
   clear H1
   replace H := Option.bind_eq_some_iff.mp H
   obtain ⟨t132, A60, H⟩ := H
   replace H : (if t132 = true then (spec_OverDivisors.j0 k l0 l1 ((l0.length : Int) != (l1.length : Int))) else (spec_OverDivisors.j0 k l0 l1 true)) = some (r1, r2) := H
   have A6 := Aside0.mk A60
   clear A60
   by_cases c7 : t132 = true
   ·
    subst c7
    have H1 : (spec_OverDivisors.j0 k l0 l1 ((l0.length : Int) != (l1.length : Int))) = some (r1, r2) := by rw [if_pos rfl] at H; exact H
    clear H
    have H := H1
    clear H1
    have H' := Aside0.mk H
    clear H
    go_wp2_with (first | ((with_reducible refine gate_callee (f := 178) rfl ?_); refine goesL_ (some 8) rfl rfl Try.func178 (by kernel_rfl) rfl #[.slice A0 l0.length c0] rfl (by (try simp only [List.map_toArray, List.map_cons, List.map_nil]); first | done | rfl | (simp only [List.length_drop, List.length_take]; rfl)) ?_; (with_reducible refine (spec_dvIs.calls k _ _ l0 true _ ?side1 ?side2 A4.out).mono ?_); (case side1 => repeat (first | exact (Kd.C_below HR0.out HB.out) | (with_reducible refine Kd.C_alloc ?_ _) | (with_reducible refine Kd.C_drewN ?_ _) | (with_reducible refine Kd.C_drew ?_))); (case side2 => exact HC0.out); rintro e w' ⟨rfl, ⟨nd, rfl⟩⟩; refine ⟨_, rfl, ?_⟩) | (go_at_call 178; (with_reducible refine (spec_dvIs.calls k _ _ l1 true _ ?side1 ?side2 A6.out).mono ?_); (case side1 => repeat (first | exact (Kd.C_below HR1.out (by repeat (first | (with_reducible first | exact HB.out | apply below_alloc | apply pw_below_drewN | apply below_drew1)))) | (with_reducible refine Kd.C_alloc ?_ _) | (with_reducible refine Kd.C_drewN ?_ _) | (with_reducible refine Kd.C_drew ?_))); (case side2 => exact HC1.out); rintro e w' ⟨rfl, ⟨nd, rfl⟩⟩))
    go_meet
    case rel => exact ⟨_, (((l0.length : Int) != (l1.length : Int))), (by first | rfl | (simp; done) | (simp [*]; done)), H', ⟨by first | omega | exact Nat.le_refl _⟩, ⟨by repeat (first | (with_reducible first | exact HB.out | apply below_alloc | apply pw_below_drewN | apply below_drew1))⟩⟩
   ·
    replace c7 := Bool.eq_false_iff.mpr c7
    subst c7
    have H1 : (spec_OverDivisors.j0 k l0 l1 true) = some (r1, r2) := by rw [if_neg (show ¬ (false = true) by decide)] at H; exact H
    clear H
    have H := H1
    clear H1
    have H' := Aside0.mk H
    clear H
    go_wp2_with (first | ((with_reducible refine gate_callee (f := 178) rfl ?_); refine goesL_ (some 8) rfl rfl Try.func178 (by kernel_rfl) rfl #[.slice A0 l0.length c0] rfl (by (try simp only [List.map_toArray, List.map_cons, List.map_nil]); first | done | rfl | (simp only [List.length_drop, List.length_take]; rfl)) ?_; (with_reducible refine (spec_dvIs.calls k _ _ l0 true _ ?side1 ?side2 A4.out).mono ?_); (case side1 => repeat (first | exact (Kd.C_below HR0.out HB.out) | (with_reducible refine Kd.C_alloc ?_ _) | (with_reducible refine Kd.C_drewN ?_ _) | (with_reducible refine Kd.C_drew ?_))); (case side2 => exact HC0.out); rintro e w' ⟨rfl, ⟨nd, rfl⟩⟩; refine ⟨_, rfl, ?_⟩) | (go_at_call 178; (with_reducible refine (spec_dvIs.calls k _ _ l1 false _ ?side1 ?side2 A6.out).mono ?_); (case side1 => repeat (first | exact (Kd.C_below HR1.out (by repeat (first | (with_reducible first | exact HB.out | apply below_alloc | apply pw_below_drewN | apply below_drew1)))) | (with_reducible refine Kd.C_alloc ?_ _) | (with_reducible refine Kd.C_drewN ?_ _) | (with_reducible refine Kd.C_drew ?_))); (case side2 => exact HC1.out); rintro e w' ⟨rfl, ⟨nd, rfl⟩⟩))
    go_meet
    case rel => exact ⟨_, (true), (by first | rfl | (simp; done) | (simp [*]; done)), H', ⟨by first | omega | exact Nat.le_refl _⟩, ⟨by repeat (first | (with_reducible first | exact HB.out | apply below_alloc | apply pw_below_drewN | apply below_drew1))⟩⟩
  ·
   replace c5 := Bool.eq_false_iff.mpr c5
   subst c5
   have H1 : (spec_OverDivisors.j0 k l0 l1 true) = some (r1, r2) := by rw [if_neg (show ¬ (false = true) by decide)] at H; exact H
   clear H
   have H := H1
   clear H1
   have H' := Aside0.mk H
   clear H
   go_wp2_with (first | ((with_reducible refine gate_callee (f := 178) rfl ?_); refine goesL_ (some 8) rfl rfl Try.func178 (by kernel_rfl) rfl #[.slice A0 l0.length c0] rfl (by (try simp only [List.map_toArray, List.map_cons, List.map_nil]); first | done | rfl | (simp only [List.length_drop, List.length_take]; rfl)) ?_; (with_reducible refine (spec_dvIs.calls k _ _ l0 false _ ?side1 ?side2 A4.out).mono ?_); (case side1 => repeat (first | exact (Kd.C_below HR0.out HB.out) | (with_reducible refine Kd.C_alloc ?_ _) | (with_reducible refine Kd.C_drewN ?_ _) | (with_reducible refine Kd.C_drew ?_))); (case side2 => exact HC0.out); rintro e w' ⟨rfl, ⟨nd, rfl⟩⟩; refine ⟨_, rfl, ?_⟩))
   go_meet
   case rel => exact ⟨_, (true), (by first | rfl | (simp; done) | (simp [*]; done)), H', ⟨by first | omega | exact Nat.le_refl _⟩, ⟨by repeat (first | (with_reducible first | exact HB.out | apply below_alloc | apply pw_below_drewN | apply below_drew1))⟩⟩
 case rest =>
  clear HC3
  obtain ⟨kq, x21_2, rfl, HA, HJ2, HB⟩ := hcut
  cases kq with
  | zero => exact absurd HA.out (by simp [spec_OverDivisors.j0])
  | succ kj2 =>
   have H := HA.out
   clear HA
   simp only [spec_OverDivisors.j0] at H
   by_cases c8 : x21_2 = true
   ·
    subst c8
    have H1 : (some (([] : List Int), false)) = some (r1, r2) := by rw [if_pos rfl] at H; exact H
    clear H
    have H := H1
    clear H1
    simp only [Option.some.injEq, Prod.mk.injEq] at H
    obtain ⟨rfl, rfl⟩ := H
    go_wp2
    go_ret2
    exact ⟨_, by first | rfl | (simp [errW_none, errW_some] <;> rfl) | (simp [*, errW_none, errW_some] <;> rfl), by first | exact Kd.R_nil _ _ _ _ _ | exact Kd.N_nil _ _ _ _ _ | exact Kd.V_nil _ _ _ _ _ | exact Kd.Q_nil _ _ _ _ _ | exact Kd.S_nil _ _ _ _ _, by repeat (first | (with_reducible first | exact HB.out | apply below_alloc | apply pw_below_drewN | apply below_drew1))⟩
   ·
    replace c8 := Bool.eq_false_iff.mpr c8
    subst c8
    have H1 : ((spec_dvOver.f kj2 l0 l1).bind fun t133 => ((spec_dvIs.f kj2 t133).bind fun t136 => (if t136 = true then (some (t133, true)) else (some (([] : List Int), false))))) = some (r1, r2) := by rw [if_neg (show ¬ (false = true) by decide)] at H; exact H
    clear H
    have H := H1
    clear H1
    replace H := Option.bind_eq_some_iff.mp H
    obtain ⟨t133, A90, H⟩ := H
    replace H : ((spec_dvIs.f kj2 t133).bind fun t136 => (if t136 = true then (some (t133, true)) else (some (([] : List Int), false)))) = some (r1, r2) := H
    have A9 := Aside0.mk A90
    clear A90
    replace H := Option.bind_eq_some_iff.mp H
    obtain ⟨t136, A100, H⟩ := H
    replace H : (if t136 = true then (some (t133, true)) else (some (([] : List Int), false))) = some (r1, r2) := H
    have A10 := Aside0.mk A100
    clear A100
    by_cases c11 : t136 = true
    ·
     subst c11
     have H1 : (some (t133, true)) = some (r1, r2) := by rw [if_pos rfl] at H; exact H
     clear H
     have H := H1
     clear H1
     simp only [Option.some.injEq, Prod.mk.injEq] at H
     obtain ⟨rfl, rfl⟩ := H
     go_wp2_with (first | ((with_reducible refine gate_callee (f := 179) rfl ?_); refine goesL_ (some 24) rfl rfl Try.func179 (by kernel_rfl) rfl #[.slice A0 l0.length c0, .slice A1 l1.length c1] rfl (by (try simp only [List.map_toArray, List.map_cons, List.map_nil]); first | done | rfl | (simp only [List.length_drop, List.length_take]; rfl)) ?_; (with_reducible refine (spec_dvOver.calls kj2 _ _ l0 _ _ l1 t133 _ ?side1 ?side2 ?side3 ?side4 A9.out).mono ?_); (case side1 => repeat (first | exact (Kd.C_below HR0.out HB.out) | (with_reducible refine Kd.C_alloc ?_ _) | (with_reducible refine Kd.C_drewN ?_ _) | (with_reducible refine Kd.C_drew ?_))); (case side2 => exact HC0.out); (case side3 => repeat (first | exact (Kd.C_below HR1.out HB.out) | (with_reducible refine Kd.C_alloc ?_ _) | (with_reducible refine Kd.C_drewN ?_ _) | (with_reducible refine Kd.C_drew ?_))); (case side4 => exact HC1.out); rintro e w12 ⟨v134, rfl, ho0, hb⟩; refine ⟨_, rfl, ?_⟩; have n0_ := Aside0.mk (Kd.R_lower ho0 (below_size (by repeat (first | (with_reducible first | exact HB.out | apply below_alloc | apply pw_below_drewN | apply below_drew1))))); have n1_ := Aside0.mk (below_step (by repeat (first | (with_reducible first | exact HB.out | apply below_alloc | apply pw_below_drewN | apply below_drew1))) hb); clear HB; have HO135 := n0_; have HB := n1_; clear n0_ n1_; (try clear hb); (try clear ho0); obtain ⟨Ao13, co13, eo13⟩ := Kd.R_slice HO135.out; subst eo13) | ((with_reducible refine gate_callee (f := 178) rfl ?_); refine goesL_ (some 26) rfl rfl Try.func178 (by kernel_rfl) rfl #[.slice Ao13 t133.length co13] rfl (by (try simp only [List.map_toArray, List.map_cons, List.map_nil]); first | done | rfl | (simp only [List.length_drop, List.length_take]; rfl)) ?_; (with_reducible refine (spec_dvIs.calls kj2 _ _ t133 true _ ?side1 ?side2 A10.out).mono ?_); (case side1 => repeat (first | exact (Kd.R_reads' HO135.out).2.2 | (with_reducible refine Kd.C_alloc ?_ _) | (with_reducible refine Kd.C_drewN ?_ _) | (with_reducible refine Kd.C_drew ?_))); (case side2 => exact (Kd.R_reads' HO135.out).2.1); rintro e w' ⟨rfl, ⟨nd, rfl⟩⟩; refine ⟨_, rfl, ?_⟩))
     go_ret2
     exact ⟨_, by first | rfl | (simp [errW_none, errW_some] <;> rfl) | (simp [*, errW_none, errW_some] <;> rfl), by (with_reducible repeat (first | apply Kd.R_alloc | apply Kd.R_drewN | apply Kd.R_drew)); exact HO135.out, by repeat (first | (with_reducible first | exact HB.out | apply below_alloc | apply pw_below_drewN | apply below_drew1))⟩
    ·
     replace c11 := Bool.eq_false_iff.mpr c11
     subst c11
     have H1 : (some (([] : List Int), false)) = some (r1, r2) := by rw [if_neg (show ¬ (false = true) by decide)] at H; exact H
     clear H
     have H := H1
     clear H1
     simp only [Option.some.injEq, Prod.mk.injEq] at H
     obtain ⟨rfl, rfl⟩ := H
     go_wp2_with (first | ((with_reducible refine gate_callee (f := 179) rfl ?_); refine goesL_ (some 24) rfl rfl Try.func179 (by kernel_rfl) rfl #[.slice A0 l0.length c0, .slice A1 l1.length c1] rfl (by (try simp only [List.map_toArray, List.map_cons, List.map_nil]); first | done | rfl | (simp only [List.length_drop, List.length_take]; rfl)) ?_; (with_reducible refine (spec_dvOver.calls kj2 _ _ l0 _ _ l1 t133 _ ?side1 ?side2 ?side3 ?side4 A9.out).mono ?_); (case side1 => repeat (first | exact (Kd.C_below HR0.out HB.out) | (with_reducible refine Kd.C_alloc ?_ _) | (with_reducible refine Kd.C_drewN ?_ _) | (with_reducible refine Kd.C_drew ?_))); (case side2 => exact HC0.out); (case side3 => repeat (first | exact (Kd.C_below HR1.out HB.out) | (with_reducible refine Kd.C_alloc ?_ _) | (with_reducible refine Kd.C_drewN ?_ _) | (with_reducible refine Kd.C_drew ?_))); (case side4 => exact HC1.out); rintro e w14 ⟨v134, rfl, ho0, hb⟩; refine ⟨_, rfl, ?_⟩; have n0_ := Aside0.mk (Kd.R_lower ho0 (below_size (by repeat (first | (with_reducible first | exact HB.out | apply below_alloc | apply pw_below_drewN | apply below_drew1))))); have n1_ := Aside0.mk (below_step (by repeat (first | (with_reducible first | exact HB.out | apply below_alloc | apply pw_below_drewN | apply below_drew1))) hb); clear HB; have HO135 := n0_; have HB := n1_; clear n0_ n1_; (try clear hb); (try clear ho0); obtain ⟨Ao15, co15, eo15⟩ := Kd.R_slice HO135.out; subst eo15) | ((with_reducible refine gate_callee (f := 178) rfl ?_); refine goesL_ (some 26) rfl rfl Try.func178 (by kernel_rfl) rfl #[.slice Ao15 t133.length co15] rfl (by (try simp only [List.map_toArray, List.map_cons, List.map_nil]); first | done | rfl | (simp only [List.length_drop, List.length_take]; rfl)) ?_; (with_reducible refine (spec_dvIs.calls kj2 _ _ t133 false _ ?side1 ?side2 A10.out).mono ?_); (case side1 => repeat (first | exact (Kd.R_reads' HO135.out).2.2 | (with_reducible refine Kd.C_alloc ?_ _) | (with_reducible refine Kd.C_drewN ?_ _) | (with_reducible refine Kd.C_drew ?_))); (case side2 => exact (Kd.R_reads' HO135.out).2.1); rintro e w' ⟨rfl, ⟨nd, rfl⟩⟩; refine ⟨_, rfl, ?_⟩))
     go_ret2
     exact ⟨_, by first | rfl | (simp [errW_none, errW_some] <;> rfl) | (simp [*, errW_none, errW_some] <;> rfl), by first | exact Kd.R_nil _ _ _ _ _ | exact Kd.N_nil _ _ _ _ _ | exact Kd.V_nil _ _ _ _ _ | exact Kd.Q_nil _ _ _ _ _ | exact Kd.S_nil _ _ _ _ _, by repeat (first | (with_reducible first | exact HB.out | apply below_alloc | apply pw_below_drewN | apply below_drew1))⟩

/-! ### impl_gcd: function 180 -/
def impl_gcd.l0 : Nat → Int → Int → Option (Int)
 | 0, _, _ => none
 | k + 1, x0, x1 => if x1 > 0 then (if x1 = 0 then (none) else (impl_gcd.l0 k x1 (Int.tmod x0 x1))) else (some x0)
def impl_gcd.f (k : Nat) (a0 : Int) (a1 : Int) : Option (Int) := impl_gcd.l0 k a0 a1
theorem impl_gcd.mono_l : ∀ k, (∀ y0 y1, LeO (impl_gcd.l0 k y0 y1) (impl_gcd.l0 (k + 1) y0 y1))
 | 0 => fun _ _ r h => by simp [impl_gcd.l0] at h
 | k + 1 => by
  have ih0 := impl_gcd.mono_l k
  ·
   intro y0 y1
   unfold impl_gcd.l0
   repeat' first
   | (with_reducible first | exact ih0 _ _ | exact LeO.refl _ | exact LeO.none _ | refine LeO.ite ?_ ?_ | refine LeO.bind ?_ (fun _ => ?_))
theorem impl_gcd.mono : ∀ a0 a1 k, LeO (impl_gcd.f k a0 a1) (impl_gcd.f (k + 1) a0 a1) := by
 intro a0 a1 k
 have ih0 := impl_gcd.mono_l k
 unfold impl_gcd.f
 repeat' first
   | (with_reducible first | exact ih0 _ _ | exact LeO.refl _ | exact LeO.none _ | refine LeO.ite ?_ ?_ | refine LeO.bind ?_ (fun _ => ?_))
set_option maxHeartbeats 200000000 in
set_option maxRecDepth 100000 in
theorem impl_gcd.calls (k : Nat) (a0 : Int) (a1 : Int) (r : Int) (w : World) (h : impl_gcd.f k a0 a1 = some r) :
  Calls Try.prog 180 #[.int .i64 a0, .int .i64 a1] w fun e w' => e = .returned (.int .i64 r) ∧ Drawn0 w w' := by
 have H : (impl_gcd.l0 k a0 a1) = some r := h
 clear h
 have H' := Aside0.mk H
 clear H
 go_enter Try.func180, Try.ntmps180
 go_wp2
 repeat (go_quiet (fail); try go_wp2)
 go_loopg [0, 1] k (fun kq v0 v1 w' => ∃ (x0_1 : Int) (x1_1 : Int), v0 = .int .i64 x0_1 ∧ v1 = .int .i64 x1_1 ∧ Aside0 (impl_gcd.l0 kq x0_1 x1_1 = some r) ∧ Aside0 (kq ≤ k) ∧ Drawn0 w w')
 case atStart => exact ⟨(a0), (a1), (by first | rfl | (simp; done) | (simp [*]; done)), (by first | rfl | (simp; done) | (simp [*]; done)), H', ⟨Nat.le_refl _⟩, by repeat (first | exact Drawn0.refl _ | apply Drawn0.step)⟩
 case round =>
  clear H'
  obtain ⟨x0_1, x1_1, rfl, rfl, HA, HK1, ⟨m1, rfl⟩⟩ := hrel
  cases gk with
  | zero => exact absurd HA.out (by simp [impl_gcd.l0])
  | succ k1 =>
   have H := HA.out
   clear HA
   simp only [impl_gcd.l0] at H
   by_cases c3 : x1_1 > 0
   ·
    rw [if_pos c3] at H
    have c3b0 : decide (0 < x1_1) = true := decide_eq_true c3
    clear c3
    by_cases c4 : x1_1 = 0
    ·
     rw [if_pos c4] at H
     exact absurd H (by simp)
    ·
     rw [if_neg c4] at H
     have c4b0 : (x1_1 == 0) = false := beq_eq_false_iff_ne.mpr c4
     have c4b1 : (x1_1 != 0) = true := bne_iff_ne.mpr c4
     have H' := Aside0.mk H
     clear H
     go_wp2
     repeat (go_quiet (fail); try go_wp2)
     go_roundg k1
     case measure => have := HK1.out; omega
     case rel => exact ⟨(x1_1), (Int.tmod x0_1 x1_1), (by first | rfl | (simp; done) | (simp [*]; done)), (by first | rfl | (simp; done) | (simp [*]; done)), H', ⟨by have := HK1.out; omega⟩, by repeat (first | exact Drawn0.refl _ | apply Drawn0.step)⟩
   ·
    rw [if_neg c3] at H
    have c3b0 : decide (0 < x1_1) = false := decide_eq_false c3
    clear c3
    obtain rfl := Option.some.inj H
    go_wp2
    repeat (go_quiet (fail); try go_wp2)
    go_ret
    exact ⟨by first | rfl | (simp; done) | (simp [*]; done), by repeat (first | exact Drawn0.refl _ | apply Drawn0.step)⟩

/-! ### impl_IsSpread: function 96 (its contract is proved by hand) -/
mutual
def impl_IsSpread.l0 : Nat → List Int → Int → Option (Bool × Bool)
  | 0, _, _ => none
  | k + 1, l, x4 => if x4 ≤ 300 then (if x4 ≤ (l.length : Int) then (impl_IsSpread.l1 k l x4 1) else (some (true, true))) else (none)
def impl_IsSpread.l1 : Nat → List Int → Int → Int → Option (Bool × Bool)
  | 0, _, _, _ => none
  | k + 1, l, x4, x5 => if 1 ≤ x4 ∧ x4 ≤ 300 ∧ 1 ≤ x5 ∧ x5 ≤ 300 ∧ l.length ≤ 200 then (if x4 * x5 ≤ (l.length : Int) then ((impl_gcd.f k x4 x5).bind fun t => (if t = 1 then (if rd l (x4 * x5 - 1) = wrap64 (rd l (x4 - 1) * rd l (x5 - 1)) then (impl_IsSpread.l1 k l x4 (x5 + 1)) else (some (false, true))) else (impl_IsSpread.l1 k l x4 (x5 + 1)))) else (impl_IsSpread.l0 k l (x4 + 1))) else (none)
end
def impl_IsSpread.f (k : Nat) (l0 : List Int) : Option (Bool × Bool) := (impl_isTable.f k l0).bind fun t => (if t = true then (if 0 < l0.length then (if rd l0 0 = 1 then (impl_IsSpread.l0 k l0 1) else (some (false, true))) else (none)) else (some (false, false)))
theorem impl_IsSpread.mono_l : ∀ k, (∀ y0 y1, LeO (impl_IsSpread.l0 k y0 y1) (impl_IsSpread.l0 (k + 1) y0 y1)) ∧ (∀ y0 y1 y2, LeO (impl_IsSpread.l1 k y0 y1 y2) (impl_IsSpread.l1 (k + 1) y0 y1 y2))
  | 0 => ⟨fun _ _ r h => by simp [impl_IsSpread.l0] at h, fun _ _ _ r h => by simp [impl_IsSpread.l1] at h⟩
  | k + 1 => by
    obtain ⟨ih0, ih1⟩ := impl_IsSpread.mono_l k
    refine ⟨?_, ?_⟩
    · intro y0 y1
      unfold impl_IsSpread.l0
      exact LeO.ite (LeO.ite (ih1 _ _ _) (LeO.refl _)) (LeO.refl _)
    · intro y0 y1 y2
      unfold impl_IsSpread.l1
      exact LeO.ite (LeO.ite (LeO.bind (impl_gcd.mono _ _ _) (fun _ => LeO.ite (LeO.ite (ih1 _ _ _) (LeO.refl _)) (ih1 _ _ _))) (ih0 _ _)) (LeO.refl _)
theorem impl_IsSpread.mono : ∀ a0 k, LeO (impl_IsSpread.f k a0) (impl_IsSpread.f (k + 1) a0) := by
  intro a0 k
  unfold impl_IsSpread.f
  exact LeO.bind (impl_isTable.mono _ _) (fun _ => LeO.ite (LeO.ite (LeO.ite ((impl_IsSpread.mono_l k).1 _ _) (LeO.refl _)) (LeO.refl _)) (LeO.refl _))
set_option maxHeartbeats 4000000 in
set_option maxRecDepth 100000 in
theorem impl_IsSpread.calls (k : Nat) (A0 : Option Addr) (c0 : Nat) (l0 : List Int) (r1 : Bool) (r2 : Bool) (w : World) (hr0 : Kd.C (Kd.int .i64) w A0 l0.length l0) (hc0 : l0.length ≤ c0) (h : impl_IsSpread.f k l0 = some (r1, r2)) :
    Calls Try.prog 96 #[.slice A0 l0.length c0] w fun e w' => e = .returned (.tuple #[.bool r1, .bool r2]) ∧ Drawn0 w w' := by
  have HR0 := Aside0.mk hr0
  have HC0 := Aside0.mk hc0
  clear hr0 hc0
  unfold impl_IsSpread.f at h
  obtain ⟨t, h1, h⟩ := Option.bind_eq_some_iff.mp h
  have A1 := Aside0.mk h1
  clear h1
  cases t with
  | false =>
    rw [if_neg (by simp)] at h
    injection h with h
    injection h with e1 e2
    subst e1 e2
    go_enter Try.func96, Try.ntmps96
    go_wp2_with (go_at_call 175; refine (impl_isTable.calls k _ _ l0 false _ HR0.out HC0.out A1.out).mono ?_; rintro e w' ⟨rfl, ⟨nd, rfl⟩⟩)
    go_ret2
    exact ⟨rfl, by repeat (first | exact Drawn0.refl _ | apply Drawn0.step)⟩
  | true =>
    rw [if_pos rfl] at h
    by_cases hpos : 0 < l0.length
    · rw [if_pos hpos] at h
      obtain ⟨ad, ea, hx0⟩ := Kd.at_int HR0.out 0 (by omega) (by omega)
      cases ea
      have hp1 : (0 < l0.length) = True := eq_true hpos
      (try rw [show ((0 : Int)).toNat = 0 from rfl] at hx0)
      (try rw [Addr.add_zero'] at hx0)
      by_cases hone : rd l0 0 = 1
      · rw [if_pos hone] at h
        have c1 : (rd l0 0 == 1) = true := beq_iff_eq.2 hone
        have c2 : (rd l0 0 != 1) = false := bne_eq_false_iff_eq.2 hone
        clear hone
        have H' := Aside0.mk h
        clear h
        go_enter Try.func96, Try.ntmps96
        go_wp2_with (go_at_call 175; refine (impl_isTable.calls k _ _ l0 true _ HR0.out HC0.out A1.out).mono ?_; rintro e w' ⟨rfl, ⟨nd, rfl⟩⟩)
        go_loopg [4] k (fun kq v4 w' => ∃ (x4 : Int), v4 = .int .i64 x4 ∧ 1 ≤ x4 ∧ Aside0 (impl_IsSpread.l0 kq l0 x4 = some (r1, r2)) ∧ Aside0 (kq ≤ k) ∧ Drawn0 w w')
        case atStart => exact ⟨1, rfl, by omega, H', ⟨Nat.le_refl _⟩, by repeat (first | exact Drawn0.refl _ | apply Drawn0.step)⟩
        case round =>
          clear H' hx0 c1 c2
          obtain ⟨x4, rfl, hx4, HA, HK1, ⟨m1, rfl⟩⟩ := hrel
          cases gk with
          | zero => exact absurd HA.out (by simp [impl_IsSpread.l0])
          | succ k1 =>
            have H := HA.out
            clear HA
            simp only [impl_IsSpread.l0] at H
            by_cases c5 : x4 ≤ 300
            · rw [if_pos c5] at H
              by_cases c6 : x4 ≤ (l0.length : Int)
              · rw [if_pos c6] at H
                have c6b0 : decide (x4 ≤ (l0.length : Int)) = true := decide_eq_true c6
                clear c6
                have H' := Aside0.mk H
                clear H
                go_wp2
                go_loopg [5] k1 (fun kq v5 w' => ∃ (x5 : Int), v5 = .int .i64 x5 ∧ Aside0 (impl_IsSpread.l1 kq l0 x4 x5 = some (r1, r2)) ∧ Aside0 (kq ≤ k1) ∧ Drawn0 w w')
                case atStart => exact ⟨1, rfl, H', ⟨Nat.le_refl _⟩, by repeat (first | exact Drawn0.refl _ | apply Drawn0.step)⟩
                case round =>
                  clear H' c6b0
                  obtain ⟨x5, rfl, HA, HK2, ⟨m2, rfl⟩⟩ := hrel
                  cases gk with
                  | zero => exact absurd HA.out (by simp [impl_IsSpread.l1])
                  | succ k2 =>
                    have H := HA.out
                    clear HA
                    simp only [impl_IsSpread.l1] at H
                    by_cases c7 : 1 ≤ x4 ∧ x4 ≤ 300 ∧ 1 ≤ x5 ∧ x5 ≤ 300 ∧ l0.length ≤ 200
                    · rw [if_pos c7] at H
                      obtain ⟨b1, b2, b3, b4, b5⟩ := c7
                      have b6 : x4 * 1 ≤ x4 * x5 := Int.mul_le_mul_of_nonneg_left b3 (by omega)
                      have b7 : x4 * x5 ≤ 300 * 300 := Int.mul_le_mul b2 b4 (by omega) (by omega)
                      have b8 : 1 * x5 ≤ x4 * x5 := Int.mul_le_mul_of_nonneg_right b1 (by omega)
                      by_cases c8 : x4 * x5 ≤ (l0.length : Int)
                      · rw [if_pos c8] at H
                        have c8b0 : decide (x4 * x5 ≤ (l0.length : Int)) = true := decide_eq_true c8
                        obtain ⟨g, A20, H⟩ := Option.bind_eq_some_iff.mp H
                        have A2 := Aside0.mk A20
                        clear A20
                        obtain ⟨i1, hi1⟩ : ∃ i : Int, i = x4 * x5 - 1 := ⟨_, rfl⟩
                        obtain ⟨i2, hi2⟩ : ∃ i : Int, i = x4 - 1 := ⟨_, rfl⟩
                        obtain ⟨i3, hi3⟩ : ∃ i : Int, i = x5 - 1 := ⟨_, rfl⟩
                        rw [← hi1, ← hi2, ← hi3] at H
                        obtain ⟨ad1, e1, hx1⟩ := Kd.at_int HR0.out i1 (by omega) (by omega)
                        obtain rfl : ad = ad1 := by injection e1
                        obtain ⟨ad2, e2, hx2⟩ := Kd.at_int HR0.out i2 (by omega) (by omega)
                        obtain rfl : ad = ad2 := by injection e2
                        obtain ⟨ad3, e3, hx3⟩ := Kd.at_int HR0.out i3 (by omega) (by omega)
                        obtain rfl : ad = ad3 := by injection e3
                        clear e1 e2 e3
                        by_cases c9 : g = 1
                        · rw [if_pos c9] at H
                          have c9b : (g == 1) = true := beq_iff_eq.2 c9
                          clear c9
                          have p1 := eq_true (show 0 ≤ i1 by omega)
                          have p2 := eq_true (show i1 < (l0.length : Int) by omega)
                          have p3 := eq_true (show 0 ≤ i2 by omega)
                          have p4 := eq_true (show i2 < (l0.length : Int) by omega)
                          have p5 := eq_true (show 0 ≤ i3 by omega)
                          have p6 := eq_true (show i3 < (l0.length : Int) by omega)
                          have q1 : IntKind.i64.wrap (x4 * x5) = x4 * x5 := IntWalk.i64_in _ (by omega)
                          have q2 : IntKind.i64.wrap (x4 * x5 - 1) = i1 := by rw [hi1]; exact IntWalk.i64_in _ (by omega)
                          have q3 : IntKind.i64.wrap (x4 - 1) = i2 := by rw [hi2]; exact IntWalk.i64_in _ (by omega)
                          have q4 : IntKind.i64.wrap (x5 - 1) = i3 := by rw [hi3]; exact IntWalk.i64_in _ (by omega)
                          clear hi1 hi2 hi3
                          by_cases c10 : rd l0 i1 = wrap64 (rd l0 i2 * rd l0 i3)
                          · rw [if_pos c10] at H
                            have c10b : (rd l0 i1 != wrap64 (rd l0 i2 * rd l0 i3)) = false := bne_eq_false_iff_eq.2 c10
                            have c10c : (rd l0 i1 != IntKind.i64.wrap (rd l0 i2 * rd l0 i3)) = false := by rw [i64_w]; exact c10b
                            clear c10
                            have H' := Aside0.mk H
                            clear H
                            go_wp2
                            go_quiet ((go_at_call 180; refine (impl_gcd.calls k2 x4 x5 g _ A2.out).mono ?_; rintro e w' ⟨rfl, ⟨nd, rfl⟩⟩; first | exact ⟨rfl, _, World.drewN_drewN _ _ _⟩ | exact ⟨rfl, _, Eq.trans (World.drewN_drewN _ _ _) (congrArg (World.drewN _) (Nat.add_assoc _ _ _))⟩))
                            clear q1 q2 q3 q4 p1 p2 p3 p4 p5 p6
                            go_wp2
                            go_roundg k2
                            case measure => have := HK1.out; have := HK2.out; omega
                            case rel => exact ⟨x5 + 1, rfl, H', ⟨by have := HK2.out; omega⟩, by repeat (first | exact Drawn0.refl _ | apply Drawn0.step)⟩
                          · rw [if_neg c10] at H
                            have c10b : (rd l0 i1 != wrap64 (rd l0 i2 * rd l0 i3)) = true := bne_iff_ne.2 c10
                            have c10c : (rd l0 i1 != IntKind.i64.wrap (rd l0 i2 * rd l0 i3)) = true := by rw [i64_w]; exact c10b
                            clear c10
                            injection H with H
                            injection H with e1 e2
                            subst e1 e2
                            go_wp2
                            go_quiet ((go_at_call 180; refine (impl_gcd.calls k2 x4 x5 g _ A2.out).mono ?_; rintro e w' ⟨rfl, ⟨nd, rfl⟩⟩; first | exact ⟨rfl, _, World.drewN_drewN _ _ _⟩ | exact ⟨rfl, _, Eq.trans (World.drewN_drewN _ _ _) (congrArg (World.drewN _) (Nat.add_assoc _ _ _))⟩))
                            clear q1 q2 q3 q4 p1 p2 p3 p4 p5 p6
                            go_wp2
                            go_ret2
                            exact ⟨rfl, by repeat (first | exact Drawn0.refl _ | apply Drawn0.step)⟩
                        · rw [if_neg c9] at H
                          have c9b : (g == 1) = false := beq_eq_false_iff_ne.2 c9
                          clear c9 hi1 hi2 hi3
                          have H' := Aside0.mk H
                          clear H
                          go_wp2
                          go_quiet ((go_at_call 180; refine (impl_gcd.calls k2 x4 x5 g _ A2.out).mono ?_; rintro e w' ⟨rfl, ⟨nd, rfl⟩⟩; first | exact ⟨rfl, _, World.drewN_drewN _ _ _⟩ | exact ⟨rfl, _, Eq.trans (World.drewN_drewN _ _ _) (congrArg (World.drewN _) (Nat.add_assoc _ _ _))⟩))
                          go_wp2
                          go_roundg k2
                          case measure => have := HK1.out; have := HK2.out; omega
                          case rel => exact ⟨x5 + 1, rfl, H', ⟨by have := HK2.out; omega⟩, by repeat (first | exact Drawn0.refl _ | apply Drawn0.step)⟩
                      · rw [if_neg c8] at H
                        have c8b0 : decide (x4 * x5 ≤ (l0.length : Int)) = false := decide_eq_false c8
                        clear c8
                        have H' := Aside0.mk H
                        clear H
                        go_wp2
                        go_roundg k2
                        case measure => have := HK1.out; have := HK2.out; omega
                        case rel => exact ⟨x4 + 1, rfl, by omega, H', ⟨by have := HK1.out; have := HK2.out; omega⟩, by repeat (first | exact Drawn0.refl _ | apply Drawn0.step)⟩
                    · rw [if_neg c7] at H
                      cases H
              · rw [if_neg c6] at H
                have c6b0 : decide (x4 ≤ (l0.length : Int)) = false := decide_eq_false c6
                clear c6
                injection H with H
                injection H with e1 e2
                subst e1 e2
                go_wp2
                go_ret2
                exact ⟨rfl, by repeat (first | exact Drawn0.refl _ | apply Drawn0.step)⟩
            · rw [if_neg c5] at H
              cases H
      · rw [if_neg hone] at h
        have c1 : (rd l0 0 == 1) = false := beq_eq_false_iff_ne.2 hone
        have c2 : (rd l0 0 != 1) = true := bne_iff_ne.2 hone
        clear hone
        injection h with h
        injection h with e1 e2
        subst e1 e2
        go_enter Try.func96, Try.ntmps96
        go_wp2_with (go_at_call 175; refine (impl_isTable.calls k _ _ l0 true _ HR0.out HC0.out A1.out).mono ?_; rintro e w' ⟨rfl, ⟨nd, rfl⟩⟩)
        go_ret2
        exact ⟨rfl, by repeat (first | exact Drawn0.refl _ | apply Drawn0.step)⟩
    · rw [if_neg hpos] at h
      cases h

/-! ### spec_siCommon: function 181 -/
def spec_siCommon.l0 : Nat → Int → Int → Option (Int)
 | 0, _, _ => none
 | k + 1, x0, x1 => if x1 > 0 then (if x1 = 0 then (none) else (spec_siCommon.l0 k x1 (Int.tmod x0 x1))) else (some x0)
def spec_siCommon.f (k : Nat) (a0 : Int) (a1 : Int) : Option (Int) := spec_siCommon.l0 k a0 a1
theorem spec_siCommon.mono_l : ∀ k, (∀ y0 y1, LeO (spec_siCommon.l0 k y0 y1) (spec_siCommon.l0 (k + 1) y0 y1))
 | 0 => fun _ _ r h => by simp [spec_siCommon.l0] at h
 | k + 1 => by
  have ih0 := spec_siCommon.mono_l k
  ·
   intro y0 y1
   unfold spec_siCommon.l0
   repeat' first
   | (with_reducible first | exact ih0 _ _ | exact LeO.refl _ | exact LeO.none _ | refine LeO.ite ?_ ?_ | refine LeO.bind ?_ (fun _ => ?_))
theorem spec_siCommon.mono : ∀ a0 a1 k, LeO (spec_siCommon.f k a0 a1) (spec_siCommon.f (k + 1) a0 a1) := by
 intro a0 a1 k
 have ih0 := spec_siCommon.mono_l k
 unfold spec_siCommon.f
 repeat' first
   | (with_reducible first | exact ih0 _ _ | exact LeO.refl _ | exact LeO.none _ | refine LeO.ite ?_ ?_ | refine LeO.bind ?_ (fun _ => ?_))
set_option maxHeartbeats 200000000 in
set_option maxRecDepth 100000 in
theorem spec_siCommon.calls (k : Nat) (a0 : Int) (a1 : Int) (r : Int) (w : World) (h : spec_siCommon.f k a0 a1 = some r) :
  Calls Try.prog 181 #[.int .i64 a0, .int .i64 a1] w fun e w' => e = .returned (.int .i64 r) ∧ Drawn0 w w' := by
 have H : (spec_siCommon.l0 k a0 a1) = some r := h
 clear h
 have H' := Aside0.mk H
 clear H
 go_enter Try.func181, Try.ntmps181
 go_wp2
 repeat (go_quiet (fail); try go_wp2)
 go_loopg [0, 1] k (fun kq v0 v1 w' => ∃ (x0_1 : Int) (x1_1 : Int), v0 = .int .i64 x0_1 ∧ v1 = .int .i64 x1_1 ∧ Aside0 (spec_siCommon.l0 kq x0_1 x1_1 = some r) ∧ Aside0 (kq ≤ k) ∧ Drawn0 w w')
 case atStart => exact ⟨(a0), (a1), (by first | rfl | (simp; done) | (simp [*]; done)), (by first | rfl | (simp; done) | (simp [*]; done)), H', ⟨Nat.le_refl _⟩, by repeat (first | exact Drawn0.refl _ | apply Drawn0.step)⟩
 case round =>
  clear H'
  obtain ⟨x0_1, x1_1, rfl, rfl, HA, HK1, ⟨m1, rfl⟩⟩ := hrel
  cases gk with
  | zero => exact absurd HA.out (by simp [spec_siCommon.l0])
  | succ k1 =>
   have H := HA.out
   clear HA
   simp only [spec_siCommon.l0] at H
   by_cases c3 : x1_1 > 0
   ·
    rw [if_pos c3] at H
    have c3b0 : decide (0 < x1_1) = true := decide_eq_true c3
    clear c3
    by_cases c4 : x1_1 = 0
    ·
     rw [if_pos c4] at H
     exact absurd H (by simp)
    ·
     rw [if_neg c4] at H
     have c4b0 : (x1_1 == 0) = false := beq_eq_false_iff_ne.mpr c4
     have c4b1 : (x1_1 != 0) = true := bne_iff_ne.mpr c4
     have H' := Aside0.mk H
     clear H
     go_wp2
     repeat (go_quiet (fail); try go_wp2)
     go_roundg k1
     case measure => have := HK1.out; omega
     case rel => exact ⟨(x1_1), (Int.tmod x0_1 x1_1), (by first | rfl | (simp; done) | (simp [*]; done)), (by first | rfl | (simp; done) | (simp [*]; done)), H', ⟨by have := HK1.out; omega⟩, by repeat (first | exact Drawn0.refl _ | apply Drawn0.step)⟩
   ·
    rw [if_neg c3] at H
    have c3b0 : decide (0 < x1_1) = false := decide_eq_false c3
    clear c3
    obtain rfl := Option.some.inj H
    go_wp2
    repeat (go_quiet (fail); try go_wp2)
    go_ret
    exact ⟨by first | rfl | (simp; done) | (simp [*]; done), by repeat (first | exact Drawn0.refl _ | apply Drawn0.step)⟩

/-! ### spec_IsSpread: function 97 (its contract is proved by hand) -/
mutual
def spec_IsSpread.l0 : Nat → List Int → Int → Option (Bool × Bool)
  | 0, _, _ => none
  | k + 1, l, x4 => if x4 ≤ 300 then (if x4 ≤ (l.length : Int) then (spec_IsSpread.l1 k l x4 2) else (some (true, true))) else (none)
def spec_IsSpread.l1 : Nat → List Int → Int → Int → Option (Bool × Bool)
  | 0, _, _, _ => none
  | k + 1, l, x4, x5 => if 2 ≤ x4 ∧ x4 ≤ 300 ∧ 2 ≤ x5 ∧ x5 ≤ 300 ∧ l.length ≤ 200 then (if x4 * x5 ≤ (l.length : Int) then ((spec_siCommon.f k x4 x5).bind fun t => (if t = 1 then (if rd l (x4 * x5 - 1) = wrap64 (rd l (x4 - 1) * rd l (x5 - 1)) then (spec_IsSpread.l1 k l x4 (x5 + 1)) else (some (false, true))) else (spec_IsSpread.l1 k l x4 (x5 + 1)))) else (spec_IsSpread.l0 k l (x4 + 1))) else (none)
end
def spec_IsSpread.f (k : Nat) (l0 : List Int) : Option (Bool × Bool) := (spec_dvIs.f k l0).bind fun t => (if t = true then (if 0 < l0.length then (if rd l0 0 = 1 then (spec_IsSpread.l0 k l0 2) else (some (false, true))) else (none)) else (some (false, false)))
theorem spec_IsSpread.mono_l : ∀ k, (∀ y0 y1, LeO (spec_IsSpread.l0 k y0 y1) (spec_IsSpread.l0 (k + 1) y0 y1)) ∧ (∀ y0 y1 y2, LeO (spec_IsSpread.l1 k y0 y1 y2) (spec_IsSpread.l1 (k + 1) y0 y1 y2))
  | 0 => ⟨fun _ _ r h => by simp [spec_IsSpread.l0] at h, fun _ _ _ r h => by simp [spec_IsSpread.l1] at h⟩
  | k + 1 => by
    obtain ⟨ih0, ih1⟩ := spec_IsSpread.mono_l k
    refine ⟨?_, ?_⟩
    · intro y0 y1
      unfold spec_IsSpread.l0
      exact LeO.ite (LeO.ite (ih1 _ _ _) (LeO.refl _)) (LeO.refl _)
    · intro y0 y1 y2
      unfold spec_IsSpread.l1
      exact LeO.ite (LeO.ite (LeO.bind (spec_siCommon.mono _ _ _) (fun _ => LeO.ite (LeO.ite (ih1 _ _ _) (LeO.refl _)) (ih1 _ _ _))) (ih0 _ _)) (LeO.refl _)
theorem spec_IsSpread.mono : ∀ a0 k, LeO (spec_IsSpread.f k a0) (spec_IsSpread.f (k + 1) a0) := by
  intro a0 k
  unfold spec_IsSpread.f
  exact LeO.bind (spec_dvIs.mono _ _) (fun _ => LeO.ite (LeO.ite (LeO.ite ((spec_IsSpread.mono_l k).1 _ _) (LeO.refl _)) (LeO.refl _)) (LeO.refl _))
set_option maxHeartbeats 4000000 in
set_option maxRecDepth 100000 in
theorem spec_IsSpread.calls (k : Nat) (A0 : Option Addr) (c0 : Nat) (l0 : List Int) (r1 : Bool) (r2 : Bool) (w : World) (hr0 : Kd.C (Kd.int .i64) w A0 l0.length l0) (hc0 : l0.length ≤ c0) (h : spec_IsSpread.f k l0 = some (r1, r2)) :
    Calls Try.prog 97 #[.slice A0 l0.length c0] w fun e w' => e = .returned (.tuple #[.bool r1, .bool r2]) ∧ Drawn0 w w' := by
  have HR0 := Aside0.mk hr0
  have HC0 := Aside0.mk hc0
  clear hr0 hc0
  unfold spec_IsSpread.f at h
  obtain ⟨t, h1, h⟩ := Option.bind_eq_some_iff.mp h
  have A1 := Aside0.mk h1
  clear h1
  cases t with
  | false =>
    rw [if_neg (by simp)] at h
    injection h with h
    injection h with e1 e2
    subst e1 e2
    go_enter Try.func97, Try.ntmps97
    go_wp2_with (go_at_call 178; refine (spec_dvIs.calls k _ _ l0 false _ HR0.out HC0.out A1.out).mono ?_; rintro e w' ⟨rfl, ⟨nd, rfl⟩⟩)
    go_ret2
    exact ⟨rfl, by repeat (first | exact Drawn0.refl _ | apply Drawn0.step)⟩
  | true =>
    rw [if_pos rfl] at h
    by_cases hpos : 0 < l0.length
    · rw [if_pos hpos] at h
      obtain ⟨ad, ea, hx0⟩ := Kd.at_int HR0.out 0 (by omega) (by omega)
      cases ea
      have hp1 : (0 < l0.length) = True := eq_true hpos
      (try rw [show ((0 : Int)).toNat = 0 from rfl] at hx0)
      (try rw [Addr.add_zero'] at hx0)
      by_cases hone : rd l0 0 = 1
      · rw [if_pos hone] at h
        have c1 : (rd l0 0 == 1) = true := beq_iff_eq.2 hone
        have c2 : (rd l0 0 != 1) = false := bne_eq_false_iff_eq.2 hone
        clear hone
        have H' := Aside0.mk h
        clear h
        go_enter Try.func97, Try.ntmps97
        go_wp2_with (go_at_call 178; refine (spec_dvIs.calls k _ _ l0 true _ HR0.out HC0.out A1.out).mono ?_; rintro e w' ⟨rfl, ⟨nd, rfl⟩⟩)
        go_loopg [4] k (fun kq v4 w' => ∃ (x4 : Int), v4 = .int .i64 x4 ∧ 2 ≤ x4 ∧ Aside0 (spec_IsSpread.l0 kq l0 x4 = some (r1, r2)) ∧ Aside0 (kq ≤ k) ∧ Drawn0 w w')
        case atStart => exact ⟨2, rfl, by omega, H', ⟨Nat.le_refl _⟩, by repeat (first | exact Drawn0.refl _ | apply Drawn0.step)⟩
        case round =>
          clear H' hx0 c1 c2
          obtain ⟨x4, rfl, hx4, HA, HK1, ⟨m1, rfl⟩⟩ := hrel
          cases gk with
          | zero => exact absurd HA.out (by simp [spec_IsSpread.l0])
          | succ k1 =>
            have H := HA.out
            clear HA
            simp only [spec_IsSpread.l0] at H
            by_cases c5 : x4 ≤ 300
            · rw [if_pos c5] at H
              by_cases c6 : x4 ≤ (l0.length : Int)
              · rw [if_pos c6] at H
                have c6b0 : decide (x4 ≤ (l0.length : Int)) = true := decide_eq_true c6
                clear c6
                have H' := Aside0.mk H
                clear H
                go_wp2
                go_loopg [5] k1 (fun kq v5 w' => ∃ (x5 : Int), v5 = .int .i64 x5 ∧ Aside0 (spec_IsSpread.l1 kq l0 x4 x5 = some (r1, r2)) ∧ Aside0 (kq ≤ k1) ∧ Drawn0 w w')
                case atStart => exact ⟨2, rfl, H', ⟨Nat.le_refl _⟩, by repeat (first | exact Drawn0.refl _ | apply Drawn0.step)⟩
                case round =>
                  clear H' c6b0
                  obtain ⟨x5, rfl, HA, HK2, ⟨m2, rfl⟩⟩ := hrel
                  cases gk with
                  | zero => exact absurd HA.out (by simp [spec_IsSpread.l1])
                  | succ k2 =>
                    have H := HA.out
                    clear HA
                    simp only [spec_IsSpread.l1] at H
                    by_cases c7 : 2 ≤ x4 ∧ x4 ≤ 300 ∧ 2 ≤ x5 ∧ x5 ≤ 300 ∧ l0.length ≤ 200
                    · rw [if_pos c7] at H
                      obtain ⟨b1, b2, b3, b4, b5⟩ := c7
                      have b6 : x4 * 2 ≤ x4 * x5 := Int.mul_le_mul_of_nonneg_left b3 (by omega)
                      have b7 : x4 * x5 ≤ 300 * 300 := Int.mul_le_mul b2 b4 (by omega) (by omega)
                      have b8 : 2 * x5 ≤ x4 * x5 := Int.mul_le_mul_of_nonneg_right b1 (by omega)
                      by_cases c8 : x4 * x5 ≤ (l0.length : Int)
                      · rw [if_pos c8] at H
                        have c8b0 : decide (x4 * x5 ≤ (l0.length : Int)) = true := decide_eq_true c8
                        obtain ⟨g, A20, H⟩ := Option.bind_eq_some_iff.mp H
                        have A2 := Aside0.mk A20
                        clear A20
                        obtain ⟨i1, hi1⟩ : ∃ i : Int, i = x4 * x5 - 1 := ⟨_, rfl⟩
                        obtain ⟨i2, hi2⟩ : ∃ i : Int, i = x4 - 1 := ⟨_, rfl⟩
                        obtain ⟨i3, hi3⟩ : ∃ i : Int, i = x5 - 1 := ⟨_, rfl⟩
                        rw [← hi1, ← hi2, ← hi3] at H
                        obtain ⟨ad1, e1, hx1⟩ := Kd.at_int HR0.out i1 (by omega) (by omega)
                        obtain rfl : ad = ad1 := by injection e1
                        obtain ⟨ad2, e2, hx2⟩ := Kd.at_int HR0.out i2 (by omega) (by omega)
                        obtain rfl : ad = ad2 := by injection e2
                        obtain ⟨ad3, e3, hx3⟩ := Kd.at_int HR0.out i3 (by omega) (by omega)
                        obtain rfl : ad = ad3 := by injection e3
                        clear e1 e2 e3
                        by_cases c9 : g = 1
                        · rw [if_pos c9] at H
                          have c9b : (g == 1) = true := beq_iff_eq.2 c9
                          clear c9
                          have p1 := eq_true (show 0 ≤ i1 by omega)
                          have p2 := eq_true (show i1 < (l0.length : Int) by omega)
                          have p3 := eq_true (show 0 ≤ i2 by omega)
                          have p4 := eq_true (show i2 < (l0.length : Int) by omega)
                          have p5 := eq_true (show 0 ≤ i3 by omega)
                          have p6 := eq_true (show i3 < (l0.length : Int) by omega)
                          have q1 : IntKind.i64.wrap (x4 * x5) = x4 * x5 := IntWalk.i64_in _ (by omega)
                          have q2 : IntKind.i64.wrap (x4 * x5 - 1) = i1 := by rw [hi1]; exact IntWalk.i64_in _ (by omega)
                          have q3 : IntKind.i64.wrap (x4 - 1) = i2 := by rw [hi2]; exact IntWalk.i64_in _ (by omega)
                          have q4 : IntKind.i64.wrap (x5 - 1) = i3 := by rw [hi3]; exact IntWalk.i64_in _ (by omega)
                          clear hi1 hi2 hi3
                          by_cases c10 : rd l0 i1 = wrap64 (rd l0 i2 * rd l0 i3)
                          · rw [if_pos c10] at H
                            have c10b : (rd l0 i1 != wrap64 (rd l0 i2 * rd l0 i3)) = false := bne_eq_false_iff_eq.2 c10
                            have c10c : (rd l0 i1 != IntKind.i64.wrap (rd l0 i2 * rd l0 i3)) = false := by rw [i64_w]; exact c10b
                            clear c10
                            have H' := Aside0.mk H
                            clear H
                            go_wp2
                            go_quiet ((go_at_call 181; refine (spec_siCommon.calls k2 x4 x5 g _ A2.out).mono ?_; rintro e w' ⟨rfl, ⟨nd, rfl⟩⟩; first | exact ⟨rfl, _, World.drewN_drewN _ _ _⟩ | exact ⟨rfl, _, Eq.trans (World.drewN_drewN _ _ _) (congrArg (World.drewN _) (Nat.add_assoc _ _ _))⟩))
                            clear q1 q2 q3 q4 p1 p2 p3 p4 p5 p6
                            go_wp2
                            go_roundg k2
                            case measure => have := HK1.out; have := HK2.out; omega
                            case rel => exact ⟨x5 + 1, rfl, H', ⟨by have := HK2.out; omega⟩, by repeat (first | exact Drawn0.refl _ | apply Drawn0.step)⟩
                          · rw [if_neg c10] at H
                            have c10b : (rd l0 i1 != wrap64 (rd l0 i2 * rd l0 i3)) = true := bne_iff_ne.2 c10
                            have c10c : (rd l0 i1 != IntKind.i64.wrap (rd l0 i2 * rd l0 i3)) = true := by rw [i64_w]; exact c10b
                            clear c10
                            injection H with H
                            injection H with e1 e2
                            subst e1 e2
                            go_wp2
                            go_quiet ((go_at_call 181; refine (spec_siCommon.calls k2 x4 x5 g _ A2.out).mono ?_; rintro e w' ⟨rfl, ⟨nd, rfl⟩⟩; first | exact ⟨rfl, _, World.drewN_drewN _ _ _⟩ | exact ⟨rfl, _, Eq.trans (World.drewN_drewN _ _ _) (congrArg (World.drewN _) (Nat.add_assoc _ _ _))⟩))
                            clear q1 q2 q3 q4 p1 p2 p3 p4 p5 p6
                            go_wp2
                            go_ret2
                            exact ⟨rfl, by repeat (first | exact Drawn0.refl _ | apply Drawn0.step)⟩
                        · rw [if_neg c9] at H
                          have c9b : (g == 1) = false := beq_eq_false_iff_ne.2 c9
                          clear c9 hi1 hi2 hi3
                          have H' := Aside0.mk H
                          clear H
                          go_wp2
                          go_quiet ((go_at_call 181; refine (spec_siCommon.calls k2 x4 x5 g _ A2.out).mono ?_; rintro e w' ⟨rfl, ⟨nd, rfl⟩⟩; first | exact ⟨rfl, _, World.drewN_drewN _ _ _⟩ | exact ⟨rfl, _, Eq.trans (World.drewN_drewN _ _ _) (congrArg (World.drewN _) (Nat.add_assoc _ _ _))⟩))
                          go_wp2
                          go_roundg k2
                          case measure => have := HK1.out; have := HK2.out; omega
                          case rel => exact ⟨x5 + 1, rfl, H', ⟨by have := HK2.out; omega⟩, by repeat (first | exact Drawn0.refl _ | apply Drawn0.step)⟩
                      · rw [if_neg c8] at H
                        have c8b0 : decide (x4 * x5 ≤ (l0.length : Int)) = false := decide_eq_false c8
                        clear c8
                        have H' := Aside0.mk H
                        clear H
                        go_wp2
                        go_roundg k2
                        case measure => have := HK1.out; have := HK2.out; omega
                        case rel => exact ⟨x4 + 1, rfl, by omega, H', ⟨by have := HK1.out; have := HK2.out; omega⟩, by repeat (first | exact Drawn0.refl _ | apply Drawn0.step)⟩
                    · rw [if_neg c7] at H
                      cases H
              · rw [if_neg c6] at H
                have c6b0 : decide (x4 ≤ (l0.length : Int)) = false := decide_eq_false c6
                clear c6
                injection H with H
                injection H with e1 e2
                subst e1 e2
                go_wp2
                go_ret2
                exact ⟨rfl, by repeat (first | exact Drawn0.refl _ | apply Drawn0.step)⟩
            · rw [if_neg c5] at H
              cases H
      · rw [if_neg hone] at h
        have c1 : (rd l0 0 == 1) = false := beq_eq_false_iff_ne.2 hone
        have c2 : (rd l0 0 != 1) = true := bne_iff_ne.2 hone
        clear hone
        injection h with h
        injection h with e1 e2
        subst e1 e2
        go_enter Try.func97, Try.ntmps97
        go_wp2_with (go_at_call 178; refine (spec_dvIs.calls k _ _ l0 true _ HR0.out HC0.out A1.out).mono ?_; rintro e w' ⟨rfl, ⟨nd, rfl⟩⟩)
        go_ret2
        exact ⟨rfl, by repeat (first | exact Drawn0.refl _ | apply Drawn0.step)⟩
    · rw [if_neg hpos] at h
      cases h

/-! ### slices_Sort_int_int: function 195 (its contract is proved by hand) -/
def slices_Sort_int_int.f (l0 : List Int) : Option (List Int) := if l0.length < 4611686018427387904 then (some (l0.mergeSort fun x y => decide (x ≤ y))) else (none)
theorem slices_Sort_int_int.calls (P0_ : Nat → Prop) (u9000_ : Value) (l0 : List Int) (r : List Int) (w0 w : World) (hB : Below w0.heap.size w0 w) (ho0 : Kd.R (Kd.int .i64) 3 w w0.heap.size P0_ u9000_ l0) (h : slices_Sort_int_int.f l0 = some r) :
    Calls Try.prog 195 #[u9000_] w fun e w' => e = .returned (.tuple #[]) ∧ Kd.R (Kd.int .i64) 3 w' w0.heap.size (fun k_ => (P0_ k_ ∨ w.heap.size ≤ k_)) u9000_ r ∧ Below w0.heap.size w0 w' ∧ Kept w w' (fun k_ => P0_ k_) := by
  unfold slices_Sort_int_int.f at h
  by_cases hsz : l0.length < 4611686018427387904
  · rw [if_pos hsz] at h
    injection h with h
    subst h
    obtain ⟨h0, inner, ho, hr⟩ := ho0
    have hr' : inner = encs (Value.int .i64) l0 := Kd.reps_encs hr
    subst hr'
    rcases ho.2 with ⟨rfl, hl⟩ | ⟨g, cap, cur, rfl, hbase, hb, h1, h2, h3, h4⟩
    · have hnil : l0 = [] := List.eq_nil_of_length_eq_zero hl
      subst hnil
      refine (Go.Proofs.Try.slices_Sort_int_none none 0 w).mono ?_
      rintro e w' ⟨rfl, rfl⟩
      exact ⟨rfl, by simpa using Kd.R_nil _ _ _ _ _, hB, Kept.refl _ _⟩
    · have hs1 : (Kd.int .i64).sz = 1 := rfl
      rw [hs1, Nat.mul_one] at h4
      have h4' : cur.toList.take l0.length = l0.map (Value.int .i64) := h4
      have hlt : g < w.heap.size := (Array.getElem?_eq_some_iff.1 hb).1
      refine (Go.Proofs.Try.slices_Sort_int g 0 cap l0 w (Go.holds_of_blockI hb h4') hlt hsz).mono ?_
      rintro e w' ⟨rfl, n, os, rfl⟩
      have hg := Go.grownBy_sortedI (w := w) (g := g) (n := n) (os := os) (l0.mergeSort fun x y => decide (x ≤ y)).toArray
      have hlen : (l0.mergeSort fun x y => decide (x ≤ y)).length = l0.length := List.length_mergeSort l0
      have hown := Go.ownsRow_sortedI (w := w) (n := n) (os := os) (ss := l0) (ts := l0.mergeSort fun x y => decide (x ≤ y)) hlen hbase hb h1 h2 h3
      refine ⟨rfl, ⟨fun k hk => .inl (h0 k hk), _, ?_, Kd.reps_scalar _⟩, hB.grown hg hB.size (fun k hk => by injection hk with hk; subst hk; exact hbase), Kept.of_grown hg (Kept.refl _ _) (fun k hk => .inl (h0 k (by injection hk with hk; subst hk; rfl)))⟩
      rw [hlen]
      exact hown
  · rw [if_neg hsz] at h
    cases h

/-! ### impl_leastFactor: function 219 -/
def impl_leastFactor.l0 : Nat → Int → Int → Option (Int)
 | 0, _, _ => none
 | k + 1, x0, x3 => if (wrap64 (x3 * x3)) ≤ x0 then (if x3 = 0 then (none) else (if (Int.tmod x0 x3) = 0 then (some x3) else (impl_leastFactor.l0 k x0 (wrap64 (x3 + 1))))) else (some x0)
def impl_leastFactor.f (k : Nat) (a0 : Int) : Option (Int) := impl_leastFactor.l0 k a0 2
theorem impl_leastFactor.mono_l : ∀ k, (∀ y0 y1, LeO (impl_leastFactor.l0 k y0 y1) (impl_leastFactor.l0 (k + 1) y0 y1))
 | 0 => fun _ _ r h => by simp [impl_leastFactor.l0] at h
 | k + 1 => by
  have ih0 := impl_leastFactor.mono_l k
  ·
   intro y0 y1
   unfold impl_leastFactor.l0
   repeat' first
   | (with_reducible first | exact ih0 _ _ | exact LeO.refl _ | exact LeO.none _ | refine LeO.ite ?_ ?_ | refine LeO.bind ?_ (fun _ => ?_))
theorem impl_leastFactor.mono : ∀ a0 k, LeO (impl_leastFactor.f k a0) (impl_leastFactor.f (k + 1) a0) := by
 intro a0 k
 have ih0 := impl_leastFactor.mono_l k
 unfold impl_leastFactor.f
 repeat' first
   | (with_reducible first | exact ih0 _ _ | exact LeO.refl _ | exact LeO.none _ | refine LeO.ite ?_ ?_ | refine LeO.bind ?_ (fun _ => ?_))
set_option maxHeartbeats 200000000 in
set_option maxRecDepth 100000 in
theorem impl_leastFactor.calls (k : Nat) (a0 : Int) (r : Int) (w : World) (h : impl_leastFactor.f k a0 = some r) :
  Calls Try.prog 219 #[.int .i64 a0] w fun e w' => e = .returned (.int .i64 r) ∧ Drawn0 w w' := by
 have H : (impl_leastFactor.l0 k a0 2) = some r := h
 clear h
 have H' := Aside0.mk H
 clear H
 go_enter Try.func219, Try.ntmps219
 go_wp2
 go_loopg [3] k (fun kq v3 w' => ∃ (x3_1 : Int), v3 = .int .i64 x3_1 ∧ Aside0 (impl_leastFactor.l0 kq a0 x3_1 = some r) ∧ Aside0 (kq ≤ k) ∧ Drawn0 w w')
 case atStart => exact ⟨(2), (by first | rfl | (simp; done) | (simp [*]; done)), H', ⟨Nat.le_refl _⟩, by repeat (first | exact Drawn0.refl _ | apply Drawn0.step)⟩
 case round =>
  clear H'
  obtain ⟨x3_1, rfl, HA, HK1, ⟨m1, rfl⟩⟩ := hrel
  cases gk with
  | zero => exact absurd HA.out (by simp [impl_leastFactor.l0])
  | succ k1 =>
   have H := HA.out
   clear HA
   simp only [impl_leastFactor.l0] at H
   by_cases c2 : (wrap64 (x3_1 * x3_1)) ≤ a0
   ·
    rw [if_pos c2] at H
    have c2b0 : decide ((wrap64 (x3_1 * x3_1)) ≤ a0) = true := decide_eq_true c2
    clear c2
    by_cases c3 : x3_1 = 0
    ·
     rw [if_pos c3] at H
     exact absurd H (by simp)
    ·
     rw [if_neg c3] at H
     have c3b0 : (x3_1 == 0) = false := beq_eq_false_iff_ne.mpr c3
     have c3b1 : (x3_1 != 0) = true := bne_iff_ne.mpr c3
     by_cases c4 : (Int.tmod a0 x3_1) = 0
     ·
      rw [if_pos c4] at H
      have c4b0 : ((Int.tmod a0 x3_1) == 0) = true := beq_iff_eq.mpr c4
      have c4b1 : ((Int.tmod a0 x3_1) != 0) = false := bne_eq_false_iff_eq.mpr c4
      clear c4
      obtain rfl := Option.some.inj H
      go_wp2
      go_ret
      exact ⟨by first | rfl | (simp; done) | (simp [*]; done), by repeat (first | exact Drawn0.refl _ | apply Drawn0.step)⟩
     ·
      rw [if_neg c4] at H
      have c4b0 : ((Int.tmod a0 x3_1) == 0) = false := beq_eq_false_iff_ne.mpr c4
      have c4b1 : ((Int.tmod a0 x3_1) != 0) = true := bne_iff_ne.mpr c4
      have H' := Aside0.mk H
      clear H
      go_wp2
      go_roundg k1
      case measure => have := HK1.out; omega
      case rel => exact ⟨(wrap64 (x3_1 + 1)), (by first | rfl | (simp; done) | (simp [*]; done)), H', ⟨by have := HK1.out; omega⟩, by repeat (first | exact Drawn0.refl _ | apply Drawn0.step)⟩
   ·
    rw [if_neg c2] at H
    have c2b0 : decide ((wrap64 (x3_1 * x3_1)) ≤ a0) = false := decide_eq_false c2
    clear c2
    obtain rfl := Option.some.inj H
    go_wp2
    go_ret
    exact ⟨by first | rfl | (simp; done) | (simp [*]; done), by repeat (first | exact Drawn0.refl _ | apply Drawn0.step)⟩

end Go.Proofs.Ytfhfbicejddoiaa.PFnTablesMultiplied
