-- Written for this claim by a program of this session, out of the translation and given contracts.
import Derived.Test.YtlbhbncgfhikeaaGreatPFnPlacesOfPatternsx0
import Derived.Test.YtlbhbncgfhikeaaGreatPFnPlacesOfPatternsx2
import Derived.Test.YtlbhbncgfhikeaaGreatPFnPlacesOfPatternsx3
import Derived.Test.YtlbhbncgfhikeaaGreatPFnPlacesOfPatternsx4
import Derived.Test.YtlbhbncgfhikeaaGreatPFnPlacesOfPatternsx7
namespace Go.Proofs.YtlbhbncgfhikeaaGreat.PFnPlacesOfPatterns
open Go.RowKit Go.Proofs.YtlbhbncgfhikeaaGreatW.PrintWords Go.Proofs.YtlbhbncgfhikeaaGreatW.PrintLast Go.Proofs.YtlbhbncgfhikeaaGreatW.PrintMore
attribute [local go_sem] max2_int min2_int max_two min_two max_three min_three max_four min_four   -- for this text's walks alone
set_option linter.unusedVariables false
set_option linter.unusedSimpArgs false

/-! ### spec_rePlace: function 52 -/
mutual
def spec_rePlace.l0 : Nat → List Int → Int → Int → Int → Option (Bool)
 | 0, _, _, _, _ => none
 | k + 1, x0, x1, x2, x7 => if x7 < x1 then (spec_rePlace.l1 k x0 x1 x2 x7 x0 (x0.length : Int) 0) else (some true)
def spec_rePlace.l1 : Nat → List Int → Int → Int → Int → List Int → Int → Int → Option (Bool)
 | 0, _, _, _, _, _, _, _ => none
 | k + 1, x0, x1, x2, x7, x15, x16, x17 => if x17 < x16 then (if 0 ≤ x17 then (if x17 < (x15.length : Int) then ((spec_rePrime.f x7).bind fun t314 => (if t314 = 0 then (none) else (if (Int.tmod (wrap64 (x2 + (rd x15 x17))) t314) = 0 then (some false) else (spec_rePlace.l1 k x0 x1 x2 x7 x15 x16 (wrap64 (x17 + 1)))))) else (none)) else (none)) else (spec_rePlace.l0 k x0 x1 x2 (wrap64 (x7 + 1)))
end
def spec_rePlace.f (k : Nat) (l0 : List Int) (a1 : Int) (a2 : Int) : Option (Bool) := spec_rePlace.l0 k l0 a1 a2 0
theorem spec_rePlace.mono_l : ∀ k, (∀ y0 y1 y2 y3, LeO (spec_rePlace.l0 k y0 y1 y2 y3) (spec_rePlace.l0 (k + 1) y0 y1 y2 y3)) ∧ (∀ y0 y1 y2 y3 y4 y5 y6, LeO (spec_rePlace.l1 k y0 y1 y2 y3 y4 y5 y6) (spec_rePlace.l1 (k + 1) y0 y1 y2 y3 y4 y5 y6))
 | 0 => ⟨fun _ _ _ _ r h => by simp [spec_rePlace.l0] at h, fun _ _ _ _ _ _ _ r h => by simp [spec_rePlace.l1] at h⟩
 | k + 1 => by
  obtain ⟨ih0, ih1⟩ := spec_rePlace.mono_l k
  refine ⟨?_, ?_⟩
  ·
   intro y0 y1 y2 y3
   unfold spec_rePlace.l0
   repeat' first
   | (with_reducible first | exact ih0 _ _ _ _ | exact ih1 _ _ _ _ _ _ _ | exact LeO.refl _ | exact LeO.none _ | refine LeO.ite ?_ ?_ | refine LeO.bind ?_ (fun _ => ?_))
  ·
   intro y0 y1 y2 y3 y4 y5 y6
   unfold spec_rePlace.l1
   repeat' first
   | (with_reducible first | exact ih0 _ _ _ _ | exact ih1 _ _ _ _ _ _ _ | exact LeO.refl _ | exact LeO.none _ | refine LeO.ite ?_ ?_ | refine LeO.bind ?_ (fun _ => ?_))
theorem spec_rePlace.mono : ∀ a0 a1 a2 k, LeO (spec_rePlace.f k a0 a1 a2) (spec_rePlace.f (k + 1) a0 a1 a2) := by
 intro a0 a1 a2 k
 obtain ⟨ih0, ih1⟩ := spec_rePlace.mono_l k
 unfold spec_rePlace.f
 repeat' first
   | (with_reducible first | exact ih0 _ _ _ _ | exact ih1 _ _ _ _ _ _ _ | exact LeO.refl _ | exact LeO.none _ | refine LeO.ite ?_ ?_ | refine LeO.bind ?_ (fun _ => ?_))
set_option maxHeartbeats 200000000 in
set_option maxRecDepth 100000 in
theorem spec_rePlace.calls (k : Nat) (A0 : Option Addr) (c0 : Nat) (l0 : List Int) (a1 : Int) (a2 : Int) (r : Bool) (w : World) (hr0 : Kd.C (Kd.int .i64) w A0 l0.length l0) (hc0 : l0.length ≤ c0) (h : spec_rePlace.f k l0 a1 a2 = some r) :
  Calls Tryz.prog 52 #[.slice A0 l0.length c0, .int .i64 a1, .int .i64 a2] w fun e w' => e = .returned (.bool r) ∧ Drawn0 w w' := by
 have HR0 := Aside0.mk hr0
 have HC0 := Aside0.mk hc0
 clear hr0 hc0
 have H : (spec_rePlace.l0 k l0 a1 a2 0) = some r := h
 clear h
 have H' := Aside0.mk H
 clear H
 go_enter Tryz.func52, Tryz.ntmps52
 go_wp2
 go_loopg [7] k (fun kq v7 w' => ∃ (x7_1 : Int), v7 = .int .i64 x7_1 ∧ Aside0 (spec_rePlace.l0 kq l0 a1 a2 x7_1 = some r) ∧ Aside0 (kq ≤ k) ∧ Drawn0 w w')
 case atStart => exact ⟨(0), (by first | rfl | (simp; done) | (simp [*]; done)), H', ⟨Nat.le_refl _⟩, by repeat (first | exact Drawn0.refl _ | apply Drawn0.step)⟩
 case round =>
  clear H'
  obtain ⟨x7_1, rfl, HA, HK1, ⟨m1, rfl⟩⟩ := hrel
  cases gk with
  | zero => exact absurd HA.out (by simp [spec_rePlace.l0])
  | succ k1 =>
   have H := HA.out
   clear HA
   simp only [spec_rePlace.l0] at H
   by_cases c4 : x7_1 < a1
   ·
    rw [if_pos c4] at H
    have c4b0 : decide (x7_1 < a1) = true := decide_eq_true c4
    clear c4
    have H' := Aside0.mk H
    clear H
    go_wp2
    go_loopg [17] k1 (fun kq v17 w' => ∃ (x17_2 : Int), v17 = .int .i64 x17_2 ∧ Aside0 (spec_rePlace.l1 kq l0 a1 a2 x7_1 l0 (l0.length : Int) x17_2 = some r) ∧ Aside0 (kq ≤ k1) ∧ Drawn0 w w')
    case atStart => exact ⟨(0), (by first | rfl | (simp; done) | (simp [*]; done)), H', ⟨Nat.le_refl _⟩, by repeat (first | exact Drawn0.refl _ | apply Drawn0.step)⟩
    case round =>
     clear H'
     obtain ⟨x17_2, rfl, HA, HK2, ⟨m2, rfl⟩⟩ := hrel
     cases gk with
     | zero => exact absurd HA.out (by simp [spec_rePlace.l1])
     | succ k2 =>
      have H := HA.out
      clear HA
      simp only [spec_rePlace.l1] at H
      by_cases c5 : x17_2 < (l0.length : Int)
      ·
       rw [if_pos c5] at H
       have c5b0 : decide (x17_2 < (l0.length : Int)) = true := decide_eq_true c5
       clear c5
       by_cases c6 : 0 ≤ x17_2
       ·
        rw [if_pos c6] at H
        have c6b0 : decide (0 ≤ x17_2) = true := decide_eq_true c6
        clear c6
        by_cases c7 : x17_2 < (l0.length : Int)
        ·
         rw [if_pos c7] at H
         have c7b0 : decide (x17_2 < (l0.length : Int)) = true := decide_eq_true c7
         clear c7
         replace H := Option.bind_eq_some_iff.mp H
         obtain ⟨t314, A80, H⟩ := H
         replace H : (if t314 = 0 then (none) else (if (Int.tmod (wrap64 (a2 + (rd l0 x17_2))) t314) = 0 then (some false) else (spec_rePlace.l1 k2 l0 a1 a2 x7_1 l0 (l0.length : Int) (wrap64 (x17_2 + 1))))) = some r := H
         have A8 := Aside0.mk A80
         clear A80
         by_cases c9 : t314 = 0
         ·
          rw [if_pos c9] at H
          exact absurd H (by simp)
         ·
          rw [if_neg c9] at H
          have c9b0 : (t314 == 0) = false := beq_eq_false_iff_ne.mpr c9
          have c9b1 : (t314 != 0) = true := bne_iff_ne.mpr c9
          by_cases c10 : (Int.tmod (wrap64 (a2 + (rd l0 x17_2))) t314) = 0
          ·
           rw [if_pos c10] at H
           have c10b0 : ((Int.tmod (wrap64 (a2 + (rd l0 x17_2))) t314) == 0) = true := beq_iff_eq.mpr c10
           have c10b1 : ((Int.tmod (wrap64 (a2 + (rd l0 x17_2))) t314) != 0) = false := bne_eq_false_iff_eq.mpr c10
           clear c10
           obtain rfl := Option.some.inj H
           have p313 : 0 ≤ (x17_2 : Int) := of_decide_eq_true (by first | (with_reducible assumption) | assumption)
           have q313 : x17_2 < (l0.length : Int) := of_decide_eq_true (by first | (with_reducible assumption) | assumption)
           obtain ⟨ad313, e313, hx313_0⟩ := Kd.at_int HR0.out x17_2 p313 q313
           cases e313
           replace p313 := eq_true p313
           replace q313 := eq_true q313
           go_wp2_with (first | ((with_reducible refine gate_callee (f := 40) rfl ?_); refine goesL_ (some 25) rfl rfl Tryz.func40 (by kernel_rfl) rfl #[.int .i64 x7_1] rfl (by (try simp only [List.map_toArray, List.map_cons, List.map_nil]); first | done | rfl | (simp only [List.length_drop, List.length_take]; rfl)) ?_; (with_reducible refine (spec_rePrime.calls x7_1 t314 _ A8.out).mono ?_); rintro e w' ⟨rfl, ⟨nd, rfl⟩⟩; refine ⟨_, rfl, ?_⟩))
           go_ret
           exact ⟨by first | rfl | (simp; done) | (simp [*]; done), by repeat (first | exact Drawn0.refl _ | apply Drawn0.step)⟩
          ·
           rw [if_neg c10] at H
           have c10b0 : ((Int.tmod (wrap64 (a2 + (rd l0 x17_2))) t314) == 0) = false := beq_eq_false_iff_ne.mpr c10
           have c10b1 : ((Int.tmod (wrap64 (a2 + (rd l0 x17_2))) t314) != 0) = true := bne_iff_ne.mpr c10
           have H' := Aside0.mk H
           clear H
           have p313 : 0 ≤ (x17_2 : Int) := of_decide_eq_true (by first | (with_reducible assumption) | assumption)
           have q313 : x17_2 < (l0.length : Int) := of_decide_eq_true (by first | (with_reducible assumption) | assumption)
           obtain ⟨ad313, e313, hx313_0⟩ := Kd.at_int HR0.out x17_2 p313 q313
           cases e313
           replace p313 := eq_true p313
           replace q313 := eq_true q313
           go_wp2_with (first | ((with_reducible refine gate_callee (f := 40) rfl ?_); refine goesL_ (some 25) rfl rfl Tryz.func40 (by kernel_rfl) rfl #[.int .i64 x7_1] rfl (by (try simp only [List.map_toArray, List.map_cons, List.map_nil]); first | done | rfl | (simp only [List.length_drop, List.length_take]; rfl)) ?_; (with_reducible refine (spec_rePrime.calls x7_1 t314 _ A8.out).mono ?_); rintro e w' ⟨rfl, ⟨nd, rfl⟩⟩; refine ⟨_, rfl, ?_⟩))
           go_roundg k2
           case measure => have := HK1.out; have := HK2.out; omega
           case rel => exact ⟨(wrap64 (x17_2 + 1)), (by first | rfl | (simp; done) | (simp [*]; done)), H', ⟨by have := HK1.out; have := HK2.out; omega⟩, by repeat (first | exact Drawn0.refl _ | apply Drawn0.step)⟩
        ·
         rw [if_neg c7] at H
         exact absurd H (by simp)
       ·
        rw [if_neg c6] at H
        exact absurd H (by simp)
      ·
       rw [if_neg c5] at H
       have c5b0 : decide (x17_2 < (l0.length : Int)) = false := decide_eq_false c5
       clear c5
       have H' := Aside0.mk H
       clear H
       go_wp2
       go_roundg k2
       case measure => have := HK1.out; have := HK2.out; omega
       case rel => exact ⟨(wrap64 (x7_1 + 1)), (by first | rfl | (simp; done) | (simp [*]; done)), H', ⟨by have := HK1.out; have := HK2.out; omega⟩, by repeat (first | exact Drawn0.refl _ | apply Drawn0.step)⟩
   ·
    rw [if_neg c4] at H
    have c4b0 : decide (x7_1 < a1) = false := decide_eq_false c4
    clear c4
    obtain rfl := Option.some.inj H
    go_wp2
    go_ret
    exact ⟨by first | rfl | (simp; done) | (simp [*]; done), by repeat (first | exact Drawn0.refl _ | apply Drawn0.step)⟩

/-! ### spec_FirstPlaces: function 17 -/
mutual
def spec_FirstPlaces.j0 : Nat → List Int → Int → Int → Bool → Option (List Int × Bool)
 | 0, _, _, _, _ => none
 | k + 1, x0, x1, x2, x18 => if x18 = true then (some (([] : List Int), false)) else (spec_FirstPlaces.l0 k x0 x1 x2 ([] : List Int) 1)
def spec_FirstPlaces.l0 : Nat → List Int → Int → Int → List Int → Int → Option (List Int × Bool)
 | 0, _, _, _, _, _ => none
 | k + 1, x0, x1, x2, x8, x9 => if x9 ≤ x2 then ((spec_rePlace.f k x0 x1 x9).bind fun t317 => (if t317 = true then (if x8.length < 17592186044416 then (spec_FirstPlaces.l0 k x0 x1 x2 (x8 ++ [x9]) (wrap64 (x9 + 1))) else (none)) else (spec_FirstPlaces.l0 k x0 x1 x2 x8 (wrap64 (x9 + 1))))) else (some (x8, true))
end
def spec_FirstPlaces.f (k : Nat) (l0 : List Int) (a1 : Int) (a2 : Int) : Option (List Int × Bool) := (spec_reAsked.f k l0 a1).bind fun t315 => (if t315 = true then ((spec_l1In.f a2 0 600).bind fun t316 => (spec_FirstPlaces.j0 k l0 a1 a2 (!t316))) else (spec_FirstPlaces.j0 k l0 a1 a2 true))
theorem spec_FirstPlaces.mono_l : ∀ k, (∀ y0 y1 y2 y3, LeO (spec_FirstPlaces.j0 k y0 y1 y2 y3) (spec_FirstPlaces.j0 (k + 1) y0 y1 y2 y3)) ∧ (∀ y0 y1 y2 y3 y4, LeO (spec_FirstPlaces.l0 k y0 y1 y2 y3 y4) (spec_FirstPlaces.l0 (k + 1) y0 y1 y2 y3 y4))
 | 0 => ⟨fun _ _ _ _ r h => by simp [spec_FirstPlaces.j0] at h, fun _ _ _ _ _ r h => by simp [spec_FirstPlaces.l0] at h⟩
 | k + 1 => by
  obtain ⟨ih0, ih1⟩ := spec_FirstPlaces.mono_l k
  refine ⟨?_, ?_⟩
  ·
   intro y0 y1 y2 y3
   unfold spec_FirstPlaces.j0
   repeat' first
   | (with_reducible first | exact ih0 _ _ _ _ | exact ih1 _ _ _ _ _ | exact spec_reAsked.mono _ _ _ | exact spec_rePlace.mono _ _ _ _ | exact LeO.refl _ | exact LeO.none _ | refine LeO.ite ?_ ?_ | refine LeO.bind ?_ (fun _ => ?_))
  ·
   intro y0 y1 y2 y3 y4
   unfold spec_FirstPlaces.l0
   repeat' first
   | (with_reducible first | exact ih0 _ _ _ _ | exact ih1 _ _ _ _ _ | exact spec_reAsked.mono _ _ _ | exact spec_rePlace.mono _ _ _ _ | exact LeO.refl _ | exact LeO.none _ | refine LeO.ite ?_ ?_ | refine LeO.bind ?_ (fun _ => ?_))
theorem spec_FirstPlaces.mono : ∀ a0 a1 a2 k, LeO (spec_FirstPlaces.f k a0 a1 a2) (spec_FirstPlaces.f (k + 1) a0 a1 a2) := by
 intro a0 a1 a2 k
 obtain ⟨ih0, ih1⟩ := spec_FirstPlaces.mono_l k
 unfold spec_FirstPlaces.f
 repeat' first
   | (with_reducible first | exact ih0 _ _ _ _ | exact ih1 _ _ _ _ _ | exact spec_reAsked.mono _ _ _ | exact spec_rePlace.mono _ _ _ _ | exact LeO.refl _ | exact LeO.none _ | refine LeO.ite ?_ ?_ | refine LeO.bind ?_ (fun _ => ?_))
set_option maxHeartbeats 200000000 in
set_option maxRecDepth 100000 in
theorem spec_FirstPlaces.calls (k : Nat) (A0 : Option Addr) (c0 : Nat) (l0 : List Int) (a1 : Int) (a2 : Int) (r1 : List Int) (r2 : Bool) (w : World) (hr0 : Kd.C (Kd.int .i64) w A0 l0.length l0) (hc0 : l0.length ≤ c0) (h : spec_FirstPlaces.f k l0 a1 a2 = some (r1, r2)) :
  Calls Tryz.prog 17 #[.slice A0 l0.length c0, .int .i64 a1, .int .i64 a2] w fun e w' => ∃ v0_ : Value, e = .returned (.tuple #[v0_, .bool r2]) ∧ Kd.R (Kd.int .i64) 3 w' w.heap.size (fun _ => True) v0_ r1 ∧ Below w.heap.size w w' := by
 have HR0 := Aside0.mk hr0
 have HC0 := Aside0.mk hc0
 clear hr0 hc0
 have HB := Aside0.mk (Below.refl w.heap.size w)
 have H : ((spec_reAsked.f k l0 a1).bind fun t315 => (if t315 = true then ((spec_l1In.f a2 0 600).bind fun t316 => (spec_FirstPlaces.j0 k l0 a1 a2 (!t316))) else (spec_FirstPlaces.j0 k l0 a1 a2 true))) = some (r1, r2) := h
 clear h
 have HC4 := Aside0.mk H
 clear H
 go_enter Tryz.func17, Tryz.ntmps17
 go_upto_region 1 with (fail)
 go_cut [18] (fun v18 wc => ∃ (kq : Nat) (x18_3 : Bool), v18 = .bool x18_3 ∧ Aside0 (spec_FirstPlaces.j0 kq l0 a1 a2 x18_3 = some (r1, r2)) ∧ Aside0 (kq ≤ k) ∧ Aside0 (Below w.heap.size w wc))
 case first =>
  have H := HC4.out
  clear HC4
  replace H := Option.bind_eq_some_iff.mp H
  obtain ⟨t315, A50, H⟩ := H
  replace H : (if t315 = true then ((spec_l1In.f a2 0 600).bind fun t316 => (spec_FirstPlaces.j0 k l0 a1 a2 (!t316))) else (spec_FirstPlaces.j0 k l0 a1 a2 true)) = some (r1, r2) := H
  have A5 := Aside0.mk A50
  clear A50
  by_cases c6 : t315 = true
  ·
   subst c6
   have H1 : ((spec_l1In.f a2 0 600).bind fun t316 => (spec_FirstPlaces.j0 k l0 a1 a2 (!t316))) = some (r1, r2) := by rw [if_pos rfl] at H; exact H
   clear H
   have H := H1
   clear H1
   replace H := Option.bind_eq_some_iff.mp H
   obtain ⟨t316, A70, H⟩ := H
   replace H : (spec_FirstPlaces.j0 k l0 a1 a2 (!t316)) = some (r1, r2) := H
   have A7 := Aside0.mk A70
   clear A70
   have H' := Aside0.mk H
   clear H
   go_wp2_with (first | ((with_reducible refine gate_callee (f := 36) rfl ?_); refine goesL_ (some 12) rfl rfl Tryz.func36 (by kernel_rfl) rfl #[.slice A0 l0.length c0, .int .i64 a1] rfl (by (try simp only [List.map_toArray, List.map_cons, List.map_nil]); first | done | rfl | (simp only [List.length_drop, List.length_take]; rfl)) ?_; (with_reducible refine (spec_reAsked.calls k _ _ l0 a1 true _ ?side1 ?side2 A5.out).mono ?_); (case side1 => repeat (first | exact (Kd.C_below HR0.out HB.out) | (with_reducible refine Kd.C_alloc ?_ _) | (with_reducible refine Kd.C_drewN ?_ _) | (with_reducible refine Kd.C_drew ?_))); (case side2 => exact HC0.out); rintro e w' ⟨rfl, ⟨nd, rfl⟩⟩; refine ⟨_, rfl, ?_⟩) | (go_at_call 51; (with_reducible refine (spec_l1In.calls a2 0 600 t316 _ A7.out).mono ?_); rintro e w' ⟨rfl, ⟨nd, rfl⟩⟩))
   go_meet
   case rel => exact ⟨_, (!t316), (by first | rfl | (simp; done) | (simp [*]; done)), H', ⟨by first | omega | exact Nat.le_refl _⟩, ⟨by repeat (first | (with_reducible first | exact HB.out | apply below_alloc | apply pw_below_drewN | apply below_drew1))⟩⟩
  ·
   replace c6 := Bool.eq_false_iff.mpr c6
   subst c6
   have H1 : (spec_FirstPlaces.j0 k l0 a1 a2 true) = some (r1, r2) := by rw [if_neg (show ¬ (false = true) by decide)] at H; exact H
   clear H
   have H := H1
   clear H1
   have H' := Aside0.mk H
   clear H
   go_wp2_with (first | ((with_reducible refine gate_callee (f := 36) rfl ?_); refine goesL_ (some 12) rfl rfl Tryz.func36 (by kernel_rfl) rfl #[.slice A0 l0.length c0, .int .i64 a1] rfl (by (try simp only [List.map_toArray, List.map_cons, List.map_nil]); first | done | rfl | (simp only [List.length_drop, List.length_take]; rfl)) ?_; (with_reducible refine (spec_reAsked.calls k _ _ l0 a1 false _ ?side1 ?side2 A5.out).mono ?_); (case side1 => repeat (first | exact (Kd.C_below HR0.out HB.out) | (with_reducible refine Kd.C_alloc ?_ _) | (with_reducible refine Kd.C_drewN ?_ _) | (with_reducible refine Kd.C_drew ?_))); (case side2 => exact HC0.out); rintro e w' ⟨rfl, ⟨nd, rfl⟩⟩; refine ⟨_, rfl, ?_⟩))
   go_meet
   case rel => exact ⟨_, (true), (by first | rfl | (simp; done) | (simp [*]; done)), H', ⟨by first | omega | exact Nat.le_refl _⟩, ⟨by repeat (first | (with_reducible first | exact HB.out | apply below_alloc | apply pw_below_drewN | apply below_drew1))⟩⟩
 case rest =>
  clear HC4
  obtain ⟨kq, x18_3, rfl, HA, HJ3, HB⟩ := hcut
  cases kq with
  | zero => exact absurd HA.out (by simp [spec_FirstPlaces.j0])
  | succ kj3 =>
   have H := HA.out
   clear HA
   simp only [spec_FirstPlaces.j0] at H
   by_cases c8 : x18_3 = true
   ·
    subst c8
    have H1 : (some (([] : List Int), false)) = some (r1, r2) := by rw [if_pos rfl] at H; exact H
    clear H
    have H := H1
    clear H1
    simp only [Option.some.injEq, Prod.mk.injEq] at H
    obtain ⟨rfl, rfl⟩ := H
    go_wp2
    go_ret2
    exact ⟨_, by first | rfl | (simp [errW_none, errW_some] <;> rfl) | (simp [*, errW_none, errW_some] <;> rfl), by first | exact Kd.R_nil _ _ _ _ _ | exact Kd.N_nil _ _ _ _ _ | exact Kd.V_nil _ _ _ _ _ | exact Kd.Q_nil _ _ _ _ _ | exact Kd.S_nil _ _ _ _ _, by repeat (first | (with_reducible first | exact HB.out | apply below_alloc | apply pw_below_drewN | apply below_drew1))⟩
   ·
    replace c8 := Bool.eq_false_iff.mpr c8
    subst c8
    have H1 : (spec_FirstPlaces.l0 kj3 l0 a1 a2 ([] : List Int) 1) = some (r1, r2) := by rw [if_neg (show ¬ (false = true) by decide)] at H; exact H
    clear H
    have H := H1
    clear H1
    have H' := Aside0.mk H
    clear H
    go_wp2
    go_loopg [8, 9] kj3 (fun kq v8 v9 w' => ∃ (x8_2 : List Int) (x9_2 : Int), v9 = .int .i64 x9_2 ∧ Aside0 (spec_FirstPlaces.l0 kq l0 a1 a2 x8_2 x9_2 = some (r1, r2)) ∧ Aside0 (kq ≤ kj3) ∧ Aside0 (Kd.R (Kd.int .i64) 3 w' w.heap.size (fun _ => True) v8 x8_2) ∧ Aside0 (Below w.heap.size w w'))
    case atStart => exact ⟨(([] : List Int)), (1), (by first | rfl | (simp; done) | (simp [*]; done)), H', ⟨Nat.le_refl _⟩, ⟨by first | exact Kd.R_nil _ _ _ _ _ | exact Kd.N_nil _ _ _ _ _ | exact Kd.V_nil _ _ _ _ _ | exact Kd.Q_nil _ _ _ _ _ | exact Kd.S_nil _ _ _ _ _⟩, ⟨by repeat (first | (with_reducible first | exact HB.out | apply below_alloc | apply pw_below_drewN | apply below_drew1))⟩⟩
    case round =>
     clear H'
     obtain ⟨x8_2, x9_2, rfl, HA, HK2, HO_8, HB⟩ := hrel
     cases gk with
     | zero => exact absurd HA.out (by simp [spec_FirstPlaces.l0])
     | succ k2 =>
      have H := HA.out
      clear HA
      simp only [spec_FirstPlaces.l0] at H
      by_cases c9 : x9_2 ≤ a2
      ·
       rw [if_pos c9] at H
       have c9b0 : decide (x9_2 ≤ a2) = true := decide_eq_true c9
       clear c9
       replace H := Option.bind_eq_some_iff.mp H
       obtain ⟨t317, A100, H⟩ := H
       replace H : (if t317 = true then (if x8_2.length < 17592186044416 then (spec_FirstPlaces.l0 k2 l0 a1 a2 (x8_2 ++ [x9_2]) (wrap64 (x9_2 + 1))) else (none)) else (spec_FirstPlaces.l0 k2 l0 a1 a2 x8_2 (wrap64 (x9_2 + 1)))) = some (r1, r2) := H
       have A10 := Aside0.mk A100
       clear A100
       by_cases c11 : t317 = true
       ·
        subst c11
        have H1 : (if x8_2.length < 17592186044416 then (spec_FirstPlaces.l0 k2 l0 a1 a2 (x8_2 ++ [x9_2]) (wrap64 (x9_2 + 1))) else (none)) = some (r1, r2) := by rw [if_pos rfl] at H; exact H
        clear H
        have H := H1
        clear H1
        by_cases c12 : x8_2.length < 17592186044416
        ·
         rw [if_pos c12] at H
         have LMc12 := Aside0.mk c12
         clear c12
         obtain ⟨y318, hy318⟩ : ∃ y_ : List Int, y_ = (x8_2 ++ [x9_2]) := ⟨_, rfl⟩
         replace H : (spec_FirstPlaces.l0 k2 l0 a1 a2 y318 (wrap64 (x9_2 + 1))) = some (r1, r2) := by first | (rw [hy318]; with_reducible exact H) | (have H2_ := (Option.bind_some _ _).symm.trans H; rw [hy318]; with_reducible exact H2_) | (have H2_ := (Option.bind_some _ _).symm.trans H; with_reducible exact H2_) | with_reducible exact H | (rw [hy318]; exact H) | exact H
         have Ny318 := Aside0.mk hy318
         clear hy318
         have H' := Aside0.mk H
         clear H
         go_wp2_with (first | ((with_reducible refine gate_callee (f := 52) rfl ?_); refine goesL_ (some 27) rfl rfl Tryz.func52 (by kernel_rfl) rfl #[.slice A0 l0.length c0, .int .i64 a1, .int .i64 x9_2] rfl (by (try simp only [List.map_toArray, List.map_cons, List.map_nil]); first | done | rfl | (simp only [List.length_drop, List.length_take]; rfl)) ?_; (with_reducible refine (spec_rePlace.calls k2 _ _ l0 a1 x9_2 true _ ?side1 ?side2 A10.out).mono ?_); (case side1 => repeat (first | exact (Kd.C_below HR0.out HB.out) | (with_reducible refine Kd.C_alloc ?_ _) | (with_reducible refine Kd.C_drewN ?_ _) | (with_reducible refine Kd.C_drew ?_))); (case side2 => exact HC0.out); rintro e w' ⟨rfl, ⟨nd, rfl⟩⟩; refine ⟨_, rfl, ?_⟩) | ((with_reducible refine gate_builtin (b := .append) (xs := #[.tmp 28, .tmp 30]) rfl ?_); at_builtin; refine Kd.R_append (Kd.int .i64) (w0 := w) w.heap.size rfl (.tmp 28) (.tmp 30) 24 3 (.int .i64 0) 8 rfl Tryz.underlying24 info3 rfl (by decide) (by omega) u8 x8_2 x9_2 [.int .i64 x9_2] (fun _ => True) (fun _ => False) rfl rfl ?aP (fun _ hk => hk.elim) ?aF ?aO ?aB ?aS ?aL ?_; (case aP => exact rfl); (case aB => exact (by repeat (first | (with_reducible first | exact HB.out | apply below_alloc | apply pw_below_drewN | apply below_drew1)))); (case aF => exact (fun _ _ => trivial)); (case aO => exact (by (with_reducible repeat (first | apply Kd.R_alloc | apply Kd.R_drewN | apply Kd.R_drew)); exact HO_8.out)); (case aS => exact (below_size (by repeat (first | (with_reducible first | exact HB.out | apply below_alloc | apply pw_below_drewN | apply below_drew1))))); (case aL => have := LMc12.out; omega); intro v319 w13 ho hb hg hat; rw [← Ny318.out] at ho; have n0_ := Aside0.mk (hb); have n1_ := Aside0.mk (ho); clear HB; clear HO_8; have HB := n0_; have HO320 := n1_; clear n0_ n1_; clear ho hb hg hat))
         go_roundg k2
         case measure => have := HJ3.out; have := HK2.out; omega
         case rel => exact ⟨(y318), (wrap64 (x9_2 + 1)), (by first | rfl | (simp; done) | (simp [*]; done)), H', ⟨by have := HJ3.out; have := HK2.out; omega⟩, ⟨by (with_reducible repeat (first | apply Kd.R_alloc | apply Kd.R_drewN | apply Kd.R_drew)); exact HO320.out⟩, ⟨by repeat (first | (with_reducible first | exact HB.out | apply below_alloc | apply pw_below_drewN | apply below_drew1))⟩⟩
        ·
         rw [if_neg c12] at H
         exact absurd H (by simp)
       ·
        replace c11 := Bool.eq_false_iff.mpr c11
        subst c11
        have H1 : (spec_FirstPlaces.l0 k2 l0 a1 a2 x8_2 (wrap64 (x9_2 + 1))) = some (r1, r2) := by rw [if_neg (show ¬ (false = true) by decide)] at H; exact H
        clear H
        have H := H1
        clear H1
        have H' := Aside0.mk H
        clear H
        go_wp2_with (first | ((with_reducible refine gate_callee (f := 52) rfl ?_); refine goesL_ (some 27) rfl rfl Tryz.func52 (by kernel_rfl) rfl #[.slice A0 l0.length c0, .int .i64 a1, .int .i64 x9_2] rfl (by (try simp only [List.map_toArray, List.map_cons, List.map_nil]); first | done | rfl | (simp only [List.length_drop, List.length_take]; rfl)) ?_; (with_reducible refine (spec_rePlace.calls k2 _ _ l0 a1 x9_2 false _ ?side1 ?side2 A10.out).mono ?_); (case side1 => repeat (first | exact (Kd.C_below HR0.out HB.out) | (with_reducible refine Kd.C_alloc ?_ _) | (with_reducible refine Kd.C_drewN ?_ _) | (with_reducible refine Kd.C_drew ?_))); (case side2 => exact HC0.out); rintro e w' ⟨rfl, ⟨nd, rfl⟩⟩; refine ⟨_, rfl, ?_⟩))
        go_roundg k2
        case measure => have := HJ3.out; have := HK2.out; omega
        case rel => exact ⟨(x8_2), (wrap64 (x9_2 + 1)), (by first | rfl | (simp; done) | (simp [*]; done)), H', ⟨by have := HJ3.out; have := HK2.out; omega⟩, ⟨by (with_reducible repeat (first | apply Kd.R_alloc | apply Kd.R_drewN | apply Kd.R_drew)); exact HO_8.out⟩, ⟨by repeat (first | (with_reducible first | exact HB.out | apply below_alloc | apply pw_below_drewN | apply below_drew1))⟩⟩
      ·
       rw [if_neg c9] at H
       have c9b0 : decide (x9_2 ≤ a2) = false := decide_eq_false c9
       clear c9
       simp only [Option.some.injEq, Prod.mk.injEq] at H
       obtain ⟨rfl, rfl⟩ := H
       go_wp2
       go_ret2
       exact ⟨_, by first | rfl | (simp [errW_none, errW_some] <;> rfl) | (simp [*, errW_none, errW_some] <;> rfl), by (with_reducible repeat (first | apply Kd.R_alloc | apply Kd.R_drewN | apply Kd.R_drew)); exact HO_8.out, by repeat (first | (with_reducible first | exact HB.out | apply below_alloc | apply pw_below_drewN | apply below_drew1))⟩

/-! ### spec_DrawPrimePlaces: function 18 (its contract is proved by hand) -/
def spec_DrawPrimePlaces.f (k : Nat) (l0 : List Int) : Option (List Int × Int) := (spec_l1Cur_pattern.f k l0 0 0).bind fun bt1 => (spec_l1Cur_upTo.f l0 bt1.2.1 bt1.2.2 ).bind fun bt2 => some (bt1.1, bt2.1)
theorem spec_DrawPrimePlaces.mono : ∀ a0 k, LeO (spec_DrawPrimePlaces.f k a0) (spec_DrawPrimePlaces.f (k + 1) a0) := by
  intro a0 k
  unfold spec_DrawPrimePlaces.f
  exact LeO.bind (spec_l1Cur_pattern.mono _ _ _ _) fun _ => LeO.refl _
set_option maxHeartbeats 8000000 in
set_option maxRecDepth 100000 in
theorem spec_DrawPrimePlaces.calls (k : Nat) (A0 : Option Addr) (c0 : Nat) (l0 : List Int) (r1 : List Int) (r2 : Int) (w : World) (hr0 : Kd.C (Kd.int .u8) w A0 l0.length l0) (hc0 : l0.length ≤ c0) (h : spec_DrawPrimePlaces.f k l0 = some (r1, r2)) :
    Calls Tryz.prog 18 #[.slice A0 l0.length c0] w fun e w' => ∃ v0_ : Value, e = .returned (.tuple #[v0_, .int .i64 r2]) ∧ Kd.R (Kd.int .i64) 3 w' w.heap.size (fun _ => True) v0_ r1 ∧ Below w.heap.size w w' := by
  have HR0 := Aside0.mk hr0
  have HB := Aside0.mk (Below.refl w.heap.size w)
  clear hr0 hc0
  unfold spec_DrawPrimePlaces.f at h
  obtain ⟨⟨p1, q1, s1⟩, a_, h⟩ := Option.bind_eq_some_iff.mp h
  have A1 := Aside0.mk a_
  clear a_
  obtain ⟨⟨p2, q2, s2⟩, a_, h⟩ := Option.bind_eq_some_iff.mp h
  have A2 := Aside0.mk a_
  clear a_
  simp only [Option.some.injEq, Prod.mk.injEq] at h
  obtain ⟨rfl, rfl⟩ := h
  go_enter Tryz.func18, Tryz.ntmps18
  go_wp2_with (first | ((with_reducible refine gate_dst (N := 7) rfl ?_); refine box_event ?hg (N := 7) ?hd (cs := #[.slice A0 l0.length c0, .int .i64 0, .int .u64 0]) (t := 53) ?hr ?_; (case hd => rfl); (case hg => rfl); (case hr => first | (go_simp; done) | (go_simp; rfl)); intro gb hg wb hbox hb; have n0_ := Aside0.mk (below_step HB.out hb); have HI0 := Aside0.mk (show IsS53 w wb gb l0 0 0 from ⟨A0, c0, hbox, (by rw [hg]; exact HB.out.size), HR0.out⟩); clear HB; have HB := n0_; clear n0_ hb hbox hg) | ((with_reducible refine gate_callee (f := 32) rfl ?_); refine goesL_ (some 9) rfl rfl Tryz.func32 (by kernel_rfl) rfl #[.pointer (some ⟨gb, 0, none⟩)] rfl (by (try simp only [List.map_toArray, List.map_cons, List.map_nil]); first | done | rfl) ?_; (with_reducible refine (spec_l1Cur_pattern.calls k gb l0 0 0 _ q1 s1 w _ ?side1 ?side2 A1.out).mono ?_); (case side1 => repeat (first | (with_reducible first | exact HI0.out | apply IsS53.alloc | apply IsS53.drewN | apply IsS53.drew) | exact HI0.out)); (case side2 => repeat (first | (with_reducible first | exact HB.out | apply below_alloc | apply pw_below_drewN | apply below_drew1) | exact HB.out)); rintro e w71 ⟨v1_, rfl, ho, hi, hb, hk⟩; refine ⟨_, rfl, ?_⟩; have n0_ := Aside0.mk (Kd.R_lower (Kd.R_mono (ok' := fun k_ => k_ ≠ gb) (Kd.R_bound ho) (fun k_ hk_ => by have h1_ := hk_.2.1; have h2_ := IsS53.lt (show IsS53 w _ gb l0 0 0 from (by repeat (first | (with_reducible first | exact HI0.out | apply IsS53.alloc | apply IsS53.drewN | apply IsS53.drew) | exact HI0.out))); omega)) (below_size (by repeat (first | (with_reducible first | exact HB.out | apply below_alloc | apply pw_below_drewN | apply below_drew1) | exact HB.out)))); clear HB HI0; have HR1 := n0_; have HB := Aside0.mk hb; have HI0 := Aside0.mk hi; clear n0_ ho hi hb hk) | ((with_reducible refine gate_callee (f := 50) rfl ?_); refine goesL_ (some 11) rfl rfl Tryz.func50 (by kernel_rfl) rfl #[.pointer (some ⟨gb, 0, none⟩)] rfl (by (try simp only [List.map_toArray, List.map_cons, List.map_nil]); first | done | rfl) ?_; (with_reducible refine (spec_l1Cur_upTo.calls gb l0 q1 s1  p2 q2 s2 w _ ?side1 ?side2 A2.out).mono ?_); (case side1 => repeat (first | (with_reducible first | exact HI0.out | apply IsS53.alloc | apply IsS53.drewN | apply IsS53.drew) | exact HI0.out)); (case side2 => repeat (first | (with_reducible first | exact HB.out | apply below_alloc | apply pw_below_drewN | apply below_drew1) | exact HB.out)); rintro e w72 ⟨rfl, hi, hb, hk⟩; refine ⟨_, rfl, ?_⟩; have nx_ := Aside0.mk (Kd.R_keep (by (with_reducible repeat (first | apply Kd.R_alloc | apply Kd.R_drewN | apply Kd.R_drew)); exact HR1.out) hk (fun _ h_ => h_)); clear HR1; have HR1 := nx_; clear nx_; clear HB HI0; have HB := Aside0.mk hb; have HI0 := Aside0.mk hi; clear hi hb hk))
  go_ret2
  exact ⟨_, rfl, by (with_reducible repeat (first | apply Kd.R_alloc | apply Kd.R_drewN | apply Kd.R_drew)); exact Kd.R_mono HR1.out (fun _ _ => trivial), by repeat (first | (with_reducible first | exact HB.out | apply below_alloc | apply pw_below_drewN | apply below_drew1) | exact HB.out)⟩

/-! ### slices_DeleteFunc_int_int: function 53 (its contract is proved by hand) -/
/-- What is kept, each element asked once. -/
def delKeep (q : Int → Option Bool) : List Int → Option (List Int)
  | [] => some []
  | x :: l => (q x).bind fun b => (delKeep q l).bind fun r => some (if b = true then r else x :: r)
theorem delKeep_mono {q q' : Int → Option Bool} (h : ∀ x, LeO (q x) (q' x)) : ∀ l, LeO (delKeep q l) (delKeep q' l)
  | [] => LeO.refl _
  | x :: l => LeO.bind (h x) (fun _ => LeO.bind (delKeep_mono h l) (fun _ => LeO.refl _))
theorem delKeep_some {q : Int → Option Bool} : ∀ {l r : List Int}, delKeep q l = some r → (∀ x ∈ l, q x = some ((q x).getD false)) ∧ r = l.filter (fun x => !(q x).getD false)
  | [], r, h => by simp only [delKeep, Option.some.injEq] at h; subst h; simp
  | x :: l, r, h => by
    obtain ⟨b, hb, h⟩ := Option.bind_eq_some_iff.mp h
    obtain ⟨r', hr, h⟩ := Option.bind_eq_some_iff.mp h
    obtain ⟨h1, h2⟩ := delKeep_some hr
    have hx : (q x).getD false = b := by rw [hb]; rfl
    refine ⟨fun y hy => ?_, ?_⟩
    · rcases List.mem_cons.1 hy with rfl | hy
      · rw [hx]; exact hb
      · exact h1 y hy
    · injection h with h
      rw [← h, List.filter_cons, hx, h2]
      cases b <;> simp
/-- Where the first element is of which p holds, or -1. -/
def idxOf (p : Int → Bool) (l : List Int) : Int := if l.findIdx p < l.length then (l.findIdx p : Int) else -1
theorem rd_nat (l : List Int) (j : Nat) (hj : j < l.length) : rd l (j : Int) = l[j] := by unfold rd; simp [hj]
set_option maxHeartbeats 2000000 in
set_option maxRecDepth 100000 in
theorem idx_calls (p : Int → Bool) (g : Nat) (A0 : Option Addr) (c0 : Nat) (l0 : List Int) (w : World) (hlen : l0.length ≤ 9223372036854775807)
    (hp : ∀ (x : Int) (W : World), x ∈ l0 → Calls Tryz.prog g #[.int .i64 x] W fun e w' => e = .returned (.bool (p x)) ∧ Below W.heap.size W w')
    (eg : ∀ args w, (callFunc g args).run Tryz.prog w = .ok (.enter g args) w)
    (hr0 : Kd.C (Kd.int .i64) w A0 l0.length l0) :
    Calls Tryz.prog 83 #[.slice A0 l0.length c0, .func (.func g) #[] #[]] w fun e w' => e = .returned (.int .i64 (idxOf p l0)) ∧ Below w.heap.size w w' := by
  have HR0 := Aside0.mk hr0
  have HP := Aside0.mk hp
  clear hr0 hp
  go_enter Tryz.func83, Tryz.ntmps83
  go_wp2
  go_loopg [5, 8] l0.length (fun gg v5 v8 wr => ∃ kk : Nat, kk ≤ l0.length ∧ l0.length - kk ≤ gg ∧ v8 = .int .i64 kk ∧ Aside0 (Below w.heap.size w wr) ∧ Aside0 (∀ j, (hj : j < l0.length) → j < kk → p l0[j] = false))
  case atStart => exact ⟨0, by omega, by omega, rfl, ⟨Below.refl _ w⟩, ⟨fun j _ hj => absurd hj (Nat.not_lt_zero _)⟩⟩
  case round =>
    obtain ⟨kk, hkk, hgg, rfl, HB, HN⟩ := hrel
    by_cases hlt : kk < l0.length
    · have hltz : (kk : Int) < (l0.length : Int) := by omega
      have c1 : decide ((kk : Int) < (l0.length : Int)) = true := decide_eq_true hltz
      obtain ⟨ad, e1, hx⟩ := Kd.at_int (Kd.C_below HR0.out HB.out) (kk : Int) (by omega) hltz
      cases e1
      rw [rd_nat l0 kk hlt, Int.toNat_natCast] at hx
      have hcall := HP.out l0[kk] wr (List.getElem_mem hlt)
      cases hq : p l0[kk] with
      | true =>
        rw [hq] at hcall
        have HC := Aside0.mk hcall
        have HQ := Aside0.mk hq
        clear hcall hq
        generalize hy : l0[kk] = y at hx HC
        have HY := Aside0.mk hy
        clear hy
        go_wp2_with fail
        refine HC.out.mono ?_
        rintro e w' ⟨rfl, hb'⟩
        have HB2 := Aside0.mk (below_step HB.out hb')
        clear hb'
        go_wp2
        go_ret
        refine ⟨?_, HB2.out⟩
        have : l0.findIdx p = kk := by
          rw [List.findIdx_eq hlt]
          exact ⟨HQ.out, fun j hj => HN.out j (by omega) hj⟩
        unfold idxOf
        rw [this, if_pos hlt]
        rfl
      | false =>
        rw [hq] at hcall
        have HC := Aside0.mk hcall
        have HQ := Aside0.mk hq
        clear hcall hq
        generalize hy : l0[kk] = y at hx HC
        have HY := Aside0.mk hy
        clear hy
        go_wp2_with fail
        refine HC.out.mono ?_
        rintro e w' ⟨rfl, hb'⟩
        have HB2 := Aside0.mk (below_step HB.out hb')
        clear hb'
        go_wp2
        go_roundg (l0.length - (kk + 1))
        case measure => omega
        case rel =>
          refine ⟨kk + 1, by omega, by omega, by go_num, ⟨HB2.out⟩, ⟨fun j hj hjk => ?_⟩⟩
          by_cases he : j = kk
          · subst he; exact HQ.out
          · exact HN.out j hj (by omega)
    · have hltz : ¬ (kk : Int) < (l0.length : Int) := by omega
      have c1 : decide ((kk : Int) < (l0.length : Int)) = false := decide_eq_false hltz
      have hk : kk = l0.length := by omega
      have HK := Aside0.mk hk
      clear hk
      go_wp2
      go_ret
      refine ⟨?_, HB.out⟩
      have : ¬ l0.findIdx p < l0.length := by
        intro hc
        have := List.findIdx_getElem (w := hc)
        rw [HN.out _ hc (by rw [HK.out]; exact hc)] at this
        cases this
      unfold idxOf
      rw [if_neg this]
      rfl
theorem fill_zero {v0 : Value} {g cap n base : Nat} {P : Nat → Prop} : ∀ (m o : Nat) (W : World) (xs : List Int), Kd.R (Kd.int .i64) 3 W base P (.slice (some ⟨g, 0, none⟩) n cap) xs →
    ∃ ys, Kd.R (Kd.int .i64) 3 (W.setCells g o (List.replicate m (.int .i64 0))) base P (.slice (some ⟨g, 0, none⟩) n cap) ys ∧ ys.take o = xs.take o ∧ ys.length = xs.length
  | 0, o, W, xs, h => ⟨xs, h, rfl, rfl⟩
  | m + 1, o, W, xs, h => by
    have h1 := Kd.R_putn h (o : Int) (0 : Int)
    rw [Int.toNat_natCast] at h1
    obtain ⟨ys, h2, h3, h4⟩ := fill_zero (v0 := v0) m (o + 1) _ _ h1
    refine ⟨ys, h2, ?_, by rw [h4, List.length_set]⟩
    have h5 : (ys.take (o + 1)).take o = ((xs.set o 0).take (o + 1)).take o := by rw [h3]
    rw [List.take_take, List.take_take, Nat.min_eq_left (by omega)] at h5
    rw [h5, List.take_set_of_le (by omega)]
theorem take_set_snoc (l : List Int) (i : Nat) (x : Int) (h : i < l.length) : (l.set i x).take (i + 1) = l.take i ++ [x] := by
  rw [List.take_succ_eq_append_getElem (by simpa using h), List.take_set_of_le (by omega)]
  simp
set_option maxHeartbeats 4000000 in
set_option maxRecDepth 100000 in
theorem del_calls (p : Int → Bool) (g : Nat) (P0 : Nat → Prop) (v : Value) (l0 : List Int) (w0 w : World) (hlen : l0.length ≤ 9223372036854775807)
    (hp : ∀ (x : Int) (W : World), x ∈ l0 → Calls Tryz.prog g #[.int .i64 x] W fun e w' => e = .returned (.bool (p x)) ∧ Below W.heap.size W w')
    (eg : ∀ args w, (callFunc g args).run Tryz.prog w = .ok (.enter g args) w)
    (hB : Below w0.heap.size w0 w) (ho : Kd.R (Kd.int .i64) 3 w w0.heap.size P0 v l0) :
    Calls Tryz.prog 53 #[v, .func (.func g) #[] #[]] w fun e w' => ∃ v', e = .returned v' ∧ Kd.R (Kd.int .i64) 3 w' w0.heap.size P0 v' (l0.filter (fun x => !p x)) ∧ Below w0.heap.size w0 w' := by
  obtain ⟨A, c, rfl⟩ := Kd.R_slice ho
  have HO := Aside0.mk ho
  have HB := Aside0.mk hB
  have HI := Aside0.mk (idx_calls p g A c l0 w hlen hp eg (Kd.R_reads' ho).2.2)
  have HP := Aside0.mk hp
  clear ho hB hp
  by_cases hnone : l0.findIdx p < l0.length
  · obtain ⟨k0, hk0⟩ : ∃ k0, k0 = l0.findIdx p := ⟨_, rfl⟩
    have hidx : idxOf p l0 = (k0 : Int) := by unfold idxOf; rw [if_pos hnone, hk0]
    have hk : k0 < l0.length := by omega
    have hpk : p l0[k0] = true := by subst hk0; exact List.findIdx_getElem (w := hnone)
    have hpj : ∀ j, (hj : j < l0.length) → j < k0 → p l0[j] = false := fun j hj hjk => by
      subst hk0
      simpa using List.not_of_lt_findIdx hjk
    rw [hidx] at HI
    have HF := Aside0.mk (And.intro hpk hpj)
    clear hk0 hidx hnone hpk hpj
    obtain ⟨gg0, cc0, ev, gb, gl, cl, hcl⟩ := Kd.R_form HO.out (by omega)
    injection ev with e1 e2 e3
    subst e1 e3
    clear e2
    have HG := Aside0.mk (And.intro gb (And.intro gl hcl))
    clear gb gl hcl
    have hcap := (Kd.R_reads' HO.out).2.1
    have hne1 : ((k0 : Int) == -1) = false := beq_eq_false_iff_ne.2 (by omega)
    go_enter Tryz.func53, Tryz.ntmps53
    go_wp2_with fail
    refine HI.out.mono ?_
    rintro e w1 ⟨rfl, hb1⟩
    have HO1 := Aside0.mk (Kd.R_below HO.out hb1)
    have HB1 := Aside0.mk (below_step HB.out hb1)
    clear HO HB HI hb1
    go_wp2
    go_loopg [5, 6, 7] l0.length (fun gg v5 v6 v7 wr => ∃ (i j : Nat) (dk : List Int), v5 = .int .i64 i ∧ v6 = .int .i64 j ∧ j ≤ l0.length ∧ i < j ∧ l0.length - j ≤ gg ∧ Aside0 (Kd.R (Kd.int .i64) 3 wr w0.heap.size P0 (.slice (some ⟨gg0, 0, none⟩) l0.length c) dk) ∧ Aside0 (Below w0.heap.size w0 wr) ∧ Aside0 (dk.length = l0.length ∧ dk.take i = (l0.take j).filter (fun x => !p x) ∧ dk.drop j = l0.drop j))
    case atStart =>
      refine ⟨k0, k0 + 1, l0, rfl, by go_num, by omega, by omega, by omega, HO1, HB1, ⟨rfl, ?_, rfl⟩⟩
      have : l0.take (k0 + 1) = l0.take k0 ++ [l0[k0]] := List.take_succ_eq_append_getElem hk
      rw [this, List.filter_append, List.filter_cons, HF.out.1]
      simp only [Bool.not_true, Bool.false_eq_true, if_false, List.filter_nil, List.append_nil]
      symm
      rw [List.filter_eq_self]
      intro x hx
      obtain ⟨j, hj, rfl⟩ := List.getElem_of_mem hx
      rw [List.length_take] at hj
      rw [List.getElem_take, HF.out.2 j (by omega) (by omega)]; rfl
    case round =>
      obtain ⟨i, j, dk, rfl, rfl, hj, hij, hgg, HR, HBr, HD⟩ := hrel
      by_cases hlt : j < l0.length
      · have hltz : (j : Int) < (l0.length : Int) := by omega
        have c1 : decide ((j : Int) < (l0.length : Int)) = true := decide_eq_true hltz
        have hdl := HD.out.1
        have hgetj : dk[j]'(by omega) = l0[j] := by
          have h1 : (dk.drop j)[0]'(by rw [List.length_drop]; omega) = (l0.drop j)[0]'(by rw [List.length_drop]; omega) := by simp only [HD.out.2.2]
          simpa using h1
        obtain ⟨hx, hfz⟩ := Kd.R_celln 0 HR.out (j : Int) (by omega) (by omega)
        have hrdj : rdOf 0 dk (j : Int) = l0[j] := by
          unfold rdOf; rw [Int.toNat_natCast, List.getD_eq_getElem?_getD, List.getElem?_eq_getElem (by omega)]; exact hgetj
        rw [hrdj, Int.toNat_natCast] at hx
        rw [Int.toNat_natCast] at hfz
        have hcall := HP.out l0[j] wr (List.getElem_mem hlt)
        have hsn : (l0.take (j + 1)).filter (fun x => !p x) = (l0.take j).filter (fun x => !p x) ++ (if p l0[j] = true then [] else [l0[j]]) := by
          rw [List.take_succ_eq_append_getElem hlt, List.filter_append, List.filter_cons]
          cases p l0[j] <;> simp
        have hdrop : l0.drop (j + 1) = (l0.drop j).drop 1 := by rw [List.drop_drop]
        have HS := Aside0.mk (And.intro hsn hdrop)
        have HJ := Aside0.mk (And.intro hdl hrdj)
        clear hsn hdrop hdl hrdj hgetj
        cases hq : p l0[j] with
        | true =>
          rw [hq] at hcall
          have HC := Aside0.mk hcall
          have HQ := Aside0.mk hq
          clear hcall hq
          generalize hy : l0[j] = y at hx HC HQ
          have HY := Aside0.mk hy
          clear hy
          go_wp2_with fail
          refine HC.out.mono ?_
          rintro e w2 ⟨rfl, hb2⟩
          have HR2 := Aside0.mk (Kd.R_below HR.out hb2)
          have HB2 := Aside0.mk (below_step HBr.out hb2)
          clear hb2 HR HBr
          go_wp2
          go_roundg (l0.length - (j + 1))
          case measure => omega
          case rel =>
            refine ⟨i, j + 1, dk, rfl, by go_num, by omega, by omega, by omega, HR2, HB2, ⟨HD.out.1, ?_, ?_⟩⟩
            · rw [HS.out.1, HY.out, HQ.out]; simpa using HD.out.2.1
            · rw [HS.out.2, ← HD.out.2.2, List.drop_drop]
        | false =>
          rw [hq] at hcall
          have HC := Aside0.mk hcall
          have HQ := Aside0.mk hq
          clear hcall hq
          generalize hy : l0[j] = y at hx HC HQ
          have HY := Aside0.mk hy
          clear hy
          go_wp2_with fail
          refine HC.out.mono ?_
          rintro e w2 ⟨rfl, hb2⟩
          have HR2 := Aside0.mk (Kd.R_below HR.out hb2)
          have HB2 := Aside0.mk (below_step HBr.out hb2)
          clear hb2 HR HBr
          obtain ⟨hx2, hf2⟩ := Kd.R_celln 0 HR2.out (i : Int) (by omega) (by omega)
          rw [Int.toNat_natCast] at hx2 hf2
          have HP2 := Kd.R_putg HR2.out (i : Int) y
          rw [Int.toNat_natCast] at HP2
          have HP3 := Aside0.mk HP2
          clear HP2 hx hfz
          have hiz : (i : Int) < (l0.length : Int) := by omega
          go_wp2
          go_roundg (l0.length - (j + 1))
          case measure => omega
          case rel =>
            refine ⟨i + 1, j + 1, dk.set i y, by go_num, by go_num, by omega, by omega, by omega, ⟨HP3.out.1⟩, ⟨below_set HB2.out HG.out.1⟩, ⟨by rw [List.length_set]; exact HD.out.1, ?_, ?_⟩⟩
            · rw [HS.out.1, HY.out, HQ.out, take_set_snoc dk i y (by have := HD.out.1; omega), HD.out.2.1]; rfl
            · rw [HS.out.2, ← HD.out.2.2, List.drop_drop, List.drop_set_of_lt (by omega)]
      · have hltz : ¬ (j : Int) < (l0.length : Int) := by omega
        have c1 : decide ((j : Int) < (l0.length : Int)) = false := decide_eq_false hltz
        obtain ⟨ys, hys, hyt, hyl⟩ := fill_zero (v0 := .bool true) (l0.length - i) i wr dk HR.out
        have HY := Aside0.mk (And.intro hys (And.intro hyt hyl))
        clear hys hyt hyl
        have hdl := Aside0.mk HD.out.1
        have hcl : ∀ ty, (Builtin.clear_ #[24] ty #[.slice (some ⟨gg0, i, none⟩) (l0.length - i) (c - i)]).run Tryz.prog wr = .ok (.tuple #[]) (wr.setCells gg0 i (List.replicate (l0.length - i) (.int .i64 0))) :=
          fun ty => Lib.run_clear_slice wr _ _ ty _ Tryz.underlying24 (fun _ => by kernel_rfl) rfl rfl gg0 i _ _ (by omega)
            (fun m hm => by
              have := (Kd.R_celln 0 HR.out ((i + m : Nat) : Int) (by omega) (by omega)).1
              rw [Int.toNat_natCast] at this; rw [this]; rfl)
            (fun m hm => by
              have := (Kd.R_celln 0 HR.out ((i + m : Nat) : Int) (by omega) (by omega)).2
              rw [Int.toNat_natCast] at this; exact this)
        go_wp2
        go_ret
        refine ⟨_, rfl, ?_, HBr.out.trans (Lib.below_setCells_w HG.out.1 _ _ _)⟩
        have ht := Kd.R_take HY.out.1 (m := i) (by rw [HY.out.2.2, hdl.out]; omega)
        rw [HY.out.2.1, HD.out.2.1, List.take_of_length_le (by omega)] at ht
        exact ht
  · have hidx : idxOf p l0 = -1 := by unfold idxOf; rw [if_neg hnone]
    rw [hidx] at HI
    have hall : l0.filter (fun x => !p x) = l0 := by
      rw [List.filter_eq_self]
      intro x hx
      have : l0.findIdx p = l0.length := by have := List.findIdx_le_length (xs := l0) (p := p); omega
      have h2 := List.findIdx_eq_length.1 this x hx
      rw [h2]; rfl
    have HA := Aside0.mk hall
    clear hidx hnone hall
    go_enter Tryz.func53, Tryz.ntmps53
    go_wp2_with fail
    refine HI.out.mono ?_
    rintro e w1 ⟨rfl, hb1⟩
    have HO1 := Aside0.mk (Kd.R_below HO.out hb1)
    have HB1 := Aside0.mk (below_step HB.out hb1)
    clear HO HB HI hb1
    go_wp2
    go_ret
    exact ⟨_, rfl, by rw [HA.out]; exact HO1.out, HB1.out⟩
theorem row_len {w : World} {base : Nat} {P : Nat → Prop} {v : Value} {xs : List Int} (h : Kd.R (Kd.int .i64) 3 w base P v xs) : xs.length ≤ 9223372036854775807 := by
  obtain ⟨inner, ho⟩ := Kd.R_own h
  rcases ho.2 with ⟨_, h0⟩ | ⟨g, cap, cur, _, _, _, h1, h2, _⟩
  · omega
  · unfold maxLen at h2; omega

/-! ### impl_upTo: function 54 -/
def impl_upTo.l0 : Nat → Int → Int → List Int → Int → Option (List Int)
 | 0, _, _, _, _ => none
 | k + 1, x1, x2, x7, x8 => if x8 ≤ x1 then (if x7.length < 17592186044416 then (impl_upTo.l0 k x1 x2 (x7 ++ [x8]) (wrap64 (x8 + x2))) else (none)) else (some x7)
def impl_upTo.f (k : Nat) (a0 : Int) (a1 : Int) (a2 : Int) : Option (List Int) := impl_upTo.l0 k a1 a2 (([] : List Int)) a0
theorem impl_upTo.mono_l : ∀ k, (∀ y0 y1 y2 y3, LeO (impl_upTo.l0 k y0 y1 y2 y3) (impl_upTo.l0 (k + 1) y0 y1 y2 y3))
 | 0 => fun _ _ _ _ r h => by simp [impl_upTo.l0] at h
 | k + 1 => by
  have ih0 := impl_upTo.mono_l k
  ·
   intro y0 y1 y2 y3
   unfold impl_upTo.l0
   repeat' first
   | (with_reducible first | exact ih0 _ _ _ _ | exact LeO.refl _ | exact LeO.none _ | refine LeO.ite ?_ ?_ | refine LeO.bind ?_ (fun _ => ?_))
theorem impl_upTo.mono : ∀ a0 a1 a2 k, LeO (impl_upTo.f k a0 a1 a2) (impl_upTo.f (k + 1) a0 a1 a2) := by
 intro a0 a1 a2 k
 have ih0 := impl_upTo.mono_l k
 unfold impl_upTo.f
 repeat' first
   | (with_reducible first | exact ih0 _ _ _ _ | exact LeO.refl _ | exact LeO.none _ | refine LeO.ite ?_ ?_ | refine LeO.bind ?_ (fun _ => ?_))
set_option maxHeartbeats 200000000 in
set_option maxRecDepth 100000 in
theorem impl_upTo.calls (k : Nat) (a0 : Int) (a1 : Int) (a2 : Int) (r : List Int) (w : World) (h : impl_upTo.f k a0 a1 a2 = some r) :
  Calls Tryz.prog 54 #[.int .i64 a0, .int .i64 a1, .int .i64 a2] w fun e w' => ∃ v0_ : Value, e = .returned (v0_) ∧ Kd.R (Kd.int .i64) 3 w' w.heap.size (fun _ => True) v0_ r ∧ Below w.heap.size w w' := by
 have HB := Aside0.mk (Below.refl w.heap.size w)
 have H : (impl_upTo.l0 k a1 a2 (([] : List Int)) a0) = some r := h
 clear h
 obtain ⟨y321, hy321⟩ : ∃ y_ : List Int, y_ = (([] : List Int)) := ⟨_, rfl⟩
 replace H : (impl_upTo.l0 k a1 a2 y321 a0) = some r := by first | (rw [hy321]; with_reducible exact H) | (have H2_ := (Option.bind_some _ _).symm.trans H; rw [hy321]; with_reducible exact H2_) | (have H2_ := (Option.bind_some _ _).symm.trans H; with_reducible exact H2_) | with_reducible exact H | (rw [hy321]; exact H) | exact H
 have Ny321 := Aside0.mk hy321
 clear hy321
 have H' := Aside0.mk H
 clear H
 go_enter Tryz.func54, Tryz.ntmps54
 go_wp2_with (first | ((with_reducible refine gate_dst (N := 9) rfl ?_); refine Kd.R_lit (Kd.int .i64) _ 3 ?hg (N := 9) ?hd (xs := ([] : List Int)) (inner := []) (ok := fun _ => True) (okp := fun _ => True) ?hr ?hp (fun _ hk => hk) trivial (Below.refl _ _) (Nat.le_refl _) (by simp) ?_; (case hd => rfl); (case hg => rfl); (case hr => first | (go_simp; done) | (go_simp; rfl)); (case hp => exact (Reps.none _ _)); intro v322 w4 ho5 hb hg_ hnew_; clear hg_ hnew_; (first | rw [← Ny321.out] at ho5 | (simp only [Int.reduceToNat] at ho5; rw [← Ny321.out] at ho5)); have n0_ := Aside0.mk (Kd.R_lower ho5 (below_size (by repeat (first | (with_reducible first | exact HB.out | apply below_alloc | apply pw_below_drewN | apply below_drew1))))); have n1_ := Aside0.mk (below_step (by repeat (first | (with_reducible first | exact HB.out | apply below_alloc | apply pw_below_drewN | apply below_drew1))) hb); clear HB; have HO323 := n0_; have HB := n1_; clear n0_ n1_; clear hb ho5))
 go_loopg [7, 8] k (fun kq v7 v8 w' => ∃ (x7_1 : List Int) (x8_1 : Int), v8 = .int .i64 x8_1 ∧ Aside0 (impl_upTo.l0 kq a1 a2 x7_1 x8_1 = some r) ∧ Aside0 (kq ≤ k) ∧ Aside0 (Kd.R (Kd.int .i64) 3 w' w.heap.size (fun _ => True) v7 x7_1) ∧ Aside0 (Below w.heap.size w w'))
 case atStart => exact ⟨(y321), (a0), (by first | rfl | (simp; done) | (simp [*]; done)), H', ⟨Nat.le_refl _⟩, ⟨by (with_reducible repeat (first | apply Kd.R_alloc | apply Kd.R_drewN | apply Kd.R_drew)); exact HO323.out⟩, ⟨by repeat (first | (with_reducible first | exact HB.out | apply below_alloc | apply pw_below_drewN | apply below_drew1))⟩⟩
 case round =>
  clear H'
  obtain ⟨x7_1, x8_1, rfl, HA, HK1, HO_7, HB⟩ := hrel
  cases gk with
  | zero => exact absurd HA.out (by simp [impl_upTo.l0])
  | succ k1 =>
   have H := HA.out
   clear HA
   simp only [impl_upTo.l0] at H
   by_cases c6 : x8_1 ≤ a1
   ·
    rw [if_pos c6] at H
    have c6b0 : decide (x8_1 ≤ a1) = true := decide_eq_true c6
    clear c6
    by_cases c7 : x7_1.length < 17592186044416
    ·
     rw [if_pos c7] at H
     have LMc7 := Aside0.mk c7
     clear c7
     obtain ⟨y324, hy324⟩ : ∃ y_ : List Int, y_ = (x7_1 ++ [x8_1]) := ⟨_, rfl⟩
     replace H : (impl_upTo.l0 k1 a1 a2 y324 (wrap64 (x8_1 + a2))) = some r := by first | (rw [hy324]; with_reducible exact H) | (have H2_ := (Option.bind_some _ _).symm.trans H; rw [hy324]; with_reducible exact H2_) | (have H2_ := (Option.bind_some _ _).symm.trans H; with_reducible exact H2_) | with_reducible exact H | (rw [hy324]; exact H) | exact H
     have Ny324 := Aside0.mk hy324
     clear hy324
     have H' := Aside0.mk H
     clear H
     go_wp2_with (first | ((with_reducible refine gate_builtin (b := .append) (xs := #[.tmp 17, .tmp 19]) rfl ?_); at_builtin; refine Kd.R_append (Kd.int .i64) (w0 := w) w.heap.size rfl (.tmp 17) (.tmp 19) 24 3 (.int .i64 0) 8 rfl Tryz.underlying24 info3 rfl (by decide) (by omega) u7 x7_1 x8_1 [.int .i64 x8_1] (fun _ => True) (fun _ => False) rfl rfl ?aP (fun _ hk => hk.elim) ?aF ?aO ?aB ?aS ?aL ?_; (case aP => exact rfl); (case aB => exact (by repeat (first | (with_reducible first | exact HB.out | apply below_alloc | apply pw_below_drewN | apply below_drew1)))); (case aF => exact (fun _ _ => trivial)); (case aO => exact (by (with_reducible repeat (first | apply Kd.R_alloc | apply Kd.R_drewN | apply Kd.R_drew)); exact HO_7.out)); (case aS => exact (below_size (by repeat (first | (with_reducible first | exact HB.out | apply below_alloc | apply pw_below_drewN | apply below_drew1))))); (case aL => have := LMc7.out; omega); intro v325 w8 ho hb hg hat; rw [← Ny324.out] at ho; have n0_ := Aside0.mk (hb); have n1_ := Aside0.mk (ho); clear HB; clear HO_7; have HB := n0_; have HO326 := n1_; clear n0_ n1_; clear ho hb hg hat))
     go_roundg k1
     case measure => have := HK1.out; omega
     case rel => exact ⟨(y324), (wrap64 (x8_1 + a2)), (by first | rfl | (simp; done) | (simp [*]; done)), H', ⟨by have := HK1.out; omega⟩, ⟨by (with_reducible repeat (first | apply Kd.R_alloc | apply Kd.R_drewN | apply Kd.R_drew)); exact HO326.out⟩, ⟨by repeat (first | (with_reducible first | exact HB.out | apply below_alloc | apply pw_below_drewN | apply below_drew1))⟩⟩
    ·
     rw [if_neg c7] at H
     exact absurd H (by simp)
   ·
    rw [if_neg c6] at H
    have c6b0 : decide (x8_1 ≤ a1) = false := decide_eq_false c6
    clear c6
    obtain rfl := Option.some.inj H
    go_wp2
    go_ret
    exact ⟨_, by first | rfl | (simp [errW_none, errW_some] <;> rfl) | (simp [*, errW_none, errW_some] <;> rfl), by (with_reducible repeat (first | apply Kd.R_alloc | apply Kd.R_drewN | apply Kd.R_drew)); exact HO_7.out, by repeat (first | (with_reducible first | exact HB.out | apply below_alloc | apply pw_below_drewN | apply below_drew1))⟩

/-! ### impl_leastFactor: function 84 -/
def impl_leastFactor.l0 : Nat → Int → Int → Option (Int)
 | 0, _, _ => none
 | k + 1, x0, x3 => if (wrap64 (x3 * x3)) ≤ x0 then (if x3 = 0 then (none) else (if (Int.tmod x0 x3) = 0 then (some x3) else (impl_leastFactor.l0 k x0 (wrap64 (x3 + 1))))) else (some x0)
def impl_leastFactor.f (k : Nat) (a0 : Int) : Option (Int) := impl_leastFactor.l0 k a0 2
theorem impl_leastFactor.mono_l : ∀ k, (∀ y0 y1, LeO (impl_leastFactor.l0 k y0 y1) (impl_leastFactor.l0 (k + 1) y0 y1))
 | 0 => fun _ _ r h => by simp [impl_leastFactor.l0] at h
 | k + 1 => by
  have ih0 := impl_leastFactor.mono_l k
  ·
   intro y0 y1
   unfold impl_leastFactor.l0
   repeat' first
   | (with_reducible first | exact ih0 _ _ | exact LeO.refl _ | exact LeO.none _ | refine LeO.ite ?_ ?_ | refine LeO.bind ?_ (fun _ => ?_))
theorem impl_leastFactor.mono : ∀ a0 k, LeO (impl_leastFactor.f k a0) (impl_leastFactor.f (k + 1) a0) := by
 intro a0 k
 have ih0 := impl_leastFactor.mono_l k
 unfold impl_leastFactor.f
 repeat' first
   | (with_reducible first | exact ih0 _ _ | exact LeO.refl _ | exact LeO.none _ | refine LeO.ite ?_ ?_ | refine LeO.bind ?_ (fun _ => ?_))
set_option maxHeartbeats 200000000 in
set_option maxRecDepth 100000 in
theorem impl_leastFactor.calls (k : Nat) (a0 : Int) (r : Int) (w : World) (h : impl_leastFactor.f k a0 = some r) :
  Calls Tryz.prog 84 #[.int .i64 a0] w fun e w' => e = .returned (.int .i64 r) ∧ Drawn0 w w' := by
 have H : (impl_leastFactor.l0 k a0 2) = some r := h
 clear h
 have H' := Aside0.mk H
 clear H
 go_enter Tryz.func84, Tryz.ntmps84
 go_wp2
 go_loopg [3] k (fun kq v3 w' => ∃ (x3_1 : Int), v3 = .int .i64 x3_1 ∧ Aside0 (impl_leastFactor.l0 kq a0 x3_1 = some r) ∧ Aside0 (kq ≤ k) ∧ Drawn0 w w')
 case atStart => exact ⟨(2), (by first | rfl | (simp; done) | (simp [*]; done)), H', ⟨Nat.le_refl _⟩, by repeat (first | exact Drawn0.refl _ | apply Drawn0.step)⟩
 case round =>
  clear H'
  obtain ⟨x3_1, rfl, HA, HK1, ⟨m1, rfl⟩⟩ := hrel
  cases gk with
  | zero => exact absurd HA.out (by simp [impl_leastFactor.l0])
  | succ k1 =>
   have H := HA.out
   clear HA
   simp only [impl_leastFactor.l0] at H
   by_cases c2 : (wrap64 (x3_1 * x3_1)) ≤ a0
   ·
    rw [if_pos c2] at H
    have c2b0 : decide ((wrap64 (x3_1 * x3_1)) ≤ a0) = true := decide_eq_true c2
    clear c2
    by_cases c3 : x3_1 = 0
    ·
     rw [if_pos c3] at H
     exact absurd H (by simp)
    ·
     rw [if_neg c3] at H
     have c3b0 : (x3_1 == 0) = false := beq_eq_false_iff_ne.mpr c3
     have c3b1 : (x3_1 != 0) = true := bne_iff_ne.mpr c3
     by_cases c4 : (Int.tmod a0 x3_1) = 0
     ·
      rw [if_pos c4] at H
      have c4b0 : ((Int.tmod a0 x3_1) == 0) = true := beq_iff_eq.mpr c4
      have c4b1 : ((Int.tmod a0 x3_1) != 0) = false := bne_eq_false_iff_eq.mpr c4
      clear c4
      obtain rfl := Option.some.inj H
      go_wp2
      go_ret
      exact ⟨by first | rfl | (simp; done) | (simp [*]; done), by repeat (first | exact Drawn0.refl _ | apply Drawn0.step)⟩
     ·
      rw [if_neg c4] at H
      have c4b0 : ((Int.tmod a0 x3_1) == 0) = false := beq_eq_false_iff_ne.mpr c4
      have c4b1 : ((Int.tmod a0 x3_1) != 0) = true := bne_iff_ne.mpr c4
      have H' := Aside0.mk H
      clear H
      go_wp2
      go_roundg k1
      case measure => have := HK1.out; omega
      case rel => exact ⟨(wrap64 (x3_1 + 1)), (by first | rfl | (simp; done) | (simp [*]; done)), H', ⟨by have := HK1.out; omega⟩, by repeat (first | exact Drawn0.refl _ | apply Drawn0.step)⟩
   ·
    rw [if_neg c2] at H
    have c2b0 : decide ((wrap64 (x3_1 * x3_1)) ≤ a0) = false := decide_eq_false c2
    clear c2
    obtain rfl := Option.some.inj H
    go_wp2
    go_ret
    exact ⟨by first | rfl | (simp; done) | (simp [*]; done), by repeat (first | exact Drawn0.refl _ | apply Drawn0.step)⟩

/-! ### impl_isPrime: function 58 -/
def impl_isPrime.f (k : Nat) (a0 : Int) : Option (Bool) := if a0 ≥ 2 then ((impl_leastFactor.f k a0).bind fun t327 => (some (t327 == a0))) else (some false)
theorem impl_isPrime.mono : ∀ a0 k, LeO (impl_isPrime.f k a0) (impl_isPrime.f (k + 1) a0) := by
 intro a0 k
 unfold impl_isPrime.f
 repeat' first
   | (with_reducible first | exact impl_leastFactor.mono _ _ | exact LeO.refl _ | exact LeO.none _ | refine LeO.ite ?_ ?_ | refine LeO.bind ?_ (fun _ => ?_))
set_option maxHeartbeats 200000000 in
set_option maxRecDepth 100000 in
theorem impl_isPrime.calls (k : Nat) (a0 : Int) (r : Bool) (w : World) (h : impl_isPrime.f k a0 = some r) :
  Calls Tryz.prog 58 #[.int .i64 a0] w fun e w' => e = .returned (.bool r) ∧ Drawn0 w w' := by
 have H : (if a0 ≥ 2 then ((impl_leastFactor.f k a0).bind fun t327 => (some (t327 == a0))) else (some false)) = some r := h
 clear h
 by_cases c2 : a0 ≥ 2
 ·
  rw [if_pos c2] at H
  have c2b0 : decide (2 ≤ a0) = true := decide_eq_true c2
  clear c2
  replace H := Option.bind_eq_some_iff.mp H
  obtain ⟨t327, A30, H⟩ := H
  replace H : (some (t327 == a0)) = some r := H
  have A3 := Aside0.mk A30
  clear A30
  obtain rfl := Option.some.inj H
  go_enter Tryz.func58, Tryz.ntmps58
  go_wp2_with (first | (go_at_call 84; (with_reducible refine (impl_leastFactor.calls k a0 t327 _ A3.out).mono ?_); rintro e w' ⟨rfl, ⟨nd, rfl⟩⟩))
  go_ret
  exact ⟨by first | rfl | (simp; done) | (simp [*]; done), by repeat (first | exact Drawn0.refl _ | apply Drawn0.step)⟩
 ·
  rw [if_neg c2] at H
  have c2b0 : decide (2 ≤ a0) = false := decide_eq_false c2
  clear c2
  obtain rfl := Option.some.inj H
  go_enter Tryz.func58, Tryz.ntmps58
  go_wp2
  go_ret
  exact ⟨by first | rfl | (simp; done) | (simp [*]; done), by repeat (first | exact Drawn0.refl _ | apply Drawn0.step)⟩

end Go.Proofs.YtlbhbncgfhikeaaGreat.PFnPlacesOfPatterns
