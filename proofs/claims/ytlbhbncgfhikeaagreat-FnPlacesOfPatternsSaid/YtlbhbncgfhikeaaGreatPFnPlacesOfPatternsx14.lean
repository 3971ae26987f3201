-- Written for this claim by a program of this session, out of the translation and given contracts.
import Derived.Test.YtlbhbncgfhikeaaGreatPFnPlacesOfPatternsx0
import Derived.Test.YtlbhbncgfhikeaaGreatPFnPlacesOfPatternsx2
import Derived.Test.YtlbhbncgfhikeaaGreatPFnPlacesOfPatternsx3
import Derived.Test.YtlbhbncgfhikeaaGreatPFnPlacesOfPatternsx4
import Derived.Test.YtlbhbncgfhikeaaGreatPFnPlacesOfPatternsx5
import Derived.Test.YtlbhbncgfhikeaaGreatPFnPlacesOfPatternsx6
import Derived.Test.YtlbhbncgfhikeaaGreatPFnPlacesOfPatternsx7
import Derived.Test.YtlbhbncgfhikeaaGreatPFnPlacesOfPatternsx8
import Derived.Test.YtlbhbncgfhikeaaGreatPFnPlacesOfPatternsx9
import Derived.Test.YtlbhbncgfhikeaaGreatPFnPlacesOfPatternsx10
import Derived.Test.YtlbhbncgfhikeaaGreatPFnPlacesOfPatternsx11
import Derived.Test.YtlbhbncgfhikeaaGreatPFnPlacesOfPatternsx12
import Derived.Test.YtlbhbncgfhikeaaGreatPFnPlacesOfPatternsx13
namespace Go.Proofs.YtlbhbncgfhikeaaGreat.PFnPlacesOfPatterns
open Go.RowKit Go.Proofs.YtlbhbncgfhikeaaGreatW.PrintWords Go.Proofs.YtlbhbncgfhikeaaGreatW.PrintLast Go.Proofs.YtlbhbncgfhikeaaGreatW.PrintMore
attribute [local go_sem] max2_int min2_int max_two min_two max_three min_three max_four min_four   -- for this text's walks alone
set_option linter.unusedVariables false
set_option linter.unusedSimpArgs false

/-! ### laws_FnPlacesOfPatterns: function 3 -/
mutual
def laws_FnPlacesOfPatterns.j0 : Nat → List Int → List Int → Int → Int → Bool → List (S65) → Bool → Int → Int → Bool → Option (Bool)
 | 0, _, _, _, _, _, _, _, _, _, _ => none
 | k + 1, x1, x5, x6, x7, x8, x11, x12, x15, x16, x163 => if x163 = true then (some false) else (if x8 = true then ((some (([2, 3, 5, 7, 11, 13] : List Int) : List Int)).bind fun y449 => (laws_FnPlacesOfPatterns.l0 k x1 x5 x6 x7 x11 x12 x15 x16 1 y449 (y449.length : Int) 0)) else (laws_FnPlacesOfPatterns.j5 k x1))
def laws_FnPlacesOfPatterns.j5 : Nat → List Int → Option (Bool)
 | 0, _ => none
 | k + 1, x1 => (spec_DrawFirstPlaces.f k x1).bind fun bt461 => ((impl_FirstPlaces.f k bt461.1 bt461.2.1 bt461.2.2).bind fun bt466 => ((spec_FirstPlaces.f k bt461.1 bt461.2.1 bt461.2.2).bind fun bt470 => ((spec_DrawPrimePlaces.f k x1).bind fun bt474 => ((impl_PrimePlaces.f k bt474.1 bt474.2).bind fun bt478 => ((spec_PrimePlaces.f k bt474.1 bt474.2).bind fun bt482 => (if (bt466.2 != bt470.2) = true then (laws_FnPlacesOfPatterns.j6 k x1 bt461.1 bt461.2.1 bt461.2.2 bt466.1 bt466.2 bt474.1 bt478.1 bt478.2 true) else ((laws_tSame.f k bt466.1 bt470.1).bind fun t486 => (if t486 = true then (if (bt478.2 != bt482.2) = true then (laws_FnPlacesOfPatterns.j6 k x1 bt461.1 bt461.2.1 bt461.2.2 bt466.1 bt466.2 bt474.1 bt478.1 bt478.2 true) else ((laws_tSame.f k bt478.1 bt482.1).bind fun t487 => (laws_FnPlacesOfPatterns.j6 k x1 bt461.1 bt461.2.1 bt461.2.2 bt466.1 bt466.2 bt474.1 bt478.1 bt478.2 (!t487)))) else (laws_FnPlacesOfPatterns.j6 k x1 bt461.1 bt461.2.1 bt461.2.2 bt466.1 bt466.2 bt474.1 bt478.1 bt478.2 true)))))))))
def laws_FnPlacesOfPatterns.j6 : Nat → List Int → List Int → Int → Int → List Int → Bool → List Int → List Int → Bool → Bool → Option (Bool)
 | 0, _, _, _, _, _, _, _, _, _, _ => none
 | k + 1, x1, x30, x31, x32, x33, x34, x37, x39, x40, x299 => if x299 = true then (some false) else (if x34 = true then ((laws_tRises.f k x33 1 x32).bind fun t488 => (if t488 = true then ((impl_RulesOfPattern.f k x30 x31).bind fun bt489 => (if bt489.2 = true then ((impl_LeftUpTo.f k bt489.1 x32).bind fun bt493 => (if bt493.2 = true then ((laws_tSame.f k bt493.1 x33).bind fun t497 => (if t497 = true then (laws_FnPlacesOfPatterns.j7 k x1 x37 x39 x40) else (some false))) else (some false))) else (laws_FnPlacesOfPatterns.j7 k x1 x37 x39 x40))) else (some false))) else (laws_FnPlacesOfPatterns.j7 k x1 x37 x39 x40))
def laws_FnPlacesOfPatterns.j7 : Nat → List Int → List Int → List Int → Bool → Option (Bool)
 | 0, _, _, _, _ => none
 | k + 1, x1, x37, x39, x40 => if x40 = true then (laws_FnPlacesOfPatterns.l1 k x1 x37 x39 x39 (x39.length : Int) 0) else (laws_FnPlacesOfPatterns.j10 k x1)
def laws_FnPlacesOfPatterns.j10 : Nat → List Int → Option (Bool)
 | 0, _ => none
 | k + 1, x1 => (spec_DrawNumberWithRests.f k x1).bind fun bt503 => ((impl_NumberWithRests.f k bt503.1 bt503.2).bind fun bt509 => ((spec_NumberWithRests.f k bt503.1 bt503.2).bind fun bt511 => ((spec_DrawRestsOfNumber.f k x1).bind fun bt513 => ((impl_RestsOfNumber.f k bt513.1 bt513.2).bind fun bt517 => ((spec_RestsOfNumber.f k bt513.1 bt513.2).bind fun bt521 => (if (bt509.2 != bt511.2) = true then (laws_FnPlacesOfPatterns.j11 k bt503.1 bt503.2 bt509.1 bt509.2 bt513.1 bt513.2 bt517.1 bt517.2 true) else (if bt509.1 = bt511.1 then (if (bt517.2 != bt521.2) = true then (laws_FnPlacesOfPatterns.j11 k bt503.1 bt503.2 bt509.1 bt509.2 bt513.1 bt513.2 bt517.1 bt517.2 true) else ((laws_tSame.f k bt517.1 bt521.1).bind fun t525 => (laws_FnPlacesOfPatterns.j11 k bt503.1 bt503.2 bt509.1 bt509.2 bt513.1 bt513.2 bt517.1 bt517.2 (!t525)))) else (laws_FnPlacesOfPatterns.j11 k bt503.1 bt503.2 bt509.1 bt509.2 bt513.1 bt513.2 bt517.1 bt517.2 true))))))))
def laws_FnPlacesOfPatterns.j11 : Nat → List Int → List Int → Int → Bool → List Int → Int → List Int → Bool → Bool → Option (Bool)
 | 0, _, _, _, _, _, _, _, _, _ => none
 | k + 1, x53, x54, x55, x56, x59, x60, x61, x62, x416 => if x416 = true then (some false) else (if x56 = true then ((impl_RestsOfNumber.f k x53 x55).bind fun bt526 => (if bt526.2 = true then ((laws_tSame.f k bt526.1 x54).bind fun t530 => (if t530 = true then (laws_FnPlacesOfPatterns.j12 k x59 x60 x61 x62) else (some false))) else (some false))) else (laws_FnPlacesOfPatterns.j12 k x59 x60 x61 x62))
def laws_FnPlacesOfPatterns.j12 : Nat → List Int → Int → List Int → Bool → Option (Bool)
 | 0, _, _, _, _ => none
 | k + 1, x59, x60, x61, x62 => if x62 = true then ((impl_NumberWithRests.f k x59 x61).bind fun bt531 => (laws_FnPlacesOfPatterns.l3 k x60 bt531.1 bt531.2 1 x59 (x59.length : Int) 0)) else (some true)
def laws_FnPlacesOfPatterns.l3 : Nat → Int → Int → Bool → Int → List Int → Int → Int → Option (Bool)
 | 0, _, _, _, _, _, _, _ => none
 | k + 1, x60, x67, x68, x69, x439, x440, x441 => if x441 < x440 then (if 0 ≤ x441 then (if x441 < (x439.length : Int) then (laws_FnPlacesOfPatterns.l3 k x60 x67 x68 (wrap64 (x69 * (rd x439 x441))) x439 x440 (wrap64 (x441 + 1))) else (none)) else (none)) else (if x68 = true then (if x69 = 0 then (none) else (some (x67 == (Int.tmod x60 x69)))) else (some false))
def laws_FnPlacesOfPatterns.l1 : Nat → List Int → List Int → List Int → List Int → Int → Int → Option (Bool)
 | 0, _, _, _, _, _, _ => none
 | k + 1, x1, x37, x39, x327, x328, x329 => if x329 < x328 then (if 0 ≤ x329 then (if x329 < (x327.length : Int) then (laws_FnPlacesOfPatterns.l2 k x1 x37 x39 (rd x327 x329) x327 x328 x329 x37 (x37.length : Int) 0) else (none)) else (none)) else ((impl_IsOpen.f k x37).bind fun bt498 => (if bt498.2 = true then (if bt498.1 = true then (laws_FnPlacesOfPatterns.j10 k x1) else (if (x39.length : Int) > (wrap64 (2 * (x37.length : Int))) then (some false) else (laws_FnPlacesOfPatterns.j10 k x1))) else (laws_FnPlacesOfPatterns.j10 k x1)))
def laws_FnPlacesOfPatterns.l2 : Nat → List Int → List Int → List Int → Int → List Int → Int → Int → List Int → Int → Int → Option (Bool)
 | 0, _, _, _, _, _, _, _, _, _, _ => none
 | k + 1, x1, x37, x39, x48, x327, x328, x329, x333, x334, x335 => if x335 < x334 then (if 0 ≤ x335 then (if x335 < (x333.length : Int) then ((laws_tPrime.f k (wrap64 (x48 + (rd x333 x335)))).bind fun t502 => (if t502 = true then (laws_FnPlacesOfPatterns.l2 k x1 x37 x39 x48 x327 x328 x329 x333 x334 (wrap64 (x335 + 1))) else (some false))) else (none)) else (none)) else (laws_FnPlacesOfPatterns.l1 k x1 x37 x39 x327 x328 (wrap64 (x329 + 1)))
def laws_FnPlacesOfPatterns.l0 : Nat → List Int → List Int → Int → Int → List (S65) → Bool → Int → Int → Int → List Int → Int → Int → Option (Bool)
 | 0, _, _, _, _, _, _, _, _, _, _, _, _ => none
 | k + 1, x1, x5, x6, x7, x11, x12, x15, x16, x21, x165, x166, x167 => if x167 < x166 then (if 0 ≤ x167 then (if x167 < (x165.length : Int) then (if x167 < x6 then (laws_FnPlacesOfPatterns.l0 k x1 x5 x6 x7 x11 x12 x15 x16 (wrap64 (x21 * (rd x165 x167))) x165 x166 (wrap64 (x167 + 1))) else (laws_FnPlacesOfPatterns.l0 k x1 x5 x6 x7 x11 x12 x15 x16 x21 x165 x166 (wrap64 (x167 + 1)))) else (none)) else (none)) else (if (wrap64 (x7 * x16)) = (wrap64 (x15 * x21)) then (if x7 < 0 then (laws_FnPlacesOfPatterns.j2 k x1 x5 x6 x7 x11 x12 x21 true) else (laws_FnPlacesOfPatterns.j2 k x1 x5 x6 x7 x11 x12 x21 (decide (x7 > x21)))) else (laws_FnPlacesOfPatterns.j2 k x1 x5 x6 x7 x11 x12 x21 true))
def laws_FnPlacesOfPatterns.j2 : Nat → List Int → List Int → Int → Int → List (S65) → Bool → Int → Bool → Option (Bool)
 | 0, _, _, _, _, _, _, _, _ => none
 | k + 1, x1, x5, x6, x7, x11, x12, x21, x194 => if x194 = true then (some false) else (if x21 ≤ 600 then ((impl_FirstPlaces.f k x5 x6 x21).bind fun bt453 => (if bt453.2 = true then (if (bt453.1.length : Int) = x7 then (laws_FnPlacesOfPatterns.j3 k x1 x7 x11 x12 x21) else (some false)) else (some false))) else (laws_FnPlacesOfPatterns.j3 k x1 x7 x11 x12 x21))
def laws_FnPlacesOfPatterns.j3 : Nat → List Int → Int → List (S65) → Bool → Int → Option (Bool)
 | 0, _, _, _, _, _ => none
 | k + 1, x1, x7, x11, x12, x21 => if x12 = true then (laws_FnPlacesOfPatterns.j4 k x1 x7 x11 x21 (decide ((x11.length : Int) > 0))) else (laws_FnPlacesOfPatterns.j4 k x1 x7 x11 x21 false)
def laws_FnPlacesOfPatterns.j4 : Nat → List Int → Int → List (S65) → Int → Bool → Option (Bool)
 | 0, _, _, _, _, _ => none
 | k + 1, x1, x7, x11, x21, x217 => if x217 = true then ((impl_LeftInPeriod.f k x11).bind fun bt457 => ((impl_PeriodOfRules.f k x11).bind fun bt459 => (if bt457.2 = true then (if bt459.2 = true then (if (wrap64 (bt457.1 * x21)) = (wrap64 (x7 * bt459.1)) then (laws_FnPlacesOfPatterns.j5 k x1) else (some false)) else (some false)) else (some false)))) else (laws_FnPlacesOfPatterns.j5 k x1)
end
def laws_FnPlacesOfPatterns.f (k : Nat) (l0 : List Int) (l1 : List Int) : Option (Bool) := (laws_big.f l0 l1).bind fun t425 => (if t425 = true then (some true) else ((spec_DrawPlacesInPeriod.f k l0).bind fun bt426 => ((impl_PlacesInPeriod.f k bt426.1 bt426.2).bind fun bt430 => ((spec_PlacesInPeriod.f k bt426.1 bt426.2).bind fun bt432 => ((impl_RulesOfPattern.f k bt426.1 bt426.2).bind fun bt434 => ((spec_RulesOfPattern.f k bt426.1 bt426.2).bind fun bt438 => ((impl_ShareOfPlaces.f k bt426.1 bt426.2).bind fun bt442 => ((spec_ShareOfPlaces.f k bt426.1 bt426.2).bind fun bt445 => (if (bt430.2 != bt432.2) = true then (laws_FnPlacesOfPatterns.j0 k l1 bt426.1 bt426.2 bt430.1 bt430.2 bt434.1 bt434.2 bt442.1 bt442.2.1 true) else (if bt430.1 = bt432.1 then (if (bt434.2 != bt438.2) = true then (laws_FnPlacesOfPatterns.j0 k l1 bt426.1 bt426.2 bt430.1 bt430.2 bt434.1 bt434.2 bt442.1 bt442.2.1 true) else ((laws_tRules.f k bt434.1 bt438.1).bind fun t448 => (if t448 = true then (if (bt442.2.2 != bt445.2.2) = true then (laws_FnPlacesOfPatterns.j0 k l1 bt426.1 bt426.2 bt430.1 bt430.2 bt434.1 bt434.2 bt442.1 bt442.2.1 true) else (if bt442.1 = bt445.1 then (if bt442.2.1 = bt445.2.1 then (if (bt442.2.2 != bt430.2) = true then (laws_FnPlacesOfPatterns.j0 k l1 bt426.1 bt426.2 bt430.1 bt430.2 bt434.1 bt434.2 bt442.1 bt442.2.1 true) else (if bt434.2 = true then (laws_FnPlacesOfPatterns.j0 k l1 bt426.1 bt426.2 bt430.1 bt430.2 bt434.1 bt434.2 bt442.1 bt442.2.1 (!bt430.2)) else (laws_FnPlacesOfPatterns.j0 k l1 bt426.1 bt426.2 bt430.1 bt430.2 bt434.1 bt434.2 bt442.1 bt442.2.1 false))) else (laws_FnPlacesOfPatterns.j0 k l1 bt426.1 bt426.2 bt430.1 bt430.2 bt434.1 bt434.2 bt442.1 bt442.2.1 true)) else (laws_FnPlacesOfPatterns.j0 k l1 bt426.1 bt426.2 bt430.1 bt430.2 bt434.1 bt434.2 bt442.1 bt442.2.1 true))) else (laws_FnPlacesOfPatterns.j0 k l1 bt426.1 bt426.2 bt430.1 bt430.2 bt434.1 bt434.2 bt442.1 bt442.2.1 true)))) else (laws_FnPlacesOfPatterns.j0 k l1 bt426.1 bt426.2 bt430.1 bt430.2 bt434.1 bt434.2 bt442.1 bt442.2.1 true)))))))))))
theorem laws_FnPlacesOfPatterns.mono_l : ∀ k, (∀ y0 y1 y2 y3 y4 y5 y6 y7 y8 y9, LeO (laws_FnPlacesOfPatterns.j0 k y0 y1 y2 y3 y4 y5 y6 y7 y8 y9) (laws_FnPlacesOfPatterns.j0 (k + 1) y0 y1 y2 y3 y4 y5 y6 y7 y8 y9)) ∧ (∀ y0, LeO (laws_FnPlacesOfPatterns.j5 k y0) (laws_FnPlacesOfPatterns.j5 (k + 1) y0)) ∧ (∀ y0 y1 y2 y3 y4 y5 y6 y7 y8 y9, LeO (laws_FnPlacesOfPatterns.j6 k y0 y1 y2 y3 y4 y5 y6 y7 y8 y9) (laws_FnPlacesOfPatterns.j6 (k + 1) y0 y1 y2 y3 y4 y5 y6 y7 y8 y9)) ∧ (∀ y0 y1 y2 y3, LeO (laws_FnPlacesOfPatterns.j7 k y0 y1 y2 y3) (laws_FnPlacesOfPatterns.j7 (k + 1) y0 y1 y2 y3)) ∧ (∀ y0, LeO (laws_FnPlacesOfPatterns.j10 k y0) (laws_FnPlacesOfPatterns.j10 (k + 1) y0)) ∧ (∀ y0 y1 y2 y3 y4 y5 y6 y7 y8, LeO (laws_FnPlacesOfPatterns.j11 k y0 y1 y2 y3 y4 y5 y6 y7 y8) (laws_FnPlacesOfPatterns.j11 (k + 1) y0 y1 y2 y3 y4 y5 y6 y7 y8)) ∧ (∀ y0 y1 y2 y3, LeO (laws_FnPlacesOfPatterns.j12 k y0 y1 y2 y3) (laws_FnPlacesOfPatterns.j12 (k + 1) y0 y1 y2 y3)) ∧ (∀ y0 y1 y2 y3 y4 y5 y6, LeO (laws_FnPlacesOfPatterns.l3 k y0 y1 y2 y3 y4 y5 y6) (laws_FnPlacesOfPatterns.l3 (k + 1) y0 y1 y2 y3 y4 y5 y6)) ∧ (∀ y0 y1 y2 y3 y4 y5, LeO (laws_FnPlacesOfPatterns.l1 k y0 y1 y2 y3 y4 y5) (laws_FnPlacesOfPatterns.l1 (k + 1) y0 y1 y2 y3 y4 y5)) ∧ (∀ y0 y1 y2 y3 y4 y5 y6 y7 y8 y9, LeO (laws_FnPlacesOfPatterns.l2 k y0 y1 y2 y3 y4 y5 y6 y7 y8 y9) (laws_FnPlacesOfPatterns.l2 (k + 1) y0 y1 y2 y3 y4 y5 y6 y7 y8 y9)) ∧ (∀ y0 y1 y2 y3 y4 y5 y6 y7 y8 y9 y10 y11, LeO (laws_FnPlacesOfPatterns.l0 k y0 y1 y2 y3 y4 y5 y6 y7 y8 y9 y10 y11) (laws_FnPlacesOfPatterns.l0 (k + 1) y0 y1 y2 y3 y4 y5 y6 y7 y8 y9 y10 y11)) ∧ (∀ y0 y1 y2 y3 y4 y5 y6 y7, LeO (laws_FnPlacesOfPatterns.j2 k y0 y1 y2 y3 y4 y5 y6 y7) (laws_FnPlacesOfPatterns.j2 (k + 1) y0 y1 y2 y3 y4 y5 y6 y7)) ∧ (∀ y0 y1 y2 y3 y4, LeO (laws_FnPlacesOfPatterns.j3 k y0 y1 y2 y3 y4) (laws_FnPlacesOfPatterns.j3 (k + 1) y0 y1 y2 y3 y4)) ∧ (∀ y0 y1 y2 y3 y4, LeO (laws_FnPlacesOfPatterns.j4 k y0 y1 y2 y3 y4) (laws_FnPlacesOfPatterns.j4 (k + 1) y0 y1 y2 y3 y4))
 | 0 => ⟨fun _ _ _ _ _ _ _ _ _ _ r h => by simp [laws_FnPlacesOfPatterns.j0] at h, fun _ r h => by simp [laws_FnPlacesOfPatterns.j5] at h, fun _ _ _ _ _ _ _ _ _ _ r h => by simp [laws_FnPlacesOfPatterns.j6] at h, fun _ _ _ _ r h => by simp [laws_FnPlacesOfPatterns.j7] at h, fun _ r h => by simp [laws_FnPlacesOfPatterns.j10] at h, fun _ _ _ _ _ _ _ _ _ r h => by simp [laws_FnPlacesOfPatterns.j11] at h, fun _ _ _ _ r h => by simp [laws_FnPlacesOfPatterns.j12] at h, fun _ _ _ _ _ _ _ r h => by simp [laws_FnPlacesOfPatterns.l3] at h, fun _ _ _ _ _ _ r h => by simp [laws_FnPlacesOfPatterns.l1] at h, fun _ _ _ _ _ _ _ _ _ _ r h => by simp [laws_FnPlacesOfPatterns.l2] at h, fun _ _ _ _ _ _ _ _ _ _ _ _ r h => by simp [laws_FnPlacesOfPatterns.l0] at h, fun _ _ _ _ _ _ _ _ r h => by simp [laws_FnPlacesOfPatterns.j2] at h, fun _ _ _ _ _ r h => by simp [laws_FnPlacesOfPatterns.j3] at h, fun _ _ _ _ _ r h => by simp [laws_FnPlacesOfPatterns.j4] at h⟩
 | k + 1 => by
  obtain ⟨ih0, ih1, ih2, ih3, ih4, ih5, ih6, ih7, ih8, ih9, ih10, ih11, ih12, ih13⟩ := laws_FnPlacesOfPatterns.mono_l k
  refine ⟨?_, ?_, ?_, ?_, ?_, ?_, ?_, ?_, ?_, ?_, ?_, ?_, ?_, ?_⟩
  ·
   intro y0 y1 y2 y3 y4 y5 y6 y7 y8 y9
   unfold laws_FnPlacesOfPatterns.j0
   repeat' first
   | (with_reducible first | exact ih0 _ _ _ _ _ _ _ _ _ _ | exact ih1 _ | exact ih2 _ _ _ _ _ _ _ _ _ _ | exact ih3 _ _ _ _ | exact ih4 _ | exact ih5 _ _ _ _ _ _ _ _ _ | exact ih6 _ _ _ _ | exact ih7 _ _ _ _ _ _ _ | exact ih8 _ _ _ _ _ _ | exact ih9 _ _ _ _ _ _ _ _ _ _ | exact ih10 _ _ _ _ _ _ _ _ _ _ _ _ | exact ih11 _ _ _ _ _ _ _ _ | exact ih12 _ _ _ _ _ | exact ih13 _ _ _ _ _ | exact impl_FirstPlaces.mono _ _ _ _ | exact impl_IsOpen.mono _ _ | exact impl_LeftInPeriod.mono _ _ | exact impl_LeftUpTo.mono _ _ _ | exact impl_NumberWithRests.mono _ _ _ | exact impl_PeriodOfRules.mono _ _ | exact impl_PlacesInPeriod.mono _ _ _ | exact impl_PrimePlaces.mono _ _ _ | exact impl_RestsOfNumber.mono _ _ _ | exact impl_RulesOfPattern.mono _ _ _ | exact impl_ShareOfPlaces.mono _ _ _ | exact laws_tPrime.mono _ _ | exact laws_tRises.mono _ _ _ _ | exact laws_tRules.mono _ _ _ | exact laws_tSame.mono _ _ _ | exact spec_DrawFirstPlaces.mono _ _ | exact spec_DrawNumberWithRests.mono _ _ | exact spec_DrawPlacesInPeriod.mono _ _ | exact spec_DrawPrimePlaces.mono _ _ | exact spec_DrawRestsOfNumber.mono _ _ | exact spec_FirstPlaces.mono _ _ _ _ | exact spec_NumberWithRests.mono _ _ _ | exact spec_PlacesInPeriod.mono _ _ _ | exact spec_PrimePlaces.mono _ _ _ | exact spec_RestsOfNumber.mono _ _ _ | exact spec_RulesOfPattern.mono _ _ _ | exact spec_ShareOfPlaces.mono _ _ _ | exact LeO.refl _ | exact LeO.none _ | refine LeO.ite ?_ ?_ | refine LeO.bind ?_ (fun _ => ?_))
  ·
   intro y0
   unfold laws_FnPlacesOfPatterns.j5
   repeat' first
   | (with_reducible first | exact ih0 _ _ _ _ _ _ _ _ _ _ | exact ih1 _ | exact ih2 _ _ _ _ _ _ _ _ _ _ | exact ih3 _ _ _ _ | exact ih4 _ | exact ih5 _ _ _ _ _ _ _ _ _ | exact ih6 _ _ _ _ | exact ih7 _ _ _ _ _ _ _ | exact ih8 _ _ _ _ _ _ | exact ih9 _ _ _ _ _ _ _ _ _ _ | exact ih10 _ _ _ _ _ _ _ _ _ _ _ _ | exact ih11 _ _ _ _ _ _ _ _ | exact ih12 _ _ _ _ _ | exact ih13 _ _ _ _ _ | exact impl_FirstPlaces.mono _ _ _ _ | exact impl_IsOpen.mono _ _ | exact impl_LeftInPeriod.mono _ _ | exact impl_LeftUpTo.mono _ _ _ | exact impl_NumberWithRests.mono _ _ _ | exact impl_PeriodOfRules.mono _ _ | exact impl_PlacesInPeriod.mono _ _ _ | exact impl_PrimePlaces.mono _ _ _ | exact impl_RestsOfNumber.mono _ _ _ | exact impl_RulesOfPattern.mono _ _ _ | exact impl_ShareOfPlaces.mono _ _ _ | exact laws_tPrime.mono _ _ | exact laws_tRises.mono _ _ _ _ | exact laws_tRules.mono _ _ _ | exact laws_tSame.mono _ _ _ | exact spec_DrawFirstPlaces.mono _ _ | exact spec_DrawNumberWithRests.mono _ _ | exact spec_DrawPlacesInPeriod.mono _ _ | exact spec_DrawPrimePlaces.mono _ _ | exact spec_DrawRestsOfNumber.mono _ _ | exact spec_FirstPlaces.mono _ _ _ _ | exact spec_NumberWithRests.mono _ _ _ | exact spec_PlacesInPeriod.mono _ _ _ | exact spec_PrimePlaces.mono _ _ _ | exact spec_RestsOfNumber.mono _ _ _ | exact spec_RulesOfPattern.mono _ _ _ | exact spec_ShareOfPlaces.mono _ _ _ | exact LeO.refl _ | exact LeO.none _ | refine LeO.ite ?_ ?_ | refine LeO.bind ?_ (fun _ => ?_))
  ·
   intro y0 y1 y2 y3 y4 y5 y6 y7 y8 y9
   unfold laws_FnPlacesOfPatterns.j6
   repeat' first
   | (with_reducible first | exact ih0 _ _ _ _ _ _ _ _ _ _ | exact ih1 _ | exact ih2 _ _ _ _ _ _ _ _ _ _ | exact ih3 _ _ _ _ | exact ih4 _ | exact ih5 _ _ _ _ _ _ _ _ _ | exact ih6 _ _ _ _ | exact ih7 _ _ _ _ _ _ _ | exact ih8 _ _ _ _ _ _ | exact ih9 _ _ _ _ _ _ _ _ _ _ | exact ih10 _ _ _ _ _ _ _ _ _ _ _ _ | exact ih11 _ _ _ _ _ _ _ _ | exact ih12 _ _ _ _ _ | exact ih13 _ _ _ _ _ | exact impl_FirstPlaces.mono _ _ _ _ | exact impl_IsOpen.mono _ _ | exact impl_LeftInPeriod.mono _ _ | exact impl_LeftUpTo.mono _ _ _ | exact impl_NumberWithRests.mono _ _ _ | exact impl_PeriodOfRules.mono _ _ | exact impl_PlacesInPeriod.mono _ _ _ | exact impl_PrimePlaces.mono _ _ _ | exact impl_RestsOfNumber.mono _ _ _ | exact impl_RulesOfPattern.mono _ _ _ | exact impl_ShareOfPlaces.mono _ _ _ | exact laws_tPrime.mono _ _ | exact laws_tRises.mono _ _ _ _ | exact laws_tRules.mono _ _ _ | exact laws_tSame.mono _ _ _ | exact spec_DrawFirstPlaces.mono _ _ | exact spec_DrawNumberWithRests.mono _ _ | exact spec_DrawPlacesInPeriod.mono _ _ | exact spec_DrawPrimePlaces.mono _ _ | exact spec_DrawRestsOfNumber.mono _ _ | exact spec_FirstPlaces.mono _ _ _ _ | exact spec_NumberWithRests.mono _ _ _ | exact spec_PlacesInPeriod.mono _ _ _ | exact spec_PrimePlaces.mono _ _ _ | exact spec_RestsOfNumber.mono _ _ _ | exact spec_RulesOfPattern.mono _ _ _ | exact spec_ShareOfPlaces.mono _ _ _ | exact LeO.refl _ | exact LeO.none _ | refine LeO.ite ?_ ?_ | refine LeO.bind ?_ (fun _ => ?_))
  ·
   intro y0 y1 y2 y3
   unfold laws_FnPlacesOfPatterns.j7
   repeat' first
   | (with_reducible first | exact ih0 _ _ _ _ _ _ _ _ _ _ | exact ih1 _ | exact ih2 _ _ _ _ _ _ _ _ _ _ | exact ih3 _ _ _ _ | exact ih4 _ | exact ih5 _ _ _ _ _ _ _ _ _ | exact ih6 _ _ _ _ | exact ih7 _ _ _ _ _ _ _ | exact ih8 _ _ _ _ _ _ | exact ih9 _ _ _ _ _ _ _ _ _ _ | exact ih10 _ _ _ _ _ _ _ _ _ _ _ _ | exact ih11 _ _ _ _ _ _ _ _ | exact ih12 _ _ _ _ _ | exact ih13 _ _ _ _ _ | exact impl_FirstPlaces.mono _ _ _ _ | exact impl_IsOpen.mono _ _ | exact impl_LeftInPeriod.mono _ _ | exact impl_LeftUpTo.mono _ _ _ | exact impl_NumberWithRests.mono _ _ _ | exact impl_PeriodOfRules.mono _ _ | exact impl_PlacesInPeriod.mono _ _ _ | exact impl_PrimePlaces.mono _ _ _ | exact impl_RestsOfNumber.mono _ _ _ | exact impl_RulesOfPattern.mono _ _ _ | exact impl_ShareOfPlaces.mono _ _ _ | exact laws_tPrime.mono _ _ | exact laws_tRises.mono _ _ _ _ | exact laws_tRules.mono _ _ _ | exact laws_tSame.mono _ _ _ | exact spec_DrawFirstPlaces.mono _ _ | exact spec_DrawNumberWithRests.mono _ _ | exact spec_DrawPlacesInPeriod.mono _ _ | exact spec_DrawPrimePlaces.mono _ _ | exact spec_DrawRestsOfNumber.mono _ _ | exact spec_FirstPlaces.mono _ _ _ _ | exact spec_NumberWithRests.mono _ _ _ | exact spec_PlacesInPeriod.mono _ _ _ | exact spec_PrimePlaces.mono _ _ _ | exact spec_RestsOfNumber.mono _ _ _ | exact spec_RulesOfPattern.mono _ _ _ | exact spec_ShareOfPlaces.mono _ _ _ | exact LeO.refl _ | exact LeO.none _ | refine LeO.ite ?_ ?_ | refine LeO.bind ?_ (fun _ => ?_))
  ·
   intro y0
   unfold laws_FnPlacesOfPatterns.j10
   repeat' first
   | (with_reducible first | exact ih0 _ _ _ _ _ _ _ _ _ _ | exact ih1 _ | exact ih2 _ _ _ _ _ _ _ _ _ _ | exact ih3 _ _ _ _ | exact ih4 _ | exact ih5 _ _ _ _ _ _ _ _ _ | exact ih6 _ _ _ _ | exact ih7 _ _ _ _ _ _ _ | exact ih8 _ _ _ _ _ _ | exact ih9 _ _ _ _ _ _ _ _ _ _ | exact ih10 _ _ _ _ _ _ _ _ _ _ _ _ | exact ih11 _ _ _ _ _ _ _ _ | exact ih12 _ _ _ _ _ | exact ih13 _ _ _ _ _ | exact impl_FirstPlaces.mono _ _ _ _ | exact impl_IsOpen.mono _ _ | exact impl_LeftInPeriod.mono _ _ | exact impl_LeftUpTo.mono _ _ _ | exact impl_NumberWithRests.mono _ _ _ | exact impl_PeriodOfRules.mono _ _ | exact impl_PlacesInPeriod.mono _ _ _ | exact impl_PrimePlaces.mono _ _ _ | exact impl_RestsOfNumber.mono _ _ _ | exact impl_RulesOfPattern.mono _ _ _ | exact impl_ShareOfPlaces.mono _ _ _ | exact laws_tPrime.mono _ _ | exact laws_tRises.mono _ _ _ _ | exact laws_tRules.mono _ _ _ | exact laws_tSame.mono _ _ _ | exact spec_DrawFirstPlaces.mono _ _ | exact spec_DrawNumberWithRests.mono _ _ | exact spec_DrawPlacesInPeriod.mono _ _ | exact spec_DrawPrimePlaces.mono _ _ | exact spec_DrawRestsOfNumber.mono _ _ | exact spec_FirstPlaces.mono _ _ _ _ | exact spec_NumberWithRests.mono _ _ _ | exact spec_PlacesInPeriod.mono _ _ _ | exact spec_PrimePlaces.mono _ _ _ | exact spec_RestsOfNumber.mono _ _ _ | exact spec_RulesOfPattern.mono _ _ _ | exact spec_ShareOfPlaces.mono _ _ _ | exact LeO.refl _ | exact LeO.none _ | refine LeO.ite ?_ ?_ | refine LeO.bind ?_ (fun _ => ?_))
  ·
   intro y0 y1 y2 y3 y4 y5 y6 y7 y8
   unfold laws_FnPlacesOfPatterns.j11
   repeat' first
   | (with_reducible first | exact ih0 _ _ _ _ _ _ _ _ _ _ | exact ih1 _ | exact ih2 _ _ _ _ _ _ _ _ _ _ | exact ih3 _ _ _ _ | exact ih4 _ | exact ih5 _ _ _ _ _ _ _ _ _ | exact ih6 _ _ _ _ | exact ih7 _ _ _ _ _ _ _ | exact ih8 _ _ _ _ _ _ | exact ih9 _ _ _ _ _ _ _ _ _ _ | exact ih10 _ _ _ _ _ _ _ _ _ _ _ _ | exact ih11 _ _ _ _ _ _ _ _ | exact ih12 _ _ _ _ _ | exact ih13 _ _ _ _ _ | exact impl_FirstPlaces.mono _ _ _ _ | exact impl_IsOpen.mono _ _ | exact impl_LeftInPeriod.mono _ _ | exact impl_LeftUpTo.mono _ _ _ | exact impl_NumberWithRests.mono _ _ _ | exact impl_PeriodOfRules.mono _ _ | exact impl_PlacesInPeriod.mono _ _ _ | exact impl_PrimePlaces.mono _ _ _ | exact impl_RestsOfNumber.mono _ _ _ | exact impl_RulesOfPattern.mono _ _ _ | exact impl_ShareOfPlaces.mono _ _ _ | exact laws_tPrime.mono _ _ | exact laws_tRises.mono _ _ _ _ | exact laws_tRules.mono _ _ _ | exact laws_tSame.mono _ _ _ | exact spec_DrawFirstPlaces.mono _ _ | exact spec_DrawNumberWithRests.mono _ _ | exact spec_DrawPlacesInPeriod.mono _ _ | exact spec_DrawPrimePlaces.mono _ _ | exact spec_DrawRestsOfNumber.mono _ _ | exact spec_FirstPlaces.mono _ _ _ _ | exact spec_NumberWithRests.mono _ _ _ | exact spec_PlacesInPeriod.mono _ _ _ | exact spec_PrimePlaces.mono _ _ _ | exact spec_RestsOfNumber.mono _ _ _ | exact spec_RulesOfPattern.mono _ _ _ | exact spec_ShareOfPlaces.mono _ _ _ | exact LeO.refl _ | exact LeO.none _ | refine LeO.ite ?_ ?_ | refine LeO.bind ?_ (fun _ => ?_))
  ·
   intro y0 y1 y2 y3
   unfold laws_FnPlacesOfPatterns.j12
   repeat' first
   | (with_reducible first | exact ih0 _ _ _ _ _ _ _ _ _ _ | exact ih1 _ | exact ih2 _ _ _ _ _ _ _ _ _ _ | exact ih3 _ _ _ _ | exact ih4 _ | exact ih5 _ _ _ _ _ _ _ _ _ | exact ih6 _ _ _ _ | exact ih7 _ _ _ _ _ _ _ | exact ih8 _ _ _ _ _ _ | exact ih9 _ _ _ _ _ _ _ _ _ _ | exact ih10 _ _ _ _ _ _ _ _ _ _ _ _ | exact ih11 _ _ _ _ _ _ _ _ | exact ih12 _ _ _ _ _ | exact ih13 _ _ _ _ _ | exact impl_FirstPlaces.mono _ _ _ _ | exact impl_IsOpen.mono _ _ | exact impl_LeftInPeriod.mono _ _ | exact impl_LeftUpTo.mono _ _ _ | exact impl_NumberWithRests.mono _ _ _ | exact impl_PeriodOfRules.mono _ _ | exact impl_PlacesInPeriod.mono _ _ _ | exact impl_PrimePlaces.mono _ _ _ | exact impl_RestsOfNumber.mono _ _ _ | exact impl_RulesOfPattern.mono _ _ _ | exact impl_ShareOfPlaces.mono _ _ _ | exact laws_tPrime.mono _ _ | exact laws_tRises.mono _ _ _ _ | exact laws_tRules.mono _ _ _ | exact laws_tSame.mono _ _ _ | exact spec_DrawFirstPlaces.mono _ _ | exact spec_DrawNumberWithRests.mono _ _ | exact spec_DrawPlacesInPeriod.mono _ _ | exact spec_DrawPrimePlaces.mono _ _ | exact spec_DrawRestsOfNumber.mono _ _ | exact spec_FirstPlaces.mono _ _ _ _ | exact spec_NumberWithRests.mono _ _ _ | exact spec_PlacesInPeriod.mono _ _ _ | exact spec_PrimePlaces.mono _ _ _ | exact spec_RestsOfNumber.mono _ _ _ | exact spec_RulesOfPattern.mono _ _ _ | exact spec_ShareOfPlaces.mono _ _ _ | exact LeO.refl _ | exact LeO.none _ | refine LeO.ite ?_ ?_ | refine LeO.bind ?_ (fun _ => ?_))
  ·
   intro y0 y1 y2 y3 y4 y5 y6
   unfold laws_FnPlacesOfPatterns.l3
   repeat' first
   | (with_reducible first | exact ih0 _ _ _ _ _ _ _ _ _ _ | exact ih1 _ | exact ih2 _ _ _ _ _ _ _ _ _ _ | exact ih3 _ _ _ _ | exact ih4 _ | exact ih5 _ _ _ _ _ _ _ _ _ | exact ih6 _ _ _ _ | exact ih7 _ _ _ _ _ _ _ | exact ih8 _ _ _ _ _ _ | exact ih9 _ _ _ _ _ _ _ _ _ _ | exact ih10 _ _ _ _ _ _ _ _ _ _ _ _ | exact ih11 _ _ _ _ _ _ _ _ | exact ih12 _ _ _ _ _ | exact ih13 _ _ _ _ _ | exact impl_FirstPlaces.mono _ _ _ _ | exact impl_IsOpen.mono _ _ | exact impl_LeftInPeriod.mono _ _ | exact impl_LeftUpTo.mono _ _ _ | exact impl_NumberWithRests.mono _ _ _ | exact impl_PeriodOfRules.mono _ _ | exact impl_PlacesInPeriod.mono _ _ _ | exact impl_PrimePlaces.mono _ _ _ | exact impl_RestsOfNumber.mono _ _ _ | exact impl_RulesOfPattern.mono _ _ _ | exact impl_ShareOfPlaces.mono _ _ _ | exact laws_tPrime.mono _ _ | exact laws_tRises.mono _ _ _ _ | exact laws_tRules.mono _ _ _ | exact laws_tSame.mono _ _ _ | exact spec_DrawFirstPlaces.mono _ _ | exact spec_DrawNumberWithRests.mono _ _ | exact spec_DrawPlacesInPeriod.mono _ _ | exact spec_DrawPrimePlaces.mono _ _ | exact spec_DrawRestsOfNumber.mono _ _ | exact spec_FirstPlaces.mono _ _ _ _ | exact spec_NumberWithRests.mono _ _ _ | exact spec_PlacesInPeriod.mono _ _ _ | exact spec_PrimePlaces.mono _ _ _ | exact spec_RestsOfNumber.mono _ _ _ | exact spec_RulesOfPattern.mono _ _ _ | exact spec_ShareOfPlaces.mono _ _ _ | exact LeO.refl _ | exact LeO.none _ | refine LeO.ite ?_ ?_ | refine LeO.bind ?_ (fun _ => ?_))
  ·
   intro y0 y1 y2 y3 y4 y5
   unfold laws_FnPlacesOfPatterns.l1
   repeat' first
   | (with_reducible first | exact ih0 _ _ _ _ _ _ _ _ _ _ | exact ih1 _ | exact ih2 _ _ _ _ _ _ _ _ _ _ | exact ih3 _ _ _ _ | exact ih4 _ | exact ih5 _ _ _ _ _ _ _ _ _ | exact ih6 _ _ _ _ | exact ih7 _ _ _ _ _ _ _ | exact ih8 _ _ _ _ _ _ | exact ih9 _ _ _ _ _ _ _ _ _ _ | exact ih10 _ _ _ _ _ _ _ _ _ _ _ _ | exact ih11 _ _ _ _ _ _ _ _ | exact ih12 _ _ _ _ _ | exact ih13 _ _ _ _ _ | exact impl_FirstPlaces.mono _ _ _ _ | exact impl_IsOpen.mono _ _ | exact impl_LeftInPeriod.mono _ _ | exact impl_LeftUpTo.mono _ _ _ | exact impl_NumberWithRests.mono _ _ _ | exact impl_PeriodOfRules.mono _ _ | exact impl_PlacesInPeriod.mono _ _ _ | exact impl_PrimePlaces.mono _ _ _ | exact impl_RestsOfNumber.mono _ _ _ | exact impl_RulesOfPattern.mono _ _ _ | exact impl_ShareOfPlaces.mono _ _ _ | exact laws_tPrime.mono _ _ | exact laws_tRises.mono _ _ _ _ | exact laws_tRules.mono _ _ _ | exact laws_tSame.mono _ _ _ | exact spec_DrawFirstPlaces.mono _ _ | exact spec_DrawNumberWithRests.mono _ _ | exact spec_DrawPlacesInPeriod.mono _ _ | exact spec_DrawPrimePlaces.mono _ _ | exact spec_DrawRestsOfNumber.mono _ _ | exact spec_FirstPlaces.mono _ _ _ _ | exact spec_NumberWithRests.mono _ _ _ | exact spec_PlacesInPeriod.mono _ _ _ | exact spec_PrimePlaces.mono _ _ _ | exact spec_RestsOfNumber.mono _ _ _ | exact spec_RulesOfPattern.mono _ _ _ | exact spec_ShareOfPlaces.mono _ _ _ | exact LeO.refl _ | exact LeO.none _ | refine LeO.ite ?_ ?_ | refine LeO.bind ?_ (fun _ => ?_))
  ·
   intro y0 y1 y2 y3 y4 y5 y6 y7 y8 y9
   unfold laws_FnPlacesOfPatterns.l2
   repeat' first
   | (with_reducible first | exact ih0 _ _ _ _ _ _ _ _ _ _ | exact ih1 _ | exact ih2 _ _ _ _ _ _ _ _ _ _ | exact ih3 _ _ _ _ | exact ih4 _ | exact ih5 _ _ _ _ _ _ _ _ _ | exact ih6 _ _ _ _ | exact ih7 _ _ _ _ _ _ _ | exact ih8 _ _ _ _ _ _ | exact ih9 _ _ _ _ _ _ _ _ _ _ | exact ih10 _ _ _ _ _ _ _ _ _ _ _ _ | exact ih11 _ _ _ _ _ _ _ _ | exact ih12 _ _ _ _ _ | exact ih13 _ _ _ _ _ | exact impl_FirstPlaces.mono _ _ _ _ | exact impl_IsOpen.mono _ _ | exact impl_LeftInPeriod.mono _ _ | exact impl_LeftUpTo.mono _ _ _ | exact impl_NumberWithRests.mono _ _ _ | exact impl_PeriodOfRules.mono _ _ | exact impl_PlacesInPeriod.mono _ _ _ | exact impl_PrimePlaces.mono _ _ _ | exact impl_RestsOfNumber.mono _ _ _ | exact impl_RulesOfPattern.mono _ _ _ | exact impl_ShareOfPlaces.mono _ _ _ | exact laws_tPrime.mono _ _ | exact laws_tRises.mono _ _ _ _ | exact laws_tRules.mono _ _ _ | exact laws_tSame.mono _ _ _ | exact spec_DrawFirstPlaces.mono _ _ | exact spec_DrawNumberWithRests.mono _ _ | exact spec_DrawPlacesInPeriod.mono _ _ | exact spec_DrawPrimePlaces.mono _ _ | exact spec_DrawRestsOfNumber.mono _ _ | exact spec_FirstPlaces.mono _ _ _ _ | exact spec_NumberWithRests.mono _ _ _ | exact spec_PlacesInPeriod.mono _ _ _ | exact spec_PrimePlaces.mono _ _ _ | exact spec_RestsOfNumber.mono _ _ _ | exact spec_RulesOfPattern.mono _ _ _ | exact spec_ShareOfPlaces.mono _ _ _ | exact LeO.refl _ | exact LeO.none _ | refine LeO.ite ?_ ?_ | refine LeO.bind ?_ (fun _ => ?_))
  ·
   intro y0 y1 y2 y3 y4 y5 y6 y7 y8 y9 y10 y11
   unfold laws_FnPlacesOfPatterns.l0
   repeat' first
   | (with_reducible first | exact ih0 _ _ _ _ _ _ _ _ _ _ | exact ih1 _ | exact ih2 _ _ _ _ _ _ _ _ _ _ | exact ih3 _ _ _ _ | exact ih4 _ | exact ih5 _ _ _ _ _ _ _ _ _ | exact ih6 _ _ _ _ | exact ih7 _ _ _ _ _ _ _ | exact ih8 _ _ _ _ _ _ | exact ih9 _ _ _ _ _ _ _ _ _ _ | exact ih10 _ _ _ _ _ _ _ _ _ _ _ _ | exact ih11 _ _ _ _ _ _ _ _ | exact ih12 _ _ _ _ _ | exact ih13 _ _ _ _ _ | exact impl_FirstPlaces.mono _ _ _ _ | exact impl_IsOpen.mono _ _ | exact impl_LeftInPeriod.mono _ _ | exact impl_LeftUpTo.mono _ _ _ | exact impl_NumberWithRests.mono _ _ _ | exact impl_PeriodOfRules.mono _ _ | exact impl_PlacesInPeriod.mono _ _ _ | exact impl_PrimePlaces.mono _ _ _ | exact impl_RestsOfNumber.mono _ _ _ | exact impl_RulesOfPattern.mono _ _ _ | exact impl_ShareOfPlaces.mono _ _ _ | exact laws_tPrime.mono _ _ | exact laws_tRises.mono _ _ _ _ | exact laws_tRules.mono _ _ _ | exact laws_tSame.mono _ _ _ | exact spec_DrawFirstPlaces.mono _ _ | exact spec_DrawNumberWithRests.mono _ _ | exact spec_DrawPlacesInPeriod.mono _ _ | exact spec_DrawPrimePlaces.mono _ _ | exact spec_DrawRestsOfNumber.mono _ _ | exact spec_FirstPlaces.mono _ _ _ _ | exact spec_NumberWithRests.mono _ _ _ | exact spec_PlacesInPeriod.mono _ _ _ | exact spec_PrimePlaces.mono _ _ _ | exact spec_RestsOfNumber.mono _ _ _ | exact spec_RulesOfPattern.mono _ _ _ | exact spec_ShareOfPlaces.mono _ _ _ | exact LeO.refl _ | exact LeO.none _ | refine LeO.ite ?_ ?_ | refine LeO.bind ?_ (fun _ => ?_))
  ·
   intro y0 y1 y2 y3 y4 y5 y6 y7
   unfold laws_FnPlacesOfPatterns.j2
   repeat' first
   | (with_reducible first | exact ih0 _ _ _ _ _ _ _ _ _ _ | exact ih1 _ | exact ih2 _ _ _ _ _ _ _ _ _ _ | exact ih3 _ _ _ _ | exact ih4 _ | exact ih5 _ _ _ _ _ _ _ _ _ | exact ih6 _ _ _ _ | exact ih7 _ _ _ _ _ _ _ | exact ih8 _ _ _ _ _ _ | exact ih9 _ _ _ _ _ _ _ _ _ _ | exact ih10 _ _ _ _ _ _ _ _ _ _ _ _ | exact ih11 _ _ _ _ _ _ _ _ | exact ih12 _ _ _ _ _ | exact ih13 _ _ _ _ _ | exact impl_FirstPlaces.mono _ _ _ _ | exact impl_IsOpen.mono _ _ | exact impl_LeftInPeriod.mono _ _ | exact impl_LeftUpTo.mono _ _ _ | exact impl_NumberWithRests.mono _ _ _ | exact impl_PeriodOfRules.mono _ _ | exact impl_PlacesInPeriod.mono _ _ _ | exact impl_PrimePlaces.mono _ _ _ | exact impl_RestsOfNumber.mono _ _ _ | exact impl_RulesOfPattern.mono _ _ _ | exact impl_ShareOfPlaces.mono _ _ _ | exact laws_tPrime.mono _ _ | exact laws_tRises.mono _ _ _ _ | exact laws_tRules.mono _ _ _ | exact laws_tSame.mono _ _ _ | exact spec_DrawFirstPlaces.mono _ _ | exact spec_DrawNumberWithRests.mono _ _ | exact spec_DrawPlacesInPeriod.mono _ _ | exact spec_DrawPrimePlaces.mono _ _ | exact spec_DrawRestsOfNumber.mono _ _ | exact spec_FirstPlaces.mono _ _ _ _ | exact spec_NumberWithRests.mono _ _ _ | exact spec_PlacesInPeriod.mono _ _ _ | exact spec_PrimePlaces.mono _ _ _ | exact spec_RestsOfNumber.mono _ _ _ | exact spec_RulesOfPattern.mono _ _ _ | exact spec_ShareOfPlaces.mono _ _ _ | exact LeO.refl _ | exact LeO.none _ | refine LeO.ite ?_ ?_ | refine LeO.bind ?_ (fun _ => ?_))
  ·
   intro y0 y1 y2 y3 y4
   unfold laws_FnPlacesOfPatterns.j3
   repeat' first
   | (with_reducible first | exact ih0 _ _ _ _ _ _ _ _ _ _ | exact ih1 _ | exact ih2 _ _ _ _ _ _ _ _ _ _ | exact ih3 _ _ _ _ | exact ih4 _ | exact ih5 _ _ _ _ _ _ _ _ _ | exact ih6 _ _ _ _ | exact ih7 _ _ _ _ _ _ _ | exact ih8 _ _ _ _ _ _ | exact ih9 _ _ _ _ _ _ _ _ _ _ | exact ih10 _ _ _ _ _ _ _ _ _ _ _ _ | exact ih11 _ _ _ _ _ _ _ _ | exact ih12 _ _ _ _ _ | exact ih13 _ _ _ _ _ | exact impl_FirstPlaces.mono _ _ _ _ | exact impl_IsOpen.mono _ _ | exact impl_LeftInPeriod.mono _ _ | exact impl_LeftUpTo.mono _ _ _ | exact impl_NumberWithRests.mono _ _ _ | exact impl_PeriodOfRules.mono _ _ | exact impl_PlacesInPeriod.mono _ _ _ | exact impl_PrimePlaces.mono _ _ _ | exact impl_RestsOfNumber.mono _ _ _ | exact impl_RulesOfPattern.mono _ _ _ | exact impl_ShareOfPlaces.mono _ _ _ | exact laws_tPrime.mono _ _ | exact laws_tRises.mono _ _ _ _ | exact laws_tRules.mono _ _ _ | exact laws_tSame.mono _ _ _ | exact spec_DrawFirstPlaces.mono _ _ | exact spec_DrawNumberWithRests.mono _ _ | exact spec_DrawPlacesInPeriod.mono _ _ | exact spec_DrawPrimePlaces.mono _ _ | exact spec_DrawRestsOfNumber.mono _ _ | exact spec_FirstPlaces.mono _ _ _ _ | exact spec_NumberWithRests.mono _ _ _ | exact spec_PlacesInPeriod.mono _ _ _ | exact spec_PrimePlaces.mono _ _ _ | exact spec_RestsOfNumber.mono _ _ _ | exact spec_RulesOfPattern.mono _ _ _ | exact spec_ShareOfPlaces.mono _ _ _ | exact LeO.refl _ | exact LeO.none _ | refine LeO.ite ?_ ?_ | refine LeO.bind ?_ (fun _ => ?_))
  ·
   intro y0 y1 y2 y3 y4
   unfold laws_FnPlacesOfPatterns.j4
   repeat' first
   | (with_reducible first | exact ih0 _ _ _ _ _ _ _ _ _ _ | exact ih1 _ | exact ih2 _ _ _ _ _ _ _ _ _ _ | exact ih3 _ _ _ _ | exact ih4 _ | exact ih5 _ _ _ _ _ _ _ _ _ | exact ih6 _ _ _ _ | exact ih7 _ _ _ _ _ _ _ | exact ih8 _ _ _ _ _ _ | exact ih9 _ _ _ _ _ _ _ _ _ _ | exact ih10 _ _ _ _ _ _ _ _ _ _ _ _ | exact ih11 _ _ _ _ _ _ _ _ | exact ih12 _ _ _ _ _ | exact ih13 _ _ _ _ _ | exact impl_FirstPlaces.mono _ _ _ _ | exact impl_IsOpen.mono _ _ | exact impl_LeftInPeriod.mono _ _ | exact impl_LeftUpTo.mono _ _ _ | exact impl_NumberWithRests.mono _ _ _ | exact impl_PeriodOfRules.mono _ _ | exact impl_PlacesInPeriod.mono _ _ _ | exact impl_PrimePlaces.mono _ _ _ | exact impl_RestsOfNumber.mono _ _ _ | exact impl_RulesOfPattern.mono _ _ _ | exact impl_ShareOfPlaces.mono _ _ _ | exact laws_tPrime.mono _ _ | exact laws_tRises.mono _ _ _ _ | exact laws_tRules.mono _ _ _ | exact laws_tSame.mono _ _ _ | exact spec_DrawFirstPlaces.mono _ _ | exact spec_DrawNumberWithRests.mono _ _ | exact spec_DrawPlacesInPeriod.mono _ _ | exact spec_DrawPrimePlaces.mono _ _ | exact spec_DrawRestsOfNumber.mono _ _ | exact spec_FirstPlaces.mono _ _ _ _ | exact spec_NumberWithRests.mono _ _ _ | exact spec_PlacesInPeriod.mono _ _ _ | exact spec_PrimePlaces.mono _ _ _ | exact spec_RestsOfNumber.mono _ _ _ | exact spec_RulesOfPattern.mono _ _ _ | exact spec_ShareOfPlaces.mono _ _ _ | exact LeO.refl _ | exact LeO.none _ | refine LeO.ite ?_ ?_ | refine LeO.bind ?_ (fun _ => ?_))
theorem laws_FnPlacesOfPatterns.mono : ∀ a0 a1 k, LeO (laws_FnPlacesOfPatterns.f k a0 a1) (laws_FnPlacesOfPatterns.f (k + 1) a0 a1) := by
 intro a0 a1 k
 obtain ⟨ih0, ih1, ih2, ih3, ih4, ih5, ih6, ih7, ih8, ih9, ih10, ih11, ih12, ih13⟩ := laws_FnPlacesOfPatterns.mono_l k
 unfold laws_FnPlacesOfPatterns.f
 repeat' first
   | (with_reducible first | exact ih0 _ _ _ _ _ _ _ _ _ _ | exact ih1 _ | exact ih2 _ _ _ _ _ _ _ _ _ _ | exact ih3 _ _ _ _ | exact ih4 _ | exact ih5 _ _ _ _ _ _ _ _ _ | exact ih6 _ _ _ _ | exact ih7 _ _ _ _ _ _ _ | exact ih8 _ _ _ _ _ _ | exact ih9 _ _ _ _ _ _ _ _ _ _ | exact ih10 _ _ _ _ _ _ _ _ _ _ _ _ | exact ih11 _ _ _ _ _ _ _ _ | exact ih12 _ _ _ _ _ | exact ih13 _ _ _ _ _ | exact impl_FirstPlaces.mono _ _ _ _ | exact impl_IsOpen.mono _ _ | exact impl_LeftInPeriod.mono _ _ | exact impl_LeftUpTo.mono _ _ _ | exact impl_NumberWithRests.mono _ _ _ | exact impl_PeriodOfRules.mono _ _ | exact impl_PlacesInPeriod.mono _ _ _ | exact impl_PrimePlaces.mono _ _ _ | exact impl_RestsOfNumber.mono _ _ _ | exact impl_RulesOfPattern.mono _ _ _ | exact impl_ShareOfPlaces.mono _ _ _ | exact laws_tPrime.mono _ _ | exact laws_tRises.mono _ _ _ _ | exact laws_tRules.mono _ _ _ | exact laws_tSame.mono _ _ _ | exact spec_DrawFirstPlaces.mono _ _ | exact spec_DrawNumberWithRests.mono _ _ | exact spec_DrawPlacesInPeriod.mono _ _ | exact spec_DrawPrimePlaces.mono _ _ | exact spec_DrawRestsOfNumber.mono _ _ | exact spec_FirstPlaces.mono _ _ _ _ | exact spec_NumberWithRests.mono _ _ _ | exact spec_PlacesInPeriod.mono _ _ _ | exact spec_PrimePlaces.mono _ _ _ | exact spec_RestsOfNumber.mono _ _ _ | exact spec_RulesOfPattern.mono _ _ _ | exact spec_ShareOfPlaces.mono _ _ _ | exact LeO.refl _ | exact LeO.none _ | refine LeO.ite ?_ ?_ | refine LeO.bind ?_ (fun _ => ?_))
theorem laws_FnPlacesOfPatterns.j0_no : ∀ k y0 y1 y2 y3 y4 y5 y6 y7 y8, laws_FnPlacesOfPatterns.j0 k y0 y1 y2 y3 y4 y5 y6 y7 y8 true = some true → False := by
 intro k y0 y1 y2 y3 y4 y5 y6 y7 y8 h
 cases k with
 | zero => simp [laws_FnPlacesOfPatterns.j0] at h
 | succ k => simp [laws_FnPlacesOfPatterns.j0] at h
theorem laws_FnPlacesOfPatterns.j6_no : ∀ k y0 y1 y2 y3 y4 y5 y6 y7 y8, laws_FnPlacesOfPatterns.j6 k y0 y1 y2 y3 y4 y5 y6 y7 y8 true = some true → False := by
 intro k y0 y1 y2 y3 y4 y5 y6 y7 y8 h
 cases k with
 | zero => simp [laws_FnPlacesOfPatterns.j6] at h
 | succ k => simp [laws_FnPlacesOfPatterns.j6] at h
theorem laws_FnPlacesOfPatterns.j11_no : ∀ k y0 y1 y2 y3 y4 y5 y6 y7, laws_FnPlacesOfPatterns.j11 k y0 y1 y2 y3 y4 y5 y6 y7 true = some true → False := by
 intro k y0 y1 y2 y3 y4 y5 y6 y7 h
 cases k with
 | zero => simp [laws_FnPlacesOfPatterns.j11] at h
 | succ k => simp [laws_FnPlacesOfPatterns.j11] at h
theorem laws_FnPlacesOfPatterns.j2_no : ∀ k y0 y1 y2 y3 y4 y5 y6, laws_FnPlacesOfPatterns.j2 k y0 y1 y2 y3 y4 y5 y6 true = some true → False := by
 intro k y0 y1 y2 y3 y4 y5 y6 h
 cases k with
 | zero => simp [laws_FnPlacesOfPatterns.j2] at h
 | succ k => simp [laws_FnPlacesOfPatterns.j2] at h
/-- A frame of which some slots (by two masks) hold whatever u says. -/
def cutFgt (u : Nat → Value) : List (Option Nat) → List Value → List Value
 | some n :: m, _ :: l => u n :: cutFgt u m l
 | none :: m, v :: l => v :: cutFgt u m l
 | _, l => l
theorem cutF {P : Program} {s : Code} {K : Act → World → Prop} {Q' : Exit → Act → World → Prop} {w : World} {L : List Value} {fr} (m m2 : List (Option Nat)) (R : (Nat → Value) → World → Prop)
  (first : ∀ (J K' : Act → World → Prop), (∀ u w', R u w' → J ⟨(cutFgt u m2 (cutFgt u m L)).toArray, fr⟩ w') → (∀ a' w', Met J a' w' → K' a' w') → s.wp P (Exit.then K' Q') ⟨L.toArray, fr⟩ w)
  (rest : ∀ u w', R u w' → K ⟨(cutFgt u m2 (cutFgt u m L)).toArray, fr⟩ w') : s.wp P (Exit.then K Q') ⟨L.toArray, fr⟩ w := by
 refine wp_cut (fun a' w' => ∃ u, R u w' ∧ a' = ⟨(cutFgt u m2 (cutFgt u m L)).toArray, fr⟩) ?_ ?_
 ·
  rintro _ w' ⟨u, h, rfl⟩
  exact rest u w' h
 ·
  intro J K' h1 h2
  exact first J K' (fun u w' h => h1 _ _ ⟨u, h, rfl⟩) h2
theorem cutMeet {J : Act → World → Prop} {R : (Nat → Value) → World → Prop} {m m2 : List (Option Nat)} {L0 L : List Value} {fr} {w' : World} (h : ∀ u w', R u w' → J ⟨(cutFgt u m2 (cutFgt u m L0)).toArray, fr⟩ w') (hr : R (fun n => L.getD n (.bool false)) w') (he : cutFgt (fun n => L.getD n (.bool false)) m2 (cutFgt (fun n => L.getD n (.bool false)) m L0) = L) : Met J ⟨L.toArray, fr⟩ w' := by
 have := h _ _ hr
 rw [he] at this
 exact this
def mk0 : List (Option Nat) := [none, none, none, none, none, none, none, none, none, none, none, none, none, none, none, none, none, none, none, none, none, none, none, none, none, none, none, none, none, none, none, none, none, none, none, none, none, none, none, none, none, none, none, none, none, none, none, none, none, none, none, none, none, none, none, none, none, none, none, none, none, none, none, none, none, none, none, none, none, none, none, none, some 72, some 73, some 74, some 75, some 76, some 77, some 78, some 79, some 80, some 81, some 82, some 83, some 84, some 85, some 86, some 87, some 88, some 89, some 90, some 91, some 92, some 93, some 94, some 95, some 96, some 97, some 98, some 99, some 100, some 101, some 102, some 103, some 104, some 105, some 106, some 107, some 108, some 109, some 110, some 111, some 112, some 113, some 114, some 115, some 116, some 117, some 118, some 119, some 120, some 121, some 122, some 123, some 124, some 125, some 126, some 127, some 128, some 129, some 130, some 131, some 132, some 133, some 134, some 135, some 136, some 137, some 138, some 139, some 140, some 141, some 142, some 143, some 144, some 145, some 146, some 147, some 148, some 149, some 150, some 151, some 152, some 153, some 154, some 155, some 156, some 157, some 158, some 159, some 160, some 161, some 162, some 163, some 164, none, none, none, some 168, some 169, some 170, some 171, some 172, some 173, some 174, some 175, some 176, some 177, some 178, some 179, some 180, some 181, some 182, some 183, some 184, some 185, some 186, some 187, some 188, some 189, some 190, some 191, some 192, some 193, some 194, some 195, some 196, some 197, some 198, some 199, some 200, some 201, some 202, some 203, some 204, some 205, some 206, some 207, some 208, some 209, some 210, some 211, some 212, some 213, some 214, some 215, some 216, some 217, some 218, some 219, some 220, some 221, some 222, some 223, some 224, some 225, some 226, some 227, some 228, some 229, some 230, some 231, some 232, some 233, some 234, some 235, some 236, some 237, some 238, some 239, some 240, some 241, some 242, some 243, some 244, some 245, some 246, some 247, some 248, some 249, some 250, some 251, some 252, some 253, some 254, some 255, some 256, some 257, some 258, some 259, some 260, some 261, some 262, some 263, some 264, some 265, some 266, some 267, some 268, some 269, some 270, some 271, some 272, some 273, some 274, some 275, some 276, some 277, some 278, some 279, some 280, some 281, some 282, some 283, some 284, some 285, some 286, some 287, some 288, some 289, some 290, some 291, some 292, some 293, some 294, some 295, some 296, some 297, some 298, some 299, some 300, some 301, some 302, some 303, some 304, some 305, some 306, some 307, some 308, some 309, some 310, some 311, some 312, some 313, some 314, some 315, some 316, some 317, some 318, some 319, some 320, some 321, some 322, some 323, some 324, some 325, some 326, none, none, none, some 330, some 331, some 332, none, none, none, some 336, some 337, some 338, some 339, some 340, some 341, some 342, some 343, some 344, some 345, some 346, some 347, some 348, some 349, some 350, some 351, some 352, some 353, some 354, some 355, some 356, some 357, some 358, some 359, some 360, some 361, some 362, some 363, some 364, some 365, some 366, some 367, some 368, some 369, some 370, some 371, some 372, some 373, some 374, some 375, some 376, some 377, some 378, some 379, some 380, some 381, some 382, some 383, some 384, some 385, some 386, some 387, some 388, some 389, some 390, some 391, some 392, some 393, some 394, some 395, some 396, some 397, some 398, some 399, some 400, some 401, some 402, some 403, some 404, some 405, some 406, some 407, some 408, some 409, some 410, some 411, some 412, some 413, some 414, some 415, some 416, some 417, some 418, some 419, some 420, some 421, some 422, some 423, some 424, some 425, some 426, some 427, some 428, some 429, some 430, some 431, some 432, some 433, some 434, some 435, some 436, some 437, some 438, none, none, none, some 442, some 443, some 444, some 445, some 446, some 447, some 448, some 449, some 450, some 451, some 452, some 453, some 454, some 455, some 456]
set_option maxHeartbeats 200000000 in
set_option maxRecDepth 100000 in
theorem laws_FnPlacesOfPatterns.calls (k : Nat) (A0 : Option Addr) (c0 : Nat) (l0 : List Int) (A1 : Option Addr) (c1 : Nat) (l1 : List Int) (r : Bool) (w : World) (hr0 : Kd.C (Kd.int .u8) w A0 l0.length l0) (hc0 : l0.length ≤ c0) (hr1 : Kd.C (Kd.int .u8) w A1 l1.length l1) (hc1 : l1.length ≤ c1) (h : laws_FnPlacesOfPatterns.f k l0 l1 = some r) (hr_ : r = true) :
  Calls Tryz.prog 3 #[.slice A0 l0.length c0, .slice A1 l1.length c1] w fun e w' => e = .returned (.bool r) ∧ Below w.heap.size w w' := by
 have HRT := Aside0.mk hr_
 clear hr_
 have HR0 := Aside0.mk hr0
 have HC0 := Aside0.mk hc0
 clear hr0 hc0
 have HR1 := Aside0.mk hr1
 have HC1 := Aside0.mk hc1
 clear hr1 hc1
 have HB := Aside0.mk (Below.refl w.heap.size w)
 have H : ((laws_big.f l0 l1).bind fun t425 => (if t425 = true then (some true) else ((spec_DrawPlacesInPeriod.f k l0).bind fun bt426 => ((impl_PlacesInPeriod.f k bt426.1 bt426.2).bind fun bt430 => ((spec_PlacesInPeriod.f k bt426.1 bt426.2).bind fun bt432 => ((impl_RulesOfPattern.f k bt426.1 bt426.2).bind fun bt434 => ((spec_RulesOfPattern.f k bt426.1 bt426.2).bind fun bt438 => ((impl_ShareOfPlaces.f k bt426.1 bt426.2).bind fun bt442 => ((spec_ShareOfPlaces.f k bt426.1 bt426.2).bind fun bt445 => (if (bt430.2 != bt432.2) = true then (laws_FnPlacesOfPatterns.j0 k l1 bt426.1 bt426.2 bt430.1 bt430.2 bt434.1 bt434.2 bt442.1 bt442.2.1 true) else (if bt430.1 = bt432.1 then (if (bt434.2 != bt438.2) = true then (laws_FnPlacesOfPatterns.j0 k l1 bt426.1 bt426.2 bt430.1 bt430.2 bt434.1 bt434.2 bt442.1 bt442.2.1 true) else ((laws_tRules.f k bt434.1 bt438.1).bind fun t448 => (if t448 = true then (if (bt442.2.2 != bt445.2.2) = true then (laws_FnPlacesOfPatterns.j0 k l1 bt426.1 bt426.2 bt430.1 bt430.2 bt434.1 bt434.2 bt442.1 bt442.2.1 true) else (if bt442.1 = bt445.1 then (if bt442.2.1 = bt445.2.1 then (if (bt442.2.2 != bt430.2) = true then (laws_FnPlacesOfPatterns.j0 k l1 bt426.1 bt426.2 bt430.1 bt430.2 bt434.1 bt434.2 bt442.1 bt442.2.1 true) else (if bt434.2 = true then (laws_FnPlacesOfPatterns.j0 k l1 bt426.1 bt426.2 bt430.1 bt430.2 bt434.1 bt434.2 bt442.1 bt442.2.1 (!bt430.2)) else (laws_FnPlacesOfPatterns.j0 k l1 bt426.1 bt426.2 bt430.1 bt430.2 bt434.1 bt434.2 bt442.1 bt442.2.1 false))) else (laws_FnPlacesOfPatterns.j0 k l1 bt426.1 bt426.2 bt430.1 bt430.2 bt434.1 bt434.2 bt442.1 bt442.2.1 true)) else (laws_FnPlacesOfPatterns.j0 k l1 bt426.1 bt426.2 bt430.1 bt430.2 bt434.1 bt434.2 bt442.1 bt442.2.1 true))) else (laws_FnPlacesOfPatterns.j0 k l1 bt426.1 bt426.2 bt430.1 bt430.2 bt434.1 bt434.2 bt442.1 bt442.2.1 true)))) else (laws_FnPlacesOfPatterns.j0 k l1 bt426.1 bt426.2 bt430.1 bt430.2 bt434.1 bt434.2 bt442.1 bt442.2.1 true)))))))))))) = some r := h
 clear h
 replace H := Option.bind_eq_some_iff.mp H
 obtain ⟨t425, A30, H⟩ := H
 replace H : (if t425 = true then (some true) else ((spec_DrawPlacesInPeriod.f k l0).bind fun bt426 => ((impl_PlacesInPeriod.f k bt426.1 bt426.2).bind fun bt430 => ((spec_PlacesInPeriod.f k bt426.1 bt426.2).bind fun bt432 => ((impl_RulesOfPattern.f k bt426.1 bt426.2).bind fun bt434 => ((spec_RulesOfPattern.f k bt426.1 bt426.2).bind fun bt438 => ((impl_ShareOfPlaces.f k bt426.1 bt426.2).bind fun bt442 => ((spec_ShareOfPlaces.f k bt426.1 bt426.2).bind fun bt445 => (if (bt430.2 != bt432.2) = true then (laws_FnPlacesOfPatterns.j0 k l1 bt426.1 bt426.2 bt430.1 bt430.2 bt434.1 bt434.2 bt442.1 bt442.2.1 true) else (if bt430.1 = bt432.1 then (if (bt434.2 != bt438.2) = true then (laws_FnPlacesOfPatterns.j0 k l1 bt426.1 bt426.2 bt430.1 bt430.2 bt434.1 bt434.2 bt442.1 bt442.2.1 true) else ((laws_tRules.f k bt434.1 bt438.1).bind fun t448 => (if t448 = true then (if (bt442.2.2 != bt445.2.2) = true then (laws_FnPlacesOfPatterns.j0 k l1 bt426.1 bt426.2 bt430.1 bt430.2 bt434.1 bt434.2 bt442.1 bt442.2.1 true) else (if bt442.1 = bt445.1 then (if bt442.2.1 = bt445.2.1 then (if (bt442.2.2 != bt430.2) = true then (laws_FnPlacesOfPatterns.j0 k l1 bt426.1 bt426.2 bt430.1 bt430.2 bt434.1 bt434.2 bt442.1 bt442.2.1 true) else (if bt434.2 = true then (laws_FnPlacesOfPatterns.j0 k l1 bt426.1 bt426.2 bt430.1 bt430.2 bt434.1 bt434.2 bt442.1 bt442.2.1 (!bt430.2)) else (laws_FnPlacesOfPatterns.j0 k l1 bt426.1 bt426.2 bt430.1 bt430.2 bt434.1 bt434.2 bt442.1 bt442.2.1 false))) else (laws_FnPlacesOfPatterns.j0 k l1 bt426.1 bt426.2 bt430.1 bt430.2 bt434.1 bt434.2 bt442.1 bt442.2.1 true)) else (laws_FnPlacesOfPatterns.j0 k l1 bt426.1 bt426.2 bt430.1 bt430.2 bt434.1 bt434.2 bt442.1 bt442.2.1 true))) else (laws_FnPlacesOfPatterns.j0 k l1 bt426.1 bt426.2 bt430.1 bt430.2 bt434.1 bt434.2 bt442.1 bt442.2.1 true)))) else (laws_FnPlacesOfPatterns.j0 k l1 bt426.1 bt426.2 bt430.1 bt430.2 bt434.1 bt434.2 bt442.1 bt442.2.1 true))))))))))) = some r := H
 have A3 := Aside0.mk A30
 clear A30
 by_cases c4 : t425 = true
 ·
  subst c4
  have H1 : (some true) = some r := by rw [if_pos rfl] at H; exact H
  clear H
  have H := H1
  clear H1
  first
  | exact absurd (Option.some.inj (H.trans (congrArg some HRT.out))) Bool.false_ne_true
  |
   obtain rfl := Option.some.inj H
   go_enter Tryz.func3, Tryz.ntmps3
   go_wp2_with (first | ((with_reducible refine gate_callee (f := 4) rfl ?_); refine goesL_ (some 74) rfl rfl Tryz.func4 (by kernel_rfl) rfl #[.slice A0 l0.length c0, .slice A1 l1.length c1] rfl (by (try simp only [List.map_toArray, List.map_cons, List.map_nil]); first | done | rfl | (simp only [List.length_drop, List.length_take]; rfl)) ?_; (with_reducible refine (laws_big.calls _ _ l0 _ _ l1 true _ ?side1 ?side2 ?side3 ?side4 A3.out).mono ?_); (case side1 => repeat (first | exact HR0.out | (with_reducible refine Kd.C_alloc ?_ _) | (with_reducible refine Kd.C_drewN ?_ _) | (with_reducible refine Kd.C_drew ?_))); (case side2 => exact HC0.out); (case side3 => repeat (first | exact HR1.out | (with_reducible refine Kd.C_alloc ?_ _) | (with_reducible refine Kd.C_drewN ?_ _) | (with_reducible refine Kd.C_drew ?_))); (case side4 => exact HC1.out); rintro e w' ⟨rfl, ⟨nd, rfl⟩⟩; refine ⟨_, rfl, ?_⟩))
   go_ret
   exact ⟨by first | rfl | (simp [errW_none, errW_some] <;> rfl) | (simp [*, errW_none, errW_some] <;> rfl), by repeat (first | (with_reducible first | exact HB.out | apply below_alloc | apply pw_below_drewN | apply below_drew1))⟩
 ·
  replace c4 := Bool.eq_false_iff.mpr c4
  subst c4
  have H1 : ((spec_DrawPlacesInPeriod.f k l0).bind fun bt426 => ((impl_PlacesInPeriod.f k bt426.1 bt426.2).bind fun bt430 => ((spec_PlacesInPeriod.f k bt426.1 bt426.2).bind fun bt432 => ((impl_RulesOfPattern.f k bt426.1 bt426.2).bind fun bt434 => ((spec_RulesOfPattern.f k bt426.1 bt426.2).bind fun bt438 => ((impl_ShareOfPlaces.f k bt426.1 bt426.2).bind fun bt442 => ((spec_ShareOfPlaces.f k bt426.1 bt426.2).bind fun bt445 => (if (bt430.2 != bt432.2) = true then (laws_FnPlacesOfPatterns.j0 k l1 bt426.1 bt426.2 bt430.1 bt430.2 bt434.1 bt434.2 bt442.1 bt442.2.1 true) else (if bt430.1 = bt432.1 then (if (bt434.2 != bt438.2) = true then (laws_FnPlacesOfPatterns.j0 k l1 bt426.1 bt426.2 bt430.1 bt430.2 bt434.1 bt434.2 bt442.1 bt442.2.1 true) else ((laws_tRules.f k bt434.1 bt438.1).bind fun t448 => (if t448 = true then (if (bt442.2.2 != bt445.2.2) = true then (laws_FnPlacesOfPatterns.j0 k l1 bt426.1 bt426.2 bt430.1 bt430.2 bt434.1 bt434.2 bt442.1 bt442.2.1 true) else (if bt442.1 = bt445.1 then (if bt442.2.1 = bt445.2.1 then (if (bt442.2.2 != bt430.2) = true then (laws_FnPlacesOfPatterns.j0 k l1 bt426.1 bt426.2 bt430.1 bt430.2 bt434.1 bt434.2 bt442.1 bt442.2.1 true) else (if bt434.2 = true then (laws_FnPlacesOfPatterns.j0 k l1 bt426.1 bt426.2 bt430.1 bt430.2 bt434.1 bt434.2 bt442.1 bt442.2.1 (!bt430.2)) else (laws_FnPlacesOfPatterns.j0 k l1 bt426.1 bt426.2 bt430.1 bt430.2 bt434.1 bt434.2 bt442.1 bt442.2.1 false))) else (laws_FnPlacesOfPatterns.j0 k l1 bt426.1 bt426.2 bt430.1 bt430.2 bt434.1 bt434.2 bt442.1 bt442.2.1 true)) else (laws_FnPlacesOfPatterns.j0 k l1 bt426.1 bt426.2 bt430.1 bt430.2 bt434.1 bt434.2 bt442.1 bt442.2.1 true))) else (laws_FnPlacesOfPatterns.j0 k l1 bt426.1 bt426.2 bt430.1 bt430.2 bt434.1 bt434.2 bt442.1 bt442.2.1 true)))) else (laws_FnPlacesOfPatterns.j0 k l1 bt426.1 bt426.2 bt430.1 bt430.2 bt434.1 bt434.2 bt442.1 bt442.2.1 true)))))))))) = some r := by rw [if_neg (show ¬ (false = true) by decide)] at H; exact H
  clear H
  have H := H1
  clear H1
  replace H := Option.bind_eq_some_iff.mp H
  obtain ⟨⟨t426, t427⟩, A50, H⟩ := H
  replace H : ((impl_PlacesInPeriod.f k t426 t427).bind fun bt430 => ((spec_PlacesInPeriod.f k t426 t427).bind fun bt432 => ((impl_RulesOfPattern.f k t426 t427).bind fun bt434 => ((spec_RulesOfPattern.f k t426 t427).bind fun bt438 => ((impl_ShareOfPlaces.f k t426 t427).bind fun bt442 => ((spec_ShareOfPlaces.f k t426 t427).bind fun bt445 => (if (bt430.2 != bt432.2) = true then (laws_FnPlacesOfPatterns.j0 k l1 t426 t427 bt430.1 bt430.2 bt434.1 bt434.2 bt442.1 bt442.2.1 true) else (if bt430.1 = bt432.1 then (if (bt434.2 != bt438.2) = true then (laws_FnPlacesOfPatterns.j0 k l1 t426 t427 bt430.1 bt430.2 bt434.1 bt434.2 bt442.1 bt442.2.1 true) else ((laws_tRules.f k bt434.1 bt438.1).bind fun t448 => (if t448 = true then (if (bt442.2.2 != bt445.2.2) = true then (laws_FnPlacesOfPatterns.j0 k l1 t426 t427 bt430.1 bt430.2 bt434.1 bt434.2 bt442.1 bt442.2.1 true) else (if bt442.1 = bt445.1 then (if bt442.2.1 = bt445.2.1 then (if (bt442.2.2 != bt430.2) = true then (laws_FnPlacesOfPatterns.j0 k l1 t426 t427 bt430.1 bt430.2 bt434.1 bt434.2 bt442.1 bt442.2.1 true) else (if bt434.2 = true then (laws_FnPlacesOfPatterns.j0 k l1 t426 t427 bt430.1 bt430.2 bt434.1 bt434.2 bt442.1 bt442.2.1 (!bt430.2)) else (laws_FnPlacesOfPatterns.j0 k l1 t426 t427 bt430.1 bt430.2 bt434.1 bt434.2 bt442.1 bt442.2.1 false))) else (laws_FnPlacesOfPatterns.j0 k l1 t426 t427 bt430.1 bt430.2 bt434.1 bt434.2 bt442.1 bt442.2.1 true)) else (laws_FnPlacesOfPatterns.j0 k l1 t426 t427 bt430.1 bt430.2 bt434.1 bt434.2 bt442.1 bt442.2.1 true))) else (laws_FnPlacesOfPatterns.j0 k l1 t426 t427 bt430.1 bt430.2 bt434.1 bt434.2 bt442.1 bt442.2.1 true)))) else (laws_FnPlacesOfPatterns.j0 k l1 t426 t427 bt430.1 bt430.2 bt434.1 bt434.2 bt442.1 bt442.2.1 true))))))))) = some r := H
  have A5 := Aside0.mk A50
  clear A50
  replace H := Option.bind_eq_some_iff.mp H
  obtain ⟨⟨t430, t431⟩, A60, H⟩ := H
  replace H : ((spec_PlacesInPeriod.f k t426 t427).bind fun bt432 => ((impl_RulesOfPattern.f k t426 t427).bind fun bt434 => ((spec_RulesOfPattern.f k t426 t427).bind fun bt438 => ((impl_ShareOfPlaces.f k t426 t427).bind fun bt442 => ((spec_ShareOfPlaces.f k t426 t427).bind fun bt445 => (if (t431 != bt432.2) = true then (laws_FnPlacesOfPatterns.j0 k l1 t426 t427 t430 t431 bt434.1 bt434.2 bt442.1 bt442.2.1 true) else (if t430 = bt432.1 then (if (bt434.2 != bt438.2) = true then (laws_FnPlacesOfPatterns.j0 k l1 t426 t427 t430 t431 bt434.1 bt434.2 bt442.1 bt442.2.1 true) else ((laws_tRules.f k bt434.1 bt438.1).bind fun t448 => (if t448 = true then (if (bt442.2.2 != bt445.2.2) = true then (laws_FnPlacesOfPatterns.j0 k l1 t426 t427 t430 t431 bt434.1 bt434.2 bt442.1 bt442.2.1 true) else (if bt442.1 = bt445.1 then (if bt442.2.1 = bt445.2.1 then (if (bt442.2.2 != t431) = true then (laws_FnPlacesOfPatterns.j0 k l1 t426 t427 t430 t431 bt434.1 bt434.2 bt442.1 bt442.2.1 true) else (if bt434.2 = true then (laws_FnPlacesOfPatterns.j0 k l1 t426 t427 t430 t431 bt434.1 bt434.2 bt442.1 bt442.2.1 (!t431)) else (laws_FnPlacesOfPatterns.j0 k l1 t426 t427 t430 t431 bt434.1 bt434.2 bt442.1 bt442.2.1 false))) else (laws_FnPlacesOfPatterns.j0 k l1 t426 t427 t430 t431 bt434.1 bt434.2 bt442.1 bt442.2.1 true)) else (laws_FnPlacesOfPatterns.j0 k l1 t426 t427 t430 t431 bt434.1 bt434.2 bt442.1 bt442.2.1 true))) else (laws_FnPlacesOfPatterns.j0 k l1 t426 t427 t430 t431 bt434.1 bt434.2 bt442.1 bt442.2.1 true)))) else (laws_FnPlacesOfPatterns.j0 k l1 t426 t427 t430 t431 bt434.1 bt434.2 bt442.1 bt442.2.1 true)))))))) = some r := H
  have A6 := Aside0.mk A60
  clear A60
  replace H := Option.bind_eq_some_iff.mp H
  obtain ⟨⟨t432, t433⟩, A70, H⟩ := H
  replace H : ((impl_RulesOfPattern.f k t426 t427).bind fun bt434 => ((spec_RulesOfPattern.f k t426 t427).bind fun bt438 => ((impl_ShareOfPlaces.f k t426 t427).bind fun bt442 => ((spec_ShareOfPlaces.f k t426 t427).bind fun bt445 => (if (t431 != t433) = true then (laws_FnPlacesOfPatterns.j0 k l1 t426 t427 t430 t431 bt434.1 bt434.2 bt442.1 bt442.2.1 true) else (if t430 = t432 then (if (bt434.2 != bt438.2) = true then (laws_FnPlacesOfPatterns.j0 k l1 t426 t427 t430 t431 bt434.1 bt434.2 bt442.1 bt442.2.1 true) else ((laws_tRules.f k bt434.1 bt438.1).bind fun t448 => (if t448 = true then (if (bt442.2.2 != bt445.2.2) = true then (laws_FnPlacesOfPatterns.j0 k l1 t426 t427 t430 t431 bt434.1 bt434.2 bt442.1 bt442.2.1 true) else (if bt442.1 = bt445.1 then (if bt442.2.1 = bt445.2.1 then (if (bt442.2.2 != t431) = true then (laws_FnPlacesOfPatterns.j0 k l1 t426 t427 t430 t431 bt434.1 bt434.2 bt442.1 bt442.2.1 true) else (if bt434.2 = true then (laws_FnPlacesOfPatterns.j0 k l1 t426 t427 t430 t431 bt434.1 bt434.2 bt442.1 bt442.2.1 (!t431)) else (laws_FnPlacesOfPatterns.j0 k l1 t426 t427 t430 t431 bt434.1 bt434.2 bt442.1 bt442.2.1 false))) else (laws_FnPlacesOfPatterns.j0 k l1 t426 t427 t430 t431 bt434.1 bt434.2 bt442.1 bt442.2.1 true)) else (laws_FnPlacesOfPatterns.j0 k l1 t426 t427 t430 t431 bt434.1 bt434.2 bt442.1 bt442.2.1 true))) else (laws_FnPlacesOfPatterns.j0 k l1 t426 t427 t430 t431 bt434.1 bt434.2 bt442.1 bt442.2.1 true)))) else (laws_FnPlacesOfPatterns.j0 k l1 t426 t427 t430 t431 bt434.1 bt434.2 bt442.1 bt442.2.1 true))))))) = some r := H
  have A7 := Aside0.mk A70
  clear A70
  replace H := Option.bind_eq_some_iff.mp H
  obtain ⟨⟨t434, t435⟩, A80, H⟩ := H
  replace H : ((spec_RulesOfPattern.f k t426 t427).bind fun bt438 => ((impl_ShareOfPlaces.f k t426 t427).bind fun bt442 => ((spec_ShareOfPlaces.f k t426 t427).bind fun bt445 => (if (t431 != t433) = true then (laws_FnPlacesOfPatterns.j0 k l1 t426 t427 t430 t431 t434 t435 bt442.1 bt442.2.1 true) else (if t430 = t432 then (if (t435 != bt438.2) = true then (laws_FnPlacesOfPatterns.j0 k l1 t426 t427 t430 t431 t434 t435 bt442.1 bt442.2.1 true) else ((laws_tRules.f k t434 bt438.1).bind fun t448 => (if t448 = true then (if (bt442.2.2 != bt445.2.2) = true then (laws_FnPlacesOfPatterns.j0 k l1 t426 t427 t430 t431 t434 t435 bt442.1 bt442.2.1 true) else (if bt442.1 = bt445.1 then (if bt442.2.1 = bt445.2.1 then (if (bt442.2.2 != t431) = true then (laws_FnPlacesOfPatterns.j0 k l1 t426 t427 t430 t431 t434 t435 bt442.1 bt442.2.1 true) else (if t435 = true then (laws_FnPlacesOfPatterns.j0 k l1 t426 t427 t430 t431 t434 t435 bt442.1 bt442.2.1 (!t431)) else (laws_FnPlacesOfPatterns.j0 k l1 t426 t427 t430 t431 t434 t435 bt442.1 bt442.2.1 false))) else (laws_FnPlacesOfPatterns.j0 k l1 t426 t427 t430 t431 t434 t435 bt442.1 bt442.2.1 true)) else (laws_FnPlacesOfPatterns.j0 k l1 t426 t427 t430 t431 t434 t435 bt442.1 bt442.2.1 true))) else (laws_FnPlacesOfPatterns.j0 k l1 t426 t427 t430 t431 t434 t435 bt442.1 bt442.2.1 true)))) else (laws_FnPlacesOfPatterns.j0 k l1 t426 t427 t430 t431 t434 t435 bt442.1 bt442.2.1 true)))))) = some r := H
  have A8 := Aside0.mk A80
  clear A80
  replace H := Option.bind_eq_some_iff.mp H
  obtain ⟨⟨t438, t439⟩, A90, H⟩ := H
  replace H : ((impl_ShareOfPlaces.f k t426 t427).bind fun bt442 => ((spec_ShareOfPlaces.f k t426 t427).bind fun bt445 => (if (t431 != t433) = true then (laws_FnPlacesOfPatterns.j0 k l1 t426 t427 t430 t431 t434 t435 bt442.1 bt442.2.1 true) else (if t430 = t432 then (if (t435 != t439) = true then (laws_FnPlacesOfPatterns.j0 k l1 t426 t427 t430 t431 t434 t435 bt442.1 bt442.2.1 true) else ((laws_tRules.f k t434 t438).bind fun t448 => (if t448 = true then (if (bt442.2.2 != bt445.2.2) = true then (laws_FnPlacesOfPatterns.j0 k l1 t426 t427 t430 t431 t434 t435 bt442.1 bt442.2.1 true) else (if bt442.1 = bt445.1 then (if bt442.2.1 = bt445.2.1 then (if (bt442.2.2 != t431) = true then (laws_FnPlacesOfPatterns.j0 k l1 t426 t427 t430 t431 t434 t435 bt442.1 bt442.2.1 true) else (if t435 = true then (laws_FnPlacesOfPatterns.j0 k l1 t426 t427 t430 t431 t434 t435 bt442.1 bt442.2.1 (!t431)) else (laws_FnPlacesOfPatterns.j0 k l1 t426 t427 t430 t431 t434 t435 bt442.1 bt442.2.1 false))) else (laws_FnPlacesOfPatterns.j0 k l1 t426 t427 t430 t431 t434 t435 bt442.1 bt442.2.1 true)) else (laws_FnPlacesOfPatterns.j0 k l1 t426 t427 t430 t431 t434 t435 bt442.1 bt442.2.1 true))) else (laws_FnPlacesOfPatterns.j0 k l1 t426 t427 t430 t431 t434 t435 bt442.1 bt442.2.1 true)))) else (laws_FnPlacesOfPatterns.j0 k l1 t426 t427 t430 t431 t434 t435 bt442.1 bt442.2.1 true))))) = some r := H
  have A9 := Aside0.mk A90
  clear A90
  replace H := Option.bind_eq_some_iff.mp H
  obtain ⟨⟨t442, t443, t444⟩, A100, H⟩ := H
  replace H : ((spec_ShareOfPlaces.f k t426 t427).bind fun bt445 => (if (t431 != t433) = true then (laws_FnPlacesOfPatterns.j0 k l1 t426 t427 t430 t431 t434 t435 t442 t443 true) else (if t430 = t432 then (if (t435 != t439) = true then (laws_FnPlacesOfPatterns.j0 k l1 t426 t427 t430 t431 t434 t435 t442 t443 true) else ((laws_tRules.f k t434 t438).bind fun t448 => (if t448 = true then (if (t444 != bt445.2.2) = true then (laws_FnPlacesOfPatterns.j0 k l1 t426 t427 t430 t431 t434 t435 t442 t443 true) else (if t442 = bt445.1 then (if t443 = bt445.2.1 then (if (t444 != t431) = true then (laws_FnPlacesOfPatterns.j0 k l1 t426 t427 t430 t431 t434 t435 t442 t443 true) else (if t435 = true then (laws_FnPlacesOfPatterns.j0 k l1 t426 t427 t430 t431 t434 t435 t442 t443 (!t431)) else (laws_FnPlacesOfPatterns.j0 k l1 t426 t427 t430 t431 t434 t435 t442 t443 false))) else (laws_FnPlacesOfPatterns.j0 k l1 t426 t427 t430 t431 t434 t435 t442 t443 true)) else (laws_FnPlacesOfPatterns.j0 k l1 t426 t427 t430 t431 t434 t435 t442 t443 true))) else (laws_FnPlacesOfPatterns.j0 k l1 t426 t427 t430 t431 t434 t435 t442 t443 true)))) else (laws_FnPlacesOfPatterns.j0 k l1 t426 t427 t430 t431 t434 t435 t442 t443 true)))) = some r := H
  have A10 := Aside0.mk A100
  clear A100
  replace H := Option.bind_eq_some_iff.mp H
  obtain ⟨⟨t445, t446, t447⟩, A110, H⟩ := H
  replace H : (if (t431 != t433) = true then (laws_FnPlacesOfPatterns.j0 k l1 t426 t427 t430 t431 t434 t435 t442 t443 true) else (if t430 = t432 then (if (t435 != t439) = true then (laws_FnPlacesOfPatterns.j0 k l1 t426 t427 t430 t431 t434 t435 t442 t443 true) else ((laws_tRules.f k t434 t438).bind fun t448 => (if t448 = true then (if (t444 != t447) = true then (laws_FnPlacesOfPatterns.j0 k l1 t426 t427 t430 t431 t434 t435 t442 t443 true) else (if t442 = t445 then (if t443 = t446 then (if (t444 != t431) = true then (laws_FnPlacesOfPatterns.j0 k l1 t426 t427 t430 t431 t434 t435 t442 t443 true) else (if t435 = true then (laws_FnPlacesOfPatterns.j0 k l1 t426 t427 t430 t431 t434 t435 t442 t443 (!t431)) else (laws_FnPlacesOfPatterns.j0 k l1 t426 t427 t430 t431 t434 t435 t442 t443 false))) else (laws_FnPlacesOfPatterns.j0 k l1 t426 t427 t430 t431 t434 t435 t442 t443 true)) else (laws_FnPlacesOfPatterns.j0 k l1 t426 t427 t430 t431 t434 t435 t442 t443 true))) else (laws_FnPlacesOfPatterns.j0 k l1 t426 t427 t430 t431 t434 t435 t442 t443 true)))) else (laws_FnPlacesOfPatterns.j0 k l1 t426 t427 t430 t431 t434 t435 t442 t443 true))) = some r := H
  have A11 := Aside0.mk A110
  clear A110
  have HC12 := Aside0.mk H
  clear H
  go_enter Tryz.func3, Tryz.ntmps3
  go_upto_region 10 with (first | ((with_reducible refine gate_callee (f := 4) rfl ?_); refine goesL_ (some 74) rfl rfl Tryz.func4 (by kernel_rfl) rfl #[.slice A0 l0.length c0, .slice A1 l1.length c1] rfl (by (try simp only [List.map_toArray, List.map_cons, List.map_nil]); first | done | rfl | (simp only [List.length_drop, List.length_take]; rfl)) ?_; (with_reducible refine (laws_big.calls _ _ l0 _ _ l1 false _ ?side1 ?side2 ?side3 ?side4 A3.out).mono ?_); (case side1 => repeat (first | exact HR0.out | (with_reducible refine Kd.C_alloc ?_ _) | (with_reducible refine Kd.C_drewN ?_ _) | (with_reducible refine Kd.C_drew ?_))); (case side2 => exact HC0.out); (case side3 => repeat (first | exact HR1.out | (with_reducible refine Kd.C_alloc ?_ _) | (with_reducible refine Kd.C_drewN ?_ _) | (with_reducible refine Kd.C_drew ?_))); (case side4 => exact HC1.out); rintro e w' ⟨rfl, ⟨nd, rfl⟩⟩; refine ⟨_, rfl, ?_⟩) | ((with_reducible refine gate_callee (f := 5) rfl ?_); refine goesL_ (some 77) rfl rfl Tryz.func5 (by kernel_rfl) rfl #[.slice A0 l0.length c0] rfl (by (try simp only [List.map_toArray, List.map_cons, List.map_nil]); first | done | rfl | (simp only [List.length_drop, List.length_take]; rfl)) ?_; (with_reducible refine (spec_DrawPlacesInPeriod.calls k _ _ l0 t426 t427 _ ?side1 ?side2 A5.out).mono ?_); (case side1 => repeat (first | exact HR0.out | (with_reducible refine Kd.C_alloc ?_ _) | (with_reducible refine Kd.C_drewN ?_ _) | (with_reducible refine Kd.C_drew ?_))); (case side2 => exact HC0.out); rintro e w13 ⟨v428, rfl, ho0, hb⟩; refine ⟨_, rfl, ?_⟩; have n0_ := Aside0.mk (Kd.R_lower ho0 (below_size (by repeat (first | (with_reducible first | exact HB.out | apply below_alloc | apply pw_below_drewN | apply below_drew1))))); have n1_ := Aside0.mk (below_step (by repeat (first | (with_reducible first | exact HB.out | apply below_alloc | apply pw_below_drewN | apply below_drew1))) hb); clear HB; have HO429 := n0_; have HB := n1_; clear n0_ n1_; (try clear hb); (try clear ho0); obtain ⟨Ao14, co14, eo14⟩ := Kd.R_slice HO429.out; subst eo14) | ((with_reducible refine gate_callee (f := 6) rfl ?_); refine goesL_ (some 83) rfl rfl Tryz.func6 (by kernel_rfl) rfl #[.slice Ao14 t426.length co14, .int .i64 t427] rfl (by (try simp only [List.map_toArray, List.map_cons, List.map_nil]); first | done | rfl | (simp only [List.length_drop, List.length_take]; rfl)) ?_; (with_reducible refine (impl_PlacesInPeriod.calls k _ _ t426 t427 t430 t431 _ ?side1 ?side2 A6.out).mono ?_); (case side1 => repeat (first | exact (Kd.R_reads' HO429.out).2.2 | (with_reducible refine Kd.C_alloc ?_ _) | (with_reducible refine Kd.C_drewN ?_ _) | (with_reducible refine Kd.C_drew ?_))); (case side2 => exact (Kd.R_reads' HO429.out).2.1); rintro e w15 ⟨rfl, hb⟩; refine ⟨_, rfl, ?_⟩; have n0_ := Aside0.mk (Kd.R_below (by (with_reducible repeat (first | apply Kd.R_alloc | apply Kd.R_drewN | apply Kd.R_drew)); exact HO429.out) hb); have n1_ := Aside0.mk (below_step (by repeat (first | (with_reducible first | exact HB.out | apply below_alloc | apply pw_below_drewN | apply below_drew1))) hb); clear HO429; clear HB; have HO429 := n0_; have HB := n1_; clear n0_ n1_; (try clear hb)) | ((with_reducible refine gate_callee (f := 7) rfl ?_); refine goesL_ (some 89) rfl rfl Tryz.func7 (by kernel_rfl) rfl #[.slice Ao14 t426.length co14, .int .i64 t427] rfl (by (try simp only [List.map_toArray, List.map_cons, List.map_nil]); first | done | rfl | (simp only [List.length_drop, List.length_take]; rfl)) ?_; (with_reducible refine (spec_PlacesInPeriod.calls k _ _ t426 t427 t432 t433 _ ?side1 ?side2 A7.out).mono ?_); (case side1 => repeat (first | exact (Kd.R_reads' HO429.out).2.2 | (with_reducible refine Kd.C_alloc ?_ _) | (with_reducible refine Kd.C_drewN ?_ _) | (with_reducible refine Kd.C_drew ?_))); (case side2 => exact (Kd.R_reads' HO429.out).2.1); rintro e w16 ⟨rfl, hb⟩; refine ⟨_, rfl, ?_⟩; have n0_ := Aside0.mk (Kd.R_below (by (with_reducible repeat (first | apply Kd.R_alloc | apply Kd.R_drewN | apply Kd.R_drew)); exact HO429.out) hb); have n1_ := Aside0.mk (below_step (by repeat (first | (with_reducible first | exact HB.out | apply below_alloc | apply pw_below_drewN | apply below_drew1))) hb); clear HO429; clear HB; have HO429 := n0_; have HB := n1_; clear n0_ n1_; (try clear hb)) | ((with_reducible refine gate_callee (f := 8) rfl ?_); refine goesL_ (some 95) rfl rfl Tryz.func8 (by kernel_rfl) rfl #[.slice Ao14 t426.length co14, .int .i64 t427] rfl (by (try simp only [List.map_toArray, List.map_cons, List.map_nil]); first | done | rfl | (simp only [List.length_drop, List.length_take]; rfl)) ?_; (with_reducible refine (impl_RulesOfPattern.calls k _ _ t426 t427 t434 t435 _ ?side1 ?side2 A8.out).mono ?_); (case side1 => repeat (first | exact (Kd.R_reads' HO429.out).2.2 | (with_reducible refine Kd.C_alloc ?_ _) | (with_reducible refine Kd.C_drewN ?_ _) | (with_reducible refine Kd.C_drew ?_))); (case side2 => exact (Kd.R_reads' HO429.out).2.1); rintro e w17 ⟨v436, rfl, ho0, hb⟩; refine ⟨_, rfl, ?_⟩; have n0_ := Aside0.mk (Kd.R_below (by (with_reducible repeat (first | apply Kd.R_alloc | apply Kd.R_drewN | apply Kd.R_drew)); exact HO429.out) hb); have n1_ := Aside0.mk (Kd.R_lower ho0 (below_size (by repeat (first | (with_reducible first | exact HB.out | apply below_alloc | apply pw_below_drewN | apply below_drew1))))); have n2_ := Aside0.mk (below_step (by repeat (first | (with_reducible first | exact HB.out | apply below_alloc | apply pw_below_drewN | apply below_drew1))) hb); clear HO429; clear HB; have HO429 := n0_; have HO437 := n1_; have HB := n2_; clear n0_ n1_ n2_; (try clear hb); (try clear ho0)) | ((with_reducible refine gate_callee (f := 9) rfl ?_); refine goesL_ (some 101) rfl rfl Tryz.func9 (by kernel_rfl) rfl #[.slice Ao14 t426.length co14, .int .i64 t427] rfl (by (try simp only [List.map_toArray, List.map_cons, List.map_nil]); first | done | rfl | (simp only [List.length_drop, List.length_take]; rfl)) ?_; (with_reducible refine (spec_RulesOfPattern.calls k _ _ t426 t427 t438 t439 _ ?side1 ?side2 A9.out).mono ?_); (case side1 => repeat (first | exact (Kd.R_reads' HO429.out).2.2 | (with_reducible refine Kd.C_alloc ?_ _) | (with_reducible refine Kd.C_drewN ?_ _) | (with_reducible refine Kd.C_drew ?_))); (case side2 => exact (Kd.R_reads' HO429.out).2.1); rintro e w18 ⟨v440, rfl, ho0, hb⟩; refine ⟨_, rfl, ?_⟩; have n0_ := Aside0.mk (Kd.R_below (by (with_reducible repeat (first | apply Kd.R_alloc | apply Kd.R_drewN | apply Kd.R_drew)); exact HO429.out) hb); have n1_ := Aside0.mk (Kd.R_elder' (by (with_reducible repeat (first | apply Kd.R_alloc | apply Kd.R_drewN | apply Kd.R_drew)); exact HO437.out) (Kd.R_base ho0) hb); have n2_ := Aside0.mk (Kd.R_lower (Kd.R_new' ho0 (Kd.R_lt (by (with_reducible repeat (first | apply Kd.R_alloc | apply Kd.R_drewN | apply Kd.R_drew)); exact HO437.out))) (below_size (by repeat (first | (with_reducible first | exact HB.out | apply below_alloc | apply pw_below_drewN | apply below_drew1))))); have n3_ := Aside0.mk (below_step (by repeat (first | (with_reducible first | exact HB.out | apply below_alloc | apply pw_below_drewN | apply below_drew1))) hb); clear HO429; clear HO437; clear HB; have HO429 := n0_; have HO437 := n1_; have HO441 := n2_; have HB := n3_; clear n0_ n1_ n2_ n3_; (try clear hb); (try clear ho0)) | ((with_reducible refine gate_callee (f := 10) rfl ?_); refine goesL_ (some 107) rfl rfl Tryz.func10 (by kernel_rfl) rfl #[.slice Ao14 t426.length co14, .int .i64 t427] rfl (by (try simp only [List.map_toArray, List.map_cons, List.map_nil]); first | done | rfl | (simp only [List.length_drop, List.length_take]; rfl)) ?_; (with_reducible refine (impl_ShareOfPlaces.calls k _ _ t426 t427 t442 t443 t444 _ ?side1 ?side2 A10.out).mono ?_); (case side1 => repeat (first | exact (Kd.R_reads' HO429.out).2.2 | (with_reducible refine Kd.C_alloc ?_ _) | (with_reducible refine Kd.C_drewN ?_ _) | (with_reducible refine Kd.C_drew ?_))); (case side2 => exact (Kd.R_reads' HO429.out).2.1); rintro e w19 ⟨rfl, hb⟩; refine ⟨_, rfl, ?_⟩; have n0_ := Aside0.mk (Kd.R_below (by (with_reducible repeat (first | apply Kd.R_alloc | apply Kd.R_drewN | apply Kd.R_drew)); exact HO429.out) hb); have n1_ := Aside0.mk (Kd.R_below (by (with_reducible repeat (first | apply Kd.R_alloc | apply Kd.R_drewN | apply Kd.R_drew)); exact HO437.out) hb); have n2_ := Aside0.mk (Kd.R_below (by (with_reducible repeat (first | apply Kd.R_alloc | apply Kd.R_drewN | apply Kd.R_drew)); exact HO441.out) hb); have n3_ := Aside0.mk (below_step (by repeat (first | (with_reducible first | exact HB.out | apply below_alloc | apply pw_below_drewN | apply below_drew1))) hb); clear HO429; clear HO437; clear HO441; clear HB; have HO429 := n0_; have HO437 := n1_; have HO441 := n2_; have HB := n3_; clear n0_ n1_ n2_ n3_; (try clear hb)) | ((with_reducible refine gate_callee (f := 11) rfl ?_); refine goesL_ (some 114) rfl rfl Tryz.func11 (by kernel_rfl) rfl #[.slice Ao14 t426.length co14, .int .i64 t427] rfl (by (try simp only [List.map_toArray, List.map_cons, List.map_nil]); first | done | rfl | (simp only [List.length_drop, List.length_take]; rfl)) ?_; (with_reducible refine (spec_ShareOfPlaces.calls k _ _ t426 t427 t445 t446 t447 _ ?side1 ?side2 A11.out).mono ?_); (case side1 => repeat (first | exact (Kd.R_reads' HO429.out).2.2 | (with_reducible refine Kd.C_alloc ?_ _) | (with_reducible refine Kd.C_drewN ?_ _) | (with_reducible refine Kd.C_drew ?_))); (case side2 => exact (Kd.R_reads' HO429.out).2.1); rintro e w20 ⟨rfl, hb⟩; refine ⟨_, rfl, ?_⟩; have n0_ := Aside0.mk (Kd.R_below (by (with_reducible repeat (first | apply Kd.R_alloc | apply Kd.R_drewN | apply Kd.R_drew)); exact HO429.out) hb); have n1_ := Aside0.mk (Kd.R_below (by (with_reducible repeat (first | apply Kd.R_alloc | apply Kd.R_drewN | apply Kd.R_drew)); exact HO437.out) hb); have n2_ := Aside0.mk (Kd.R_below (by (with_reducible repeat (first | apply Kd.R_alloc | apply Kd.R_drewN | apply Kd.R_drew)); exact HO441.out) hb); have n3_ := Aside0.mk (below_step (by repeat (first | (with_reducible first | exact HB.out | apply below_alloc | apply pw_below_drewN | apply below_drew1))) hb); clear HO429; clear HO437; clear HO441; clear HB; have HO429 := n0_; have HO437 := n1_; have HO441 := n2_; have HB := n3_; clear n0_ n1_ n2_ n3_; (try clear hb)))
  (try simp only [Act.put, List.setIfInBounds_toArray, List.set_cons_zero, List.set_cons_succ])
  refine cutF mk0 [] (fun u_ wc => ∃ (kq : Nat) (x163_11 : Bool), (u_ 163) = .bool x163_11 ∧ Aside0 (laws_FnPlacesOfPatterns.j0 kq l1 t426 t427 t430 t431 t434 t435 t442 t443 x163_11 = some r) ∧ Aside0 (kq ≤ k) ∧ Aside0 (Kd.R (Kd.int .i64) 3 wc w.heap.size (fun _ => True) (.slice Ao14 t426.length co14) t426) ∧ Aside0 (Kd.R k65 65 wc w.heap.size (fun _ => True) v436 t434) ∧ Aside0 (Below w.heap.size w wc)) ?_ ?_
  ·
   as_aux_lemma =>
    intro J_ K_ hJ_ hK_
    have H := HC12.out
    clear HC12
    by_cases c21 : (t431 != t433) = true
    ·
     rw [if_pos c21] at H
     exact (laws_FnPlacesOfPatterns.j0_no _ _ _ _ _ _ _ _ _ _ (H.trans (congrArg some HRT.out))).elim
    ·
     rw [if_neg c21] at H
     have c21b0 : (t431 != t433) = false := by simpa using c21
     (try (have c21b1 : decide (t431 = t433) = true := by simpa using c21))
     (try (have c21b2 : (t431 == t433) = true := by simpa using c21))
     clear c21
     (first | rw [c21b0] | (simp only [i64_w, i32_w]; rw [c21b0]) | skip)
     by_cases c22 : t430 = t432
     ·
      rw [if_pos c22] at H
      have c22b0 : (t430 == t432) = true := beq_iff_eq.mpr c22
      have c22b1 : (t430 != t432) = false := bne_eq_false_iff_eq.mpr c22
      clear c22
      by_cases c23 : (t435 != t439) = true
      ·
       rw [if_pos c23] at H
       exact (laws_FnPlacesOfPatterns.j0_no _ _ _ _ _ _ _ _ _ _ (H.trans (congrArg some HRT.out))).elim
      ·
       rw [if_neg c23] at H
       have c23b0 : (t435 != t439) = false := by simpa using c23
       (try (have c23b1 : decide (t435 = t439) = true := by simpa using c23))
       (try (have c23b2 : (t435 == t439) = true := by simpa using c23))
       clear c23
       replace H := Option.bind_eq_some_iff.mp H
       obtain ⟨t448, A240, H⟩ := H
       replace H : (if t448 = true then (if (t444 != t447) = true then (laws_FnPlacesOfPatterns.j0 k l1 t426 t427 t430 t431 t434 t435 t442 t443 true) else (if t442 = t445 then (if t443 = t446 then (if (t444 != t431) = true then (laws_FnPlacesOfPatterns.j0 k l1 t426 t427 t430 t431 t434 t435 t442 t443 true) else (if t435 = true then (laws_FnPlacesOfPatterns.j0 k l1 t426 t427 t430 t431 t434 t435 t442 t443 (!t431)) else (laws_FnPlacesOfPatterns.j0 k l1 t426 t427 t430 t431 t434 t435 t442 t443 false))) else (laws_FnPlacesOfPatterns.j0 k l1 t426 t427 t430 t431 t434 t435 t442 t443 true)) else (laws_FnPlacesOfPatterns.j0 k l1 t426 t427 t430 t431 t434 t435 t442 t443 true))) else (laws_FnPlacesOfPatterns.j0 k l1 t426 t427 t430 t431 t434 t435 t442 t443 true)) = some r := H
       have A24 := Aside0.mk A240
       clear A240
       by_cases c25 : t448 = true
       ·
        subst c25
        have H1 : (if (t444 != t447) = true then (laws_FnPlacesOfPatterns.j0 k l1 t426 t427 t430 t431 t434 t435 t442 t443 true) else (if t442 = t445 then (if t443 = t446 then (if (t444 != t431) = true then (laws_FnPlacesOfPatterns.j0 k l1 t426 t427 t430 t431 t434 t435 t442 t443 true) else (if t435 = true then (laws_FnPlacesOfPatterns.j0 k l1 t426 t427 t430 t431 t434 t435 t442 t443 (!t431)) else (laws_FnPlacesOfPatterns.j0 k l1 t426 t427 t430 t431 t434 t435 t442 t443 false))) else (laws_FnPlacesOfPatterns.j0 k l1 t426 t427 t430 t431 t434 t435 t442 t443 true)) else (laws_FnPlacesOfPatterns.j0 k l1 t426 t427 t430 t431 t434 t435 t442 t443 true))) = some r := by rw [if_pos rfl] at H; exact H
        clear H
        have H := H1
        clear H1
        by_cases c26 : (t444 != t447) = true
        ·
         rw [if_pos c26] at H
         exact (laws_FnPlacesOfPatterns.j0_no _ _ _ _ _ _ _ _ _ _ (H.trans (congrArg some HRT.out))).elim
        ·
         rw [if_neg c26] at H
         have c26b0 : (t444 != t447) = false := by simpa using c26
         (try (have c26b1 : decide (t444 = t447) = true := by simpa using c26))
         (try (have c26b2 : (t444 == t447) = true := by simpa using c26))
         clear c26
         by_cases c29 : t442 = t445
         ·
          rw [if_pos c29] at H
          have c29b0 : (t442 == t445) = true := beq_iff_eq.mpr c29
          have c29b1 : (t442 != t445) = false := bne_eq_false_iff_eq.mpr c29
          clear c29
          by_cases c30 : t443 = t446
          ·
           rw [if_pos c30] at H
           have c30b0 : (t443 == t446) = true := beq_iff_eq.mpr c30
           have c30b1 : (t443 != t446) = false := bne_eq_false_iff_eq.mpr c30
           clear c30
           by_cases c31 : (t444 != t431) = true
           ·
            rw [if_pos c31] at H
            exact (laws_FnPlacesOfPatterns.j0_no _ _ _ _ _ _ _ _ _ _ (H.trans (congrArg some HRT.out))).elim
           ·
            rw [if_neg c31] at H
            have c31b0 : (t444 != t431) = false := by simpa using c31
            (try (have c31b1 : decide (t444 = t431) = true := by simpa using c31))
            (try (have c31b2 : (t444 == t431) = true := by simpa using c31))
            clear c31
            by_cases c34 : t435 = true
            ·
             subst c34
             have H1 : (laws_FnPlacesOfPatterns.j0 k l1 t426 t427 t430 t431 t434 true t442 t443 (!t431)) = some r := by rw [if_pos rfl] at H; exact H
             clear H
             have H := H1
             clear H1
             have H' := Aside0.mk H
             clear H
             obtain ⟨Ao35, co35, eo35⟩ := Kd.R_slice HO437.out
             subst eo35
             obtain ⟨Ao36, co36, eo36⟩ := Kd.R_slice HO441.out
             subst eo36
             go_wp2_with (first | (go_at_call 12; (with_reducible refine (laws_tRules.calls k _ _ t434 _ _ t438 true _ ?side1 ?side2 ?side3 ?side4 A24.out).mono ?_); (case side1 => repeat (first | exact (Kd.R_reads' HO437.out).2.2 | (with_reducible refine Kd.C_alloc ?_ _) | (with_reducible refine Kd.C_drewN ?_ _) | (with_reducible refine Kd.C_drew ?_))); (case side2 => exact (Kd.R_reads' HO437.out).2.1); (case side3 => repeat (first | exact (Kd.R_reads' HO441.out).2.2 | (with_reducible refine Kd.C_alloc ?_ _) | (with_reducible refine Kd.C_drewN ?_ _) | (with_reducible refine Kd.C_drew ?_))); (case side4 => exact (Kd.R_reads' HO441.out).2.1); rintro e w' ⟨rfl, ⟨nd, rfl⟩⟩))
             refine cutMeet hJ_ ?_ (by kernel_rfl)
             exact ⟨_, (!t431), (by first | rfl | (simp; done) | (simp [*]; done)), H', ⟨by first | omega | exact Nat.le_refl _⟩, ⟨by (with_reducible repeat (first | apply Kd.R_alloc | apply Kd.R_drewN | apply Kd.R_drew)); exact HO429.out⟩, ⟨by (with_reducible repeat (first | apply Kd.R_alloc | apply Kd.R_drewN | apply Kd.R_drew)); exact Kd.R_mono HO437.out (fun _ hk => trivial)⟩, ⟨by repeat (first | (with_reducible first | exact HB.out | apply below_alloc | apply pw_below_drewN | apply below_drew1))⟩⟩
            ·
             replace c34 := Bool.eq_false_iff.mpr c34
             subst c34
             have H1 : (laws_FnPlacesOfPatterns.j0 k l1 t426 t427 t430 t431 t434 false t442 t443 false) = some r := by rw [if_neg (show ¬ (false = true) by decide)] at H; exact H
             clear H
             have H := H1
             clear H1
             have H' := Aside0.mk H
             clear H
             obtain ⟨Ao37, co37, eo37⟩ := Kd.R_slice HO437.out
             subst eo37
             obtain ⟨Ao38, co38, eo38⟩ := Kd.R_slice HO441.out
             subst eo38
             go_wp2_with (first | (go_at_call 12; (with_reducible refine (laws_tRules.calls k _ _ t434 _ _ t438 true _ ?side1 ?side2 ?side3 ?side4 A24.out).mono ?_); (case side1 => repeat (first | exact (Kd.R_reads' HO437.out).2.2 | (with_reducible refine Kd.C_alloc ?_ _) | (with_reducible refine Kd.C_drewN ?_ _) | (with_reducible refine Kd.C_drew ?_))); (case side2 => exact (Kd.R_reads' HO437.out).2.1); (case side3 => repeat (first | exact (Kd.R_reads' HO441.out).2.2 | (with_reducible refine Kd.C_alloc ?_ _) | (with_reducible refine Kd.C_drewN ?_ _) | (with_reducible refine Kd.C_drew ?_))); (case side4 => exact (Kd.R_reads' HO441.out).2.1); rintro e w' ⟨rfl, ⟨nd, rfl⟩⟩))
             refine cutMeet hJ_ ?_ (by kernel_rfl)
             exact ⟨_, (false), (by first | rfl | (simp; done) | (simp [*]; done)), H', ⟨by first | omega | exact Nat.le_refl _⟩, ⟨by (with_reducible repeat (first | apply Kd.R_alloc | apply Kd.R_drewN | apply Kd.R_drew)); exact HO429.out⟩, ⟨by (with_reducible repeat (first | apply Kd.R_alloc | apply Kd.R_drewN | apply Kd.R_drew)); exact Kd.R_mono HO437.out (fun _ hk => trivial)⟩, ⟨by repeat (first | (with_reducible first | exact HB.out | apply below_alloc | apply pw_below_drewN | apply below_drew1))⟩⟩
          ·
           rw [if_neg c30] at H
           exact (laws_FnPlacesOfPatterns.j0_no _ _ _ _ _ _ _ _ _ _ (H.trans (congrArg some HRT.out))).elim
         ·
          rw [if_neg c29] at H
          exact (laws_FnPlacesOfPatterns.j0_no _ _ _ _ _ _ _ _ _ _ (H.trans (congrArg some HRT.out))).elim
       ·
        replace c25 := Bool.eq_false_iff.mpr c25
        subst c25
        have H1 : (laws_FnPlacesOfPatterns.j0 k l1 t426 t427 t430 t431 t434 t435 t442 t443 true) = some r := by rw [if_neg (show ¬ (false = true) by decide)] at H; exact H
        clear H
        have H := H1
        clear H1
        exact (laws_FnPlacesOfPatterns.j0_no _ _ _ _ _ _ _ _ _ _ (H.trans (congrArg some HRT.out))).elim
     ·
      rw [if_neg c22] at H
      exact (laws_FnPlacesOfPatterns.j0_no _ _ _ _ _ _ _ _ _ _ (H.trans (congrArg some HRT.out))).elim
  ·
   intro u_ wc hcut
   clear HC12
   obtain ⟨kq, x163_11, e_163, HA, HJ11, HO_5, HO_11, HB⟩ := hcut
   dsimp only [cutFgt, mk0]
   rw [e_163]
   cases kq with
   | zero => exact absurd HA.out (by simp [laws_FnPlacesOfPatterns.j0])
   | succ kj11 =>
    have H := HA.out
    clear HA
    simp only [laws_FnPlacesOfPatterns.j0] at H
    by_cases c45 : x163_11 = true
    ·
     subst c45
     have H1 : (some false) = some r := by rw [if_pos rfl] at H; exact H
     clear H
     have H := H1
     clear H1
     exact absurd (Option.some.inj (H.trans (congrArg some HRT.out))) Bool.false_ne_true
    ·
     replace c45 := Bool.eq_false_iff.mpr c45
     subst c45
     have H1 : (if t431 = true then ((some (([2, 3, 5, 7, 11, 13] : List Int) : List Int)).bind fun y449 => (laws_FnPlacesOfPatterns.l0 kj11 l1 t426 t427 t430 t434 t435 t442 t443 1 y449 (y449.length : Int) 0)) else (laws_FnPlacesOfPatterns.j5 kj11 l1)) = some r := by rw [if_neg (show ¬ (false = true) by decide)] at H; exact H
     clear H
     have H := H1
     clear H1
     have HC46 := Aside0.mk H
     clear H
     go_upto_if 164 with (fail)
     refine cutF mk0 [none, none, none, none, some 4, none, none, none, none, none, none, none, none, none, none, none, none, none, none, none, none, some 21, some 22, some 23, some 24, some 25, some 26, some 27, some 28, some 29, none, none, none, none, none, none, none, none, none, none, none, none, none, none, none, none, none, none, none, none, none, none, none, none, none, none, none, none, none, none, none, none, none, none, none, none, none, none, none, none, none, none, none, none, none, none, none, none, none, none, none, none, none, none, none, none, none, none, none, none, none, none, none, none, none, none, none, none, none, none, none, none, none, none, none, none, none, none, none, none, none, none, none, none, none, none, none, none, none, none, none, none, none, none, none, none, none, none, none, none, none, none, none, none, none, none, none, none, none, none, none, none, none, none, none, none, none, none, none, none, none, none, none, none, none, none, none, none, none, none, none, none, none, none, none, some 165, some 166, some 167] (fun u_ wc => ∃ (kq : Nat), Aside0 (laws_FnPlacesOfPatterns.j5 kq l1 = some r) ∧ Aside0 (kq ≤ kj11) ∧ Aside0 (Below w.heap.size w wc)) ?_ ?_
     ·
       intro J_ K_ hJ_ hK_
       have H := HC46.out
       clear HC46
       by_cases c47 : t431 = true
       ·
        subst c47
        have H1 : ((some (([2, 3, 5, 7, 11, 13] : List Int) : List Int)).bind fun y449 => (laws_FnPlacesOfPatterns.l0 kj11 l1 t426 t427 t430 t434 t435 t442 t443 1 y449 (y449.length : Int) 0)) = some r := by rw [if_pos rfl] at H; exact H
        clear H
        have H := H1
        clear H1
        obtain ⟨y449, hy449⟩ : ∃ y_ : List Int, y_ = (([2, 3, 5, 7, 11, 13] : List Int)) := ⟨_, rfl⟩
        replace H : (laws_FnPlacesOfPatterns.l0 kj11 l1 t426 t427 t430 t434 t435 t442 t443 1 y449 (y449.length : Int) 0) = some r := by first | (rw [hy449]; with_reducible exact H) | (have H2_ := (Option.bind_some _ _).symm.trans H; rw [hy449]; with_reducible exact H2_) | (have H2_ := (Option.bind_some _ _).symm.trans H; with_reducible exact H2_) | with_reducible exact H | (rw [hy449]; exact H) | exact H
        have Ny449 := Aside0.mk hy449
        clear hy449
        have H' := Aside0.mk H
        clear H
        go_wp2_with (first | ((with_reducible refine gate_dst (N := 165) rfl ?_); (try (refine gate_guard (by rfl) ?_; dsimp only)); refine Kd.R_lit (Kd.int .i64) _ 3 ?hg (N := 165) ?hd (xs := ([2, 3, 5, 7, 11, 13] : List Int)) (inner := [.int .i64 2, .int .i64 3, .int .i64 5, .int .i64 7, .int .i64 11, .int .i64 13]) (ok := fun _ => True) (okp := fun _ => True) ?hr ?hp (fun _ hk => hk) trivial (Below.refl _ _) (Nat.le_refl _) (by simp) ?_; (case hd => rfl); (case hg => rfl); (case hr => first | (go_simp; done) | (go_simp; rfl)); (case hp => exact (Reps.one (show Kd.M (Kd.int .i64) _ _ _ 2 [.int .i64 2] from rfl) (Reps.one (show Kd.M (Kd.int .i64) _ _ _ 3 [.int .i64 3] from rfl) (Reps.one (show Kd.M (Kd.int .i64) _ _ _ 5 [.int .i64 5] from rfl) (Reps.one (show Kd.M (Kd.int .i64) _ _ _ 7 [.int .i64 7] from rfl) (Reps.one (show Kd.M (Kd.int .i64) _ _ _ 11 [.int .i64 11] from rfl) (Reps.one (show Kd.M (Kd.int .i64) _ _ _ 13 [.int .i64 13] from rfl) (Reps.none _ _)))))))); intro v450 w48 ho49 hb hg_ hnew_; clear hg_ hnew_; (first | rw [← Ny449.out] at ho49 | (simp only [Int.reduceToNat] at ho49; rw [← Ny449.out] at ho49)); have n0_ := Aside0.mk (Kd.R_elder' (by (with_reducible repeat (first | apply Kd.R_alloc | apply Kd.R_drewN | apply Kd.R_drew)); exact HO_5.out) (Kd.R_base ho49) hb); have n1_ := Aside0.mk (Kd.R_below (by (with_reducible repeat (first | apply Kd.R_alloc | apply Kd.R_drewN | apply Kd.R_drew)); exact HO_11.out) hb); have n2_ := Aside0.mk (Kd.R_lower (Kd.R_new' ho49 (Kd.R_lt (by (with_reducible repeat (first | apply Kd.R_alloc | apply Kd.R_drewN | apply Kd.R_drew)); exact HO_5.out))) (below_size (by repeat (first | (with_reducible first | exact HB.out | apply below_alloc | apply pw_below_drewN | apply below_drew1))))); have n3_ := Aside0.mk (below_step (by repeat (first | (with_reducible first | exact HB.out | apply below_alloc | apply pw_below_drewN | apply below_drew1))) hb); clear HO_5; clear HO_11; clear HB; have HO_5 := n0_; have HO_11 := n1_; have HO451 := n2_; have HB := n3_; clear n0_ n1_ n2_ n3_; clear hb ho49; obtain ⟨Ao50, co50, eo50⟩ := Kd.R_slice HO451.out; subst eo50))
        go_loopg [21, 167] kj11 (fun kq v21 v167 w' => ∃ (x21_2 : Int) (x167_2 : Int), v21 = .int .i64 x21_2 ∧ v167 = .int .i64 x167_2 ∧ Aside0 (laws_FnPlacesOfPatterns.l0 kq l1 t426 t427 t430 t434 t435 t442 t443 x21_2 y449 (y449.length : Int) x167_2 = some r) ∧ Aside0 (kq ≤ kj11) ∧ Aside0 (Kd.R (Kd.int .i64) 3 w' w.heap.size (fun k_ => some k_ ≠ ((.slice Ao50 y449.length co50) : Value).ownBlock) (.slice Ao14 t426.length co14) t426) ∧ Aside0 (Kd.R k65 65 w' w.heap.size (fun _ => True) v436 t434) ∧ Aside0 (Kd.R (Kd.int .i64) 3 w' w.heap.size (fun k_ => some k_ ≠ ((.slice Ao14 t426.length co14) : Value).ownBlock) (.slice Ao50 y449.length co50) y449) ∧ Aside0 (Below w.heap.size w w'))
        case atStart => exact ⟨(1), (0), (by first | rfl | (simp; done) | (simp [*]; done)), (by first | rfl | (simp; done) | (simp [*]; done)), H', ⟨Nat.le_refl _⟩, ⟨by (with_reducible repeat (first | apply Kd.R_alloc | apply Kd.R_drewN | apply Kd.R_drew)); exact Kd.R_mono HO_5.out (fun _ hk => hk.2)⟩, ⟨by (with_reducible repeat (first | apply Kd.R_alloc | apply Kd.R_drewN | apply Kd.R_drew)); exact HO_11.out⟩, ⟨by (with_reducible repeat (first | apply Kd.R_alloc | apply Kd.R_drewN | apply Kd.R_drew)); exact Kd.R_mono HO451.out (fun _ hk => hk.2)⟩, ⟨by repeat (first | (with_reducible first | exact HB.out | apply below_alloc | apply pw_below_drewN | apply below_drew1))⟩⟩
        case round =>
         clear H'
         obtain ⟨x21_2, x167_2, rfl, rfl, HA, HK2, HO_5, HO_11, HO_165, HB⟩ := hrel
         cases gk with
         | zero => exact absurd HA.out (by simp [laws_FnPlacesOfPatterns.l0])
         | succ k2 =>
          have H := HA.out
          clear HA
          simp only [laws_FnPlacesOfPatterns.l0] at H
          by_cases c51 : x167_2 < (y449.length : Int)
          ·
           rw [if_pos c51] at H
           have c51b0 : decide (x167_2 < (y449.length : Int)) = true := decide_eq_true c51
           clear c51
           (first | rw [c51b0] | (simp only [i64_w, i32_w]; rw [c51b0]) | skip)
           by_cases c52 : 0 ≤ x167_2
           ·
            rw [if_pos c52] at H
            have c52b0 : decide (0 ≤ x167_2) = true := decide_eq_true c52
            clear c52
            by_cases c53 : x167_2 < (y449.length : Int)
            ·
             rw [if_pos c53] at H
             have c53b0 : decide (x167_2 < (y449.length : Int)) = true := decide_eq_true c53
             clear c53
             by_cases c54 : x167_2 < t427
             ·
              rw [if_pos c54] at H
              have c54b0 : decide (x167_2 < t427) = true := decide_eq_true c54
              clear c54
              have H' := Aside0.mk H
              clear H
              have p452 : 0 ≤ (x167_2 : Int) := of_decide_eq_true (by first | (with_reducible assumption) | assumption)
              have q452 : x167_2 < (y449.length : Int) := of_decide_eq_true (by first | (with_reducible assumption) | assumption)
              obtain ⟨ad452, e452, hx452_0⟩ := Kd.at_int (Kd.R_reads' HO_165.out).2.2 x167_2 p452 q452
              cases e452
              replace p452 := eq_true p452
              replace q452 := eq_true q452
              go_wp2
              go_roundg k2
              case measure => have := HJ11.out; have := HK2.out; omega
              case rel => exact ⟨(wrap64 (x21_2 * (rd y449 x167_2))), (wrap64 (x167_2 + 1)), (by first | rfl | (simp; done) | (simp [*]; done)), (by first | rfl | (simp; done) | (simp [*]; done)), H', ⟨by have := HJ11.out; have := HK2.out; omega⟩, ⟨by (with_reducible repeat (first | apply Kd.R_alloc | apply Kd.R_drewN | apply Kd.R_drew)); exact HO_5.out⟩, ⟨by (with_reducible repeat (first | apply Kd.R_alloc | apply Kd.R_drewN | apply Kd.R_drew)); exact HO_11.out⟩, ⟨by (with_reducible repeat (first | apply Kd.R_alloc | apply Kd.R_drewN | apply Kd.R_drew)); exact HO_165.out⟩, ⟨by repeat (first | (with_reducible first | exact HB.out | apply below_alloc | apply pw_below_drewN | apply below_drew1))⟩⟩
             ·
              rw [if_neg c54] at H
              have c54b0 : decide (x167_2 < t427) = false := decide_eq_false c54
              clear c54
              have H' := Aside0.mk H
              clear H
              have p452 : 0 ≤ (x167_2 : Int) := of_decide_eq_true (by first | (with_reducible assumption) | assumption)
              have q452 : x167_2 < (y449.length : Int) := of_decide_eq_true (by first | (with_reducible assumption) | assumption)
              obtain ⟨ad452, e452, hx452_0⟩ := Kd.at_int (Kd.R_reads' HO_165.out).2.2 x167_2 p452 q452
              cases e452
              replace p452 := eq_true p452
              replace q452 := eq_true q452
              go_wp2
              go_roundg k2
              case measure => have := HJ11.out; have := HK2.out; omega
              case rel => exact ⟨(x21_2), (wrap64 (x167_2 + 1)), (by first | rfl | (simp; done) | (simp [*]; done)), (by first | rfl | (simp; done) | (simp [*]; done)), H', ⟨by have := HJ11.out; have := HK2.out; omega⟩, ⟨by (with_reducible repeat (first | apply Kd.R_alloc | apply Kd.R_drewN | apply Kd.R_drew)); exact HO_5.out⟩, ⟨by (with_reducible repeat (first | apply Kd.R_alloc | apply Kd.R_drewN | apply Kd.R_drew)); exact HO_11.out⟩, ⟨by (with_reducible repeat (first | apply Kd.R_alloc | apply Kd.R_drewN | apply Kd.R_drew)); exact HO_165.out⟩, ⟨by repeat (first | (with_reducible first | exact HB.out | apply below_alloc | apply pw_below_drewN | apply below_drew1))⟩⟩
            ·
             rw [if_neg c53] at H
             exact absurd H (by simp)
           ·
            rw [if_neg c52] at H
            exact absurd H (by simp)
          ·
           rw [if_neg c51] at H
           have c51b0 : decide (x167_2 < (y449.length : Int)) = false := decide_eq_false c51
           clear c51
           (first | rw [c51b0] | (simp only [i64_w, i32_w]; rw [c51b0]) | skip)
           have HC55 := Aside0.mk H
           clear H
           go_upto_region 20 with (fail)
           refine cutF mk0 [] (fun u_ wc => ∃ (kq : Nat) (x194_54 : Bool), (u_ 194) = .bool x194_54 ∧ Aside0 (laws_FnPlacesOfPatterns.j2 kq l1 t426 t427 t430 t434 t435 x21_2 x194_54 = some r) ∧ Aside0 (kq ≤ k2) ∧ Aside0 (Kd.R (Kd.int .i64) 3 wc w.heap.size (fun _ => True) (.slice Ao14 t426.length co14) t426) ∧ Aside0 (Kd.R k65 65 wc w.heap.size (fun _ => True) v436 t434) ∧ Aside0 (Below w.heap.size w wc)) ?_ ?_
           ·
            as_aux_lemma =>
             intro J_ K_ hJ_ hK_
             have H := HC55.out
             clear HC55
             by_cases c56 : (wrap64 (t430 * t443)) = (wrap64 (t442 * x21_2))
             ·
              rw [if_pos c56] at H
              have c56b0 : ((wrap64 (t430 * t443)) == (wrap64 (t442 * x21_2))) = true := beq_iff_eq.mpr c56
              have c56b1 : ((wrap64 (t430 * t443)) != (wrap64 (t442 * x21_2))) = false := bne_eq_false_iff_eq.mpr c56
              clear c56
              (first | rw [c56b0] | (simp only [i64_w, i32_w]; rw [c56b0]) | skip)
              by_cases c57 : t430 < 0
              ·
               rw [if_pos c57] at H
               exact (laws_FnPlacesOfPatterns.j2_no _ _ _ _ _ _ _ _ (H.trans (congrArg some HRT.out))).elim
              ·
               rw [if_neg c57] at H
               have c57b0 : decide (t430 < 0) = false := decide_eq_false c57
               clear c57
               have H' := Aside0.mk H
               clear H
               go_wp2
               refine cutMeet hJ_ ?_ (by kernel_rfl)
               exact ⟨_, (decide (t430 > x21_2)), (by first | rfl | (simp; done) | (simp [*]; done)), H', ⟨by have := HJ11.out; have := HK2.out; first | omega | exact Nat.le_refl _⟩, ⟨by (with_reducible repeat (first | apply Kd.R_alloc | apply Kd.R_drewN | apply Kd.R_drew)); exact Kd.R_mono HO_5.out (fun _ hk => trivial)⟩, ⟨by (with_reducible repeat (first | apply Kd.R_alloc | apply Kd.R_drewN | apply Kd.R_drew)); exact HO_11.out⟩, ⟨by repeat (first | (with_reducible first | exact HB.out | apply below_alloc | apply pw_below_drewN | apply below_drew1))⟩⟩
             ·
              rw [if_neg c56] at H
              exact (laws_FnPlacesOfPatterns.j2_no _ _ _ _ _ _ _ _ (H.trans (congrArg some HRT.out))).elim
           ·
            intro u_ wc hcut
            clear HC55
            obtain ⟨kq, x194_54, e_194, HA, HJ54, HO_5, HO_11, HB⟩ := hcut
            dsimp only [cutFgt, mk0]
            rw [e_194]
            cases kq with
            | zero => exact absurd HA.out (by simp [laws_FnPlacesOfPatterns.j2])
            | succ kj54 =>
             have H := HA.out
             clear HA
             simp only [laws_FnPlacesOfPatterns.j2] at H
             by_cases c58 : x194_54 = true
             ·
              subst c58
              have H1 : (some false) = some r := by rw [if_pos rfl] at H; exact H
              clear H
              have H := H1
              clear H1
              exact absurd (Option.some.inj (H.trans (congrArg some HRT.out))) Bool.false_ne_true
             ·
              replace c58 := Bool.eq_false_iff.mpr c58
              subst c58
              have H1 : (if x21_2 ≤ 600 then ((impl_FirstPlaces.f kj54 t426 t427 x21_2).bind fun bt453 => (if bt453.2 = true then (if (bt453.1.length : Int) = t430 then (laws_FnPlacesOfPatterns.j3 kj54 l1 t430 t434 t435 x21_2) else (some false)) else (some false))) else (laws_FnPlacesOfPatterns.j3 kj54 l1 t430 t434 t435 x21_2)) = some r := by rw [if_neg (show ¬ (false = true) by decide)] at H; exact H
              clear H
              have H := H1
              clear H1
              have HC59 := Aside0.mk H
              clear H
              go_upto_if 196 with (fail)
              refine cutF mk0 [none, none, none, none, some 4, none, none, none, none, none, none, none, none, none, none, none, none, none, none, none, none, none, none, none, some 24, some 25] (fun u_ wc => ∃ (kq : Nat), Aside0 (laws_FnPlacesOfPatterns.j3 kq l1 t430 t434 t435 x21_2 = some r) ∧ Aside0 (kq ≤ kj54) ∧ Aside0 (Kd.R k65 65 wc w.heap.size (fun _ => True) v436 t434) ∧ Aside0 (Below w.heap.size w wc)) ?_ ?_
              ·
               as_aux_lemma =>
                intro J_ K_ hJ_ hK_
                have H := HC59.out
                clear HC59
                by_cases c60 : x21_2 ≤ 600
                ·
                 rw [if_pos c60] at H
                 have c60b0 : decide (x21_2 ≤ 600) = true := decide_eq_true c60
                 clear c60
                 (first | rw [c60b0] | (simp only [i64_w, i32_w]; rw [c60b0]) | skip)
                 replace H := Option.bind_eq_some_iff.mp H
                 obtain ⟨⟨t453, t454⟩, A610, H⟩ := H
                 replace H : (if t454 = true then (if (t453.length : Int) = t430 then (laws_FnPlacesOfPatterns.j3 kj54 l1 t430 t434 t435 x21_2) else (some false)) else (some false)) = some r := H
                 have A61 := Aside0.mk A610
                 clear A610
                 by_cases c62 : t454 = true
                 ·
                  subst c62
                  have H1 : (if (t453.length : Int) = t430 then (laws_FnPlacesOfPatterns.j3 kj54 l1 t430 t434 t435 x21_2) else (some false)) = some r := by rw [if_pos rfl] at H; exact H
                  clear H
                  have H := H1
                  clear H1
                  by_cases c63 : (t453.length : Int) = t430
                  ·
                   rw [if_pos c63] at H
                   have c63b0 : ((t453.length : Int) == t430) = true := beq_iff_eq.mpr c63
                   have c63b1 : ((t453.length : Int) != t430) = false := bne_eq_false_iff_eq.mpr c63
                   clear c63
                   have H' := Aside0.mk H
                   clear H
                   go_wp2_with (first | ((with_reducible refine gate_callee (f := 13) rfl ?_); refine goesL_ (some 201) rfl rfl Tryz.func13 (by kernel_rfl) rfl #[.slice Ao14 t426.length co14, .int .i64 t427, .int .i64 x21_2] rfl (by (try simp only [List.map_toArray, List.map_cons, List.map_nil]); first | done | rfl | (simp only [List.length_drop, List.length_take]; rfl)) ?_; (with_reducible refine (impl_FirstPlaces.calls kj54 _ _ t426 t427 x21_2 t453 true _ ?side1 ?side2 A61.out).mono ?_); (case side1 => repeat (first | exact (Kd.R_reads' HO_5.out).2.2 | (with_reducible refine Kd.C_alloc ?_ _) | (with_reducible refine Kd.C_drewN ?_ _) | (with_reducible refine Kd.C_drew ?_))); (case side2 => exact (Kd.R_reads' HO_5.out).2.1); rintro e w64 ⟨v455, rfl, ho0, hb⟩; refine ⟨_, rfl, ?_⟩; have n0_ := Aside0.mk (Kd.R_elder' (by (with_reducible repeat (first | apply Kd.R_alloc | apply Kd.R_drewN | apply Kd.R_drew)); exact HO_5.out) (Kd.R_base ho0) hb); have n1_ := Aside0.mk (Kd.R_below (by (with_reducible repeat (first | apply Kd.R_alloc | apply Kd.R_drewN | apply Kd.R_drew)); exact HO_11.out) hb); have n2_ := Aside0.mk (Kd.R_lower (Kd.R_new' ho0 (Kd.R_lt (by (with_reducible repeat (first | apply Kd.R_alloc | apply Kd.R_drewN | apply Kd.R_drew)); exact HO_5.out))) (below_size (by repeat (first | (with_reducible first | exact HB.out | apply below_alloc | apply pw_below_drewN | apply below_drew1))))); have n3_ := Aside0.mk (below_step (by repeat (first | (with_reducible first | exact HB.out | apply below_alloc | apply pw_below_drewN | apply below_drew1))) hb); clear HO_5; clear HO_11; clear HB; have HO_5 := n0_; have HO_11 := n1_; have HO456 := n2_; have HB := n3_; clear n0_ n1_ n2_ n3_; (try clear hb); (try clear ho0); obtain ⟨Ao65, co65, eo65⟩ := Kd.R_slice HO456.out; subst eo65))
                   refine cutMeet hJ_ ?_ (by kernel_rfl)
                   exact ⟨_, H', ⟨by have := HJ11.out; have := HK2.out; have := HJ54.out; first | omega | exact Nat.le_refl _⟩, ⟨by (with_reducible repeat (first | apply Kd.R_alloc | apply Kd.R_drewN | apply Kd.R_drew)); exact HO_11.out⟩, ⟨by repeat (first | (with_reducible first | exact HB.out | apply below_alloc | apply pw_below_drewN | apply below_drew1))⟩⟩
                  ·
                   rw [if_neg c63] at H
                   have c63b0 : ((t453.length : Int) == t430) = false := beq_eq_false_iff_ne.mpr c63
                   have c63b1 : ((t453.length : Int) != t430) = true := bne_iff_ne.mpr c63
                   exact absurd (Option.some.inj (H.trans (congrArg some HRT.out))) Bool.false_ne_true
                 ·
                  replace c62 := Bool.eq_false_iff.mpr c62
                  subst c62
                  have H1 : (some false) = some r := by rw [if_neg (show ¬ (false = true) by decide)] at H; exact H
                  clear H
                  have H := H1
                  clear H1
                  exact absurd (Option.some.inj (H.trans (congrArg some HRT.out))) Bool.false_ne_true
                ·
                 rw [if_neg c60] at H
                 have c60b0 : decide (x21_2 ≤ 600) = false := decide_eq_false c60
                 clear c60
                 (first | rw [c60b0] | (simp only [i64_w, i32_w]; rw [c60b0]) | skip)
                 have H' := Aside0.mk H
                 clear H
                 go_wp2
                 refine cutMeet hJ_ ?_ (by kernel_rfl)
                 exact ⟨_, H', ⟨by have := HJ11.out; have := HK2.out; have := HJ54.out; first | omega | exact Nat.le_refl _⟩, ⟨by (with_reducible repeat (first | apply Kd.R_alloc | apply Kd.R_drewN | apply Kd.R_drew)); exact HO_11.out⟩, ⟨by repeat (first | (with_reducible first | exact HB.out | apply below_alloc | apply pw_below_drewN | apply below_drew1))⟩⟩
              ·
               intro u_ wc hcut
               clear HC59
               obtain ⟨kq, HA, HJ58, HO_11, HB⟩ := hcut
               dsimp only [cutFgt, mk0]
               cases kq with
               | zero => exact absurd HA.out (by simp [laws_FnPlacesOfPatterns.j3])
               | succ kj58 =>
                have H := HA.out
                clear HA
                simp only [laws_FnPlacesOfPatterns.j3] at H
                have HC69 := Aside0.mk H
                clear H
                go_upto_region 26 with (fail)
                refine cutF mk0 [] (fun u_ wc => ∃ (kq : Nat) (x217_68 : Bool), (u_ 217) = .bool x217_68 ∧ Aside0 (laws_FnPlacesOfPatterns.j4 kq l1 t430 t434 x21_2 x217_68 = some r) ∧ Aside0 (kq ≤ kj58) ∧ Aside0 (Kd.R k65 65 wc w.heap.size (fun _ => True) v436 t434) ∧ Aside0 (Below w.heap.size w wc)) ?_ ?_
                ·
                 as_aux_lemma =>
                  intro J_ K_ hJ_ hK_
                  have H := HC69.out
                  clear HC69
                  by_cases c70 : t435 = true
                  ·
                   subst c70
                   have H1 : (laws_FnPlacesOfPatterns.j4 kj58 l1 t430 t434 x21_2 (decide ((t434.length : Int) > 0))) = some r := by rw [if_pos rfl] at H; exact H
                   clear H
                   have H := H1
                   clear H1
                   have H' := Aside0.mk H
                   clear H
                   obtain ⟨Ao71, co71, eo71⟩ := Kd.R_slice HO_11.out
                   subst eo71
                   go_wp2
                   refine cutMeet hJ_ ?_ (by kernel_rfl)
                   exact ⟨_, (decide ((t434.length : Int) > 0)), (by first | rfl | (simp; done) | (simp [*]; done)), H', ⟨by have := HJ11.out; have := HK2.out; have := HJ54.out; have := HJ58.out; first | omega | exact Nat.le_refl _⟩, ⟨by (with_reducible repeat (first | apply Kd.R_alloc | apply Kd.R_drewN | apply Kd.R_drew)); exact HO_11.out⟩, ⟨by repeat (first | (with_reducible first | exact HB.out | apply below_alloc | apply pw_below_drewN | apply below_drew1))⟩⟩
                  ·
                   replace c70 := Bool.eq_false_iff.mpr c70
                   subst c70
                   have H1 : (laws_FnPlacesOfPatterns.j4 kj58 l1 t430 t434 x21_2 false) = some r := by rw [if_neg (show ¬ (false = true) by decide)] at H; exact H
                   clear H
                   have H := H1
                   clear H1
                   have H' := Aside0.mk H
                   clear H
                   go_wp2
                   refine cutMeet hJ_ ?_ (by kernel_rfl)
                   exact ⟨_, (false), (by first | rfl | (simp; done) | (simp [*]; done)), H', ⟨by have := HJ11.out; have := HK2.out; have := HJ54.out; have := HJ58.out; first | omega | exact Nat.le_refl _⟩, ⟨by (with_reducible repeat (first | apply Kd.R_alloc | apply Kd.R_drewN | apply Kd.R_drew)); exact HO_11.out⟩, ⟨by repeat (first | (with_reducible first | exact HB.out | apply below_alloc | apply pw_below_drewN | apply below_drew1))⟩⟩
                ·
                 intro u_ wc hcut
                 clear HC69
                 obtain ⟨kq, x217_68, e_217, HA, HJ68, HO_11, HB⟩ := hcut
                 dsimp only [cutFgt, mk0]
                 rw [e_217]
                 cases kq with
                 | zero => exact absurd HA.out (by simp [laws_FnPlacesOfPatterns.j4])
                 | succ kj68 =>
                  have H := HA.out
                  clear HA
                  simp only [laws_FnPlacesOfPatterns.j4] at H
                  by_cases c72 : x217_68 = true
                  ·
                   subst c72
                   have H1 : ((impl_LeftInPeriod.f kj68 t434).bind fun bt457 => ((impl_PeriodOfRules.f kj68 t434).bind fun bt459 => (if bt457.2 = true then (if bt459.2 = true then (if (wrap64 (bt457.1 * x21_2)) = (wrap64 (t430 * bt459.1)) then (laws_FnPlacesOfPatterns.j5 kj68 l1) else (some false)) else (some false)) else (some false)))) = some r := by rw [if_pos rfl] at H; exact H
                   clear H
                   have H := H1
                   clear H1
                   replace H := Option.bind_eq_some_iff.mp H
                   obtain ⟨⟨t457, t458⟩, A730, H⟩ := H
                   replace H : ((impl_PeriodOfRules.f kj68 t434).bind fun bt459 => (if t458 = true then (if bt459.2 = true then (if (wrap64 (t457 * x21_2)) = (wrap64 (t430 * bt459.1)) then (laws_FnPlacesOfPatterns.j5 kj68 l1) else (some false)) else (some false)) else (some false))) = some r := H
                   have A73 := Aside0.mk A730
                   clear A730
                   replace H := Option.bind_eq_some_iff.mp H
                   obtain ⟨⟨t459, t460⟩, A740, H⟩ := H
                   replace H : (if t458 = true then (if t460 = true then (if (wrap64 (t457 * x21_2)) = (wrap64 (t430 * t459)) then (laws_FnPlacesOfPatterns.j5 kj68 l1) else (some false)) else (some false)) else (some false)) = some r := H
                   have A74 := Aside0.mk A740
                   clear A740
                   by_cases c75 : t458 = true
                   ·
                    subst c75
                    have H1 : (if t460 = true then (if (wrap64 (t457 * x21_2)) = (wrap64 (t430 * t459)) then (laws_FnPlacesOfPatterns.j5 kj68 l1) else (some false)) else (some false)) = some r := by rw [if_pos rfl] at H; exact H
                    clear H
                    have H := H1
                    clear H1
                    by_cases c76 : t460 = true
                    ·
                     subst c76
                     have H1 : (if (wrap64 (t457 * x21_2)) = (wrap64 (t430 * t459)) then (laws_FnPlacesOfPatterns.j5 kj68 l1) else (some false)) = some r := by rw [if_pos rfl] at H; exact H
                     clear H
                     have H := H1
                     clear H1
                     by_cases c77 : (wrap64 (t457 * x21_2)) = (wrap64 (t430 * t459))
                     ·
                      rw [if_pos c77] at H
                      have c77b0 : ((wrap64 (t457 * x21_2)) == (wrap64 (t430 * t459))) = true := beq_iff_eq.mpr c77
                      have c77b1 : ((wrap64 (t457 * x21_2)) != (wrap64 (t430 * t459))) = false := bne_eq_false_iff_eq.mpr c77
                      clear c77
                      have H' := Aside0.mk H
                      clear H
                      obtain ⟨Ao78, co78, eo78⟩ := Kd.R_slice HO_11.out
                      subst eo78
                      go_wp2_with (first | ((with_reducible refine gate_callee (f := 14) rfl ?_); refine goesL_ (some 220) rfl rfl Tryz.func14 (by kernel_rfl) rfl #[.slice Ao78 t434.length co78] rfl (by (try simp only [List.map_toArray, List.map_cons, List.map_nil]); first | done | rfl | (simp only [List.length_drop, List.length_take]; rfl)) ?_; (with_reducible refine (impl_LeftInPeriod.calls kj68 _ _ t434 t457 true _ ?side1 ?side2 A73.out).mono ?_); (case side1 => repeat (first | exact (Kd.R_reads' HO_11.out).2.2 | (with_reducible refine Kd.C_alloc ?_ _) | (with_reducible refine Kd.C_drewN ?_ _) | (with_reducible refine Kd.C_drew ?_))); (case side2 => exact (Kd.R_reads' HO_11.out).2.1); rintro e w79 ⟨rfl, hb⟩; refine ⟨_, rfl, ?_⟩; have n0_ := Aside0.mk (Kd.R_below (by (with_reducible repeat (first | apply Kd.R_alloc | apply Kd.R_drewN | apply Kd.R_drew)); exact HO_11.out) hb); have n1_ := Aside0.mk (below_step (by repeat (first | (with_reducible first | exact HB.out | apply below_alloc | apply pw_below_drewN | apply below_drew1))) hb); clear HO_11; clear HB; have HO_11 := n0_; have HB := n1_; clear n0_ n1_; (try clear hb)) | ((with_reducible refine gate_callee (f := 15) rfl ?_); refine goesL_ (some 225) rfl rfl Tryz.func15 (by kernel_rfl) rfl #[.slice Ao78 t434.length co78] rfl (by (try simp only [List.map_toArray, List.map_cons, List.map_nil]); first | done | rfl | (simp only [List.length_drop, List.length_take]; rfl)) ?_; (with_reducible refine (impl_PeriodOfRules.calls kj68 _ _ t434 t459 true _ ?side1 ?side2 A74.out).mono ?_); (case side1 => repeat (first | exact (Kd.R_reads' HO_11.out).2.2 | (with_reducible refine Kd.C_alloc ?_ _) | (with_reducible refine Kd.C_drewN ?_ _) | (with_reducible refine Kd.C_drew ?_))); (case side2 => exact (Kd.R_reads' HO_11.out).2.1); rintro e w80 ⟨rfl, hb⟩; refine ⟨_, rfl, ?_⟩; have n0_ := Aside0.mk (Kd.R_below (by (with_reducible repeat (first | apply Kd.R_alloc | apply Kd.R_drewN | apply Kd.R_drew)); exact HO_11.out) hb); have n1_ := Aside0.mk (below_step (by repeat (first | (with_reducible first | exact HB.out | apply below_alloc | apply pw_below_drewN | apply below_drew1))) hb); clear HO_11; clear HB; have HO_11 := n0_; have HB := n1_; clear n0_ n1_; (try clear hb)))
                      refine cutMeet hJ_ ?_ (by kernel_rfl)
                      exact ⟨_, H', ⟨by have := HJ11.out; have := HK2.out; have := HJ54.out; have := HJ58.out; have := HJ68.out; first | omega | exact Nat.le_refl _⟩, ⟨by repeat (first | (with_reducible first | exact HB.out | apply below_alloc | apply pw_below_drewN | apply below_drew1))⟩⟩
                     ·
                      rw [if_neg c77] at H
                      have c77b0 : ((wrap64 (t457 * x21_2)) == (wrap64 (t430 * t459))) = false := beq_eq_false_iff_ne.mpr c77
                      have c77b1 : ((wrap64 (t457 * x21_2)) != (wrap64 (t430 * t459))) = true := bne_iff_ne.mpr c77
                      exact absurd (Option.some.inj (H.trans (congrArg some HRT.out))) Bool.false_ne_true
                    ·
                     replace c76 := Bool.eq_false_iff.mpr c76
                     subst c76
                     have H1 : (some false) = some r := by rw [if_neg (show ¬ (false = true) by decide)] at H; exact H
                     clear H
                     have H := H1
                     clear H1
                     exact absurd (Option.some.inj (H.trans (congrArg some HRT.out))) Bool.false_ne_true
                   ·
                    replace c75 := Bool.eq_false_iff.mpr c75
                    subst c75
                    have H1 : (some false) = some r := by rw [if_neg (show ¬ (false = true) by decide)] at H; exact H
                    clear H
                    have H := H1
                    clear H1
                    exact absurd (Option.some.inj (H.trans (congrArg some HRT.out))) Bool.false_ne_true
                  ·
                   replace c72 := Bool.eq_false_iff.mpr c72
                   subst c72
                   have H1 : (laws_FnPlacesOfPatterns.j5 kj68 l1) = some r := by rw [if_neg (show ¬ (false = true) by decide)] at H; exact H
                   clear H
                   have H := H1
                   clear H1
                   have H' := Aside0.mk H
                   clear H
                   go_wp2
                   refine cutMeet hJ_ ?_ (by kernel_rfl)
                   exact ⟨_, H', ⟨by have := HJ11.out; have := HK2.out; have := HJ54.out; have := HJ58.out; have := HJ68.out; first | omega | exact Nat.le_refl _⟩, ⟨by repeat (first | (with_reducible first | exact HB.out | apply below_alloc | apply pw_below_drewN | apply below_drew1))⟩⟩
       ·
        replace c47 := Bool.eq_false_iff.mpr c47
        subst c47
        have H1 : (laws_FnPlacesOfPatterns.j5 kj11 l1) = some r := by rw [if_neg (show ¬ (false = true) by decide)] at H; exact H
        clear H
        have H := H1
        clear H1
        have H' := Aside0.mk H
        clear H
        go_wp2
        refine cutMeet hJ_ ?_ (by kernel_rfl)
        exact ⟨_, H', ⟨by have := HJ11.out; first | omega | exact Nat.le_refl _⟩, ⟨by repeat (first | (with_reducible first | exact HB.out | apply below_alloc | apply pw_below_drewN | apply below_drew1))⟩⟩
     ·
      intro u_ wc hcut
      clear HC46
      obtain ⟨kq, HA, HJ45, HB⟩ := hcut
      dsimp only [cutFgt, mk0]
      cases kq with
      | zero => exact absurd HA.out (by simp [laws_FnPlacesOfPatterns.j5])
      | succ kj45 =>
       have H := HA.out
       clear HA
       simp only [laws_FnPlacesOfPatterns.j5] at H
       replace H := Option.bind_eq_some_iff.mp H
       obtain ⟨⟨t461, t462, t463⟩, A900, H⟩ := H
       replace H : ((impl_FirstPlaces.f kj45 t461 t462 t463).bind fun bt466 => ((spec_FirstPlaces.f kj45 t461 t462 t463).bind fun bt470 => ((spec_DrawPrimePlaces.f kj45 l1).bind fun bt474 => ((impl_PrimePlaces.f kj45 bt474.1 bt474.2).bind fun bt478 => ((spec_PrimePlaces.f kj45 bt474.1 bt474.2).bind fun bt482 => (if (bt466.2 != bt470.2) = true then (laws_FnPlacesOfPatterns.j6 kj45 l1 t461 t462 t463 bt466.1 bt466.2 bt474.1 bt478.1 bt478.2 true) else ((laws_tSame.f kj45 bt466.1 bt470.1).bind fun t486 => (if t486 = true then (if (bt478.2 != bt482.2) = true then (laws_FnPlacesOfPatterns.j6 kj45 l1 t461 t462 t463 bt466.1 bt466.2 bt474.1 bt478.1 bt478.2 true) else ((laws_tSame.f kj45 bt478.1 bt482.1).bind fun t487 => (laws_FnPlacesOfPatterns.j6 kj45 l1 t461 t462 t463 bt466.1 bt466.2 bt474.1 bt478.1 bt478.2 (!t487)))) else (laws_FnPlacesOfPatterns.j6 kj45 l1 t461 t462 t463 bt466.1 bt466.2 bt474.1 bt478.1 bt478.2 true))))))))) = some r := H
       have A90 := Aside0.mk A900
       clear A900
       replace H := Option.bind_eq_some_iff.mp H
       obtain ⟨⟨t466, t467⟩, A910, H⟩ := H
       replace H : ((spec_FirstPlaces.f kj45 t461 t462 t463).bind fun bt470 => ((spec_DrawPrimePlaces.f kj45 l1).bind fun bt474 => ((impl_PrimePlaces.f kj45 bt474.1 bt474.2).bind fun bt478 => ((spec_PrimePlaces.f kj45 bt474.1 bt474.2).bind fun bt482 => (if (t467 != bt470.2) = true then (laws_FnPlacesOfPatterns.j6 kj45 l1 t461 t462 t463 t466 t467 bt474.1 bt478.1 bt478.2 true) else ((laws_tSame.f kj45 t466 bt470.1).bind fun t486 => (if t486 = true then (if (bt478.2 != bt482.2) = true then (laws_FnPlacesOfPatterns.j6 kj45 l1 t461 t462 t463 t466 t467 bt474.1 bt478.1 bt478.2 true) else ((laws_tSame.f kj45 bt478.1 bt482.1).bind fun t487 => (laws_FnPlacesOfPatterns.j6 kj45 l1 t461 t462 t463 t466 t467 bt474.1 bt478.1 bt478.2 (!t487)))) else (laws_FnPlacesOfPatterns.j6 kj45 l1 t461 t462 t463 t466 t467 bt474.1 bt478.1 bt478.2 true)))))))) = some r := H
       have A91 := Aside0.mk A910
       clear A910
       replace H := Option.bind_eq_some_iff.mp H
       obtain ⟨⟨t470, t471⟩, A920, H⟩ := H
       replace H : ((spec_DrawPrimePlaces.f kj45 l1).bind fun bt474 => ((impl_PrimePlaces.f kj45 bt474.1 bt474.2).bind fun bt478 => ((spec_PrimePlaces.f kj45 bt474.1 bt474.2).bind fun bt482 => (if (t467 != t471) = true then (laws_FnPlacesOfPatterns.j6 kj45 l1 t461 t462 t463 t466 t467 bt474.1 bt478.1 bt478.2 true) else ((laws_tSame.f kj45 t466 t470).bind fun t486 => (if t486 = true then (if (bt478.2 != bt482.2) = true then (laws_FnPlacesOfPatterns.j6 kj45 l1 t461 t462 t463 t466 t467 bt474.1 bt478.1 bt478.2 true) else ((laws_tSame.f kj45 bt478.1 bt482.1).bind fun t487 => (laws_FnPlacesOfPatterns.j6 kj45 l1 t461 t462 t463 t466 t467 bt474.1 bt478.1 bt478.2 (!t487)))) else (laws_FnPlacesOfPatterns.j6 kj45 l1 t461 t462 t463 t466 t467 bt474.1 bt478.1 bt478.2 true))))))) = some r := H
       have A92 := Aside0.mk A920
       clear A920
       replace H := Option.bind_eq_some_iff.mp H
       obtain ⟨⟨t474, t475⟩, A930, H⟩ := H
       replace H : ((impl_PrimePlaces.f kj45 t474 t475).bind fun bt478 => ((spec_PrimePlaces.f kj45 t474 t475).bind fun bt482 => (if (t467 != t471) = true then (laws_FnPlacesOfPatterns.j6 kj45 l1 t461 t462 t463 t466 t467 t474 bt478.1 bt478.2 true) else ((laws_tSame.f kj45 t466 t470).bind fun t486 => (if t486 = true then (if (bt478.2 != bt482.2) = true then (laws_FnPlacesOfPatterns.j6 kj45 l1 t461 t462 t463 t466 t467 t474 bt478.1 bt478.2 true) else ((laws_tSame.f kj45 bt478.1 bt482.1).bind fun t487 => (laws_FnPlacesOfPatterns.j6 kj45 l1 t461 t462 t463 t466 t467 t474 bt478.1 bt478.2 (!t487)))) else (laws_FnPlacesOfPatterns.j6 kj45 l1 t461 t462 t463 t466 t467 t474 bt478.1 bt478.2 true)))))) = some r := H
       have A93 := Aside0.mk A930
       clear A930
       replace H := Option.bind_eq_some_iff.mp H
       obtain ⟨⟨t478, t479⟩, A940, H⟩ := H
       replace H : ((spec_PrimePlaces.f kj45 t474 t475).bind fun bt482 => (if (t467 != t471) = true then (laws_FnPlacesOfPatterns.j6 kj45 l1 t461 t462 t463 t466 t467 t474 t478 t479 true) else ((laws_tSame.f kj45 t466 t470).bind fun t486 => (if t486 = true then (if (t479 != bt482.2) = true then (laws_FnPlacesOfPatterns.j6 kj45 l1 t461 t462 t463 t466 t467 t474 t478 t479 true) else ((laws_tSame.f kj45 t478 bt482.1).bind fun t487 => (laws_FnPlacesOfPatterns.j6 kj45 l1 t461 t462 t463 t466 t467 t474 t478 t479 (!t487)))) else (laws_FnPlacesOfPatterns.j6 kj45 l1 t461 t462 t463 t466 t467 t474 t478 t479 true))))) = some r := H
       have A94 := Aside0.mk A940
       clear A940
       replace H := Option.bind_eq_some_iff.mp H
       obtain ⟨⟨t482, t483⟩, A950, H⟩ := H
       replace H : (if (t467 != t471) = true then (laws_FnPlacesOfPatterns.j6 kj45 l1 t461 t462 t463 t466 t467 t474 t478 t479 true) else ((laws_tSame.f kj45 t466 t470).bind fun t486 => (if t486 = true then (if (t479 != t483) = true then (laws_FnPlacesOfPatterns.j6 kj45 l1 t461 t462 t463 t466 t467 t474 t478 t479 true) else ((laws_tSame.f kj45 t478 t482).bind fun t487 => (laws_FnPlacesOfPatterns.j6 kj45 l1 t461 t462 t463 t466 t467 t474 t478 t479 (!t487)))) else (laws_FnPlacesOfPatterns.j6 kj45 l1 t461 t462 t463 t466 t467 t474 t478 t479 true)))) = some r := H
       have A95 := Aside0.mk A950
       clear A950
       have HC96 := Aside0.mk H
       clear H
       go_upto_region 37 with (first | ((with_reducible refine gate_callee (f := 16) rfl ?_); refine goesL_ (some 245) rfl rfl Tryz.func16 (by kernel_rfl) rfl #[.slice A1 l1.length c1] rfl (by (try simp only [List.map_toArray, List.map_cons, List.map_nil]); first | done | rfl | (simp only [List.length_drop, List.length_take]; rfl)) ?_; (with_reducible refine (spec_DrawFirstPlaces.calls kj45 _ _ l1 t461 t462 t463 _ ?side1 ?side2 A90.out).mono ?_); (case side1 => repeat (first | exact (Kd.C_below HR1.out HB.out) | (with_reducible refine Kd.C_alloc ?_ _) | (with_reducible refine Kd.C_drewN ?_ _) | (with_reducible refine Kd.C_drew ?_))); (case side2 => exact HC1.out); rintro e w97 ⟨v464, rfl, ho0, hb⟩; refine ⟨_, rfl, ?_⟩; have n0_ := Aside0.mk (Kd.R_lower ho0 (below_size (by repeat (first | (with_reducible first | exact HB.out | apply below_alloc | apply pw_below_drewN | apply below_drew1))))); have n1_ := Aside0.mk (below_step (by repeat (first | (with_reducible first | exact HB.out | apply below_alloc | apply pw_below_drewN | apply below_drew1))) hb); clear HB; have HO465 := n0_; have HB := n1_; clear n0_ n1_; (try clear hb); (try clear ho0); obtain ⟨Ao98, co98, eo98⟩ := Kd.R_slice HO465.out; subst eo98) | ((with_reducible refine gate_callee (f := 13) rfl ?_); refine goesL_ (some 253) rfl rfl Tryz.func13 (by kernel_rfl) rfl #[.slice Ao98 t461.length co98, .int .i64 t462, .int .i64 t463] rfl (by (try simp only [List.map_toArray, List.map_cons, List.map_nil]); first | done | rfl | (simp only [List.length_drop, List.length_take]; rfl)) ?_; (with_reducible refine (impl_FirstPlaces.calls kj45 _ _ t461 t462 t463 t466 t467 _ ?side1 ?side2 A91.out).mono ?_); (case side1 => repeat (first | exact (Kd.R_reads' HO465.out).2.2 | (with_reducible refine Kd.C_alloc ?_ _) | (with_reducible refine Kd.C_drewN ?_ _) | (with_reducible refine Kd.C_drew ?_))); (case side2 => exact (Kd.R_reads' HO465.out).2.1); rintro e w99 ⟨v468, rfl, ho0, hb⟩; refine ⟨_, rfl, ?_⟩; have n0_ := Aside0.mk (Kd.R_elder' (by (with_reducible repeat (first | apply Kd.R_alloc | apply Kd.R_drewN | apply Kd.R_drew)); exact HO465.out) (Kd.R_base ho0) hb); have n1_ := Aside0.mk (Kd.R_lower (Kd.R_new' ho0 (Kd.R_lt (by (with_reducible repeat (first | apply Kd.R_alloc | apply Kd.R_drewN | apply Kd.R_drew)); exact HO465.out))) (below_size (by repeat (first | (with_reducible first | exact HB.out | apply below_alloc | apply pw_below_drewN | apply below_drew1))))); have n2_ := Aside0.mk (below_step (by repeat (first | (with_reducible first | exact HB.out | apply below_alloc | apply pw_below_drewN | apply below_drew1))) hb); clear HO465; clear HB; have HO465 := n0_; have HO469 := n1_; have HB := n2_; clear n0_ n1_ n2_; (try clear hb); (try clear ho0)) | ((with_reducible refine gate_callee (f := 17) rfl ?_); refine goesL_ (some 260) rfl rfl Tryz.func17 (by kernel_rfl) rfl #[.slice Ao98 t461.length co98, .int .i64 t462, .int .i64 t463] rfl (by (try simp only [List.map_toArray, List.map_cons, List.map_nil]); first | done | rfl | (simp only [List.length_drop, List.length_take]; rfl)) ?_; (with_reducible refine (spec_FirstPlaces.calls kj45 _ _ t461 t462 t463 t470 t471 _ ?side1 ?side2 A92.out).mono ?_); (case side1 => repeat (first | exact (Kd.R_reads' HO465.out).2.2 | (with_reducible refine Kd.C_alloc ?_ _) | (with_reducible refine Kd.C_drewN ?_ _) | (with_reducible refine Kd.C_drew ?_))); (case side2 => exact (Kd.R_reads' HO465.out).2.1); rintro e w100 ⟨v472, rfl, ho0, hb⟩; refine ⟨_, rfl, ?_⟩; have n0_ := Aside0.mk (Kd.R_elder' (by (with_reducible repeat (first | apply Kd.R_alloc | apply Kd.R_drewN | apply Kd.R_drew)); exact HO465.out) (Kd.R_base ho0) hb); have n1_ := Aside0.mk (Kd.R_elder' (by (with_reducible repeat (first | apply Kd.R_alloc | apply Kd.R_drewN | apply Kd.R_drew)); exact HO469.out) (Kd.R_base ho0) hb); have n2_ := Aside0.mk (Kd.R_lower (Kd.R_new' (Kd.R_new' ho0 (Kd.R_lt (by (with_reducible repeat (first | apply Kd.R_alloc | apply Kd.R_drewN | apply Kd.R_drew)); exact HO465.out))) (Kd.R_lt (by (with_reducible repeat (first | apply Kd.R_alloc | apply Kd.R_drewN | apply Kd.R_drew)); exact HO469.out))) (below_size (by repeat (first | (with_reducible first | exact HB.out | apply below_alloc | apply pw_below_drewN | apply below_drew1))))); have n3_ := Aside0.mk (below_step (by repeat (first | (with_reducible first | exact HB.out | apply below_alloc | apply pw_below_drewN | apply below_drew1))) hb); clear HO465; clear HO469; clear HB; have HO465 := n0_; have HO469 := n1_; have HO473 := n2_; have HB := n3_; clear n0_ n1_ n2_ n3_; (try clear hb); (try clear ho0)) | ((with_reducible refine gate_callee (f := 18) rfl ?_); refine goesL_ (some 265) rfl rfl Tryz.func18 (by kernel_rfl) rfl #[.slice A1 l1.length c1] rfl (by (try simp only [List.map_toArray, List.map_cons, List.map_nil]); first | done | rfl | (simp only [List.length_drop, List.length_take]; rfl)) ?_; (with_reducible refine (spec_DrawPrimePlaces.calls kj45 _ _ l1 t474 t475 _ ?side1 ?side2 A93.out).mono ?_); (case side1 => repeat (first | exact (Kd.C_below HR1.out HB.out) | (with_reducible refine Kd.C_alloc ?_ _) | (with_reducible refine Kd.C_drewN ?_ _) | (with_reducible refine Kd.C_drew ?_))); (case side2 => exact HC1.out); rintro e w101 ⟨v476, rfl, ho0, hb⟩; refine ⟨_, rfl, ?_⟩; have n0_ := Aside0.mk (Kd.R_elder' (by (with_reducible repeat (first | apply Kd.R_alloc | apply Kd.R_drewN | apply Kd.R_drew)); exact HO465.out) (Kd.R_base ho0) hb); have n1_ := Aside0.mk (Kd.R_elder' (by (with_reducible repeat (first | apply Kd.R_alloc | apply Kd.R_drewN | apply Kd.R_drew)); exact HO469.out) (Kd.R_base ho0) hb); have n2_ := Aside0.mk (Kd.R_elder' (by (with_reducible repeat (first | apply Kd.R_alloc | apply Kd.R_drewN | apply Kd.R_drew)); exact HO473.out) (Kd.R_base ho0) hb); have n3_ := Aside0.mk (Kd.R_lower (Kd.R_new' (Kd.R_new' (Kd.R_new' ho0 (Kd.R_lt (by (with_reducible repeat (first | apply Kd.R_alloc | apply Kd.R_drewN | apply Kd.R_drew)); exact HO465.out))) (Kd.R_lt (by (with_reducible repeat (first | apply Kd.R_alloc | apply Kd.R_drewN | apply Kd.R_drew)); exact HO469.out))) (Kd.R_lt (by (with_reducible repeat (first | apply Kd.R_alloc | apply Kd.R_drewN | apply Kd.R_drew)); exact HO473.out))) (below_size (by repeat (first | (with_reducible first | exact HB.out | apply below_alloc | apply pw_below_drewN | apply below_drew1))))); have n4_ := Aside0.mk (below_step (by repeat (first | (with_reducible first | exact HB.out | apply below_alloc | apply pw_below_drewN | apply below_drew1))) hb); clear HO465; clear HO469; clear HO473; clear HB; have HO465 := n0_; have HO469 := n1_; have HO473 := n2_; have HO477 := n3_; have HB := n4_; clear n0_ n1_ n2_ n3_ n4_; (try clear hb); (try clear ho0); obtain ⟨Ao102, co102, eo102⟩ := Kd.R_slice HO477.out; subst eo102) | ((with_reducible refine gate_callee (f := 19) rfl ?_); refine goesL_ (some 271) rfl rfl Tryz.func19 (by kernel_rfl) rfl #[.slice Ao102 t474.length co102, .int .i64 t475] rfl (by (try simp only [List.map_toArray, List.map_cons, List.map_nil]); first | done | rfl | (simp only [List.length_drop, List.length_take]; rfl)) ?_; (with_reducible refine (impl_PrimePlaces.calls kj45 _ _ t474 t475 t478 t479 _ ?side1 ?side2 A94.out).mono ?_); (case side1 => repeat (first | exact (Kd.R_reads' HO477.out).2.2 | (with_reducible refine Kd.C_alloc ?_ _) | (with_reducible refine Kd.C_drewN ?_ _) | (with_reducible refine Kd.C_drew ?_))); (case side2 => exact (Kd.R_reads' HO477.out).2.1); rintro e w103 ⟨v480, rfl, ho0, hb⟩; refine ⟨_, rfl, ?_⟩; have n0_ := Aside0.mk (Kd.R_elder' (by (with_reducible repeat (first | apply Kd.R_alloc | apply Kd.R_drewN | apply Kd.R_drew)); exact HO465.out) (Kd.R_base ho0) hb); have n1_ := Aside0.mk (Kd.R_elder' (by (with_reducible repeat (first | apply Kd.R_alloc | apply Kd.R_drewN | apply Kd.R_drew)); exact HO469.out) (Kd.R_base ho0) hb); have n2_ := Aside0.mk (Kd.R_elder' (by (with_reducible repeat (first | apply Kd.R_alloc | apply Kd.R_drewN | apply Kd.R_drew)); exact HO473.out) (Kd.R_base ho0) hb); have n3_ := Aside0.mk (Kd.R_elder' (by (with_reducible repeat (first | apply Kd.R_alloc | apply Kd.R_drewN | apply Kd.R_drew)); exact HO477.out) (Kd.R_base ho0) hb); have n4_ := Aside0.mk (Kd.R_lower (Kd.R_new' (Kd.R_new' (Kd.R_new' (Kd.R_new' ho0 (Kd.R_lt (by (with_reducible repeat (first | apply Kd.R_alloc | apply Kd.R_drewN | apply Kd.R_drew)); exact HO465.out))) (Kd.R_lt (by (with_reducible repeat (first | apply Kd.R_alloc | apply Kd.R_drewN | apply Kd.R_drew)); exact HO469.out))) (Kd.R_lt (by (with_reducible repeat (first | apply Kd.R_alloc | apply Kd.R_drewN | apply Kd.R_drew)); exact HO473.out))) (Kd.R_lt (by (with_reducible repeat (first | apply Kd.R_alloc | apply Kd.R_drewN | apply Kd.R_drew)); exact HO477.out))) (below_size (by repeat (first | (with_reducible first | exact HB.out | apply below_alloc | apply pw_below_drewN | apply below_drew1))))); have n5_ := Aside0.mk (below_step (by repeat (first | (with_reducible first | exact HB.out | apply below_alloc | apply pw_below_drewN | apply below_drew1))) hb); clear HO465; clear HO469; clear HO473; clear HO477; clear HB; have HO465 := n0_; have HO469 := n1_; have HO473 := n2_; have HO477 := n3_; have HO481 := n4_; have HB := n5_; clear n0_ n1_ n2_ n3_ n4_ n5_; (try clear hb); (try clear ho0)) | ((with_reducible refine gate_callee (f := 20) rfl ?_); refine goesL_ (some 277) rfl rfl Tryz.func20 (by kernel_rfl) rfl #[.slice Ao102 t474.length co102, .int .i64 t475] rfl (by (try simp only [List.map_toArray, List.map_cons, List.map_nil]); first | done | rfl | (simp only [List.length_drop, List.length_take]; rfl)) ?_; (with_reducible refine (spec_PrimePlaces.calls kj45 _ _ t474 t475 t482 t483 _ ?side1 ?side2 A95.out).mono ?_); (case side1 => repeat (first | exact (Kd.R_reads' HO477.out).2.2 | (with_reducible refine Kd.C_alloc ?_ _) | (with_reducible refine Kd.C_drewN ?_ _) | (with_reducible refine Kd.C_drew ?_))); (case side2 => exact (Kd.R_reads' HO477.out).2.1); rintro e w104 ⟨v484, rfl, ho0, hb⟩; refine ⟨_, rfl, ?_⟩; have n0_ := Aside0.mk (Kd.R_elder' (by (with_reducible repeat (first | apply Kd.R_alloc | apply Kd.R_drewN | apply Kd.R_drew)); exact HO465.out) (Kd.R_base ho0) hb); have n1_ := Aside0.mk (Kd.R_elder' (by (with_reducible repeat (first | apply Kd.R_alloc | apply Kd.R_drewN | apply Kd.R_drew)); exact HO469.out) (Kd.R_base ho0) hb); have n2_ := Aside0.mk (Kd.R_elder' (by (with_reducible repeat (first | apply Kd.R_alloc | apply Kd.R_drewN | apply Kd.R_drew)); exact HO473.out) (Kd.R_base ho0) hb); have n3_ := Aside0.mk (Kd.R_elder' (by (with_reducible repeat (first | apply Kd.R_alloc | apply Kd.R_drewN | apply Kd.R_drew)); exact HO477.out) (Kd.R_base ho0) hb); have n4_ := Aside0.mk (Kd.R_elder' (by (with_reducible repeat (first | apply Kd.R_alloc | apply Kd.R_drewN | apply Kd.R_drew)); exact HO481.out) (Kd.R_base ho0) hb); have n5_ := Aside0.mk (Kd.R_lower (Kd.R_new' (Kd.R_new' (Kd.R_new' (Kd.R_new' (Kd.R_new' ho0 (Kd.R_lt (by (with_reducible repeat (first | apply Kd.R_alloc | apply Kd.R_drewN | apply Kd.R_drew)); exact HO465.out))) (Kd.R_lt (by (with_reducible repeat (first | apply Kd.R_alloc | apply Kd.R_drewN | apply Kd.R_drew)); exact HO469.out))) (Kd.R_lt (by (with_reducible repeat (first | apply Kd.R_alloc | apply Kd.R_drewN | apply Kd.R_drew)); exact HO473.out))) (Kd.R_lt (by (with_reducible repeat (first | apply Kd.R_alloc | apply Kd.R_drewN | apply Kd.R_drew)); exact HO477.out))) (Kd.R_lt (by (with_reducible repeat (first | apply Kd.R_alloc | apply Kd.R_drewN | apply Kd.R_drew)); exact HO481.out))) (below_size (by repeat (first | (with_reducible first | exact HB.out | apply below_alloc | apply pw_below_drewN | apply below_drew1))))); have n6_ := Aside0.mk (below_step (by repeat (first | (with_reducible first | exact HB.out | apply below_alloc | apply pw_below_drewN | apply below_drew1))) hb); clear HO465; clear HO469; clear HO473; clear HO477; clear HO481; clear HB; have HO465 := n0_; have HO469 := n1_; have HO473 := n2_; have HO477 := n3_; have HO481 := n4_; have HO485 := n5_; have HB := n6_; clear n0_ n1_ n2_ n3_ n4_ n5_ n6_; (try clear hb); (try clear ho0)))
       (try simp only [Act.put, List.setIfInBounds_toArray, List.set_cons_zero, List.set_cons_succ])
       refine cutF mk0 [] (fun u_ wc => ∃ (kq : Nat) (x299_95 : Bool), (u_ 299) = .bool x299_95 ∧ Aside0 (laws_FnPlacesOfPatterns.j6 kq l1 t461 t462 t463 t466 t467 t474 t478 t479 x299_95 = some r) ∧ Aside0 (kq ≤ kj45) ∧ Aside0 (Kd.R (Kd.int .i64) 3 wc w.heap.size (fun k_ => some k_ ≠ (v468 : Value).ownBlock ∧ some k_ ≠ ((.slice Ao102 t474.length co102) : Value).ownBlock ∧ some k_ ≠ (v480 : Value).ownBlock) (.slice Ao98 t461.length co98) t461) ∧ Aside0 (Kd.R (Kd.int .i64) 3 wc w.heap.size (fun k_ => some k_ ≠ ((.slice Ao98 t461.length co98) : Value).ownBlock ∧ some k_ ≠ ((.slice Ao102 t474.length co102) : Value).ownBlock ∧ some k_ ≠ (v480 : Value).ownBlock) v468 t466) ∧ Aside0 (Kd.R (Kd.int .i64) 3 wc w.heap.size (fun k_ => some k_ ≠ ((.slice Ao98 t461.length co98) : Value).ownBlock ∧ some k_ ≠ (v468 : Value).ownBlock ∧ some k_ ≠ (v480 : Value).ownBlock) (.slice Ao102 t474.length co102) t474) ∧ Aside0 (Kd.R (Kd.int .i64) 3 wc w.heap.size (fun k_ => some k_ ≠ ((.slice Ao98 t461.length co98) : Value).ownBlock ∧ some k_ ≠ (v468 : Value).ownBlock ∧ some k_ ≠ ((.slice Ao102 t474.length co102) : Value).ownBlock) v480 t478) ∧ Aside0 (Below w.heap.size w wc)) ?_ ?_
       ·
        as_aux_lemma =>
         intro J_ K_ hJ_ hK_
         have H := HC96.out
         clear HC96
         by_cases c105 : (t467 != t471) = true
         ·
          rw [if_pos c105] at H
          exact (laws_FnPlacesOfPatterns.j6_no _ _ _ _ _ _ _ _ _ _ (H.trans (congrArg some HRT.out))).elim
         ·
          rw [if_neg c105] at H
          have c105b0 : (t467 != t471) = false := by simpa using c105
          (try (have c105b1 : decide (t467 = t471) = true := by simpa using c105))
          (try (have c105b2 : (t467 == t471) = true := by simpa using c105))
          clear c105
          (first | rw [c105b0] | (simp only [i64_w, i32_w]; rw [c105b0]) | skip)
          replace H := Option.bind_eq_some_iff.mp H
          obtain ⟨t486, A1060, H⟩ := H
          replace H : (if t486 = true then (if (t479 != t483) = true then (laws_FnPlacesOfPatterns.j6 kj45 l1 t461 t462 t463 t466 t467 t474 t478 t479 true) else ((laws_tSame.f kj45 t478 t482).bind fun t487 => (laws_FnPlacesOfPatterns.j6 kj45 l1 t461 t462 t463 t466 t467 t474 t478 t479 (!t487)))) else (laws_FnPlacesOfPatterns.j6 kj45 l1 t461 t462 t463 t466 t467 t474 t478 t479 true)) = some r := H
          have A106 := Aside0.mk A1060
          clear A1060
          by_cases c107 : t486 = true
          ·
           subst c107
           have H1 : (if (t479 != t483) = true then (laws_FnPlacesOfPatterns.j6 kj45 l1 t461 t462 t463 t466 t467 t474 t478 t479 true) else ((laws_tSame.f kj45 t478 t482).bind fun t487 => (laws_FnPlacesOfPatterns.j6 kj45 l1 t461 t462 t463 t466 t467 t474 t478 t479 (!t487)))) = some r := by rw [if_pos rfl] at H; exact H
           clear H
           have H := H1
           clear H1
           by_cases c108 : (t479 != t483) = true
           ·
            rw [if_pos c108] at H
            exact (laws_FnPlacesOfPatterns.j6_no _ _ _ _ _ _ _ _ _ _ (H.trans (congrArg some HRT.out))).elim
           ·
            rw [if_neg c108] at H
            have c108b0 : (t479 != t483) = false := by simpa using c108
            (try (have c108b1 : decide (t479 = t483) = true := by simpa using c108))
            (try (have c108b2 : (t479 == t483) = true := by simpa using c108))
            clear c108
            replace H := Option.bind_eq_some_iff.mp H
            obtain ⟨t487, A1110, H⟩ := H
            replace H : (laws_FnPlacesOfPatterns.j6 kj45 l1 t461 t462 t463 t466 t467 t474 t478 t479 (!t487)) = some r := H
            have A111 := Aside0.mk A1110
            clear A1110
            have H' := Aside0.mk H
            clear H
            obtain ⟨Ao112, co112, eo112⟩ := Kd.R_slice HO469.out
            subst eo112
            obtain ⟨Ao113, co113, eo113⟩ := Kd.R_slice HO473.out
            subst eo113
            go_wp2_with (first | (go_at_call 21; (with_reducible refine (laws_tSame.calls kj45 _ _ t466 _ _ t470 true _ ?side1 ?side2 ?side3 ?side4 A106.out).mono ?_); (case side1 => repeat (first | exact (Kd.R_reads' HO469.out).2.2 | (with_reducible refine Kd.C_alloc ?_ _) | (with_reducible refine Kd.C_drewN ?_ _) | (with_reducible refine Kd.C_drew ?_))); (case side2 => exact (Kd.R_reads' HO469.out).2.1); (case side3 => repeat (first | exact (Kd.R_reads' HO473.out).2.2 | (with_reducible refine Kd.C_alloc ?_ _) | (with_reducible refine Kd.C_drewN ?_ _) | (with_reducible refine Kd.C_drew ?_))); (case side4 => exact (Kd.R_reads' HO473.out).2.1); rintro e w' ⟨rfl, ⟨nd, rfl⟩⟩; obtain ⟨Ao114, co114, eo114⟩ := Kd.R_slice HO481.out; subst eo114; obtain ⟨Ao115, co115, eo115⟩ := Kd.R_slice HO485.out; subst eo115) | (go_at_call 21; (with_reducible refine (laws_tSame.calls kj45 _ _ t478 _ _ t482 t487 _ ?side1 ?side2 ?side3 ?side4 A111.out).mono ?_); (case side1 => repeat (first | exact (Kd.R_reads' HO481.out).2.2 | (with_reducible refine Kd.C_alloc ?_ _) | (with_reducible refine Kd.C_drewN ?_ _) | (with_reducible refine Kd.C_drew ?_))); (case side2 => exact (Kd.R_reads' HO481.out).2.1); (case side3 => repeat (first | exact (Kd.R_reads' HO485.out).2.2 | (with_reducible refine Kd.C_alloc ?_ _) | (with_reducible refine Kd.C_drewN ?_ _) | (with_reducible refine Kd.C_drew ?_))); (case side4 => exact (Kd.R_reads' HO485.out).2.1); rintro e w' ⟨rfl, ⟨nd, rfl⟩⟩))
            refine cutMeet hJ_ ?_ (by kernel_rfl)
            exact ⟨_, (!t487), (by first | rfl | (simp; done) | (simp [*]; done)), H', ⟨by have := HJ11.out; have := HJ45.out; first | omega | exact Nat.le_refl _⟩, ⟨by (with_reducible repeat (first | apply Kd.R_alloc | apply Kd.R_drewN | apply Kd.R_drew)); exact Kd.R_mono HO465.out (fun _ hk => ⟨hk.1.1.1.1.2, ⟨hk.1.1.2, hk.1.2⟩⟩)⟩, ⟨by (with_reducible repeat (first | apply Kd.R_alloc | apply Kd.R_drewN | apply Kd.R_drew)); exact Kd.R_mono HO469.out (fun _ hk => ⟨hk.1.1.1.1.2, ⟨hk.1.1.2, hk.1.2⟩⟩)⟩, ⟨by (with_reducible repeat (first | apply Kd.R_alloc | apply Kd.R_drewN | apply Kd.R_drew)); exact Kd.R_mono HO477.out (fun _ hk => ⟨hk.1.1.1.1.2, ⟨hk.1.1.1.2, hk.1.2⟩⟩)⟩, ⟨by (with_reducible repeat (first | apply Kd.R_alloc | apply Kd.R_drewN | apply Kd.R_drew)); exact Kd.R_mono HO481.out (fun _ hk => ⟨hk.1.1.1.1.2, ⟨hk.1.1.1.2, hk.1.2⟩⟩)⟩, ⟨by repeat (first | (with_reducible first | exact HB.out | apply below_alloc | apply pw_below_drewN | apply below_drew1))⟩⟩
          ·
           replace c107 := Bool.eq_false_iff.mpr c107
           subst c107
           have H1 : (laws_FnPlacesOfPatterns.j6 kj45 l1 t461 t462 t463 t466 t467 t474 t478 t479 true) = some r := by rw [if_neg (show ¬ (false = true) by decide)] at H; exact H
           clear H
           have H := H1
           clear H1
           exact (laws_FnPlacesOfPatterns.j6_no _ _ _ _ _ _ _ _ _ _ (H.trans (congrArg some HRT.out))).elim
       ·
        intro u_ wc hcut
        clear HC96
        obtain ⟨kq, x299_95, e_299, HA, HJ95, HO_30, HO_33, HO_37, HO_39, HB⟩ := hcut
        dsimp only [cutFgt, mk0]
        rw [e_299]
        cases kq with
        | zero => exact absurd HA.out (by simp [laws_FnPlacesOfPatterns.j6])
        | succ kj95 =>
         have H := HA.out
         clear HA
         simp only [laws_FnPlacesOfPatterns.j6] at H
         by_cases c118 : x299_95 = true
         ·
          subst c118
          have H1 : (some false) = some r := by rw [if_pos rfl] at H; exact H
          clear H
          have H := H1
          clear H1
          exact absurd (Option.some.inj (H.trans (congrArg some HRT.out))) Bool.false_ne_true
         ·
          replace c118 := Bool.eq_false_iff.mpr c118
          subst c118
          have H1 : (if t467 = true then ((laws_tRises.f kj95 t466 1 t463).bind fun t488 => (if t488 = true then ((impl_RulesOfPattern.f kj95 t461 t462).bind fun bt489 => (if bt489.2 = true then ((impl_LeftUpTo.f kj95 bt489.1 t463).bind fun bt493 => (if bt493.2 = true then ((laws_tSame.f kj95 bt493.1 t466).bind fun t497 => (if t497 = true then (laws_FnPlacesOfPatterns.j7 kj95 l1 t474 t478 t479) else (some false))) else (some false))) else (laws_FnPlacesOfPatterns.j7 kj95 l1 t474 t478 t479))) else (some false))) else (laws_FnPlacesOfPatterns.j7 kj95 l1 t474 t478 t479)) = some r := by rw [if_neg (show ¬ (false = true) by decide)] at H; exact H
          clear H
          have H := H1
          clear H1
          have HC119 := Aside0.mk H
          clear H
          go_upto_if 300 with (fail)
          refine cutF mk0 [none, none, none, none, some 4, none, none, none, none, none, none, none, none, none, none, none, none, none, none, none, none, none, none, none, none, none, none, none, none, none, none, none, none, none, none, none, none, none, none, none, none, none, none, some 43, some 44, some 45, some 46] (fun u_ wc => ∃ (kq : Nat), Aside0 (laws_FnPlacesOfPatterns.j7 kq l1 t474 t478 t479 = some r) ∧ Aside0 (kq ≤ kj95) ∧ Aside0 (Kd.R (Kd.int .i64) 3 wc w.heap.size (fun k_ => some k_ ≠ (v480 : Value).ownBlock) (.slice Ao102 t474.length co102) t474) ∧ Aside0 (Kd.R (Kd.int .i64) 3 wc w.heap.size (fun k_ => some k_ ≠ ((.slice Ao102 t474.length co102) : Value).ownBlock) v480 t478) ∧ Aside0 (Below w.heap.size w wc)) ?_ ?_
          ·
           as_aux_lemma =>
            intro J_ K_ hJ_ hK_
            have H := HC119.out
            clear HC119
            by_cases c120 : t467 = true
            ·
             subst c120
             have H1 : ((laws_tRises.f kj95 t466 1 t463).bind fun t488 => (if t488 = true then ((impl_RulesOfPattern.f kj95 t461 t462).bind fun bt489 => (if bt489.2 = true then ((impl_LeftUpTo.f kj95 bt489.1 t463).bind fun bt493 => (if bt493.2 = true then ((laws_tSame.f kj95 bt493.1 t466).bind fun t497 => (if t497 = true then (laws_FnPlacesOfPatterns.j7 kj95 l1 t474 t478 t479) else (some false))) else (some false))) else (laws_FnPlacesOfPatterns.j7 kj95 l1 t474 t478 t479))) else (some false))) = some r := by rw [if_pos rfl] at H; exact H
             clear H
             have H := H1
             clear H1
             replace H := Option.bind_eq_some_iff.mp H
             obtain ⟨t488, A1210, H⟩ := H
             replace H : (if t488 = true then ((impl_RulesOfPattern.f kj95 t461 t462).bind fun bt489 => (if bt489.2 = true then ((impl_LeftUpTo.f kj95 bt489.1 t463).bind fun bt493 => (if bt493.2 = true then ((laws_tSame.f kj95 bt493.1 t466).bind fun t497 => (if t497 = true then (laws_FnPlacesOfPatterns.j7 kj95 l1 t474 t478 t479) else (some false))) else (some false))) else (laws_FnPlacesOfPatterns.j7 kj95 l1 t474 t478 t479))) else (some false)) = some r := H
             have A121 := Aside0.mk A1210
             clear A1210
             by_cases c122 : t488 = true
             ·
              subst c122
              have H1 : ((impl_RulesOfPattern.f kj95 t461 t462).bind fun bt489 => (if bt489.2 = true then ((impl_LeftUpTo.f kj95 bt489.1 t463).bind fun bt493 => (if bt493.2 = true then ((laws_tSame.f kj95 bt493.1 t466).bind fun t497 => (if t497 = true then (laws_FnPlacesOfPatterns.j7 kj95 l1 t474 t478 t479) else (some false))) else (some false))) else (laws_FnPlacesOfPatterns.j7 kj95 l1 t474 t478 t479))) = some r := by rw [if_pos rfl] at H; exact H
              clear H
              have H := H1
              clear H1
              replace H := Option.bind_eq_some_iff.mp H
              obtain ⟨⟨t489, t490⟩, A1230, H⟩ := H
              replace H : (if t490 = true then ((impl_LeftUpTo.f kj95 t489 t463).bind fun bt493 => (if bt493.2 = true then ((laws_tSame.f kj95 bt493.1 t466).bind fun t497 => (if t497 = true then (laws_FnPlacesOfPatterns.j7 kj95 l1 t474 t478 t479) else (some false))) else (some false))) else (laws_FnPlacesOfPatterns.j7 kj95 l1 t474 t478 t479)) = some r := H
              have A123 := Aside0.mk A1230
              clear A1230
              by_cases c124 : t490 = true
              ·
               subst c124
               have H1 : ((impl_LeftUpTo.f kj95 t489 t463).bind fun bt493 => (if bt493.2 = true then ((laws_tSame.f kj95 bt493.1 t466).bind fun t497 => (if t497 = true then (laws_FnPlacesOfPatterns.j7 kj95 l1 t474 t478 t479) else (some false))) else (some false))) = some r := by rw [if_pos rfl] at H; exact H
               clear H
               have H := H1
               clear H1
               replace H := Option.bind_eq_some_iff.mp H
               obtain ⟨⟨t493, t494⟩, A1250, H⟩ := H
               replace H : (if t494 = true then ((laws_tSame.f kj95 t493 t466).bind fun t497 => (if t497 = true then (laws_FnPlacesOfPatterns.j7 kj95 l1 t474 t478 t479) else (some false))) else (some false)) = some r := H
               have A125 := Aside0.mk A1250
               clear A1250
               by_cases c126 : t494 = true
               ·
                subst c126
                have H1 : ((laws_tSame.f kj95 t493 t466).bind fun t497 => (if t497 = true then (laws_FnPlacesOfPatterns.j7 kj95 l1 t474 t478 t479) else (some false))) = some r := by rw [if_pos rfl] at H; exact H
                clear H
                have H := H1
                clear H1
                replace H := Option.bind_eq_some_iff.mp H
                obtain ⟨t497, A1270, H⟩ := H
                replace H : (if t497 = true then (laws_FnPlacesOfPatterns.j7 kj95 l1 t474 t478 t479) else (some false)) = some r := H
                have A127 := Aside0.mk A1270
                clear A1270
                by_cases c128 : t497 = true
                ·
                 subst c128
                 have H1 : (laws_FnPlacesOfPatterns.j7 kj95 l1 t474 t478 t479) = some r := by rw [if_pos rfl] at H; exact H
                 clear H
                 have H := H1
                 clear H1
                 have H' := Aside0.mk H
                 clear H
                 obtain ⟨Ao129, co129, eo129⟩ := Kd.R_slice HO_33.out
                 subst eo129
                 go_wp2_with (first | ((with_reducible refine gate_callee (f := 22) rfl ?_); refine goesL_ (some 303) rfl rfl Tryz.func22 (by kernel_rfl) rfl #[.slice Ao129 t466.length co129, .int .i64 1, .int .i64 t463] rfl (by (try simp only [List.map_toArray, List.map_cons, List.map_nil]); first | done | rfl | (simp only [List.length_drop, List.length_take]; rfl)) ?_; (with_reducible refine (laws_tRises.calls kj95 _ _ t466 1 t463 true _ ?side1 ?side2 A121.out).mono ?_); (case side1 => repeat (first | exact (Kd.R_reads' HO_33.out).2.2 | (with_reducible refine Kd.C_alloc ?_ _) | (with_reducible refine Kd.C_drewN ?_ _) | (with_reducible refine Kd.C_drew ?_))); (case side2 => exact (Kd.R_reads' HO_33.out).2.1); rintro e w' ⟨rfl, ⟨nd, rfl⟩⟩; refine ⟨_, rfl, ?_⟩) | ((with_reducible refine gate_callee (f := 8) rfl ?_); refine goesL_ (some 308) rfl rfl Tryz.func8 (by kernel_rfl) rfl #[.slice Ao98 t461.length co98, .int .i64 t462] rfl (by (try simp only [List.map_toArray, List.map_cons, List.map_nil]); first | done | rfl | (simp only [List.length_drop, List.length_take]; rfl)) ?_; (with_reducible refine (impl_RulesOfPattern.calls kj95 _ _ t461 t462 t489 true _ ?side1 ?side2 A123.out).mono ?_); (case side1 => repeat (first | exact (Kd.R_reads' HO_30.out).2.2 | (with_reducible refine Kd.C_alloc ?_ _) | (with_reducible refine Kd.C_drewN ?_ _) | (with_reducible refine Kd.C_drew ?_))); (case side2 => exact (Kd.R_reads' HO_30.out).2.1); rintro e w130 ⟨v491, rfl, ho0, hb⟩; refine ⟨_, rfl, ?_⟩; have n0_ := Aside0.mk (Kd.R_below (by (with_reducible repeat (first | apply Kd.R_alloc | apply Kd.R_drewN | apply Kd.R_drew)); exact HO_30.out) hb); have n1_ := Aside0.mk (Kd.R_below (by (with_reducible repeat (first | apply Kd.R_alloc | apply Kd.R_drewN | apply Kd.R_drew)); exact HO_33.out) hb); have n2_ := Aside0.mk (Kd.R_below (by (with_reducible repeat (first | apply Kd.R_alloc | apply Kd.R_drewN | apply Kd.R_drew)); exact HO_37.out) hb); have n3_ := Aside0.mk (Kd.R_below (by (with_reducible repeat (first | apply Kd.R_alloc | apply Kd.R_drewN | apply Kd.R_drew)); exact HO_39.out) hb); have n4_ := Aside0.mk (Kd.R_lower ho0 (below_size (by repeat (first | (with_reducible first | exact HB.out | apply below_alloc | apply pw_below_drewN | apply below_drew1))))); have n5_ := Aside0.mk (below_step (by repeat (first | (with_reducible first | exact HB.out | apply below_alloc | apply pw_below_drewN | apply below_drew1))) hb); clear HO_30; clear HO_33; clear HO_37; clear HO_39; clear HB; have HO_30 := n0_; have HO_33 := n1_; have HO_37 := n2_; have HO_39 := n3_; have HO492 := n4_; have HB := n5_; clear n0_ n1_ n2_ n3_ n4_ n5_; (try clear hb); (try clear ho0); obtain ⟨Ao131, co131, eo131⟩ := Kd.R_slice HO492.out; subst eo131) | ((with_reducible refine gate_callee (f := 23) rfl ?_); refine goesL_ (some 315) rfl rfl Tryz.func23 (by kernel_rfl) rfl #[.slice Ao131 t489.length co131, .int .i64 t463] rfl (by (try simp only [List.map_toArray, List.map_cons, List.map_nil]); first | done | rfl | (simp only [List.length_drop, List.length_take]; rfl)) ?_; (with_reducible refine (impl_LeftUpTo.calls kj95 _ _ t489 t463 t493 true _ ?side1 ?side2 A125.out).mono ?_); (case side1 => repeat (first | exact (Kd.R_reads' HO492.out).2.2 | (with_reducible refine Kd.C_alloc ?_ _) | (with_reducible refine Kd.C_drewN ?_ _) | (with_reducible refine Kd.C_drew ?_))); (case side2 => exact (Kd.R_reads' HO492.out).2.1); rintro e w132 ⟨v495, rfl, ho0, hb⟩; refine ⟨_, rfl, ?_⟩; have n0_ := Aside0.mk (Kd.R_elder' (by (with_reducible repeat (first | apply Kd.R_alloc | apply Kd.R_drewN | apply Kd.R_drew)); exact HO_30.out) (Kd.R_base ho0) hb); have n1_ := Aside0.mk (Kd.R_elder' (by (with_reducible repeat (first | apply Kd.R_alloc | apply Kd.R_drewN | apply Kd.R_drew)); exact HO_33.out) (Kd.R_base ho0) hb); have n2_ := Aside0.mk (Kd.R_elder' (by (with_reducible repeat (first | apply Kd.R_alloc | apply Kd.R_drewN | apply Kd.R_drew)); exact HO_37.out) (Kd.R_base ho0) hb); have n3_ := Aside0.mk (Kd.R_elder' (by (with_reducible repeat (first | apply Kd.R_alloc | apply Kd.R_drewN | apply Kd.R_drew)); exact HO_39.out) (Kd.R_base ho0) hb); have n4_ := Aside0.mk (Kd.R_below (by (with_reducible repeat (first | apply Kd.R_alloc | apply Kd.R_drewN | apply Kd.R_drew)); exact HO492.out) hb); have n5_ := Aside0.mk (Kd.R_lower (Kd.R_new' (Kd.R_new' (Kd.R_new' (Kd.R_new' ho0 (Kd.R_lt (by (with_reducible repeat (first | apply Kd.R_alloc | apply Kd.R_drewN | apply Kd.R_drew)); exact HO_30.out))) (Kd.R_lt (by (with_reducible repeat (first | apply Kd.R_alloc | apply Kd.R_drewN | apply Kd.R_drew)); exact HO_33.out))) (Kd.R_lt (by (with_reducible repeat (first | apply Kd.R_alloc | apply Kd.R_drewN | apply Kd.R_drew)); exact HO_37.out))) (Kd.R_lt (by (with_reducible repeat (first | apply Kd.R_alloc | apply Kd.R_drewN | apply Kd.R_drew)); exact HO_39.out))) (below_size (by repeat (first | (with_reducible first | exact HB.out | apply below_alloc | apply pw_below_drewN | apply below_drew1))))); have n6_ := Aside0.mk (below_step (by repeat (first | (with_reducible first | exact HB.out | apply below_alloc | apply pw_below_drewN | apply below_drew1))) hb); clear HO_30; clear HO_33; clear HO_37; clear HO_39; clear HO492; clear HB; have HO_30 := n0_; have HO_33 := n1_; have HO_37 := n2_; have HO_39 := n3_; have HO492 := n4_; have HO496 := n5_; have HB := n6_; clear n0_ n1_ n2_ n3_ n4_ n5_ n6_; (try clear hb); (try clear ho0); obtain ⟨Ao133, co133, eo133⟩ := Kd.R_slice HO496.out; subst eo133) | (go_at_call 21; (with_reducible refine (laws_tSame.calls kj95 _ _ t493 _ _ t466 true _ ?side1 ?side2 ?side3 ?side4 A127.out).mono ?_); (case side1 => repeat (first | exact (Kd.R_reads' HO496.out).2.2 | (with_reducible refine Kd.C_alloc ?_ _) | (with_reducible refine Kd.C_drewN ?_ _) | (with_reducible refine Kd.C_drew ?_))); (case side2 => exact (Kd.R_reads' HO496.out).2.1); (case side3 => repeat (first | exact (Kd.R_reads' HO_33.out).2.2 | (with_reducible refine Kd.C_alloc ?_ _) | (with_reducible refine Kd.C_drewN ?_ _) | (with_reducible refine Kd.C_drew ?_))); (case side4 => exact (Kd.R_reads' HO_33.out).2.1); rintro e w' ⟨rfl, ⟨nd, rfl⟩⟩))
                 refine cutMeet hJ_ ?_ (by kernel_rfl)
                 exact ⟨_, H', ⟨by have := HJ11.out; have := HJ45.out; have := HJ95.out; first | omega | exact Nat.le_refl _⟩, ⟨by (with_reducible repeat (first | apply Kd.R_alloc | apply Kd.R_drewN | apply Kd.R_drew)); exact Kd.R_mono HO_37.out (fun _ hk => hk.1.2.2)⟩, ⟨by (with_reducible repeat (first | apply Kd.R_alloc | apply Kd.R_drewN | apply Kd.R_drew)); exact Kd.R_mono HO_39.out (fun _ hk => hk.1.2.2)⟩, ⟨by repeat (first | (with_reducible first | exact HB.out | apply below_alloc | apply pw_below_drewN | apply below_drew1))⟩⟩
                ·
                 replace c128 := Bool.eq_false_iff.mpr c128
                 subst c128
                 have H1 : (some false) = some r := by rw [if_neg (show ¬ (false = true) by decide)] at H; exact H
                 clear H
                 have H := H1
                 clear H1
                 exact absurd (Option.some.inj (H.trans (congrArg some HRT.out))) Bool.false_ne_true
               ·
                replace c126 := Bool.eq_false_iff.mpr c126
                subst c126
                have H1 : (some false) = some r := by rw [if_neg (show ¬ (false = true) by decide)] at H; exact H
                clear H
                have H := H1
                clear H1
                exact absurd (Option.some.inj (H.trans (congrArg some HRT.out))) Bool.false_ne_true
              ·
               replace c124 := Bool.eq_false_iff.mpr c124
               subst c124
               have H1 : (laws_FnPlacesOfPatterns.j7 kj95 l1 t474 t478 t479) = some r := by rw [if_neg (show ¬ (false = true) by decide)] at H; exact H
               clear H
               have H := H1
               clear H1
               have H' := Aside0.mk H
               clear H
               obtain ⟨Ao143, co143, eo143⟩ := Kd.R_slice HO_33.out
               subst eo143
               go_wp2_with (first | ((with_reducible refine gate_callee (f := 22) rfl ?_); refine goesL_ (some 303) rfl rfl Tryz.func22 (by kernel_rfl) rfl #[.slice Ao143 t466.length co143, .int .i64 1, .int .i64 t463] rfl (by (try simp only [List.map_toArray, List.map_cons, List.map_nil]); first | done | rfl | (simp only [List.length_drop, List.length_take]; rfl)) ?_; (with_reducible refine (laws_tRises.calls kj95 _ _ t466 1 t463 true _ ?side1 ?side2 A121.out).mono ?_); (case side1 => repeat (first | exact (Kd.R_reads' HO_33.out).2.2 | (with_reducible refine Kd.C_alloc ?_ _) | (with_reducible refine Kd.C_drewN ?_ _) | (with_reducible refine Kd.C_drew ?_))); (case side2 => exact (Kd.R_reads' HO_33.out).2.1); rintro e w' ⟨rfl, ⟨nd, rfl⟩⟩; refine ⟨_, rfl, ?_⟩) | ((with_reducible refine gate_callee (f := 8) rfl ?_); refine goesL_ (some 308) rfl rfl Tryz.func8 (by kernel_rfl) rfl #[.slice Ao98 t461.length co98, .int .i64 t462] rfl (by (try simp only [List.map_toArray, List.map_cons, List.map_nil]); first | done | rfl | (simp only [List.length_drop, List.length_take]; rfl)) ?_; (with_reducible refine (impl_RulesOfPattern.calls kj95 _ _ t461 t462 t489 false _ ?side1 ?side2 A123.out).mono ?_); (case side1 => repeat (first | exact (Kd.R_reads' HO_30.out).2.2 | (with_reducible refine Kd.C_alloc ?_ _) | (with_reducible refine Kd.C_drewN ?_ _) | (with_reducible refine Kd.C_drew ?_))); (case side2 => exact (Kd.R_reads' HO_30.out).2.1); rintro e w144 ⟨v491, rfl, ho0, hb⟩; refine ⟨_, rfl, ?_⟩; have n0_ := Aside0.mk (Kd.R_below (by (with_reducible repeat (first | apply Kd.R_alloc | apply Kd.R_drewN | apply Kd.R_drew)); exact HO_30.out) hb); have n1_ := Aside0.mk (Kd.R_below (by (with_reducible repeat (first | apply Kd.R_alloc | apply Kd.R_drewN | apply Kd.R_drew)); exact HO_33.out) hb); have n2_ := Aside0.mk (Kd.R_below (by (with_reducible repeat (first | apply Kd.R_alloc | apply Kd.R_drewN | apply Kd.R_drew)); exact HO_37.out) hb); have n3_ := Aside0.mk (Kd.R_below (by (with_reducible repeat (first | apply Kd.R_alloc | apply Kd.R_drewN | apply Kd.R_drew)); exact HO_39.out) hb); have n4_ := Aside0.mk (Kd.R_lower ho0 (below_size (by repeat (first | (with_reducible first | exact HB.out | apply below_alloc | apply pw_below_drewN | apply below_drew1))))); have n5_ := Aside0.mk (below_step (by repeat (first | (with_reducible first | exact HB.out | apply below_alloc | apply pw_below_drewN | apply below_drew1))) hb); clear HO_30; clear HO_33; clear HO_37; clear HO_39; clear HB; have HO_30 := n0_; have HO_33 := n1_; have HO_37 := n2_; have HO_39 := n3_; have HO492 := n4_; have HB := n5_; clear n0_ n1_ n2_ n3_ n4_ n5_; (try clear hb); (try clear ho0)))
               refine cutMeet hJ_ ?_ (by kernel_rfl)
               exact ⟨_, H', ⟨by have := HJ11.out; have := HJ45.out; have := HJ95.out; first | omega | exact Nat.le_refl _⟩, ⟨by (with_reducible repeat (first | apply Kd.R_alloc | apply Kd.R_drewN | apply Kd.R_drew)); exact Kd.R_mono HO_37.out (fun _ hk => hk.2.2)⟩, ⟨by (with_reducible repeat (first | apply Kd.R_alloc | apply Kd.R_drewN | apply Kd.R_drew)); exact Kd.R_mono HO_39.out (fun _ hk => hk.2.2)⟩, ⟨by repeat (first | (with_reducible first | exact HB.out | apply below_alloc | apply pw_below_drewN | apply below_drew1))⟩⟩
             ·
              replace c122 := Bool.eq_false_iff.mpr c122
              subst c122
              have H1 : (some false) = some r := by rw [if_neg (show ¬ (false = true) by decide)] at H; exact H
              clear H
              have H := H1
              clear H1
              exact absurd (Option.some.inj (H.trans (congrArg some HRT.out))) Bool.false_ne_true
            ·
             replace c120 := Bool.eq_false_iff.mpr c120
             subst c120
             have H1 : (laws_FnPlacesOfPatterns.j7 kj95 l1 t474 t478 t479) = some r := by rw [if_neg (show ¬ (false = true) by decide)] at H; exact H
             clear H
             have H := H1
             clear H1
             have H' := Aside0.mk H
             clear H
             go_wp2
             refine cutMeet hJ_ ?_ (by kernel_rfl)
             exact ⟨_, H', ⟨by have := HJ11.out; have := HJ45.out; have := HJ95.out; first | omega | exact Nat.le_refl _⟩, ⟨by (with_reducible repeat (first | apply Kd.R_alloc | apply Kd.R_drewN | apply Kd.R_drew)); exact Kd.R_mono HO_37.out (fun _ hk => hk.2.2)⟩, ⟨by (with_reducible repeat (first | apply Kd.R_alloc | apply Kd.R_drewN | apply Kd.R_drew)); exact Kd.R_mono HO_39.out (fun _ hk => hk.2.2)⟩, ⟨by repeat (first | (with_reducible first | exact HB.out | apply below_alloc | apply pw_below_drewN | apply below_drew1))⟩⟩
          ·
           intro u_ wc hcut
           clear HC119
           obtain ⟨kq, HA, HJ118, HO_37, HO_39, HB⟩ := hcut
           dsimp only [cutFgt, mk0]
           cases kq with
           | zero => exact absurd HA.out (by simp [laws_FnPlacesOfPatterns.j7])
           | succ kj118 =>
            have H := HA.out
            clear HA
            simp only [laws_FnPlacesOfPatterns.j7] at H
            have HC146 := Aside0.mk H
            clear H
            go_upto_if 326 with (fail)
            refine cutF mk0 [none, none, none, none, some 4, none, none, none, none, none, none, none, none, none, none, none, none, none, none, none, none, none, none, none, none, none, none, none, none, none, none, none, none, none, none, none, none, none, none, none, none, none, none, none, none, none, none, none, some 48, none, some 50, some 51, some 52, none, none, none, none, none, none, none, none, none, none, none, none, none, none, none, none, none, none, none, none, none, none, none, none, none, none, none, none, none, none, none, none, none, none, none, none, none, none, none, none, none, none, none, none, none, none, none, none, none, none, none, none, none, none, none, none, none, none, none, none, none, none, none, none, none, none, none, none, none, none, none, none, none, none, none, none, none, none, none, none, none, none, none, none, none, none, none, none, none, none, none, none, none, none, none, none, none, none, none, none, none, none, none, none, none, none, none, none, none, none, none, none, none, none, none, none, none, none, none, none, none, none, none, none, none, none, none, none, none, none, none, none, none, none, none, none, none, none, none, none, none, none, none, none, none, none, none, none, none, none, none, none, none, none, none, none, none, none, none, none, none, none, none, none, none, none, none, none, none, none, none, none, none, none, none, none, none, none, none, none, none, none, none, none, none, none, none, none, none, none, none, none, none, none, none, none, none, none, none, none, none, none, none, none, none, none, none, none, none, none, none, none, none, none, none, none, none, none, none, none, none, none, none, none, none, none, none, none, none, none, none, none, none, none, none, none, none, none, none, none, none, none, none, none, none, none, none, none, none, none, none, none, none, none, none, none, none, none, none, none, none, none, none, none, none, none, none, none, none, none, none, none, none, none, some 327, some 328, some 329, none, none, none, some 333, some 334, some 335] (fun u_ wc => ∃ (kq : Nat), Aside0 (laws_FnPlacesOfPatterns.j10 kq l1 = some r) ∧ Aside0 (kq ≤ kj118) ∧ Aside0 (Below w.heap.size w wc)) ?_ ?_
            ·
             as_aux_lemma =>
              intro J_ K_ hJ_ hK_
              have H := HC146.out
              clear HC146
              by_cases c147 : t479 = true
              ·
               subst c147
               have H1 : (laws_FnPlacesOfPatterns.l1 kj118 l1 t474 t478 t478 (t478.length : Int) 0) = some r := by rw [if_pos rfl] at H; exact H
               clear H
               have H := H1
               clear H1
               have H' := Aside0.mk H
               clear H
               obtain ⟨Ao148, co148, eo148⟩ := Kd.R_slice HO_39.out
               subst eo148
               go_wp2
               go_loopg [329] kj118 (fun kq v329 w' => ∃ (x329_5 : Int), v329 = .int .i64 x329_5 ∧ Aside0 (laws_FnPlacesOfPatterns.l1 kq l1 t474 t478 t478 (t478.length : Int) x329_5 = some r) ∧ Aside0 (kq ≤ kj118) ∧ Aside0 (Kd.R (Kd.int .i64) 3 w' w.heap.size (fun k_ => some k_ ≠ ((.slice Ao148 t478.length co148) : Value).ownBlock ∧ some k_ ≠ ((.slice Ao148 t478.length co148) : Value).ownBlock) (.slice Ao102 t474.length co102) t474) ∧ Aside0 (Kd.R (Kd.int .i64) 3 w' w.heap.size (fun k_ => some k_ ≠ ((.slice Ao102 t474.length co102) : Value).ownBlock) (.slice Ao148 t478.length co148) t478) ∧ Aside0 (Kd.R (Kd.int .i64) 3 w' w.heap.size (fun k_ => some k_ ≠ ((.slice Ao102 t474.length co102) : Value).ownBlock) (.slice Ao148 t478.length co148) t478) ∧ Aside0 (Below w.heap.size w w'))
               case atStart => exact ⟨(0), (by first | rfl | (simp; done) | (simp [*]; done)), H', ⟨Nat.le_refl _⟩, ⟨by (with_reducible repeat (first | apply Kd.R_alloc | apply Kd.R_drewN | apply Kd.R_drew)); exact Kd.R_mono HO_37.out (fun _ hk => ⟨hk, hk⟩)⟩, ⟨by (with_reducible repeat (first | apply Kd.R_alloc | apply Kd.R_drewN | apply Kd.R_drew)); exact HO_39.out⟩, ⟨by (with_reducible repeat (first | apply Kd.R_alloc | apply Kd.R_drewN | apply Kd.R_drew)); exact HO_39.out⟩, ⟨by repeat (first | (with_reducible first | exact HB.out | apply below_alloc | apply pw_below_drewN | apply below_drew1))⟩⟩
               case round =>
                clear H'
                obtain ⟨x329_5, rfl, HA, HK5, HO_37, HO_39, HO_327, HB⟩ := hrel
                cases gk with
                | zero => exact absurd HA.out (by simp [laws_FnPlacesOfPatterns.l1])
                | succ k5 =>
                 have H := HA.out
                 clear HA
                 simp only [laws_FnPlacesOfPatterns.l1] at H
                 by_cases c149 : x329_5 < (t478.length : Int)
                 ·
                  rw [if_pos c149] at H
                  have c149b0 : decide (x329_5 < (t478.length : Int)) = true := decide_eq_true c149
                  clear c149
                  (first | rw [c149b0] | (simp only [i64_w, i32_w]; rw [c149b0]) | skip)
                  by_cases c150 : 0 ≤ x329_5
                  ·
                   rw [if_pos c150] at H
                   have c150b0 : decide (0 ≤ x329_5) = true := decide_eq_true c150
                   clear c150
                   by_cases c151 : x329_5 < (t478.length : Int)
                   ·
                    rw [if_pos c151] at H
                    have c151b0 : decide (x329_5 < (t478.length : Int)) = true := decide_eq_true c151
                    clear c151
                    have H' := Aside0.mk H
                    clear H
                    have p500 : 0 ≤ (x329_5 : Int) := of_decide_eq_true (by first | (with_reducible assumption) | assumption)
                    have q500 : x329_5 < (t478.length : Int) := of_decide_eq_true (by first | (with_reducible assumption) | assumption)
                    obtain ⟨ad500, e500, hx500_0⟩ := Kd.at_int (Kd.R_reads' HO_327.out).2.2 x329_5 p500 q500
                    cases e500
                    replace p500 := eq_true p500
                    replace q500 := eq_true q500
                    go_wp2
                    go_loopg [335] k5 (fun kq v335 w' => ∃ (x335_6 : Int), v335 = .int .i64 x335_6 ∧ Aside0 (laws_FnPlacesOfPatterns.l2 kq l1 t474 t478 (rd t478 x329_5) t478 (t478.length : Int) x329_5 t474 (t474.length : Int) x335_6 = some r) ∧ Aside0 (kq ≤ k5) ∧ Aside0 (Kd.R (Kd.int .i64) 3 w' w.heap.size (fun k_ => some k_ ≠ ((.slice (some ad500) t478.length co148) : Value).ownBlock ∧ some k_ ≠ ((.slice (some ad500) t478.length co148) : Value).ownBlock) (.slice Ao102 t474.length co102) t474) ∧ Aside0 (Kd.R (Kd.int .i64) 3 w' w.heap.size (fun k_ => some k_ ≠ ((.slice Ao102 t474.length co102) : Value).ownBlock ∧ some k_ ≠ ((.slice Ao102 t474.length co102) : Value).ownBlock) (.slice (some ad500) t478.length co148) t478) ∧ Aside0 (Kd.R (Kd.int .i64) 3 w' w.heap.size (fun k_ => some k_ ≠ ((.slice Ao102 t474.length co102) : Value).ownBlock ∧ some k_ ≠ ((.slice Ao102 t474.length co102) : Value).ownBlock) (.slice (some ad500) t478.length co148) t478) ∧ Aside0 (Kd.R (Kd.int .i64) 3 w' w.heap.size (fun k_ => some k_ ≠ ((.slice (some ad500) t478.length co148) : Value).ownBlock ∧ some k_ ≠ ((.slice (some ad500) t478.length co148) : Value).ownBlock) (.slice Ao102 t474.length co102) t474) ∧ Aside0 (Below w.heap.size w w'))
                    case atStart => exact ⟨(0), (by first | rfl | (simp; done) | (simp [*]; done)), H', ⟨Nat.le_refl _⟩, ⟨by (with_reducible repeat (first | apply Kd.R_alloc | apply Kd.R_drewN | apply Kd.R_drew)); exact HO_37.out⟩, ⟨by (with_reducible repeat (first | apply Kd.R_alloc | apply Kd.R_drewN | apply Kd.R_drew)); exact Kd.R_mono HO_39.out (fun _ hk => ⟨hk, hk⟩)⟩, ⟨by (with_reducible repeat (first | apply Kd.R_alloc | apply Kd.R_drewN | apply Kd.R_drew)); exact Kd.R_mono HO_327.out (fun _ hk => ⟨hk, hk⟩)⟩, ⟨by (with_reducible repeat (first | apply Kd.R_alloc | apply Kd.R_drewN | apply Kd.R_drew)); exact HO_37.out⟩, ⟨by repeat (first | (with_reducible first | exact HB.out | apply below_alloc | apply pw_below_drewN | apply below_drew1))⟩⟩
                    case round =>
                     clear H'
                     obtain ⟨x335_6, rfl, HA, HK6, HO_37, HO_39, HO_327, HO_333, HB⟩ := hrel
                     cases gk with
                     | zero => exact absurd HA.out (by simp [laws_FnPlacesOfPatterns.l2])
                     | succ k6 =>
                      have H := HA.out
                      clear HA
                      simp only [laws_FnPlacesOfPatterns.l2] at H
                      by_cases c152 : x335_6 < (t474.length : Int)
                      ·
                       rw [if_pos c152] at H
                       have c152b0 : decide (x335_6 < (t474.length : Int)) = true := decide_eq_true c152
                       clear c152
                       by_cases c153 : 0 ≤ x335_6
                       ·
                        rw [if_pos c153] at H
                        have c153b0 : decide (0 ≤ x335_6) = true := decide_eq_true c153
                        clear c153
                        by_cases c154 : x335_6 < (t474.length : Int)
                        ·
                         rw [if_pos c154] at H
                         have c154b0 : decide (x335_6 < (t474.length : Int)) = true := decide_eq_true c154
                         clear c154
                         replace H := Option.bind_eq_some_iff.mp H
                         obtain ⟨t502, A1550, H⟩ := H
                         replace H : (if t502 = true then (laws_FnPlacesOfPatterns.l2 k6 l1 t474 t478 (rd t478 x329_5) t478 (t478.length : Int) x329_5 t474 (t474.length : Int) (wrap64 (x335_6 + 1))) else (some false)) = some r := H
                         have A155 := Aside0.mk A1550
                         clear A1550
                         by_cases c156 : t502 = true
                         ·
                          subst c156
                          have H1 : (laws_FnPlacesOfPatterns.l2 k6 l1 t474 t478 (rd t478 x329_5) t478 (t478.length : Int) x329_5 t474 (t474.length : Int) (wrap64 (x335_6 + 1))) = some r := by rw [if_pos rfl] at H; exact H
                          clear H
                          have H := H1
                          clear H1
                          have H' := Aside0.mk H
                          clear H
                          have p501 : 0 ≤ (x335_6 : Int) := of_decide_eq_true (by first | (with_reducible assumption) | assumption)
                          have q501 : x335_6 < (t474.length : Int) := of_decide_eq_true (by first | (with_reducible assumption) | assumption)
                          obtain ⟨ad501, e501, hx501_0⟩ := Kd.at_int (Kd.R_reads' HO_333.out).2.2 x335_6 p501 q501
                          cases e501
                          replace p501 := eq_true p501
                          replace q501 := eq_true q501
                          go_wp2_with (first | ((with_reducible refine gate_callee (f := 24) rfl ?_); refine goesL_ (some 342) rfl rfl Tryz.func24 (by kernel_rfl) rfl #[.int .i64 (wrap64 ((rd t478 x329_5) + (rd t474 x335_6)))] rfl (by (try simp only [List.map_toArray, List.map_cons, List.map_nil]); first | done | rfl | (simp only [List.length_drop, List.length_take]; rfl)) ?_; (with_reducible refine (laws_tPrime.calls k6 (wrap64 ((rd t478 x329_5) + (rd t474 x335_6))) true _ A155.out).mono ?_); rintro e w' ⟨rfl, ⟨nd, rfl⟩⟩; refine ⟨_, rfl, ?_⟩))
                          go_roundg k6
                          case measure => have := HJ11.out; have := HJ45.out; have := HJ95.out; have := HJ118.out; have := HK5.out; have := HK6.out; omega
                          case rel => exact ⟨(wrap64 (x335_6 + 1)), (by first | rfl | (simp; done) | (simp [*]; done)), H', ⟨by have := HJ11.out; have := HJ45.out; have := HJ95.out; have := HJ118.out; have := HK5.out; have := HK6.out; omega⟩, ⟨by (with_reducible repeat (first | apply Kd.R_alloc | apply Kd.R_drewN | apply Kd.R_drew)); exact HO_37.out⟩, ⟨by (with_reducible repeat (first | apply Kd.R_alloc | apply Kd.R_drewN | apply Kd.R_drew)); exact HO_39.out⟩, ⟨by (with_reducible repeat (first | apply Kd.R_alloc | apply Kd.R_drewN | apply Kd.R_drew)); exact HO_327.out⟩, ⟨by (with_reducible repeat (first | apply Kd.R_alloc | apply Kd.R_drewN | apply Kd.R_drew)); exact HO_333.out⟩, ⟨by repeat (first | (with_reducible first | exact HB.out | apply below_alloc | apply pw_below_drewN | apply below_drew1))⟩⟩
                         ·
                          replace c156 := Bool.eq_false_iff.mpr c156
                          subst c156
                          have H1 : (some false) = some r := by rw [if_neg (show ¬ (false = true) by decide)] at H; exact H
                          clear H
                          have H := H1
                          clear H1
                          exact absurd (Option.some.inj (H.trans (congrArg some HRT.out))) Bool.false_ne_true
                        ·
                         rw [if_neg c154] at H
                         exact absurd H (by simp)
                       ·
                        rw [if_neg c153] at H
                        exact absurd H (by simp)
                      ·
                       rw [if_neg c152] at H
                       have c152b0 : decide (x335_6 < (t474.length : Int)) = false := decide_eq_false c152
                       clear c152
                       have H' := Aside0.mk H
                       clear H
                       go_wp2
                       go_roundg k6
                       case measure => have := HJ11.out; have := HJ45.out; have := HJ95.out; have := HJ118.out; have := HK5.out; have := HK6.out; omega
                       case rel => exact ⟨(wrap64 (x329_5 + 1)), (by first | rfl | (simp; done) | (simp [*]; done)), H', ⟨by have := HJ11.out; have := HJ45.out; have := HJ95.out; have := HJ118.out; have := HK5.out; have := HK6.out; omega⟩, ⟨by (with_reducible repeat (first | apply Kd.R_alloc | apply Kd.R_drewN | apply Kd.R_drew)); exact HO_37.out⟩, ⟨by (with_reducible repeat (first | apply Kd.R_alloc | apply Kd.R_drewN | apply Kd.R_drew)); exact Kd.R_mono HO_39.out (fun _ hk => hk.1)⟩, ⟨by (with_reducible repeat (first | apply Kd.R_alloc | apply Kd.R_drewN | apply Kd.R_drew)); exact Kd.R_mono HO_327.out (fun _ hk => hk.1)⟩, ⟨by repeat (first | (with_reducible first | exact HB.out | apply below_alloc | apply pw_below_drewN | apply below_drew1))⟩⟩
                   ·
                    rw [if_neg c151] at H
                    exact absurd H (by simp)
                  ·
                   rw [if_neg c150] at H
                   exact absurd H (by simp)
                 ·
                  rw [if_neg c149] at H
                  have c149b0 : decide (x329_5 < (t478.length : Int)) = false := decide_eq_false c149
                  clear c149
                  (first | rw [c149b0] | (simp only [i64_w, i32_w]; rw [c149b0]) | skip)
                  replace H := Option.bind_eq_some_iff.mp H
                  obtain ⟨⟨t498, t499⟩, A1570, H⟩ := H
                  replace H : (if t499 = true then (if t498 = true then (laws_FnPlacesOfPatterns.j10 k5 l1) else (if (t478.length : Int) > (wrap64 (2 * (t474.length : Int))) then (some false) else (laws_FnPlacesOfPatterns.j10 k5 l1))) else (laws_FnPlacesOfPatterns.j10 k5 l1)) = some r := H
                  have A157 := Aside0.mk A1570
                  clear A1570
                  by_cases c158 : t499 = true
                  ·
                   subst c158
                   have H1 : (if t498 = true then (laws_FnPlacesOfPatterns.j10 k5 l1) else (if (t478.length : Int) > (wrap64 (2 * (t474.length : Int))) then (some false) else (laws_FnPlacesOfPatterns.j10 k5 l1))) = some r := by rw [if_pos rfl] at H; exact H
                   clear H
                   have H := H1
                   clear H1
                   by_cases c159 : t498 = true
                   ·
                    subst c159
                    have H1 : (laws_FnPlacesOfPatterns.j10 k5 l1) = some r := by rw [if_pos rfl] at H; exact H
                    clear H
                    have H := H1
                    clear H1
                    have H' := Aside0.mk H
                    clear H
                    go_wp2_with (first | ((with_reducible refine gate_callee (f := 25) rfl ?_); refine goesL_ (some 348) rfl rfl Tryz.func25 (by kernel_rfl) rfl #[.slice Ao102 t474.length co102] rfl (by (try simp only [List.map_toArray, List.map_cons, List.map_nil]); first | done | rfl | (simp only [List.length_drop, List.length_take]; rfl)) ?_; (with_reducible refine (impl_IsOpen.calls k5 _ _ t474 true true _ ?side1 ?side2 A157.out).mono ?_); (case side1 => repeat (first | exact (Kd.R_reads' HO_37.out).2.2 | (with_reducible refine Kd.C_alloc ?_ _) | (with_reducible refine Kd.C_drewN ?_ _) | (with_reducible refine Kd.C_drew ?_))); (case side2 => exact (Kd.R_reads' HO_37.out).2.1); rintro e w160 ⟨rfl, hb⟩; refine ⟨_, rfl, ?_⟩; have n0_ := Aside0.mk (Kd.R_below (by (with_reducible repeat (first | apply Kd.R_alloc | apply Kd.R_drewN | apply Kd.R_drew)); exact HO_37.out) hb); have n1_ := Aside0.mk (Kd.R_below (by (with_reducible repeat (first | apply Kd.R_alloc | apply Kd.R_drewN | apply Kd.R_drew)); exact HO_39.out) hb); have n2_ := Aside0.mk (Kd.R_below (by (with_reducible repeat (first | apply Kd.R_alloc | apply Kd.R_drewN | apply Kd.R_drew)); exact HO_327.out) hb); have n3_ := Aside0.mk (below_step (by repeat (first | (with_reducible first | exact HB.out | apply below_alloc | apply pw_below_drewN | apply below_drew1))) hb); clear HO_37; clear HO_39; clear HO_327; clear HB; have HO_37 := n0_; have HO_39 := n1_; have HO_327 := n2_; have HB := n3_; clear n0_ n1_ n2_ n3_; (try clear hb)))
                    refine cutMeet hJ_ ?_ (by kernel_rfl)
                    exact ⟨_, H', ⟨by have := HJ11.out; have := HJ45.out; have := HJ95.out; have := HJ118.out; have := HK5.out; first | omega | exact Nat.le_refl _⟩, ⟨by repeat (first | (with_reducible first | exact HB.out | apply below_alloc | apply pw_below_drewN | apply below_drew1))⟩⟩
                   ·
                    replace c159 := Bool.eq_false_iff.mpr c159
                    subst c159
                    have H1 : (if (t478.length : Int) > (wrap64 (2 * (t474.length : Int))) then (some false) else (laws_FnPlacesOfPatterns.j10 k5 l1)) = some r := by rw [if_neg (show ¬ (false = true) by decide)] at H; exact H
                    clear H
                    have H := H1
                    clear H1
                    by_cases c161 : (t478.length : Int) > (wrap64 (2 * (t474.length : Int)))
                    ·
                     rw [if_pos c161] at H
                     have c161b0 : decide ((wrap64 (2 * (t474.length : Int))) < (t478.length : Int)) = true := decide_eq_true c161
                     clear c161
                     exact absurd (Option.some.inj (H.trans (congrArg some HRT.out))) Bool.false_ne_true
                    ·
                     rw [if_neg c161] at H
                     have c161b0 : decide ((wrap64 (2 * (t474.length : Int))) < (t478.length : Int)) = false := decide_eq_false c161
                     clear c161
                     have H' := Aside0.mk H
                     clear H
                     go_wp2_with (first | ((with_reducible refine gate_callee (f := 25) rfl ?_); refine goesL_ (some 348) rfl rfl Tryz.func25 (by kernel_rfl) rfl #[.slice Ao102 t474.length co102] rfl (by (try simp only [List.map_toArray, List.map_cons, List.map_nil]); first | done | rfl | (simp only [List.length_drop, List.length_take]; rfl)) ?_; (with_reducible refine (impl_IsOpen.calls k5 _ _ t474 false true _ ?side1 ?side2 A157.out).mono ?_); (case side1 => repeat (first | exact (Kd.R_reads' HO_37.out).2.2 | (with_reducible refine Kd.C_alloc ?_ _) | (with_reducible refine Kd.C_drewN ?_ _) | (with_reducible refine Kd.C_drew ?_))); (case side2 => exact (Kd.R_reads' HO_37.out).2.1); rintro e w163 ⟨rfl, hb⟩; refine ⟨_, rfl, ?_⟩; have n0_ := Aside0.mk (Kd.R_below (by (with_reducible repeat (first | apply Kd.R_alloc | apply Kd.R_drewN | apply Kd.R_drew)); exact HO_37.out) hb); have n1_ := Aside0.mk (Kd.R_below (by (with_reducible repeat (first | apply Kd.R_alloc | apply Kd.R_drewN | apply Kd.R_drew)); exact HO_39.out) hb); have n2_ := Aside0.mk (Kd.R_below (by (with_reducible repeat (first | apply Kd.R_alloc | apply Kd.R_drewN | apply Kd.R_drew)); exact HO_327.out) hb); have n3_ := Aside0.mk (below_step (by repeat (first | (with_reducible first | exact HB.out | apply below_alloc | apply pw_below_drewN | apply below_drew1))) hb); clear HO_37; clear HO_39; clear HO_327; clear HB; have HO_37 := n0_; have HO_39 := n1_; have HO_327 := n2_; have HB := n3_; clear n0_ n1_ n2_ n3_; (try clear hb)))
                     refine cutMeet hJ_ ?_ (by kernel_rfl)
                     exact ⟨_, H', ⟨by have := HJ11.out; have := HJ45.out; have := HJ95.out; have := HJ118.out; have := HK5.out; first | omega | exact Nat.le_refl _⟩, ⟨by repeat (first | (with_reducible first | exact HB.out | apply below_alloc | apply pw_below_drewN | apply below_drew1))⟩⟩
                  ·
                   replace c158 := Bool.eq_false_iff.mpr c158
                   subst c158
                   have H1 : (laws_FnPlacesOfPatterns.j10 k5 l1) = some r := by rw [if_neg (show ¬ (false = true) by decide)] at H; exact H
                   clear H
                   have H := H1
                   clear H1
                   have H' := Aside0.mk H
                   clear H
                   go_wp2_with (first | ((with_reducible refine gate_callee (f := 25) rfl ?_); refine goesL_ (some 348) rfl rfl Tryz.func25 (by kernel_rfl) rfl #[.slice Ao102 t474.length co102] rfl (by (try simp only [List.map_toArray, List.map_cons, List.map_nil]); first | done | rfl | (simp only [List.length_drop, List.length_take]; rfl)) ?_; (with_reducible refine (impl_IsOpen.calls k5 _ _ t474 t498 false _ ?side1 ?side2 A157.out).mono ?_); (case side1 => repeat (first | exact (Kd.R_reads' HO_37.out).2.2 | (with_reducible refine Kd.C_alloc ?_ _) | (with_reducible refine Kd.C_drewN ?_ _) | (with_reducible refine Kd.C_drew ?_))); (case side2 => exact (Kd.R_reads' HO_37.out).2.1); rintro e w164 ⟨rfl, hb⟩; refine ⟨_, rfl, ?_⟩; have n0_ := Aside0.mk (Kd.R_below (by (with_reducible repeat (first | apply Kd.R_alloc | apply Kd.R_drewN | apply Kd.R_drew)); exact HO_37.out) hb); have n1_ := Aside0.mk (Kd.R_below (by (with_reducible repeat (first | apply Kd.R_alloc | apply Kd.R_drewN | apply Kd.R_drew)); exact HO_39.out) hb); have n2_ := Aside0.mk (Kd.R_below (by (with_reducible repeat (first | apply Kd.R_alloc | apply Kd.R_drewN | apply Kd.R_drew)); exact HO_327.out) hb); have n3_ := Aside0.mk (below_step (by repeat (first | (with_reducible first | exact HB.out | apply below_alloc | apply pw_below_drewN | apply below_drew1))) hb); clear HO_37; clear HO_39; clear HO_327; clear HB; have HO_37 := n0_; have HO_39 := n1_; have HO_327 := n2_; have HB := n3_; clear n0_ n1_ n2_ n3_; (try clear hb)))
                   refine cutMeet hJ_ ?_ (by kernel_rfl)
                   exact ⟨_, H', ⟨by have := HJ11.out; have := HJ45.out; have := HJ95.out; have := HJ118.out; have := HK5.out; first | omega | exact Nat.le_refl _⟩, ⟨by repeat (first | (with_reducible first | exact HB.out | apply below_alloc | apply pw_below_drewN | apply below_drew1))⟩⟩
              ·
               replace c147 := Bool.eq_false_iff.mpr c147
               subst c147
               have H1 : (laws_FnPlacesOfPatterns.j10 kj118 l1) = some r := by rw [if_neg (show ¬ (false = true) by decide)] at H; exact H
               clear H
               have H := H1
               clear H1
               have H' := Aside0.mk H
               clear H
               go_wp2
               refine cutMeet hJ_ ?_ (by kernel_rfl)
               exact ⟨_, H', ⟨by have := HJ11.out; have := HJ45.out; have := HJ95.out; have := HJ118.out; first | omega | exact Nat.le_refl _⟩, ⟨by repeat (first | (with_reducible first | exact HB.out | apply below_alloc | apply pw_below_drewN | apply below_drew1))⟩⟩
            ·
             intro u_ wc hcut
             clear HC146
             obtain ⟨kq, HA, HJ145, HB⟩ := hcut
             dsimp only [cutFgt, mk0]
             cases kq with
             | zero => exact absurd HA.out (by simp [laws_FnPlacesOfPatterns.j10])
             | succ kj145 =>
              have H := HA.out
              clear HA
              simp only [laws_FnPlacesOfPatterns.j10] at H
              replace H := Option.bind_eq_some_iff.mp H
              obtain ⟨⟨t503, t504⟩, A1650, H⟩ := H
              replace H : ((impl_NumberWithRests.f kj145 t503 t504).bind fun bt509 => ((spec_NumberWithRests.f kj145 t503 t504).bind fun bt511 => ((spec_DrawRestsOfNumber.f kj145 l1).bind fun bt513 => ((impl_RestsOfNumber.f kj145 bt513.1 bt513.2).bind fun bt517 => ((spec_RestsOfNumber.f kj145 bt513.1 bt513.2).bind fun bt521 => (if (bt509.2 != bt511.2) = true then (laws_FnPlacesOfPatterns.j11 kj145 t503 t504 bt509.1 bt509.2 bt513.1 bt513.2 bt517.1 bt517.2 true) else (if bt509.1 = bt511.1 then (if (bt517.2 != bt521.2) = true then (laws_FnPlacesOfPatterns.j11 kj145 t503 t504 bt509.1 bt509.2 bt513.1 bt513.2 bt517.1 bt517.2 true) else ((laws_tSame.f kj145 bt517.1 bt521.1).bind fun t525 => (laws_FnPlacesOfPatterns.j11 kj145 t503 t504 bt509.1 bt509.2 bt513.1 bt513.2 bt517.1 bt517.2 (!t525)))) else (laws_FnPlacesOfPatterns.j11 kj145 t503 t504 bt509.1 bt509.2 bt513.1 bt513.2 bt517.1 bt517.2 true)))))))) = some r := H
              have A165 := Aside0.mk A1650
              clear A1650
              replace H := Option.bind_eq_some_iff.mp H
              obtain ⟨⟨t509, t510⟩, A1660, H⟩ := H
              replace H : ((spec_NumberWithRests.f kj145 t503 t504).bind fun bt511 => ((spec_DrawRestsOfNumber.f kj145 l1).bind fun bt513 => ((impl_RestsOfNumber.f kj145 bt513.1 bt513.2).bind fun bt517 => ((spec_RestsOfNumber.f kj145 bt513.1 bt513.2).bind fun bt521 => (if (t510 != bt511.2) = true then (laws_FnPlacesOfPatterns.j11 kj145 t503 t504 t509 t510 bt513.1 bt513.2 bt517.1 bt517.2 true) else (if t509 = bt511.1 then (if (bt517.2 != bt521.2) = true then (laws_FnPlacesOfPatterns.j11 kj145 t503 t504 t509 t510 bt513.1 bt513.2 bt517.1 bt517.2 true) else ((laws_tSame.f kj145 bt517.1 bt521.1).bind fun t525 => (laws_FnPlacesOfPatterns.j11 kj145 t503 t504 t509 t510 bt513.1 bt513.2 bt517.1 bt517.2 (!t525)))) else (laws_FnPlacesOfPatterns.j11 kj145 t503 t504 t509 t510 bt513.1 bt513.2 bt517.1 bt517.2 true))))))) = some r := H
              have A166 := Aside0.mk A1660
              clear A1660
              replace H := Option.bind_eq_some_iff.mp H
              obtain ⟨⟨t511, t512⟩, A1670, H⟩ := H
              replace H : ((spec_DrawRestsOfNumber.f kj145 l1).bind fun bt513 => ((impl_RestsOfNumber.f kj145 bt513.1 bt513.2).bind fun bt517 => ((spec_RestsOfNumber.f kj145 bt513.1 bt513.2).bind fun bt521 => (if (t510 != t512) = true then (laws_FnPlacesOfPatterns.j11 kj145 t503 t504 t509 t510 bt513.1 bt513.2 bt517.1 bt517.2 true) else (if t509 = t511 then (if (bt517.2 != bt521.2) = true then (laws_FnPlacesOfPatterns.j11 kj145 t503 t504 t509 t510 bt513.1 bt513.2 bt517.1 bt517.2 true) else ((laws_tSame.f kj145 bt517.1 bt521.1).bind fun t525 => (laws_FnPlacesOfPatterns.j11 kj145 t503 t504 t509 t510 bt513.1 bt513.2 bt517.1 bt517.2 (!t525)))) else (laws_FnPlacesOfPatterns.j11 kj145 t503 t504 t509 t510 bt513.1 bt513.2 bt517.1 bt517.2 true)))))) = some r := H
              have A167 := Aside0.mk A1670
              clear A1670
              replace H := Option.bind_eq_some_iff.mp H
              obtain ⟨⟨t513, t514⟩, A1680, H⟩ := H
              replace H : ((impl_RestsOfNumber.f kj145 t513 t514).bind fun bt517 => ((spec_RestsOfNumber.f kj145 t513 t514).bind fun bt521 => (if (t510 != t512) = true then (laws_FnPlacesOfPatterns.j11 kj145 t503 t504 t509 t510 t513 t514 bt517.1 bt517.2 true) else (if t509 = t511 then (if (bt517.2 != bt521.2) = true then (laws_FnPlacesOfPatterns.j11 kj145 t503 t504 t509 t510 t513 t514 bt517.1 bt517.2 true) else ((laws_tSame.f kj145 bt517.1 bt521.1).bind fun t525 => (laws_FnPlacesOfPatterns.j11 kj145 t503 t504 t509 t510 t513 t514 bt517.1 bt517.2 (!t525)))) else (laws_FnPlacesOfPatterns.j11 kj145 t503 t504 t509 t510 t513 t514 bt517.1 bt517.2 true))))) = some r := H
              have A168 := Aside0.mk A1680
              clear A1680
              replace H := Option.bind_eq_some_iff.mp H
              obtain ⟨⟨t517, t518⟩, A1690, H⟩ := H
              replace H : ((spec_RestsOfNumber.f kj145 t513 t514).bind fun bt521 => (if (t510 != t512) = true then (laws_FnPlacesOfPatterns.j11 kj145 t503 t504 t509 t510 t513 t514 t517 t518 true) else (if t509 = t511 then (if (t518 != bt521.2) = true then (laws_FnPlacesOfPatterns.j11 kj145 t503 t504 t509 t510 t513 t514 t517 t518 true) else ((laws_tSame.f kj145 t517 bt521.1).bind fun t525 => (laws_FnPlacesOfPatterns.j11 kj145 t503 t504 t509 t510 t513 t514 t517 t518 (!t525)))) else (laws_FnPlacesOfPatterns.j11 kj145 t503 t504 t509 t510 t513 t514 t517 t518 true)))) = some r := H
              have A169 := Aside0.mk A1690
              clear A1690
              replace H := Option.bind_eq_some_iff.mp H
              obtain ⟨⟨t521, t522⟩, A1700, H⟩ := H
              replace H : (if (t510 != t512) = true then (laws_FnPlacesOfPatterns.j11 kj145 t503 t504 t509 t510 t513 t514 t517 t518 true) else (if t509 = t511 then (if (t518 != t522) = true then (laws_FnPlacesOfPatterns.j11 kj145 t503 t504 t509 t510 t513 t514 t517 t518 true) else ((laws_tSame.f kj145 t517 t521).bind fun t525 => (laws_FnPlacesOfPatterns.j11 kj145 t503 t504 t509 t510 t513 t514 t517 t518 (!t525)))) else (laws_FnPlacesOfPatterns.j11 kj145 t503 t504 t509 t510 t513 t514 t517 t518 true))) = some r := H
              have A170 := Aside0.mk A1700
              clear A1700
              have HC171 := Aside0.mk H
              clear H
              go_upto_region 67 with (first | ((with_reducible refine gate_callee (f := 26) rfl ?_); refine goesL_ (some 366) rfl rfl Tryz.func26 (by kernel_rfl) rfl #[.slice A1 l1.length c1] rfl (by (try simp only [List.map_toArray, List.map_cons, List.map_nil]); first | done | rfl | (simp only [List.length_drop, List.length_take]; rfl)) ?_; (with_reducible refine (spec_DrawNumberWithRests.calls kj145 _ _ l1 t503 t504 _ ?side1 ?side2 A165.out).mono ?_); (case side1 => repeat (first | exact (Kd.C_below HR1.out HB.out) | (with_reducible refine Kd.C_alloc ?_ _) | (with_reducible refine Kd.C_drewN ?_ _) | (with_reducible refine Kd.C_drew ?_))); (case side2 => exact HC1.out); rintro e w172 ⟨v505, v507, rfl, ho0, ho1, hb⟩; refine ⟨_, rfl, ?_⟩; have n0_ := Aside0.mk (Kd.R_lower ho0 (below_size (by repeat (first | (with_reducible first | exact HB.out | apply below_alloc | apply pw_below_drewN | apply below_drew1))))); have n1_ := Aside0.mk (Kd.R_lower ho1 (below_size (by repeat (first | (with_reducible first | exact HB.out | apply below_alloc | apply pw_below_drewN | apply below_drew1))))); have n2_ := Aside0.mk (below_step (by repeat (first | (with_reducible first | exact HB.out | apply below_alloc | apply pw_below_drewN | apply below_drew1))) hb); clear HB; have HO506 := n0_; have HO508 := n1_; have HB := n2_; clear n0_ n1_ n2_; (try clear hb); (try clear ho0); (try clear ho1); obtain ⟨Ao173, co173, eo173⟩ := Kd.R_slice HO506.out; subst eo173; obtain ⟨Ao174, co174, eo174⟩ := Kd.R_slice HO508.out; subst eo174) | ((with_reducible refine gate_callee (f := 27) rfl ?_); refine goesL_ (some 372) rfl rfl Tryz.func27 (by kernel_rfl) rfl #[.slice Ao173 t503.length co173, .slice Ao174 t504.length co174] rfl (by (try simp only [List.map_toArray, List.map_cons, List.map_nil]); first | done | rfl | (simp only [List.length_drop, List.length_take]; rfl)) ?_; (with_reducible refine (impl_NumberWithRests.calls kj145 _ _ t503 _ _ t504 t509 t510 _ ?side1 ?side2 ?side3 ?side4 A166.out).mono ?_); (case side1 => repeat (first | exact (Kd.R_reads' HO506.out).2.2 | (with_reducible refine Kd.C_alloc ?_ _) | (with_reducible refine Kd.C_drewN ?_ _) | (with_reducible refine Kd.C_drew ?_))); (case side2 => exact (Kd.R_reads' HO506.out).2.1); (case side3 => repeat (first | exact (Kd.R_reads' HO508.out).2.2 | (with_reducible refine Kd.C_alloc ?_ _) | (with_reducible refine Kd.C_drewN ?_ _) | (with_reducible refine Kd.C_drew ?_))); (case side4 => exact (Kd.R_reads' HO508.out).2.1); rintro e w175 ⟨rfl, hb⟩; refine ⟨_, rfl, ?_⟩; have n0_ := Aside0.mk (Kd.R_below (by (with_reducible repeat (first | apply Kd.R_alloc | apply Kd.R_drewN | apply Kd.R_drew)); exact HO506.out) hb); have n1_ := Aside0.mk (Kd.R_below (by (with_reducible repeat (first | apply Kd.R_alloc | apply Kd.R_drewN | apply Kd.R_drew)); exact HO508.out) hb); have n2_ := Aside0.mk (below_step (by repeat (first | (with_reducible first | exact HB.out | apply below_alloc | apply pw_below_drewN | apply below_drew1))) hb); clear HO506; clear HO508; clear HB; have HO506 := n0_; have HO508 := n1_; have HB := n2_; clear n0_ n1_ n2_; (try clear hb)) | ((with_reducible refine gate_callee (f := 28) rfl ?_); refine goesL_ (some 378) rfl rfl Tryz.func28 (by kernel_rfl) rfl #[.slice Ao173 t503.length co173, .slice Ao174 t504.length co174] rfl (by (try simp only [List.map_toArray, List.map_cons, List.map_nil]); first | done | rfl | (simp only [List.length_drop, List.length_take]; rfl)) ?_; (with_reducible refine (spec_NumberWithRests.calls kj145 _ _ t503 _ _ t504 t511 t512 _ ?side1 ?side2 ?side3 ?side4 A167.out).mono ?_); (case side1 => repeat (first | exact (Kd.R_reads' HO506.out).2.2 | (with_reducible refine Kd.C_alloc ?_ _) | (with_reducible refine Kd.C_drewN ?_ _) | (with_reducible refine Kd.C_drew ?_))); (case side2 => exact (Kd.R_reads' HO506.out).2.1); (case side3 => repeat (first | exact (Kd.R_reads' HO508.out).2.2 | (with_reducible refine Kd.C_alloc ?_ _) | (with_reducible refine Kd.C_drewN ?_ _) | (with_reducible refine Kd.C_drew ?_))); (case side4 => exact (Kd.R_reads' HO508.out).2.1); rintro e w' ⟨rfl, ⟨nd, rfl⟩⟩; refine ⟨_, rfl, ?_⟩) | ((with_reducible refine gate_callee (f := 29) rfl ?_); refine goesL_ (some 383) rfl rfl Tryz.func29 (by kernel_rfl) rfl #[.slice A1 l1.length c1] rfl (by (try simp only [List.map_toArray, List.map_cons, List.map_nil]); first | done | rfl | (simp only [List.length_drop, List.length_take]; rfl)) ?_; (with_reducible refine (spec_DrawRestsOfNumber.calls kj145 _ _ l1 t513 t514 _ ?side1 ?side2 A168.out).mono ?_); (case side1 => repeat (first | exact (Kd.C_below HR1.out (by repeat (first | (with_reducible first | exact HB.out | apply below_alloc | apply pw_below_drewN | apply below_drew1)))) | (with_reducible refine Kd.C_alloc ?_ _) | (with_reducible refine Kd.C_drewN ?_ _) | (with_reducible refine Kd.C_drew ?_))); (case side2 => exact HC1.out); rintro e w176 ⟨v515, rfl, ho0, hb⟩; refine ⟨_, rfl, ?_⟩; have n0_ := Aside0.mk (Kd.R_elder' (by (with_reducible repeat (first | apply Kd.R_alloc | apply Kd.R_drewN | apply Kd.R_drew)); exact HO506.out) (Kd.R_base ho0) hb); have n1_ := Aside0.mk (Kd.R_elder' (by (with_reducible repeat (first | apply Kd.R_alloc | apply Kd.R_drewN | apply Kd.R_drew)); exact HO508.out) (Kd.R_base ho0) hb); have n2_ := Aside0.mk (Kd.R_lower (Kd.R_new' (Kd.R_new' ho0 (Kd.R_lt (by (with_reducible repeat (first | apply Kd.R_alloc | apply Kd.R_drewN | apply Kd.R_drew)); exact HO506.out))) (Kd.R_lt (by (with_reducible repeat (first | apply Kd.R_alloc | apply Kd.R_drewN | apply Kd.R_drew)); exact HO508.out))) (below_size (by repeat (first | (with_reducible first | exact HB.out | apply below_alloc | apply pw_below_drewN | apply below_drew1))))); have n3_ := Aside0.mk (below_step (by repeat (first | (with_reducible first | exact HB.out | apply below_alloc | apply pw_below_drewN | apply below_drew1))) hb); clear HO506; clear HO508; clear HB; have HO506 := n0_; have HO508 := n1_; have HO516 := n2_; have HB := n3_; clear n0_ n1_ n2_ n3_; (try clear hb); (try clear ho0); obtain ⟨Ao177, co177, eo177⟩ := Kd.R_slice HO516.out; subst eo177) | ((with_reducible refine gate_callee (f := 30) rfl ?_); refine goesL_ (some 389) rfl rfl Tryz.func30 (by kernel_rfl) rfl #[.slice Ao177 t513.length co177, .int .i64 t514] rfl (by (try simp only [List.map_toArray, List.map_cons, List.map_nil]); first | done | rfl | (simp only [List.length_drop, List.length_take]; rfl)) ?_; (with_reducible refine (impl_RestsOfNumber.calls kj145 _ _ t513 t514 t517 t518 _ ?side1 ?side2 A169.out).mono ?_); (case side1 => repeat (first | exact (Kd.R_reads' HO516.out).2.2 | (with_reducible refine Kd.C_alloc ?_ _) | (with_reducible refine Kd.C_drewN ?_ _) | (with_reducible refine Kd.C_drew ?_))); (case side2 => exact (Kd.R_reads' HO516.out).2.1); rintro e w178 ⟨v519, rfl, ho0, hb⟩; refine ⟨_, rfl, ?_⟩; have n0_ := Aside0.mk (Kd.R_elder' (by (with_reducible repeat (first | apply Kd.R_alloc | apply Kd.R_drewN | apply Kd.R_drew)); exact HO506.out) (Kd.R_base ho0) hb); have n1_ := Aside0.mk (Kd.R_elder' (by (with_reducible repeat (first | apply Kd.R_alloc | apply Kd.R_drewN | apply Kd.R_drew)); exact HO508.out) (Kd.R_base ho0) hb); have n2_ := Aside0.mk (Kd.R_elder' (by (with_reducible repeat (first | apply Kd.R_alloc | apply Kd.R_drewN | apply Kd.R_drew)); exact HO516.out) (Kd.R_base ho0) hb); have n3_ := Aside0.mk (Kd.R_lower (Kd.R_new' (Kd.R_new' (Kd.R_new' ho0 (Kd.R_lt (by (with_reducible repeat (first | apply Kd.R_alloc | apply Kd.R_drewN | apply Kd.R_drew)); exact HO506.out))) (Kd.R_lt (by (with_reducible repeat (first | apply Kd.R_alloc | apply Kd.R_drewN | apply Kd.R_drew)); exact HO508.out))) (Kd.R_lt (by (with_reducible repeat (first | apply Kd.R_alloc | apply Kd.R_drewN | apply Kd.R_drew)); exact HO516.out))) (below_size (by repeat (first | (with_reducible first | exact HB.out | apply below_alloc | apply pw_below_drewN | apply below_drew1))))); have n4_ := Aside0.mk (below_step (by repeat (first | (with_reducible first | exact HB.out | apply below_alloc | apply pw_below_drewN | apply below_drew1))) hb); clear HO506; clear HO508; clear HO516; clear HB; have HO506 := n0_; have HO508 := n1_; have HO516 := n2_; have HO520 := n3_; have HB := n4_; clear n0_ n1_ n2_ n3_ n4_; (try clear hb); (try clear ho0)) | ((with_reducible refine gate_callee (f := 31) rfl ?_); refine goesL_ (some 395) rfl rfl Tryz.func31 (by kernel_rfl) rfl #[.slice Ao177 t513.length co177, .int .i64 t514] rfl (by (try simp only [List.map_toArray, List.map_cons, List.map_nil]); first | done | rfl | (simp only [List.length_drop, List.length_take]; rfl)) ?_; (with_reducible refine (spec_RestsOfNumber.calls kj145 _ _ t513 t514 t521 t522 _ ?side1 ?side2 A170.out).mono ?_); (case side1 => repeat (first | exact (Kd.R_reads' HO516.out).2.2 | (with_reducible refine Kd.C_alloc ?_ _) | (with_reducible refine Kd.C_drewN ?_ _) | (with_reducible refine Kd.C_drew ?_))); (case side2 => exact (Kd.R_reads' HO516.out).2.1); rintro e w179 ⟨v523, rfl, ho0, hb⟩; refine ⟨_, rfl, ?_⟩; have n0_ := Aside0.mk (Kd.R_elder' (by (with_reducible repeat (first | apply Kd.R_alloc | apply Kd.R_drewN | apply Kd.R_drew)); exact HO506.out) (Kd.R_base ho0) hb); have n1_ := Aside0.mk (Kd.R_elder' (by (with_reducible repeat (first | apply Kd.R_alloc | apply Kd.R_drewN | apply Kd.R_drew)); exact HO508.out) (Kd.R_base ho0) hb); have n2_ := Aside0.mk (Kd.R_elder' (by (with_reducible repeat (first | apply Kd.R_alloc | apply Kd.R_drewN | apply Kd.R_drew)); exact HO516.out) (Kd.R_base ho0) hb); have n3_ := Aside0.mk (Kd.R_elder' (by (with_reducible repeat (first | apply Kd.R_alloc | apply Kd.R_drewN | apply Kd.R_drew)); exact HO520.out) (Kd.R_base ho0) hb); have n4_ := Aside0.mk (Kd.R_lower (Kd.R_new' (Kd.R_new' (Kd.R_new' (Kd.R_new' ho0 (Kd.R_lt (by (with_reducible repeat (first | apply Kd.R_alloc | apply Kd.R_drewN | apply Kd.R_drew)); exact HO506.out))) (Kd.R_lt (by (with_reducible repeat (first | apply Kd.R_alloc | apply Kd.R_drewN | apply Kd.R_drew)); exact HO508.out))) (Kd.R_lt (by (with_reducible repeat (first | apply Kd.R_alloc | apply Kd.R_drewN | apply Kd.R_drew)); exact HO516.out))) (Kd.R_lt (by (with_reducible repeat (first | apply Kd.R_alloc | apply Kd.R_drewN | apply Kd.R_drew)); exact HO520.out))) (below_size (by repeat (first | (with_reducible first | exact HB.out | apply below_alloc | apply pw_below_drewN | apply below_drew1))))); have n5_ := Aside0.mk (below_step (by repeat (first | (with_reducible first | exact HB.out | apply below_alloc | apply pw_below_drewN | apply below_drew1))) hb); clear HO506; clear HO508; clear HO516; clear HO520; clear HB; have HO506 := n0_; have HO508 := n1_; have HO516 := n2_; have HO520 := n3_; have HO524 := n4_; have HB := n5_; clear n0_ n1_ n2_ n3_ n4_ n5_; (try clear hb); (try clear ho0)))
              (try simp only [Act.put, List.setIfInBounds_toArray, List.set_cons_zero, List.set_cons_succ])
              refine cutF mk0 [] (fun u_ wc => ∃ (kq : Nat) (x416_170 : Bool), (u_ 416) = .bool x416_170 ∧ Aside0 (laws_FnPlacesOfPatterns.j11 kq t503 t504 t509 t510 t513 t514 t517 t518 x416_170 = some r) ∧ Aside0 (kq ≤ kj145) ∧ Aside0 (Kd.R (Kd.int .i64) 3 wc w.heap.size (fun k_ => some k_ ≠ ((.slice Ao174 t504.length co174) : Value).ownBlock ∧ some k_ ≠ ((.slice Ao177 t513.length co177) : Value).ownBlock ∧ some k_ ≠ (v519 : Value).ownBlock) (.slice Ao173 t503.length co173) t503) ∧ Aside0 (Kd.R (Kd.int .i64) 3 wc w.heap.size (fun k_ => some k_ ≠ ((.slice Ao173 t503.length co173) : Value).ownBlock ∧ some k_ ≠ ((.slice Ao177 t513.length co177) : Value).ownBlock ∧ some k_ ≠ (v519 : Value).ownBlock) (.slice Ao174 t504.length co174) t504) ∧ Aside0 (Kd.R (Kd.int .i64) 3 wc w.heap.size (fun k_ => some k_ ≠ ((.slice Ao173 t503.length co173) : Value).ownBlock ∧ some k_ ≠ ((.slice Ao174 t504.length co174) : Value).ownBlock ∧ some k_ ≠ (v519 : Value).ownBlock) (.slice Ao177 t513.length co177) t513) ∧ Aside0 (Kd.R (Kd.int .i64) 3 wc w.heap.size (fun k_ => some k_ ≠ ((.slice Ao173 t503.length co173) : Value).ownBlock ∧ some k_ ≠ ((.slice Ao174 t504.length co174) : Value).ownBlock ∧ some k_ ≠ ((.slice Ao177 t513.length co177) : Value).ownBlock) v519 t517) ∧ Aside0 (Below w.heap.size w wc)) ?_ ?_
              ·
               as_aux_lemma =>
                intro J_ K_ hJ_ hK_
                have H := HC171.out
                clear HC171
                by_cases c180 : (t510 != t512) = true
                ·
                 rw [if_pos c180] at H
                 exact (laws_FnPlacesOfPatterns.j11_no _ _ _ _ _ _ _ _ _ (H.trans (congrArg some HRT.out))).elim
                ·
                 rw [if_neg c180] at H
                 have c180b0 : (t510 != t512) = false := by simpa using c180
                 (try (have c180b1 : decide (t510 = t512) = true := by simpa using c180))
                 (try (have c180b2 : (t510 == t512) = true := by simpa using c180))
                 clear c180
                 (first | rw [c180b0] | (simp only [i64_w, i32_w]; rw [c180b0]) | skip)
                 by_cases c181 : t509 = t511
                 ·
                  rw [if_pos c181] at H
                  have c181b0 : (t509 == t511) = true := beq_iff_eq.mpr c181
                  have c181b1 : (t509 != t511) = false := bne_eq_false_iff_eq.mpr c181
                  clear c181
                  by_cases c182 : (t518 != t522) = true
                  ·
                   rw [if_pos c182] at H
                   exact (laws_FnPlacesOfPatterns.j11_no _ _ _ _ _ _ _ _ _ (H.trans (congrArg some HRT.out))).elim
                  ·
                   rw [if_neg c182] at H
                   have c182b0 : (t518 != t522) = false := by simpa using c182
                   (try (have c182b1 : decide (t518 = t522) = true := by simpa using c182))
                   (try (have c182b2 : (t518 == t522) = true := by simpa using c182))
                   clear c182
                   replace H := Option.bind_eq_some_iff.mp H
                   obtain ⟨t525, A1830, H⟩ := H
                   replace H : (laws_FnPlacesOfPatterns.j11 kj145 t503 t504 t509 t510 t513 t514 t517 t518 (!t525)) = some r := H
                   have A183 := Aside0.mk A1830
                   clear A1830
                   have H' := Aside0.mk H
                   clear H
                   obtain ⟨Ao184, co184, eo184⟩ := Kd.R_slice HO520.out
                   subst eo184
                   obtain ⟨Ao185, co185, eo185⟩ := Kd.R_slice HO524.out
                   subst eo185
                   go_wp2_with (first | (go_at_call 21; (with_reducible refine (laws_tSame.calls kj145 _ _ t517 _ _ t521 t525 _ ?side1 ?side2 ?side3 ?side4 A183.out).mono ?_); (case side1 => repeat (first | exact (Kd.R_reads' HO520.out).2.2 | (with_reducible refine Kd.C_alloc ?_ _) | (with_reducible refine Kd.C_drewN ?_ _) | (with_reducible refine Kd.C_drew ?_))); (case side2 => exact (Kd.R_reads' HO520.out).2.1); (case side3 => repeat (first | exact (Kd.R_reads' HO524.out).2.2 | (with_reducible refine Kd.C_alloc ?_ _) | (with_reducible refine Kd.C_drewN ?_ _) | (with_reducible refine Kd.C_drew ?_))); (case side4 => exact (Kd.R_reads' HO524.out).2.1); rintro e w' ⟨rfl, ⟨nd, rfl⟩⟩))
                   refine cutMeet hJ_ ?_ (by kernel_rfl)
                   exact ⟨_, (!t525), (by first | rfl | (simp; done) | (simp [*]; done)), H', ⟨by have := HJ11.out; have := HJ45.out; have := HJ95.out; have := HJ118.out; have := HJ145.out; first | omega | exact Nat.le_refl _⟩, ⟨by (with_reducible repeat (first | apply Kd.R_alloc | apply Kd.R_drewN | apply Kd.R_drew)); exact Kd.R_mono HO506.out (fun _ hk => ⟨hk.1.1.1, ⟨hk.1.1.2, hk.1.2⟩⟩)⟩, ⟨by (with_reducible repeat (first | apply Kd.R_alloc | apply Kd.R_drewN | apply Kd.R_drew)); exact Kd.R_mono HO508.out (fun _ hk => ⟨hk.1.1.1, ⟨hk.1.1.2, hk.1.2⟩⟩)⟩, ⟨by (with_reducible repeat (first | apply Kd.R_alloc | apply Kd.R_drewN | apply Kd.R_drew)); exact Kd.R_mono HO516.out (fun _ hk => ⟨hk.1.1.1.2, ⟨hk.1.1.2, hk.1.2⟩⟩)⟩, ⟨by (with_reducible repeat (first | apply Kd.R_alloc | apply Kd.R_drewN | apply Kd.R_drew)); exact Kd.R_mono HO520.out (fun _ hk => ⟨hk.1.1.1.2, ⟨hk.1.1.2, hk.1.2⟩⟩)⟩, ⟨by repeat (first | (with_reducible first | exact HB.out | apply below_alloc | apply pw_below_drewN | apply below_drew1))⟩⟩
                 ·
                  rw [if_neg c181] at H
                  exact (laws_FnPlacesOfPatterns.j11_no _ _ _ _ _ _ _ _ _ (H.trans (congrArg some HRT.out))).elim
              ·
               intro u_ wc hcut
               clear HC171
               obtain ⟨kq, x416_170, e_416, HA, HJ170, HO_53, HO_54, HO_59, HO_61, HB⟩ := hcut
               dsimp only [cutFgt, mk0]
               rw [e_416]
               cases kq with
               | zero => exact absurd HA.out (by simp [laws_FnPlacesOfPatterns.j11])
               | succ kj170 =>
                have H := HA.out
                clear HA
                simp only [laws_FnPlacesOfPatterns.j11] at H
                by_cases c186 : x416_170 = true
                ·
                 subst c186
                 have H1 : (some false) = some r := by rw [if_pos rfl] at H; exact H
                 clear H
                 have H := H1
                 clear H1
                 exact absurd (Option.some.inj (H.trans (congrArg some HRT.out))) Bool.false_ne_true
                ·
                 replace c186 := Bool.eq_false_iff.mpr c186
                 subst c186
                 have H1 : (if t510 = true then ((impl_RestsOfNumber.f kj170 t503 t509).bind fun bt526 => (if bt526.2 = true then ((laws_tSame.f kj170 bt526.1 t504).bind fun t530 => (if t530 = true then (laws_FnPlacesOfPatterns.j12 kj170 t513 t514 t517 t518) else (some false))) else (some false))) else (laws_FnPlacesOfPatterns.j12 kj170 t513 t514 t517 t518)) = some r := by rw [if_neg (show ¬ (false = true) by decide)] at H; exact H
                 clear H
                 have H := H1
                 clear H1
                 have HC187 := Aside0.mk H
                 clear H
                 go_upto_if 417 with (fail)
                 refine cutF mk0 [none, none, none, none, some 4, none, none, none, none, none, none, none, none, none, none, none, none, none, none, none, none, none, none, none, none, none, none, none, none, none, none, none, none, none, none, none, none, none, none, none, none, none, none, none, none, none, none, none, none, none, none, none, none, none, none, none, none, none, none, none, none, none, none, none, none, some 65, some 66] (fun u_ wc => ∃ (kq : Nat), Aside0 (laws_FnPlacesOfPatterns.j12 kq t513 t514 t517 t518 = some r) ∧ Aside0 (kq ≤ kj170) ∧ Aside0 (Kd.R (Kd.int .i64) 3 wc w.heap.size (fun k_ => some k_ ≠ (v519 : Value).ownBlock) (.slice Ao177 t513.length co177) t513) ∧ Aside0 (Kd.R (Kd.int .i64) 3 wc w.heap.size (fun k_ => some k_ ≠ ((.slice Ao177 t513.length co177) : Value).ownBlock) v519 t517) ∧ Aside0 (Below w.heap.size w wc)) ?_ ?_
                 ·
                  as_aux_lemma =>
                   intro J_ K_ hJ_ hK_
                   have H := HC187.out
                   clear HC187
                   by_cases c188 : t510 = true
                   ·
                    subst c188
                    have H1 : ((impl_RestsOfNumber.f kj170 t503 t509).bind fun bt526 => (if bt526.2 = true then ((laws_tSame.f kj170 bt526.1 t504).bind fun t530 => (if t530 = true then (laws_FnPlacesOfPatterns.j12 kj170 t513 t514 t517 t518) else (some false))) else (some false))) = some r := by rw [if_pos rfl] at H; exact H
                    clear H
                    have H := H1
                    clear H1
                    replace H := Option.bind_eq_some_iff.mp H
                    obtain ⟨⟨t526, t527⟩, A1890, H⟩ := H
                    replace H : (if t527 = true then ((laws_tSame.f kj170 t526 t504).bind fun t530 => (if t530 = true then (laws_FnPlacesOfPatterns.j12 kj170 t513 t514 t517 t518) else (some false))) else (some false)) = some r := H
                    have A189 := Aside0.mk A1890
                    clear A1890
                    by_cases c190 : t527 = true
                    ·
                     subst c190
                     have H1 : ((laws_tSame.f kj170 t526 t504).bind fun t530 => (if t530 = true then (laws_FnPlacesOfPatterns.j12 kj170 t513 t514 t517 t518) else (some false))) = some r := by rw [if_pos rfl] at H; exact H
                     clear H
                     have H := H1
                     clear H1
                     replace H := Option.bind_eq_some_iff.mp H
                     obtain ⟨t530, A1910, H⟩ := H
                     replace H : (if t530 = true then (laws_FnPlacesOfPatterns.j12 kj170 t513 t514 t517 t518) else (some false)) = some r := H
                     have A191 := Aside0.mk A1910
                     clear A1910
                     by_cases c192 : t530 = true
                     ·
                      subst c192
                      have H1 : (laws_FnPlacesOfPatterns.j12 kj170 t513 t514 t517 t518) = some r := by rw [if_pos rfl] at H; exact H
                      clear H
                      have H := H1
                      clear H1
                      have H' := Aside0.mk H
                      clear H
                      go_wp2_with (first | ((with_reducible refine gate_callee (f := 30) rfl ?_); refine goesL_ (some 421) rfl rfl Tryz.func30 (by kernel_rfl) rfl #[.slice Ao173 t503.length co173, .int .i64 t509] rfl (by (try simp only [List.map_toArray, List.map_cons, List.map_nil]); first | done | rfl | (simp only [List.length_drop, List.length_take]; rfl)) ?_; (with_reducible refine (impl_RestsOfNumber.calls kj170 _ _ t503 t509 t526 true _ ?side1 ?side2 A189.out).mono ?_); (case side1 => repeat (first | exact (Kd.R_reads' HO_53.out).2.2 | (with_reducible refine Kd.C_alloc ?_ _) | (with_reducible refine Kd.C_drewN ?_ _) | (with_reducible refine Kd.C_drew ?_))); (case side2 => exact (Kd.R_reads' HO_53.out).2.1); rintro e w193 ⟨v528, rfl, ho0, hb⟩; refine ⟨_, rfl, ?_⟩; have n0_ := Aside0.mk (Kd.R_elder' (by (with_reducible repeat (first | apply Kd.R_alloc | apply Kd.R_drewN | apply Kd.R_drew)); exact HO_53.out) (Kd.R_base ho0) hb); have n1_ := Aside0.mk (Kd.R_elder' (by (with_reducible repeat (first | apply Kd.R_alloc | apply Kd.R_drewN | apply Kd.R_drew)); exact HO_54.out) (Kd.R_base ho0) hb); have n2_ := Aside0.mk (Kd.R_elder' (by (with_reducible repeat (first | apply Kd.R_alloc | apply Kd.R_drewN | apply Kd.R_drew)); exact HO_59.out) (Kd.R_base ho0) hb); have n3_ := Aside0.mk (Kd.R_elder' (by (with_reducible repeat (first | apply Kd.R_alloc | apply Kd.R_drewN | apply Kd.R_drew)); exact HO_61.out) (Kd.R_base ho0) hb); have n4_ := Aside0.mk (Kd.R_lower (Kd.R_new' (Kd.R_new' (Kd.R_new' (Kd.R_new' ho0 (Kd.R_lt (by (with_reducible repeat (first | apply Kd.R_alloc | apply Kd.R_drewN | apply Kd.R_drew)); exact HO_53.out))) (Kd.R_lt (by (with_reducible repeat (first | apply Kd.R_alloc | apply Kd.R_drewN | apply Kd.R_drew)); exact HO_54.out))) (Kd.R_lt (by (with_reducible repeat (first | apply Kd.R_alloc | apply Kd.R_drewN | apply Kd.R_drew)); exact HO_59.out))) (Kd.R_lt (by (with_reducible repeat (first | apply Kd.R_alloc | apply Kd.R_drewN | apply Kd.R_drew)); exact HO_61.out))) (below_size (by repeat (first | (with_reducible first | exact HB.out | apply below_alloc | apply pw_below_drewN | apply below_drew1))))); have n5_ := Aside0.mk (below_step (by repeat (first | (with_reducible first | exact HB.out | apply below_alloc | apply pw_below_drewN | apply below_drew1))) hb); clear HO_53; clear HO_54; clear HO_59; clear HO_61; clear HB; have HO_53 := n0_; have HO_54 := n1_; have HO_59 := n2_; have HO_61 := n3_; have HO529 := n4_; have HB := n5_; clear n0_ n1_ n2_ n3_ n4_ n5_; (try clear hb); (try clear ho0); obtain ⟨Ao194, co194, eo194⟩ := Kd.R_slice HO529.out; subst eo194) | (go_at_call 21; (with_reducible refine (laws_tSame.calls kj170 _ _ t526 _ _ t504 true _ ?side1 ?side2 ?side3 ?side4 A191.out).mono ?_); (case side1 => repeat (first | exact (Kd.R_reads' HO529.out).2.2 | (with_reducible refine Kd.C_alloc ?_ _) | (with_reducible refine Kd.C_drewN ?_ _) | (with_reducible refine Kd.C_drew ?_))); (case side2 => exact (Kd.R_reads' HO529.out).2.1); (case side3 => repeat (first | exact (Kd.R_reads' HO_54.out).2.2 | (with_reducible refine Kd.C_alloc ?_ _) | (with_reducible refine Kd.C_drewN ?_ _) | (with_reducible refine Kd.C_drew ?_))); (case side4 => exact (Kd.R_reads' HO_54.out).2.1); rintro e w' ⟨rfl, ⟨nd, rfl⟩⟩))
                      refine cutMeet hJ_ ?_ (by kernel_rfl)
                      exact ⟨_, H', ⟨by have := HJ11.out; have := HJ45.out; have := HJ95.out; have := HJ118.out; have := HJ145.out; have := HJ170.out; first | omega | exact Nat.le_refl _⟩, ⟨by (with_reducible repeat (first | apply Kd.R_alloc | apply Kd.R_drewN | apply Kd.R_drew)); exact Kd.R_mono HO_59.out (fun _ hk => hk.1.2.2)⟩, ⟨by (with_reducible repeat (first | apply Kd.R_alloc | apply Kd.R_drewN | apply Kd.R_drew)); exact Kd.R_mono HO_61.out (fun _ hk => hk.1.2.2)⟩, ⟨by repeat (first | (with_reducible first | exact HB.out | apply below_alloc | apply pw_below_drewN | apply below_drew1))⟩⟩
                     ·
                      replace c192 := Bool.eq_false_iff.mpr c192
                      subst c192
                      have H1 : (some false) = some r := by rw [if_neg (show ¬ (false = true) by decide)] at H; exact H
                      clear H
                      have H := H1
                      clear H1
                      exact absurd (Option.some.inj (H.trans (congrArg some HRT.out))) Bool.false_ne_true
                    ·
                     replace c190 := Bool.eq_false_iff.mpr c190
                     subst c190
                     have H1 : (some false) = some r := by rw [if_neg (show ¬ (false = true) by decide)] at H; exact H
                     clear H
                     have H := H1
                     clear H1
                     exact absurd (Option.some.inj (H.trans (congrArg some HRT.out))) Bool.false_ne_true
                   ·
                    replace c188 := Bool.eq_false_iff.mpr c188
                    subst c188
                    have H1 : (laws_FnPlacesOfPatterns.j12 kj170 t513 t514 t517 t518) = some r := by rw [if_neg (show ¬ (false = true) by decide)] at H; exact H
                    clear H
                    have H := H1
                    clear H1
                    have H' := Aside0.mk H
                    clear H
                    go_wp2
                    refine cutMeet hJ_ ?_ (by kernel_rfl)
                    exact ⟨_, H', ⟨by have := HJ11.out; have := HJ45.out; have := HJ95.out; have := HJ118.out; have := HJ145.out; have := HJ170.out; first | omega | exact Nat.le_refl _⟩, ⟨by (with_reducible repeat (first | apply Kd.R_alloc | apply Kd.R_drewN | apply Kd.R_drew)); exact Kd.R_mono HO_59.out (fun _ hk => hk.2.2)⟩, ⟨by (with_reducible repeat (first | apply Kd.R_alloc | apply Kd.R_drewN | apply Kd.R_drew)); exact Kd.R_mono HO_61.out (fun _ hk => hk.2.2)⟩, ⟨by repeat (first | (with_reducible first | exact HB.out | apply below_alloc | apply pw_below_drewN | apply below_drew1))⟩⟩
                 ·
                  intro u_ wc hcut
                  clear HC187
                  obtain ⟨kq, HA, HJ186, HO_59, HO_61, HB⟩ := hcut
                  dsimp only [cutFgt, mk0]
                  cases kq with
                  | zero => exact absurd HA.out (by simp [laws_FnPlacesOfPatterns.j12])
                  | succ kj186 =>
                   have H := HA.out
                   clear HA
                   simp only [laws_FnPlacesOfPatterns.j12] at H
                   by_cases c198 : t518 = true
                   ·
                    subst c198
                    have H1 : ((impl_NumberWithRests.f kj186 t513 t517).bind fun bt531 => (laws_FnPlacesOfPatterns.l3 kj186 t514 bt531.1 bt531.2 1 t513 (t513.length : Int) 0)) = some r := by rw [if_pos rfl] at H; exact H
                    clear H
                    have H := H1
                    clear H1
                    replace H := Option.bind_eq_some_iff.mp H
                    obtain ⟨⟨t531, t532⟩, A1990, H⟩ := H
                    replace H : (laws_FnPlacesOfPatterns.l3 kj186 t514 t531 t532 1 t513 (t513.length : Int) 0) = some r := H
                    have A199 := Aside0.mk A1990
                    clear A1990
                    have H' := Aside0.mk H
                    clear H
                    obtain ⟨Ao200, co200, eo200⟩ := Kd.R_slice HO_61.out
                    subst eo200
                    go_wp2_with (first | ((with_reducible refine gate_callee (f := 27) rfl ?_); refine goesL_ (some 436) rfl rfl Tryz.func27 (by kernel_rfl) rfl #[.slice Ao177 t513.length co177, .slice Ao200 t517.length co200] rfl (by (try simp only [List.map_toArray, List.map_cons, List.map_nil]); first | done | rfl | (simp only [List.length_drop, List.length_take]; rfl)) ?_; (with_reducible refine (impl_NumberWithRests.calls kj186 _ _ t513 _ _ t517 t531 t532 _ ?side1 ?side2 ?side3 ?side4 A199.out).mono ?_); (case side1 => repeat (first | exact (Kd.R_reads' HO_59.out).2.2 | (with_reducible refine Kd.C_alloc ?_ _) | (with_reducible refine Kd.C_drewN ?_ _) | (with_reducible refine Kd.C_drew ?_))); (case side2 => exact (Kd.R_reads' HO_59.out).2.1); (case side3 => repeat (first | exact (Kd.R_reads' HO_61.out).2.2 | (with_reducible refine Kd.C_alloc ?_ _) | (with_reducible refine Kd.C_drewN ?_ _) | (with_reducible refine Kd.C_drew ?_))); (case side4 => exact (Kd.R_reads' HO_61.out).2.1); rintro e w201 ⟨rfl, hb⟩; refine ⟨_, rfl, ?_⟩; have n0_ := Aside0.mk (Kd.R_below (by (with_reducible repeat (first | apply Kd.R_alloc | apply Kd.R_drewN | apply Kd.R_drew)); exact HO_59.out) hb); have n1_ := Aside0.mk (Kd.R_below (by (with_reducible repeat (first | apply Kd.R_alloc | apply Kd.R_drewN | apply Kd.R_drew)); exact HO_61.out) hb); have n2_ := Aside0.mk (below_step (by repeat (first | (with_reducible first | exact HB.out | apply below_alloc | apply pw_below_drewN | apply below_drew1))) hb); clear HO_59; clear HO_61; clear HB; have HO_59 := n0_; have HO_61 := n1_; have HB := n2_; clear n0_ n1_ n2_; (try clear hb)))
                    go_loopg [69, 441] kj186 (fun kq v69 v441 w' => ∃ (x69_8 : Int) (x441_8 : Int), v69 = .int .i64 x69_8 ∧ v441 = .int .i64 x441_8 ∧ Aside0 (laws_FnPlacesOfPatterns.l3 kq t514 t531 t532 x69_8 t513 (t513.length : Int) x441_8 = some r) ∧ Aside0 (kq ≤ kj186) ∧ Aside0 (Kd.R (Kd.int .i64) 3 w' w.heap.size (fun _ => True) (.slice Ao177 t513.length co177) t513) ∧ Aside0 (Below w.heap.size w w'))
                    case atStart => exact ⟨(1), (0), (by first | rfl | (simp; done) | (simp [*]; done)), (by first | rfl | (simp; done) | (simp [*]; done)), H', ⟨Nat.le_refl _⟩, ⟨by (with_reducible repeat (first | apply Kd.R_alloc | apply Kd.R_drewN | apply Kd.R_drew)); exact Kd.R_mono HO_59.out (fun _ hk => trivial)⟩, ⟨by repeat (first | (with_reducible first | exact HB.out | apply below_alloc | apply pw_below_drewN | apply below_drew1))⟩⟩
                    case round =>
                     clear H'
                     obtain ⟨x69_8, x441_8, rfl, rfl, HA, HK8, HO_439, HB⟩ := hrel
                     cases gk with
                     | zero => exact absurd HA.out (by simp [laws_FnPlacesOfPatterns.l3])
                     | succ k8 =>
                      have H := HA.out
                      clear HA
                      simp only [laws_FnPlacesOfPatterns.l3] at H
                      by_cases c202 : x441_8 < (t513.length : Int)
                      ·
                       rw [if_pos c202] at H
                       have c202b0 : decide (x441_8 < (t513.length : Int)) = true := decide_eq_true c202
                       clear c202
                       by_cases c203 : 0 ≤ x441_8
                       ·
                        rw [if_pos c203] at H
                        have c203b0 : decide (0 ≤ x441_8) = true := decide_eq_true c203
                        clear c203
                        by_cases c204 : x441_8 < (t513.length : Int)
                        ·
                         rw [if_pos c204] at H
                         have c204b0 : decide (x441_8 < (t513.length : Int)) = true := decide_eq_true c204
                         clear c204
                         have H' := Aside0.mk H
                         clear H
                         have p533 : 0 ≤ (x441_8 : Int) := of_decide_eq_true (by first | (with_reducible assumption) | assumption)
                         have q533 : x441_8 < (t513.length : Int) := of_decide_eq_true (by first | (with_reducible assumption) | assumption)
                         obtain ⟨ad533, e533, hx533_0⟩ := Kd.at_int (Kd.R_reads' HO_439.out).2.2 x441_8 p533 q533
                         cases e533
                         replace p533 := eq_true p533
                         replace q533 := eq_true q533
                         go_wp2
                         go_roundg k8
                         case measure => have := HJ11.out; have := HJ45.out; have := HJ95.out; have := HJ118.out; have := HJ145.out; have := HJ170.out; have := HJ186.out; have := HK8.out; omega
                         case rel => exact ⟨(wrap64 (x69_8 * (rd t513 x441_8))), (wrap64 (x441_8 + 1)), (by first | rfl | (simp; done) | (simp [*]; done)), (by first | rfl | (simp; done) | (simp [*]; done)), H', ⟨by have := HJ11.out; have := HJ45.out; have := HJ95.out; have := HJ118.out; have := HJ145.out; have := HJ170.out; have := HJ186.out; have := HK8.out; omega⟩, ⟨by (with_reducible repeat (first | apply Kd.R_alloc | apply Kd.R_drewN | apply Kd.R_drew)); exact HO_439.out⟩, ⟨by repeat (first | (with_reducible first | exact HB.out | apply below_alloc | apply pw_below_drewN | apply below_drew1))⟩⟩
                        ·
                         rw [if_neg c204] at H
                         exact absurd H (by simp)
                       ·
                        rw [if_neg c203] at H
                        exact absurd H (by simp)
                      ·
                       rw [if_neg c202] at H
                       have c202b0 : decide (x441_8 < (t513.length : Int)) = false := decide_eq_false c202
                       clear c202
                       by_cases c205 : t532 = true
                       ·
                        subst c205
                        have H1 : (if x69_8 = 0 then (none) else (some (t531 == (Int.tmod t514 x69_8)))) = some r := by rw [if_pos rfl] at H; exact H
                        clear H
                        have H := H1
                        clear H1
                        by_cases c206 : x69_8 = 0
                        ·
                         rw [if_pos c206] at H
                         exact absurd H (by simp)
                        ·
                         rw [if_neg c206] at H
                         have c206b0 : (x69_8 == 0) = false := beq_eq_false_iff_ne.mpr c206
                         have c206b1 : (x69_8 != 0) = true := bne_iff_ne.mpr c206
                         first
                         | exact absurd (Option.some.inj (H.trans (congrArg some HRT.out))) Bool.false_ne_true
                         |
                          obtain rfl := Option.some.inj H
                          go_wp2
                          go_ret
                          exact ⟨by first | rfl | (simp [errW_none, errW_some] <;> rfl) | (simp [*, errW_none, errW_some] <;> rfl), by repeat (first | (with_reducible first | exact HB.out | apply below_alloc | apply pw_below_drewN | apply below_drew1))⟩
                       ·
                        replace c205 := Bool.eq_false_iff.mpr c205
                        subst c205
                        have H1 : (some false) = some r := by rw [if_neg (show ¬ (false = true) by decide)] at H; exact H
                        clear H
                        have H := H1
                        clear H1
                        exact absurd (Option.some.inj (H.trans (congrArg some HRT.out))) Bool.false_ne_true
                   ·
                    replace c198 := Bool.eq_false_iff.mpr c198
                    subst c198
                    have H1 : (some true) = some r := by rw [if_neg (show ¬ (false = true) by decide)] at H; exact H
                    clear H
                    have H := H1
                    clear H1
                    first
                    | exact absurd (Option.some.inj (H.trans (congrArg some HRT.out))) Bool.false_ne_true
                    |
                     obtain rfl := Option.some.inj H
                     go_wp2
                     go_ret
                     exact ⟨by first | rfl | (simp [errW_none, errW_some] <;> rfl) | (simp [*, errW_none, errW_some] <;> rfl), by repeat (first | (with_reducible first | exact HB.out | apply below_alloc | apply pw_below_drewN | apply below_drew1))⟩

/-- THE ONE PURE STATEMENT of laws_FnPlacesOfPatterns: yours. -/
def laws_FnPlacesOfPatterns.Pure : Prop := ∀ (l0 : List Int) (l1 : List Int), l0.length ≤ maxLen → l0.length * 1 ≤ 140737488351232 → (∀ x ∈ l0, (Lit.int .u8 x).wf = true) → l1.length ≤ maxLen → l1.length * 1 ≤ 140737488351232 → (∀ x ∈ l1, (Lit.int .u8 x).wf = true) → ∃ k, laws_FnPlacesOfPatterns.f k l0 l1 = some true
theorem laws_FnPlacesOfPatterns.walk (P : laws_FnPlacesOfPatterns.Pure) (a0 : Option Addr) (len0 cap0 : Nat) (z0 : List Int) (a1 : Option Addr) (len1 cap1 : Nat) (z1 : List Int) (w : World) (w0 : (a0 = none ∧ len0 = 0 ∧ cap0 = 0 ∧ z0 = []) ∨ ∃ x, a0 = some x ∧ len0 ≤ cap0 ∧ cap0 ≤ maxLen ∧ z0.length = cap0 ∧ (∀ i, i < z0.length → w.cell? (x.add i) = some (.int .u8 (z0.getD i 0))) ∧ ∀ n ∈ z0, (Lit.int .u8 n).wf = true) (y0 : len0 * 1 ≤ 140737488351232) (w1 : (a1 = none ∧ len1 = 0 ∧ cap1 = 0 ∧ z1 = []) ∨ ∃ x, a1 = some x ∧ len1 ≤ cap1 ∧ cap1 ≤ maxLen ∧ z1.length = cap1 ∧ (∀ i, i < z1.length → w.cell? (x.add i) = some (.int .u8 (z1.getD i 0))) ∧ ∀ n ∈ z1, (Lit.int .u8 n).wf = true) (y1 : len1 * 1 ≤ 140737488351232) :
  Calls Tryz.prog 3 #[.slice a0 len0 cap0, .slice a1 len1 cap1] w fun e w' => e = .returned (.bool true) ∧ Below w.heap.size w w' := by
 obtain ⟨l0, rfl, hr0, hm0, hw0, hc0⟩ := ReadsInt.ofRowC w0
 obtain ⟨l1, rfl, hr1, hm1, hw1, hc1⟩ := ReadsInt.ofRowC w1
 obtain ⟨k, h⟩ := P l0 l1 hm0 y0 hw0 hm1 y1 hw1
 refine (laws_FnPlacesOfPatterns.calls k _ _ l0 _ _ l1 true w (Kd.C_of_reads (d := (0 : Int)) (h1 := fun _ => rfl) hr0) hc0 (Kd.C_of_reads (d := (0 : Int)) (h1 := fun _ => rfl) hr1) hc1 h rfl).mono ?_
 rintro e w' ⟨rfl, hd⟩
 exact ⟨rfl, hd⟩

end Go.Proofs.YtlbhbncgfhikeaaGreat.PFnPlacesOfPatterns
