-- Written for this claim by a program of this session, out of the translation and given contracts.
import Derived.Test.YtghajkmoinfjnaaPFnPlacesOfPatternsOfAllx0
import Derived.Test.YtghajkmoinfjnaaPFnPlacesOfPatternsOfAllx2
import Derived.Test.YtghajkmoinfjnaaPFnPlacesOfPatternsOfAllx3
import Derived.Test.YtghajkmoinfjnaaPFnPlacesOfPatternsOfAllx4
import Derived.Test.YtghajkmoinfjnaaPFnPlacesOfPatternsOfAllx5
import Derived.Test.YtghajkmoinfjnaaPFnPlacesOfPatternsOfAllx6
import Derived.Test.YtghajkmoinfjnaaPFnPlacesOfPatternsOfAllx7
import Derived.Test.YtghajkmoinfjnaaPFnPlacesOfPatternsOfAllx8
import Derived.Test.YtghajkmoinfjnaaPFnPlacesOfPatternsOfAllx9
import Derived.Test.YtghajkmoinfjnaaPFnPlacesOfPatternsOfAllx10
import Derived.Test.YtghajkmoinfjnaaPFnPlacesOfPatternsOfAllx11
import Derived.Test.YtghajkmoinfjnaaPFnPlacesOfPatternsOfAllx12
namespace Go.Proofs.Ytghajkmoinfjnaa.PFnPlacesOfPatternsOfAll
open Go.RowKit Go.Proofs.YtghajkmoinfjnaaW.PrintWords Go.Proofs.YtghajkmoinfjnaaW.PrintLast Go.Proofs.YtghajkmoinfjnaaW.PrintMore
attribute [local go_sem] max2_int min2_int max_two min_two max_three min_three max_four min_four   -- for this text's walks alone
set_option linter.unusedVariables false
set_option linter.unusedSimpArgs false

/-! ### laws_FnPlacesOfPatternsOfAll: function 3 -/
mutual
def laws_FnPlacesOfPatternsOfAll.j0 : Nat → List Int → Int → List Int → Int → Int → List Int → Int → List Int → List Int → List Int → Int → Bool → Option (Bool)
 | 0, _, _, _, _, _, _, _, _, _, _, _, _ => none
 | k + 1, x0, x1, x2, x3, x4, x5, x6, x7, x8, x9, x10, x106 => if x106 = true then (some true) else ((impl_PlacesInPeriod.f k x0 x1).bind fun bt333 => ((spec_PlacesInPeriod.f k x0 x1).bind fun bt335 => ((impl_RulesOfPattern.f k x0 x1).bind fun bt337 => ((spec_RulesOfPattern.f k x0 x1).bind fun bt341 => ((impl_ShareOfPlaces.f k x0 x1).bind fun bt345 => ((spec_ShareOfPlaces.f k x0 x1).bind fun bt348 => (if (bt333.2 != bt335.2) = true then (laws_FnPlacesOfPatternsOfAll.j1 k x0 x1 x2 x3 x4 x5 x6 x7 x8 x9 x10 bt333.1 bt333.2 bt337.1 bt337.2 bt345.1 bt345.2.1 true) else (if bt333.1 = bt335.1 then (if (bt337.2 != bt341.2) = true then (laws_FnPlacesOfPatternsOfAll.j1 k x0 x1 x2 x3 x4 x5 x6 x7 x8 x9 x10 bt333.1 bt333.2 bt337.1 bt337.2 bt345.1 bt345.2.1 true) else ((laws_tRules.f k bt337.1 bt341.1).bind fun t351 => (if t351 = true then (if (bt345.2.2 != bt348.2.2) = true then (laws_FnPlacesOfPatternsOfAll.j1 k x0 x1 x2 x3 x4 x5 x6 x7 x8 x9 x10 bt333.1 bt333.2 bt337.1 bt337.2 bt345.1 bt345.2.1 true) else (if bt345.1 = bt348.1 then (if bt345.2.1 = bt348.2.1 then (if (bt345.2.2 != bt333.2) = true then (laws_FnPlacesOfPatternsOfAll.j1 k x0 x1 x2 x3 x4 x5 x6 x7 x8 x9 x10 bt333.1 bt333.2 bt337.1 bt337.2 bt345.1 bt345.2.1 true) else (if bt337.2 = true then (laws_FnPlacesOfPatternsOfAll.j1 k x0 x1 x2 x3 x4 x5 x6 x7 x8 x9 x10 bt333.1 bt333.2 bt337.1 bt337.2 bt345.1 bt345.2.1 (!bt333.2)) else (laws_FnPlacesOfPatternsOfAll.j1 k x0 x1 x2 x3 x4 x5 x6 x7 x8 x9 x10 bt333.1 bt333.2 bt337.1 bt337.2 bt345.1 bt345.2.1 false))) else (laws_FnPlacesOfPatternsOfAll.j1 k x0 x1 x2 x3 x4 x5 x6 x7 x8 x9 x10 bt333.1 bt333.2 bt337.1 bt337.2 bt345.1 bt345.2.1 true)) else (laws_FnPlacesOfPatternsOfAll.j1 k x0 x1 x2 x3 x4 x5 x6 x7 x8 x9 x10 bt333.1 bt333.2 bt337.1 bt337.2 bt345.1 bt345.2.1 true))) else (laws_FnPlacesOfPatternsOfAll.j1 k x0 x1 x2 x3 x4 x5 x6 x7 x8 x9 x10 bt333.1 bt333.2 bt337.1 bt337.2 bt345.1 bt345.2.1 true)))) else (laws_FnPlacesOfPatternsOfAll.j1 k x0 x1 x2 x3 x4 x5 x6 x7 x8 x9 x10 bt333.1 bt333.2 bt337.1 bt337.2 bt345.1 bt345.2.1 true)))))))))
def laws_FnPlacesOfPatternsOfAll.j1 : Nat → List Int → Int → List Int → Int → Int → List Int → Int → List Int → List Int → List Int → Int → Int → Bool → List (S53) → Bool → Int → Int → Bool → Option (Bool)
 | 0, _, _, _, _, _, _, _, _, _, _, _, _, _, _, _, _, _, _ => none
 | k + 1, x0, x1, x2, x3, x4, x5, x6, x7, x8, x9, x10, x23, x24, x27, x28, x31, x32, x190 => if x190 = true then (some false) else (if x24 = true then ((some (([2, 3, 5, 7, 11, 13] : List Int) : List Int)).bind fun y352 => (laws_FnPlacesOfPatternsOfAll.l0 k x0 x1 x2 x3 x4 x5 x6 x7 x8 x9 x10 x23 x27 x28 x31 x32 1 y352 (y352.length : Int) 0)) else (laws_FnPlacesOfPatternsOfAll.j6 k x2 x3 x4 x5 x6 x7 x8 x9 x10))
def laws_FnPlacesOfPatternsOfAll.j6 : Nat → List Int → Int → Int → List Int → Int → List Int → List Int → List Int → Int → Option (Bool)
 | 0, _, _, _, _, _, _, _, _, _ => none
 | k + 1, x2, x3, x4, x5, x6, x7, x8, x9, x10 => (impl_FirstPlaces.f k x2 x3 x4).bind fun bt364 => ((spec_FirstPlaces.f k x2 x3 x4).bind fun bt368 => ((impl_PrimePlaces.f k x5 x6).bind fun bt372 => ((spec_PrimePlaces.f k x5 x6).bind fun bt376 => (if (bt364.2 != bt368.2) = true then (laws_FnPlacesOfPatternsOfAll.j7 k x2 x3 x4 x5 x7 x8 x9 x10 bt364.1 bt364.2 bt372.1 bt372.2 true) else ((laws_tSame.f k bt364.1 bt368.1).bind fun t380 => (if t380 = true then (if (bt372.2 != bt376.2) = true then (laws_FnPlacesOfPatternsOfAll.j7 k x2 x3 x4 x5 x7 x8 x9 x10 bt364.1 bt364.2 bt372.1 bt372.2 true) else ((laws_tSame.f k bt372.1 bt376.1).bind fun t381 => (laws_FnPlacesOfPatternsOfAll.j7 k x2 x3 x4 x5 x7 x8 x9 x10 bt364.1 bt364.2 bt372.1 bt372.2 (!t381)))) else (laws_FnPlacesOfPatternsOfAll.j7 k x2 x3 x4 x5 x7 x8 x9 x10 bt364.1 bt364.2 bt372.1 bt372.2 true)))))))
def laws_FnPlacesOfPatternsOfAll.j7 : Nat → List Int → Int → Int → List Int → List Int → List Int → List Int → Int → List Int → Bool → List Int → Bool → Bool → Option (Bool)
 | 0, _, _, _, _, _, _, _, _, _, _, _, _, _ => none
 | k + 1, x2, x3, x4, x5, x7, x8, x9, x10, x46, x47, x50, x51, x315 => if x315 = true then (some false) else (if x47 = true then ((laws_tRises.f k x46 1 x4).bind fun t382 => (if t382 = true then ((impl_RulesOfPattern.f k x2 x3).bind fun bt383 => (if bt383.2 = true then ((impl_LeftUpTo.f k bt383.1 x4).bind fun bt387 => (if bt387.2 = true then ((laws_tSame.f k bt387.1 x46).bind fun t391 => (if t391 = true then (laws_FnPlacesOfPatternsOfAll.j8 k x5 x7 x8 x9 x10 x50 x51) else (some false))) else (some false))) else (laws_FnPlacesOfPatternsOfAll.j8 k x5 x7 x8 x9 x10 x50 x51))) else (some false))) else (laws_FnPlacesOfPatternsOfAll.j8 k x5 x7 x8 x9 x10 x50 x51))
def laws_FnPlacesOfPatternsOfAll.j8 : Nat → List Int → List Int → List Int → List Int → Int → List Int → Bool → Option (Bool)
 | 0, _, _, _, _, _, _, _ => none
 | k + 1, x5, x7, x8, x9, x10, x50, x51 => if x51 = true then (laws_FnPlacesOfPatternsOfAll.l1 k x5 x7 x8 x9 x10 x50 x50 (x50.length : Int) 0) else (laws_FnPlacesOfPatternsOfAll.j11 k x7 x8 x9 x10)
def laws_FnPlacesOfPatternsOfAll.j11 : Nat → List Int → List Int → List Int → Int → Option (Bool)
 | 0, _, _, _, _ => none
 | k + 1, x7, x8, x9, x10 => (impl_NumberWithRests.f k x7 x8).bind fun bt397 => ((spec_NumberWithRests.f k x7 x8).bind fun bt399 => ((impl_RestsOfNumber.f k x9 x10).bind fun bt401 => ((spec_RestsOfNumber.f k x9 x10).bind fun bt405 => (if (bt397.2 != bt399.2) = true then (laws_FnPlacesOfPatternsOfAll.j12 k x7 x8 x9 x10 bt397.1 bt397.2 bt401.1 bt401.2 true) else (if bt397.1 = bt399.1 then (if (bt401.2 != bt405.2) = true then (laws_FnPlacesOfPatternsOfAll.j12 k x7 x8 x9 x10 bt397.1 bt397.2 bt401.1 bt401.2 true) else ((laws_tSame.f k bt401.1 bt405.1).bind fun t409 => (laws_FnPlacesOfPatternsOfAll.j12 k x7 x8 x9 x10 bt397.1 bt397.2 bt401.1 bt401.2 (!t409)))) else (laws_FnPlacesOfPatternsOfAll.j12 k x7 x8 x9 x10 bt397.1 bt397.2 bt401.1 bt401.2 true))))))
def laws_FnPlacesOfPatternsOfAll.j12 : Nat → List Int → List Int → List Int → Int → Int → Bool → List Int → Bool → Bool → Option (Bool)
 | 0, _, _, _, _, _, _, _, _, _ => none
 | k + 1, x7, x8, x9, x10, x64, x65, x68, x69, x422 => if x422 = true then (some false) else (if x65 = true then ((impl_RestsOfNumber.f k x7 x64).bind fun bt410 => (if bt410.2 = true then ((laws_tSame.f k bt410.1 x8).bind fun t414 => (if t414 = true then (laws_FnPlacesOfPatternsOfAll.j13 k x9 x10 x68 x69) else (some false))) else (some false))) else (laws_FnPlacesOfPatternsOfAll.j13 k x9 x10 x68 x69))
def laws_FnPlacesOfPatternsOfAll.j13 : Nat → List Int → Int → List Int → Bool → Option (Bool)
 | 0, _, _, _, _ => none
 | k + 1, x9, x10, x68, x69 => if x69 = true then ((impl_NumberWithRests.f k x9 x68).bind fun bt415 => (laws_FnPlacesOfPatternsOfAll.l3 k x10 bt415.1 bt415.2 1 x9 (x9.length : Int) 0)) else (some true)
def laws_FnPlacesOfPatternsOfAll.l3 : Nat → Int → Int → Bool → Int → List Int → Int → Int → Option (Bool)
 | 0, _, _, _, _, _, _, _ => none
 | k + 1, x10, x74, x75, x76, x445, x446, x447 => if x447 < x446 then (if 0 ≤ x447 then (if x447 < (x445.length : Int) then (laws_FnPlacesOfPatternsOfAll.l3 k x10 x74 x75 (wrap64 (x76 * (rd x445 x447))) x445 x446 (wrap64 (x447 + 1))) else (none)) else (none)) else (if x75 = true then (if x76 = 0 then (none) else (some (x74 == (Int.tmod x10 x76)))) else (some false))
def laws_FnPlacesOfPatternsOfAll.l1 : Nat → List Int → List Int → List Int → List Int → Int → List Int → List Int → Int → Int → Option (Bool)
 | 0, _, _, _, _, _, _, _, _, _ => none
 | k + 1, x5, x7, x8, x9, x10, x50, x343, x344, x345 => if x345 < x344 then (if 0 ≤ x345 then (if x345 < (x343.length : Int) then (laws_FnPlacesOfPatternsOfAll.l2 k x5 x7 x8 x9 x10 x50 (rd x343 x345) x343 x344 x345 x5 (x5.length : Int) 0) else (none)) else (none)) else ((impl_IsOpen.f k x5).bind fun bt392 => (if bt392.2 = true then (if bt392.1 = true then (laws_FnPlacesOfPatternsOfAll.j11 k x7 x8 x9 x10) else (if (x50.length : Int) > (wrap64 (2 * (x5.length : Int))) then (some false) else (laws_FnPlacesOfPatternsOfAll.j11 k x7 x8 x9 x10))) else (laws_FnPlacesOfPatternsOfAll.j11 k x7 x8 x9 x10)))
def laws_FnPlacesOfPatternsOfAll.l2 : Nat → List Int → List Int → List Int → List Int → Int → List Int → Int → List Int → Int → Int → List Int → Int → Int → Option (Bool)
 | 0, _, _, _, _, _, _, _, _, _, _, _, _, _ => none
 | k + 1, x5, x7, x8, x9, x10, x50, x59, x343, x344, x345, x349, x350, x351 => if x351 < x350 then (if 0 ≤ x351 then (if x351 < (x349.length : Int) then ((laws_tPrime.f k (wrap64 (x59 + (rd x349 x351)))).bind fun t396 => (if t396 = true then (laws_FnPlacesOfPatternsOfAll.l2 k x5 x7 x8 x9 x10 x50 x59 x343 x344 x345 x349 x350 (wrap64 (x351 + 1))) else (some false))) else (none)) else (none)) else (laws_FnPlacesOfPatternsOfAll.l1 k x5 x7 x8 x9 x10 x50 x343 x344 (wrap64 (x345 + 1)))
def laws_FnPlacesOfPatternsOfAll.l0 : Nat → List Int → Int → List Int → Int → Int → List Int → Int → List Int → List Int → List Int → Int → Int → List (S53) → Bool → Int → Int → Int → List Int → Int → Int → Option (Bool)
 | 0, _, _, _, _, _, _, _, _, _, _, _, _, _, _, _, _, _, _, _, _ => none
 | k + 1, x0, x1, x2, x3, x4, x5, x6, x7, x8, x9, x10, x23, x27, x28, x31, x32, x37, x192, x193, x194 => if x194 < x193 then (if 0 ≤ x194 then (if x194 < (x192.length : Int) then (if x194 < x1 then (laws_FnPlacesOfPatternsOfAll.l0 k x0 x1 x2 x3 x4 x5 x6 x7 x8 x9 x10 x23 x27 x28 x31 x32 (wrap64 (x37 * (rd x192 x194))) x192 x193 (wrap64 (x194 + 1))) else (laws_FnPlacesOfPatternsOfAll.l0 k x0 x1 x2 x3 x4 x5 x6 x7 x8 x9 x10 x23 x27 x28 x31 x32 x37 x192 x193 (wrap64 (x194 + 1)))) else (none)) else (none)) else (if (wrap64 (x23 * x32)) = (wrap64 (x31 * x37)) then (if x23 < 0 then (laws_FnPlacesOfPatternsOfAll.j3 k x0 x1 x2 x3 x4 x5 x6 x7 x8 x9 x10 x23 x27 x28 x37 true) else (laws_FnPlacesOfPatternsOfAll.j3 k x0 x1 x2 x3 x4 x5 x6 x7 x8 x9 x10 x23 x27 x28 x37 (decide (x23 > x37)))) else (laws_FnPlacesOfPatternsOfAll.j3 k x0 x1 x2 x3 x4 x5 x6 x7 x8 x9 x10 x23 x27 x28 x37 true))
def laws_FnPlacesOfPatternsOfAll.j3 : Nat → List Int → Int → List Int → Int → Int → List Int → Int → List Int → List Int → List Int → Int → Int → List (S53) → Bool → Int → Bool → Option (Bool)
 | 0, _, _, _, _, _, _, _, _, _, _, _, _, _, _, _, _ => none
 | k + 1, x0, x1, x2, x3, x4, x5, x6, x7, x8, x9, x10, x23, x27, x28, x37, x221 => if x221 = true then (some false) else (if x37 ≤ 600 then ((impl_FirstPlaces.f k x0 x1 x37).bind fun bt356 => (if bt356.2 = true then (if (bt356.1.length : Int) = x23 then (laws_FnPlacesOfPatternsOfAll.j4 k x2 x3 x4 x5 x6 x7 x8 x9 x10 x23 x27 x28 x37) else (some false)) else (some false))) else (laws_FnPlacesOfPatternsOfAll.j4 k x2 x3 x4 x5 x6 x7 x8 x9 x10 x23 x27 x28 x37))
def laws_FnPlacesOfPatternsOfAll.j4 : Nat → List Int → Int → Int → List Int → Int → List Int → List Int → List Int → Int → Int → List (S53) → Bool → Int → Option (Bool)
 | 0, _, _, _, _, _, _, _, _, _, _, _, _, _ => none
 | k + 1, x2, x3, x4, x5, x6, x7, x8, x9, x10, x23, x27, x28, x37 => if x28 = true then (laws_FnPlacesOfPatternsOfAll.j5 k x2 x3 x4 x5 x6 x7 x8 x9 x10 x23 x27 x37 (decide ((x27.length : Int) > 0))) else (laws_FnPlacesOfPatternsOfAll.j5 k x2 x3 x4 x5 x6 x7 x8 x9 x10 x23 x27 x37 false)
def laws_FnPlacesOfPatternsOfAll.j5 : Nat → List Int → Int → Int → List Int → Int → List Int → List Int → List Int → Int → Int → List (S53) → Int → Bool → Option (Bool)
 | 0, _, _, _, _, _, _, _, _, _, _, _, _, _ => none
 | k + 1, x2, x3, x4, x5, x6, x7, x8, x9, x10, x23, x27, x37, x244 => if x244 = true then ((impl_LeftInPeriod.f k x27).bind fun bt360 => ((impl_PeriodOfRules.f k x27).bind fun bt362 => (if bt360.2 = true then (if bt362.2 = true then (if (wrap64 (bt360.1 * x37)) = (wrap64 (x23 * bt362.1)) then (laws_FnPlacesOfPatternsOfAll.j6 k x2 x3 x4 x5 x6 x7 x8 x9 x10) else (some false)) else (some false)) else (some false)))) else (laws_FnPlacesOfPatternsOfAll.j6 k x2 x3 x4 x5 x6 x7 x8 x9 x10)
end
def laws_FnPlacesOfPatternsOfAll.f (k : Nat) (l0 : List Int) (a1 : Int) (l2 : List Int) (a3 : Int) (a4 : Int) (l5 : List Int) (a6 : Int) (l7 : List Int) (l8 : List Int) (l9 : List Int) (a10 : Int) : Option (Bool) := if (l0.length : Int) > 10000 then (laws_FnPlacesOfPatternsOfAll.j0 k l0 a1 l2 a3 a4 l5 a6 l7 l8 l9 a10 true) else (if (l2.length : Int) > 10000 then (laws_FnPlacesOfPatternsOfAll.j0 k l0 a1 l2 a3 a4 l5 a6 l7 l8 l9 a10 true) else (if (l5.length : Int) > 10000 then (laws_FnPlacesOfPatternsOfAll.j0 k l0 a1 l2 a3 a4 l5 a6 l7 l8 l9 a10 true) else (if (l7.length : Int) > 10000 then (laws_FnPlacesOfPatternsOfAll.j0 k l0 a1 l2 a3 a4 l5 a6 l7 l8 l9 a10 true) else (if (l8.length : Int) > 10000 then (laws_FnPlacesOfPatternsOfAll.j0 k l0 a1 l2 a3 a4 l5 a6 l7 l8 l9 a10 true) else (laws_FnPlacesOfPatternsOfAll.j0 k l0 a1 l2 a3 a4 l5 a6 l7 l8 l9 a10 (decide ((l9.length : Int) > 10000)))))))
theorem laws_FnPlacesOfPatternsOfAll.mono_l : ∀ k, (∀ y0 y1 y2 y3 y4 y5 y6 y7 y8 y9 y10 y11, LeO (laws_FnPlacesOfPatternsOfAll.j0 k y0 y1 y2 y3 y4 y5 y6 y7 y8 y9 y10 y11) (laws_FnPlacesOfPatternsOfAll.j0 (k + 1) y0 y1 y2 y3 y4 y5 y6 y7 y8 y9 y10 y11)) ∧ (∀ y0 y1 y2 y3 y4 y5 y6 y7 y8 y9 y10 y11 y12 y13 y14 y15 y16 y17, LeO (laws_FnPlacesOfPatternsOfAll.j1 k y0 y1 y2 y3 y4 y5 y6 y7 y8 y9 y10 y11 y12 y13 y14 y15 y16 y17) (laws_FnPlacesOfPatternsOfAll.j1 (k + 1) y0 y1 y2 y3 y4 y5 y6 y7 y8 y9 y10 y11 y12 y13 y14 y15 y16 y17)) ∧ (∀ y0 y1 y2 y3 y4 y5 y6 y7 y8, LeO (laws_FnPlacesOfPatternsOfAll.j6 k y0 y1 y2 y3 y4 y5 y6 y7 y8) (laws_FnPlacesOfPatternsOfAll.j6 (k + 1) y0 y1 y2 y3 y4 y5 y6 y7 y8)) ∧ (∀ y0 y1 y2 y3 y4 y5 y6 y7 y8 y9 y10 y11 y12, LeO (laws_FnPlacesOfPatternsOfAll.j7 k y0 y1 y2 y3 y4 y5 y6 y7 y8 y9 y10 y11 y12) (laws_FnPlacesOfPatternsOfAll.j7 (k + 1) y0 y1 y2 y3 y4 y5 y6 y7 y8 y9 y10 y11 y12)) ∧ (∀ y0 y1 y2 y3 y4 y5 y6, LeO (laws_FnPlacesOfPatternsOfAll.j8 k y0 y1 y2 y3 y4 y5 y6) (laws_FnPlacesOfPatternsOfAll.j8 (k + 1) y0 y1 y2 y3 y4 y5 y6)) ∧ (∀ y0 y1 y2 y3, LeO (laws_FnPlacesOfPatternsOfAll.j11 k y0 y1 y2 y3) (laws_FnPlacesOfPatternsOfAll.j11 (k + 1) y0 y1 y2 y3)) ∧ (∀ y0 y1 y2 y3 y4 y5 y6 y7 y8, LeO (laws_FnPlacesOfPatternsOfAll.j12 k y0 y1 y2 y3 y4 y5 y6 y7 y8) (laws_FnPlacesOfPatternsOfAll.j12 (k + 1) y0 y1 y2 y3 y4 y5 y6 y7 y8)) ∧ (∀ y0 y1 y2 y3, LeO (laws_FnPlacesOfPatternsOfAll.j13 k y0 y1 y2 y3) (laws_FnPlacesOfPatternsOfAll.j13 (k + 1) y0 y1 y2 y3)) ∧ (∀ y0 y1 y2 y3 y4 y5 y6, LeO (laws_FnPlacesOfPatternsOfAll.l3 k y0 y1 y2 y3 y4 y5 y6) (laws_FnPlacesOfPatternsOfAll.l3 (k + 1) y0 y1 y2 y3 y4 y5 y6)) ∧ (∀ y0 y1 y2 y3 y4 y5 y6 y7 y8, LeO (laws_FnPlacesOfPatternsOfAll.l1 k y0 y1 y2 y3 y4 y5 y6 y7 y8) (laws_FnPlacesOfPatternsOfAll.l1 (k + 1) y0 y1 y2 y3 y4 y5 y6 y7 y8)) ∧ (∀ y0 y1 y2 y3 y4 y5 y6 y7 y8 y9 y10 y11 y12, LeO (laws_FnPlacesOfPatternsOfAll.l2 k y0 y1 y2 y3 y4 y5 y6 y7 y8 y9 y10 y11 y12) (laws_FnPlacesOfPatternsOfAll.l2 (k + 1) y0 y1 y2 y3 y4 y5 y6 y7 y8 y9 y10 y11 y12)) ∧ (∀ y0 y1 y2 y3 y4 y5 y6 y7 y8 y9 y10 y11 y12 y13 y14 y15 y16 y17 y18 y19, LeO (laws_FnPlacesOfPatternsOfAll.l0 k y0 y1 y2 y3 y4 y5 y6 y7 y8 y9 y10 y11 y12 y13 y14 y15 y16 y17 y18 y19) (laws_FnPlacesOfPatternsOfAll.l0 (k + 1) y0 y1 y2 y3 y4 y5 y6 y7 y8 y9 y10 y11 y12 y13 y14 y15 y16 y17 y18 y19)) ∧ (∀ y0 y1 y2 y3 y4 y5 y6 y7 y8 y9 y10 y11 y12 y13 y14 y15, LeO (laws_FnPlacesOfPatternsOfAll.j3 k y0 y1 y2 y3 y4 y5 y6 y7 y8 y9 y10 y11 y12 y13 y14 y15) (laws_FnPlacesOfPatternsOfAll.j3 (k + 1) y0 y1 y2 y3 y4 y5 y6 y7 y8 y9 y10 y11 y12 y13 y14 y15)) ∧ (∀ y0 y1 y2 y3 y4 y5 y6 y7 y8 y9 y10 y11 y12, LeO (laws_FnPlacesOfPatternsOfAll.j4 k y0 y1 y2 y3 y4 y5 y6 y7 y8 y9 y10 y11 y12) (laws_FnPlacesOfPatternsOfAll.j4 (k + 1) y0 y1 y2 y3 y4 y5 y6 y7 y8 y9 y10 y11 y12)) ∧ (∀ y0 y1 y2 y3 y4 y5 y6 y7 y8 y9 y10 y11 y12, LeO (laws_FnPlacesOfPatternsOfAll.j5 k y0 y1 y2 y3 y4 y5 y6 y7 y8 y9 y10 y11 y12) (laws_FnPlacesOfPatternsOfAll.j5 (k + 1) y0 y1 y2 y3 y4 y5 y6 y7 y8 y9 y10 y11 y12))
 | 0 => ⟨fun _ _ _ _ _ _ _ _ _ _ _ _ r h => by simp [laws_FnPlacesOfPatternsOfAll.j0] at h, fun _ _ _ _ _ _ _ _ _ _ _ _ _ _ _ _ _ _ r h => by simp [laws_FnPlacesOfPatternsOfAll.j1] at h, fun _ _ _ _ _ _ _ _ _ r h => by simp [laws_FnPlacesOfPatternsOfAll.j6] at h, fun _ _ _ _ _ _ _ _ _ _ _ _ _ r h => by simp [laws_FnPlacesOfPatternsOfAll.j7] at h, fun _ _ _ _ _ _ _ r h => by simp [laws_FnPlacesOfPatternsOfAll.j8] at h, fun _ _ _ _ r h => by simp [laws_FnPlacesOfPatternsOfAll.j11] at h, fun _ _ _ _ _ _ _ _ _ r h => by simp [laws_FnPlacesOfPatternsOfAll.j12] at h, fun _ _ _ _ r h => by simp [laws_FnPlacesOfPatternsOfAll.j13] at h, fun _ _ _ _ _ _ _ r h => by simp [laws_FnPlacesOfPatternsOfAll.l3] at h, fun _ _ _ _ _ _ _ _ _ r h => by simp [laws_FnPlacesOfPatternsOfAll.l1] at h, fun _ _ _ _ _ _ _ _ _ _ _ _ _ r h => by simp [laws_FnPlacesOfPatternsOfAll.l2] at h, fun _ _ _ _ _ _ _ _ _ _ _ _ _ _ _ _ _ _ _ _ r h => by simp [laws_FnPlacesOfPatternsOfAll.l0] at h, fun _ _ _ _ _ _ _ _ _ _ _ _ _ _ _ _ r h => by simp [laws_FnPlacesOfPatternsOfAll.j3] at h, fun _ _ _ _ _ _ _ _ _ _ _ _ _ r h => by simp [laws_FnPlacesOfPatternsOfAll.j4] at h, fun _ _ _ _ _ _ _ _ _ _ _ _ _ r h => by simp [laws_FnPlacesOfPatternsOfAll.j5] at h⟩
 | k + 1 => by
  obtain ⟨ih0, ih1, ih2, ih3, ih4, ih5, ih6, ih7, ih8, ih9, ih10, ih11, ih12, ih13, ih14⟩ := laws_FnPlacesOfPatternsOfAll.mono_l k
  refine ⟨?_, ?_, ?_, ?_, ?_, ?_, ?_, ?_, ?_, ?_, ?_, ?_, ?_, ?_, ?_⟩
  ·
   intro y0 y1 y2 y3 y4 y5 y6 y7 y8 y9 y10 y11
   unfold laws_FnPlacesOfPatternsOfAll.j0
   repeat' first
   | (with_reducible first | exact ih0 _ _ _ _ _ _ _ _ _ _ _ _ | exact ih1 _ _ _ _ _ _ _ _ _ _ _ _ _ _ _ _ _ _ | exact ih2 _ _ _ _ _ _ _ _ _ | exact ih3 _ _ _ _ _ _ _ _ _ _ _ _ _ | exact ih4 _ _ _ _ _ _ _ | exact ih5 _ _ _ _ | exact ih6 _ _ _ _ _ _ _ _ _ | exact ih7 _ _ _ _ | exact ih8 _ _ _ _ _ _ _ | exact ih9 _ _ _ _ _ _ _ _ _ | exact ih10 _ _ _ _ _ _ _ _ _ _ _ _ _ | exact ih11 _ _ _ _ _ _ _ _ _ _ _ _ _ _ _ _ _ _ _ _ | exact ih12 _ _ _ _ _ _ _ _ _ _ _ _ _ _ _ _ | exact ih13 _ _ _ _ _ _ _ _ _ _ _ _ _ | exact ih14 _ _ _ _ _ _ _ _ _ _ _ _ _ | exact impl_FirstPlaces.mono _ _ _ _ | exact impl_IsOpen.mono _ _ | exact impl_LeftInPeriod.mono _ _ | exact impl_LeftUpTo.mono _ _ _ | exact impl_NumberWithRests.mono _ _ _ | exact impl_PeriodOfRules.mono _ _ | exact impl_PlacesInPeriod.mono _ _ _ | exact impl_PrimePlaces.mono _ _ _ | exact impl_RestsOfNumber.mono _ _ _ | exact impl_RulesOfPattern.mono _ _ _ | exact impl_ShareOfPlaces.mono _ _ _ | exact laws_tPrime.mono _ _ | exact laws_tRises.mono _ _ _ _ | exact laws_tRules.mono _ _ _ | exact laws_tSame.mono _ _ _ | exact spec_FirstPlaces.mono _ _ _ _ | exact spec_NumberWithRests.mono _ _ _ | exact spec_PlacesInPeriod.mono _ _ _ | exact spec_PrimePlaces.mono _ _ _ | exact spec_RestsOfNumber.mono _ _ _ | exact spec_RulesOfPattern.mono _ _ _ | exact spec_ShareOfPlaces.mono _ _ _ | exact LeO.refl _ | exact LeO.none _ | refine LeO.ite ?_ ?_ | refine LeO.bind ?_ (fun _ => ?_))
  ·
   intro y0 y1 y2 y3 y4 y5 y6 y7 y8 y9 y10 y11 y12 y13 y14 y15 y16 y17
   unfold laws_FnPlacesOfPatternsOfAll.j1
   repeat' first
   | (with_reducible first | exact ih0 _ _ _ _ _ _ _ _ _ _ _ _ | exact ih1 _ _ _ _ _ _ _ _ _ _ _ _ _ _ _ _ _ _ | exact ih2 _ _ _ _ _ _ _ _ _ | exact ih3 _ _ _ _ _ _ _ _ _ _ _ _ _ | exact ih4 _ _ _ _ _ _ _ | exact ih5 _ _ _ _ | exact ih6 _ _ _ _ _ _ _ _ _ | exact ih7 _ _ _ _ | exact ih8 _ _ _ _ _ _ _ | exact ih9 _ _ _ _ _ _ _ _ _ | exact ih10 _ _ _ _ _ _ _ _ _ _ _ _ _ | exact ih11 _ _ _ _ _ _ _ _ _ _ _ _ _ _ _ _ _ _ _ _ | exact ih12 _ _ _ _ _ _ _ _ _ _ _ _ _ _ _ _ | exact ih13 _ _ _ _ _ _ _ _ _ _ _ _ _ | exact ih14 _ _ _ _ _ _ _ _ _ _ _ _ _ | exact impl_FirstPlaces.mono _ _ _ _ | exact impl_IsOpen.mono _ _ | exact impl_LeftInPeriod.mono _ _ | exact impl_LeftUpTo.mono _ _ _ | exact impl_NumberWithRests.mono _ _ _ | exact impl_PeriodOfRules.mono _ _ | exact impl_PlacesInPeriod.mono _ _ _ | exact impl_PrimePlaces.mono _ _ _ | exact impl_RestsOfNumber.mono _ _ _ | exact impl_RulesOfPattern.mono _ _ _ | exact impl_ShareOfPlaces.mono _ _ _ | exact laws_tPrime.mono _ _ | exact laws_tRises.mono _ _ _ _ | exact laws_tRules.mono _ _ _ | exact laws_tSame.mono _ _ _ | exact spec_FirstPlaces.mono _ _ _ _ | exact spec_NumberWithRests.mono _ _ _ | exact spec_PlacesInPeriod.mono _ _ _ | exact spec_PrimePlaces.mono _ _ _ | exact spec_RestsOfNumber.mono _ _ _ | exact spec_RulesOfPattern.mono _ _ _ | exact spec_ShareOfPlaces.mono _ _ _ | exact LeO.refl _ | exact LeO.none _ | refine LeO.ite ?_ ?_ | refine LeO.bind ?_ (fun _ => ?_))
  ·
   intro y0 y1 y2 y3 y4 y5 y6 y7 y8
   unfold laws_FnPlacesOfPatternsOfAll.j6
   repeat' first
   | (with_reducible first | exact ih0 _ _ _ _ _ _ _ _ _ _ _ _ | exact ih1 _ _ _ _ _ _ _ _ _ _ _ _ _ _ _ _ _ _ | exact ih2 _ _ _ _ _ _ _ _ _ | exact ih3 _ _ _ _ _ _ _ _ _ _ _ _ _ | exact ih4 _ _ _ _ _ _ _ | exact ih5 _ _ _ _ | exact ih6 _ _ _ _ _ _ _ _ _ | exact ih7 _ _ _ _ | exact ih8 _ _ _ _ _ _ _ | exact ih9 _ _ _ _ _ _ _ _ _ | exact ih10 _ _ _ _ _ _ _ _ _ _ _ _ _ | exact ih11 _ _ _ _ _ _ _ _ _ _ _ _ _ _ _ _ _ _ _ _ | exact ih12 _ _ _ _ _ _ _ _ _ _ _ _ _ _ _ _ | exact ih13 _ _ _ _ _ _ _ _ _ _ _ _ _ | exact ih14 _ _ _ _ _ _ _ _ _ _ _ _ _ | exact impl_FirstPlaces.mono _ _ _ _ | exact impl_IsOpen.mono _ _ | exact impl_LeftInPeriod.mono _ _ | exact impl_LeftUpTo.mono _ _ _ | exact impl_NumberWithRests.mono _ _ _ | exact impl_PeriodOfRules.mono _ _ | exact impl_PlacesInPeriod.mono _ _ _ | exact impl_PrimePlaces.mono _ _ _ | exact impl_RestsOfNumber.mono _ _ _ | exact impl_RulesOfPattern.mono _ _ _ | exact impl_ShareOfPlaces.mono _ _ _ | exact laws_tPrime.mono _ _ | exact laws_tRises.mono _ _ _ _ | exact laws_tRules.mono _ _ _ | exact laws_tSame.mono _ _ _ | exact spec_FirstPlaces.mono _ _ _ _ | exact spec_NumberWithRests.mono _ _ _ | exact spec_PlacesInPeriod.mono _ _ _ | exact spec_PrimePlaces.mono _ _ _ | exact spec_RestsOfNumber.mono _ _ _ | exact spec_RulesOfPattern.mono _ _ _ | exact spec_ShareOfPlaces.mono _ _ _ | exact LeO.refl _ | exact LeO.none _ | refine LeO.ite ?_ ?_ | refine LeO.bind ?_ (fun _ => ?_))
  ·
   intro y0 y1 y2 y3 y4 y5 y6 y7 y8 y9 y10 y11 y12
   unfold laws_FnPlacesOfPatternsOfAll.j7
   repeat' first
   | (with_reducible first | exact ih0 _ _ _ _ _ _ _ _ _ _ _ _ | exact ih1 _ _ _ _ _ _ _ _ _ _ _ _ _ _ _ _ _ _ | exact ih2 _ _ _ _ _ _ _ _ _ | exact ih3 _ _ _ _ _ _ _ _ _ _ _ _ _ | exact ih4 _ _ _ _ _ _ _ | exact ih5 _ _ _ _ | exact ih6 _ _ _ _ _ _ _ _ _ | exact ih7 _ _ _ _ | exact ih8 _ _ _ _ _ _ _ | exact ih9 _ _ _ _ _ _ _ _ _ | exact ih10 _ _ _ _ _ _ _ _ _ _ _ _ _ | exact ih11 _ _ _ _ _ _ _ _ _ _ _ _ _ _ _ _ _ _ _ _ | exact ih12 _ _ _ _ _ _ _ _ _ _ _ _ _ _ _ _ | exact ih13 _ _ _ _ _ _ _ _ _ _ _ _ _ | exact ih14 _ _ _ _ _ _ _ _ _ _ _ _ _ | exact impl_FirstPlaces.mono _ _ _ _ | exact impl_IsOpen.mono _ _ | exact impl_LeftInPeriod.mono _ _ | exact impl_LeftUpTo.mono _ _ _ | exact impl_NumberWithRests.mono _ _ _ | exact impl_PeriodOfRules.mono _ _ | exact impl_PlacesInPeriod.mono _ _ _ | exact impl_PrimePlaces.mono _ _ _ | exact impl_RestsOfNumber.mono _ _ _ | exact impl_RulesOfPattern.mono _ _ _ | exact impl_ShareOfPlaces.mono _ _ _ | exact laws_tPrime.mono _ _ | exact laws_tRises.mono _ _ _ _ | exact laws_tRules.mono _ _ _ | exact laws_tSame.mono _ _ _ | exact spec_FirstPlaces.mono _ _ _ _ | exact spec_NumberWithRests.mono _ _ _ | exact spec_PlacesInPeriod.mono _ _ _ | exact spec_PrimePlaces.mono _ _ _ | exact spec_RestsOfNumber.mono _ _ _ | exact spec_RulesOfPattern.mono _ _ _ | exact spec_ShareOfPlaces.mono _ _ _ | exact LeO.refl _ | exact LeO.none _ | refine LeO.ite ?_ ?_ | refine LeO.bind ?_ (fun _ => ?_))
  ·
   intro y0 y1 y2 y3 y4 y5 y6
   unfold laws_FnPlacesOfPatternsOfAll.j8
   repeat' first
   | (with_reducible first | exact ih0 _ _ _ _ _ _ _ _ _ _ _ _ | exact ih1 _ _ _ _ _ _ _ _ _ _ _ _ _ _ _ _ _ _ | exact ih2 _ _ _ _ _ _ _ _ _ | exact ih3 _ _ _ _ _ _ _ _ _ _ _ _ _ | exact ih4 _ _ _ _ _ _ _ | exact ih5 _ _ _ _ | exact ih6 _ _ _ _ _ _ _ _ _ | exact ih7 _ _ _ _ | exact ih8 _ _ _ _ _ _ _ | exact ih9 _ _ _ _ _ _ _ _ _ | exact ih10 _ _ _ _ _ _ _ _ _ _ _ _ _ | exact ih11 _ _ _ _ _ _ _ _ _ _ _ _ _ _ _ _ _ _ _ _ | exact ih12 _ _ _ _ _ _ _ _ _ _ _ _ _ _ _ _ | exact ih13 _ _ _ _ _ _ _ _ _ _ _ _ _ | exact ih14 _ _ _ _ _ _ _ _ _ _ _ _ _ | exact impl_FirstPlaces.mono _ _ _ _ | exact impl_IsOpen.mono _ _ | exact impl_LeftInPeriod.mono _ _ | exact impl_LeftUpTo.mono _ _ _ | exact impl_NumberWithRests.mono _ _ _ | exact impl_PeriodOfRules.mono _ _ | exact impl_PlacesInPeriod.mono _ _ _ | exact impl_PrimePlaces.mono _ _ _ | exact impl_RestsOfNumber.mono _ _ _ | exact impl_RulesOfPattern.mono _ _ _ | exact impl_ShareOfPlaces.mono _ _ _ | exact laws_tPrime.mono _ _ | exact laws_tRises.mono _ _ _ _ | exact laws_tRules.mono _ _ _ | exact laws_tSame.mono _ _ _ | exact spec_FirstPlaces.mono _ _ _ _ | exact spec_NumberWithRests.mono _ _ _ | exact spec_PlacesInPeriod.mono _ _ _ | exact spec_PrimePlaces.mono _ _ _ | exact spec_RestsOfNumber.mono _ _ _ | exact spec_RulesOfPattern.mono _ _ _ | exact spec_ShareOfPlaces.mono _ _ _ | exact LeO.refl _ | exact LeO.none _ | refine LeO.ite ?_ ?_ | refine LeO.bind ?_ (fun _ => ?_))
  ·
   intro y0 y1 y2 y3
   unfold laws_FnPlacesOfPatternsOfAll.j11
   repeat' first
   | (with_reducible first | exact ih0 _ _ _ _ _ _ _ _ _ _ _ _ | exact ih1 _ _ _ _ _ _ _ _ _ _ _ _ _ _ _ _ _ _ | exact ih2 _ _ _ _ _ _ _ _ _ | exact ih3 _ _ _ _ _ _ _ _ _ _ _ _ _ | exact ih4 _ _ _ _ _ _ _ | exact ih5 _ _ _ _ | exact ih6 _ _ _ _ _ _ _ _ _ | exact ih7 _ _ _ _ | exact ih8 _ _ _ _ _ _ _ | exact ih9 _ _ _ _ _ _ _ _ _ | exact ih10 _ _ _ _ _ _ _ _ _ _ _ _ _ | exact ih11 _ _ _ _ _ _ _ _ _ _ _ _ _ _ _ _ _ _ _ _ | exact ih12 _ _ _ _ _ _ _ _ _ _ _ _ _ _ _ _ | exact ih13 _ _ _ _ _ _ _ _ _ _ _ _ _ | exact ih14 _ _ _ _ _ _ _ _ _ _ _ _ _ | exact impl_FirstPlaces.mono _ _ _ _ | exact impl_IsOpen.mono _ _ | exact impl_LeftInPeriod.mono _ _ | exact impl_LeftUpTo.mono _ _ _ | exact impl_NumberWithRests.mono _ _ _ | exact impl_PeriodOfRules.mono _ _ | exact impl_PlacesInPeriod.mono _ _ _ | exact impl_PrimePlaces.mono _ _ _ | exact impl_RestsOfNumber.mono _ _ _ | exact impl_RulesOfPattern.mono _ _ _ | exact impl_ShareOfPlaces.mono _ _ _ | exact laws_tPrime.mono _ _ | exact laws_tRises.mono _ _ _ _ | exact laws_tRules.mono _ _ _ | exact laws_tSame.mono _ _ _ | exact spec_FirstPlaces.mono _ _ _ _ | exact spec_NumberWithRests.mono _ _ _ | exact spec_PlacesInPeriod.mono _ _ _ | exact spec_PrimePlaces.mono _ _ _ | exact spec_RestsOfNumber.mono _ _ _ | exact spec_RulesOfPattern.mono _ _ _ | exact spec_ShareOfPlaces.mono _ _ _ | exact LeO.refl _ | exact LeO.none _ | refine LeO.ite ?_ ?_ | refine LeO.bind ?_ (fun _ => ?_))
  ·
   intro y0 y1 y2 y3 y4 y5 y6 y7 y8
   unfold laws_FnPlacesOfPatternsOfAll.j12
   repeat' first
   | (with_reducible first | exact ih0 _ _ _ _ _ _ _ _ _ _ _ _ | exact ih1 _ _ _ _ _ _ _ _ _ _ _ _ _ _ _ _ _ _ | exact ih2 _ _ _ _ _ _ _ _ _ | exact ih3 _ _ _ _ _ _ _ _ _ _ _ _ _ | exact ih4 _ _ _ _ _ _ _ | exact ih5 _ _ _ _ | exact ih6 _ _ _ _ _ _ _ _ _ | exact ih7 _ _ _ _ | exact ih8 _ _ _ _ _ _ _ | exact ih9 _ _ _ _ _ _ _ _ _ | exact ih10 _ _ _ _ _ _ _ _ _ _ _ _ _ | exact ih11 _ _ _ _ _ _ _ _ _ _ _ _ _ _ _ _ _ _ _ _ | exact ih12 _ _ _ _ _ _ _ _ _ _ _ _ _ _ _ _ | exact ih13 _ _ _ _ _ _ _ _ _ _ _ _ _ | exact ih14 _ _ _ _ _ _ _ _ _ _ _ _ _ | exact impl_FirstPlaces.mono _ _ _ _ | exact impl_IsOpen.mono _ _ | exact impl_LeftInPeriod.mono _ _ | exact impl_LeftUpTo.mono _ _ _ | exact impl_NumberWithRests.mono _ _ _ | exact impl_PeriodOfRules.mono _ _ | exact impl_PlacesInPeriod.mono _ _ _ | exact impl_PrimePlaces.mono _ _ _ | exact impl_RestsOfNumber.mono _ _ _ | exact impl_RulesOfPattern.mono _ _ _ | exact impl_ShareOfPlaces.mono _ _ _ | exact laws_tPrime.mono _ _ | exact laws_tRises.mono _ _ _ _ | exact laws_tRules.mono _ _ _ | exact laws_tSame.mono _ _ _ | exact spec_FirstPlaces.mono _ _ _ _ | exact spec_NumberWithRests.mono _ _ _ | exact spec_PlacesInPeriod.mono _ _ _ | exact spec_PrimePlaces.mono _ _ _ | exact spec_RestsOfNumber.mono _ _ _ | exact spec_RulesOfPattern.mono _ _ _ | exact spec_ShareOfPlaces.mono _ _ _ | exact LeO.refl _ | exact LeO.none _ | refine LeO.ite ?_ ?_ | refine LeO.bind ?_ (fun _ => ?_))
  ·
   intro y0 y1 y2 y3
   unfold laws_FnPlacesOfPatternsOfAll.j13
   repeat' first
   | (with_reducible first | exact ih0 _ _ _ _ _ _ _ _ _ _ _ _ | exact ih1 _ _ _ _ _ _ _ _ _ _ _ _ _ _ _ _ _ _ | exact ih2 _ _ _ _ _ _ _ _ _ | exact ih3 _ _ _ _ _ _ _ _ _ _ _ _ _ | exact ih4 _ _ _ _ _ _ _ | exact ih5 _ _ _ _ | exact ih6 _ _ _ _ _ _ _ _ _ | exact ih7 _ _ _ _ | exact ih8 _ _ _ _ _ _ _ | exact ih9 _ _ _ _ _ _ _ _ _ | exact ih10 _ _ _ _ _ _ _ _ _ _ _ _ _ | exact ih11 _ _ _ _ _ _ _ _ _ _ _ _ _ _ _ _ _ _ _ _ | exact ih12 _ _ _ _ _ _ _ _ _ _ _ _ _ _ _ _ | exact ih13 _ _ _ _ _ _ _ _ _ _ _ _ _ | exact ih14 _ _ _ _ _ _ _ _ _ _ _ _ _ | exact impl_FirstPlaces.mono _ _ _ _ | exact impl_IsOpen.mono _ _ | exact impl_LeftInPeriod.mono _ _ | exact impl_LeftUpTo.mono _ _ _ | exact impl_NumberWithRests.mono _ _ _ | exact impl_PeriodOfRules.mono _ _ | exact impl_PlacesInPeriod.mono _ _ _ | exact impl_PrimePlaces.mono _ _ _ | exact impl_RestsOfNumber.mono _ _ _ | exact impl_RulesOfPattern.mono _ _ _ | exact impl_ShareOfPlaces.mono _ _ _ | exact laws_tPrime.mono _ _ | exact laws_tRises.mono _ _ _ _ | exact laws_tRules.mono _ _ _ | exact laws_tSame.mono _ _ _ | exact spec_FirstPlaces.mono _ _ _ _ | exact spec_NumberWithRests.mono _ _ _ | exact spec_PlacesInPeriod.mono _ _ _ | exact spec_PrimePlaces.mono _ _ _ | exact spec_RestsOfNumber.mono _ _ _ | exact spec_RulesOfPattern.mono _ _ _ | exact spec_ShareOfPlaces.mono _ _ _ | exact LeO.refl _ | exact LeO.none _ | refine LeO.ite ?_ ?_ | refine LeO.bind ?_ (fun _ => ?_))
  ·
   intro y0 y1 y2 y3 y4 y5 y6
   unfold laws_FnPlacesOfPatternsOfAll.l3
   repeat' first
   | (with_reducible first | exact ih0 _ _ _ _ _ _ _ _ _ _ _ _ | exact ih1 _ _ _ _ _ _ _ _ _ _ _ _ _ _ _ _ _ _ | exact ih2 _ _ _ _ _ _ _ _ _ | exact ih3 _ _ _ _ _ _ _ _ _ _ _ _ _ | exact ih4 _ _ _ _ _ _ _ | exact ih5 _ _ _ _ | exact ih6 _ _ _ _ _ _ _ _ _ | exact ih7 _ _ _ _ | exact ih8 _ _ _ _ _ _ _ | exact ih9 _ _ _ _ _ _ _ _ _ | exact ih10 _ _ _ _ _ _ _ _ _ _ _ _ _ | exact ih11 _ _ _ _ _ _ _ _ _ _ _ _ _ _ _ _ _ _ _ _ | exact ih12 _ _ _ _ _ _ _ _ _ _ _ _ _ _ _ _ | exact ih13 _ _ _ _ _ _ _ _ _ _ _ _ _ | exact ih14 _ _ _ _ _ _ _ _ _ _ _ _ _ | exact impl_FirstPlaces.mono _ _ _ _ | exact impl_IsOpen.mono _ _ | exact impl_LeftInPeriod.mono _ _ | exact impl_LeftUpTo.mono _ _ _ | exact impl_NumberWithRests.mono _ _ _ | exact impl_PeriodOfRules.mono _ _ | exact impl_PlacesInPeriod.mono _ _ _ | exact impl_PrimePlaces.mono _ _ _ | exact impl_RestsOfNumber.mono _ _ _ | exact impl_RulesOfPattern.mono _ _ _ | exact impl_ShareOfPlaces.mono _ _ _ | exact laws_tPrime.mono _ _ | exact laws_tRises.mono _ _ _ _ | exact laws_tRules.mono _ _ _ | exact laws_tSame.mono _ _ _ | exact spec_FirstPlaces.mono _ _ _ _ | exact spec_NumberWithRests.mono _ _ _ | exact spec_PlacesInPeriod.mono _ _ _ | exact spec_PrimePlaces.mono _ _ _ | exact spec_RestsOfNumber.mono _ _ _ | exact spec_RulesOfPattern.mono _ _ _ | exact spec_ShareOfPlaces.mono _ _ _ | exact LeO.refl _ | exact LeO.none _ | refine LeO.ite ?_ ?_ | refine LeO.bind ?_ (fun _ => ?_))
  ·
   intro y0 y1 y2 y3 y4 y5 y6 y7 y8
   unfold laws_FnPlacesOfPatternsOfAll.l1
   repeat' first
   | (with_reducible first | exact ih0 _ _ _ _ _ _ _ _ _ _ _ _ | exact ih1 _ _ _ _ _ _ _ _ _ _ _ _ _ _ _ _ _ _ | exact ih2 _ _ _ _ _ _ _ _ _ | exact ih3 _ _ _ _ _ _ _ _ _ _ _ _ _ | exact ih4 _ _ _ _ _ _ _ | exact ih5 _ _ _ _ | exact ih6 _ _ _ _ _ _ _ _ _ | exact ih7 _ _ _ _ | exact ih8 _ _ _ _ _ _ _ | exact ih9 _ _ _ _ _ _ _ _ _ | exact ih10 _ _ _ _ _ _ _ _ _ _ _ _ _ | exact ih11 _ _ _ _ _ _ _ _ _ _ _ _ _ _ _ _ _ _ _ _ | exact ih12 _ _ _ _ _ _ _ _ _ _ _ _ _ _ _ _ | exact ih13 _ _ _ _ _ _ _ _ _ _ _ _ _ | exact ih14 _ _ _ _ _ _ _ _ _ _ _ _ _ | exact impl_FirstPlaces.mono _ _ _ _ | exact impl_IsOpen.mono _ _ | exact impl_LeftInPeriod.mono _ _ | exact impl_LeftUpTo.mono _ _ _ | exact impl_NumberWithRests.mono _ _ _ | exact impl_PeriodOfRules.mono _ _ | exact impl_PlacesInPeriod.mono _ _ _ | exact impl_PrimePlaces.mono _ _ _ | exact impl_RestsOfNumber.mono _ _ _ | exact impl_RulesOfPattern.mono _ _ _ | exact impl_ShareOfPlaces.mono _ _ _ | exact laws_tPrime.mono _ _ | exact laws_tRises.mono _ _ _ _ | exact laws_tRules.mono _ _ _ | exact laws_tSame.mono _ _ _ | exact spec_FirstPlaces.mono _ _ _ _ | exact spec_NumberWithRests.mono _ _ _ | exact spec_PlacesInPeriod.mono _ _ _ | exact spec_PrimePlaces.mono _ _ _ | exact spec_RestsOfNumber.mono _ _ _ | exact spec_RulesOfPattern.mono _ _ _ | exact spec_ShareOfPlaces.mono _ _ _ | exact LeO.refl _ | exact LeO.none _ | refine LeO.ite ?_ ?_ | refine LeO.bind ?_ (fun _ => ?_))
  ·
   intro y0 y1 y2 y3 y4 y5 y6 y7 y8 y9 y10 y11 y12
   unfold laws_FnPlacesOfPatternsOfAll.l2
   repeat' first
   | (with_reducible first | exact ih0 _ _ _ _ _ _ _ _ _ _ _ _ | exact ih1 _ _ _ _ _ _ _ _ _ _ _ _ _ _ _ _ _ _ | exact ih2 _ _ _ _ _ _ _ _ _ | exact ih3 _ _ _ _ _ _ _ _ _ _ _ _ _ | exact ih4 _ _ _ _ _ _ _ | exact ih5 _ _ _ _ | exact ih6 _ _ _ _ _ _ _ _ _ | exact ih7 _ _ _ _ | exact ih8 _ _ _ _ _ _ _ | exact ih9 _ _ _ _ _ _ _ _ _ | exact ih10 _ _ _ _ _ _ _ _ _ _ _ _ _ | exact ih11 _ _ _ _ _ _ _ _ _ _ _ _ _ _ _ _ _ _ _ _ | exact ih12 _ _ _ _ _ _ _ _ _ _ _ _ _ _ _ _ | exact ih13 _ _ _ _ _ _ _ _ _ _ _ _ _ | exact ih14 _ _ _ _ _ _ _ _ _ _ _ _ _ | exact impl_FirstPlaces.mono _ _ _ _ | exact impl_IsOpen.mono _ _ | exact impl_LeftInPeriod.mono _ _ | exact impl_LeftUpTo.mono _ _ _ | exact impl_NumberWithRests.mono _ _ _ | exact impl_PeriodOfRules.mono _ _ | exact impl_PlacesInPeriod.mono _ _ _ | exact impl_PrimePlaces.mono _ _ _ | exact impl_RestsOfNumber.mono _ _ _ | exact impl_RulesOfPattern.mono _ _ _ | exact impl_ShareOfPlaces.mono _ _ _ | exact laws_tPrime.mono _ _ | exact laws_tRises.mono _ _ _ _ | exact laws_tRules.mono _ _ _ | exact laws_tSame.mono _ _ _ | exact spec_FirstPlaces.mono _ _ _ _ | exact spec_NumberWithRests.mono _ _ _ | exact spec_PlacesInPeriod.mono _ _ _ | exact spec_PrimePlaces.mono _ _ _ | exact spec_RestsOfNumber.mono _ _ _ | exact spec_RulesOfPattern.mono _ _ _ | exact spec_ShareOfPlaces.mono _ _ _ | exact LeO.refl _ | exact LeO.none _ | refine LeO.ite ?_ ?_ | refine LeO.bind ?_ (fun _ => ?_))
  ·
   intro y0 y1 y2 y3 y4 y5 y6 y7 y8 y9 y10 y11 y12 y13 y14 y15 y16 y17 y18 y19
   unfold laws_FnPlacesOfPatternsOfAll.l0
   repeat' first
   | (with_reducible first | exact ih0 _ _ _ _ _ _ _ _ _ _ _ _ | exact ih1 _ _ _ _ _ _ _ _ _ _ _ _ _ _ _ _ _ _ | exact ih2 _ _ _ _ _ _ _ _ _ | exact ih3 _ _ _ _ _ _ _ _ _ _ _ _ _ | exact ih4 _ _ _ _ _ _ _ | exact ih5 _ _ _ _ | exact ih6 _ _ _ _ _ _ _ _ _ | exact ih7 _ _ _ _ | exact ih8 _ _ _ _ _ _ _ | exact ih9 _ _ _ _ _ _ _ _ _ | exact ih10 _ _ _ _ _ _ _ _ _ _ _ _ _ | exact ih11 _ _ _ _ _ _ _ _ _ _ _ _ _ _ _ _ _ _ _ _ | exact ih12 _ _ _ _ _ _ _ _ _ _ _ _ _ _ _ _ | exact ih13 _ _ _ _ _ _ _ _ _ _ _ _ _ | exact ih14 _ _ _ _ _ _ _ _ _ _ _ _ _ | exact impl_FirstPlaces.mono _ _ _ _ | exact impl_IsOpen.mono _ _ | exact impl_LeftInPeriod.mono _ _ | exact impl_LeftUpTo.mono _ _ _ | exact impl_NumberWithRests.mono _ _ _ | exact impl_PeriodOfRules.mono _ _ | exact impl_PlacesInPeriod.mono _ _ _ | exact impl_PrimePlaces.mono _ _ _ | exact impl_RestsOfNumber.mono _ _ _ | exact impl_RulesOfPattern.mono _ _ _ | exact impl_ShareOfPlaces.mono _ _ _ | exact laws_tPrime.mono _ _ | exact laws_tRises.mono _ _ _ _ | exact laws_tRules.mono _ _ _ | exact laws_tSame.mono _ _ _ | exact spec_FirstPlaces.mono _ _ _ _ | exact spec_NumberWithRests.mono _ _ _ | exact spec_PlacesInPeriod.mono _ _ _ | exact spec_PrimePlaces.mono _ _ _ | exact spec_RestsOfNumber.mono _ _ _ | exact spec_RulesOfPattern.mono _ _ _ | exact spec_ShareOfPlaces.mono _ _ _ | exact LeO.refl _ | exact LeO.none _ | refine LeO.ite ?_ ?_ | refine LeO.bind ?_ (fun _ => ?_))
  ·
   intro y0 y1 y2 y3 y4 y5 y6 y7 y8 y9 y10 y11 y12 y13 y14 y15
   unfold laws_FnPlacesOfPatternsOfAll.j3
   repeat' first
   | (with_reducible first | exact ih0 _ _ _ _ _ _ _ _ _ _ _ _ | exact ih1 _ _ _ _ _ _ _ _ _ _ _ _ _ _ _ _ _ _ | exact ih2 _ _ _ _ _ _ _ _ _ | exact ih3 _ _ _ _ _ _ _ _ _ _ _ _ _ | exact ih4 _ _ _ _ _ _ _ | exact ih5 _ _ _ _ | exact ih6 _ _ _ _ _ _ _ _ _ | exact ih7 _ _ _ _ | exact ih8 _ _ _ _ _ _ _ | exact ih9 _ _ _ _ _ _ _ _ _ | exact ih10 _ _ _ _ _ _ _ _ _ _ _ _ _ | exact ih11 _ _ _ _ _ _ _ _ _ _ _ _ _ _ _ _ _ _ _ _ | exact ih12 _ _ _ _ _ _ _ _ _ _ _ _ _ _ _ _ | exact ih13 _ _ _ _ _ _ _ _ _ _ _ _ _ | exact ih14 _ _ _ _ _ _ _ _ _ _ _ _ _ | exact impl_FirstPlaces.mono _ _ _ _ | exact impl_IsOpen.mono _ _ | exact impl_LeftInPeriod.mono _ _ | exact impl_LeftUpTo.mono _ _ _ | exact impl_NumberWithRests.mono _ _ _ | exact impl_PeriodOfRules.mono _ _ | exact impl_PlacesInPeriod.mono _ _ _ | exact impl_PrimePlaces.mono _ _ _ | exact impl_RestsOfNumber.mono _ _ _ | exact impl_RulesOfPattern.mono _ _ _ | exact impl_ShareOfPlaces.mono _ _ _ | exact laws_tPrime.mono _ _ | exact laws_tRises.mono _ _ _ _ | exact laws_tRules.mono _ _ _ | exact laws_tSame.mono _ _ _ | exact spec_FirstPlaces.mono _ _ _ _ | exact spec_NumberWithRests.mono _ _ _ | exact spec_PlacesInPeriod.mono _ _ _ | exact spec_PrimePlaces.mono _ _ _ | exact spec_RestsOfNumber.mono _ _ _ | exact spec_RulesOfPattern.mono _ _ _ | exact spec_ShareOfPlaces.mono _ _ _ | exact LeO.refl _ | exact LeO.none _ | refine LeO.ite ?_ ?_ | refine LeO.bind ?_ (fun _ => ?_))
  ·
   intro y0 y1 y2 y3 y4 y5 y6 y7 y8 y9 y10 y11 y12
   unfold laws_FnPlacesOfPatternsOfAll.j4
   repeat' first
   | (with_reducible first | exact ih0 _ _ _ _ _ _ _ _ _ _ _ _ | exact ih1 _ _ _ _ _ _ _ _ _ _ _ _ _ _ _ _ _ _ | exact ih2 _ _ _ _ _ _ _ _ _ | exact ih3 _ _ _ _ _ _ _ _ _ _ _ _ _ | exact ih4 _ _ _ _ _ _ _ | exact ih5 _ _ _ _ | exact ih6 _ _ _ _ _ _ _ _ _ | exact ih7 _ _ _ _ | exact ih8 _ _ _ _ _ _ _ | exact ih9 _ _ _ _ _ _ _ _ _ | exact ih10 _ _ _ _ _ _ _ _ _ _ _ _ _ | exact ih11 _ _ _ _ _ _ _ _ _ _ _ _ _ _ _ _ _ _ _ _ | exact ih12 _ _ _ _ _ _ _ _ _ _ _ _ _ _ _ _ | exact ih13 _ _ _ _ _ _ _ _ _ _ _ _ _ | exact ih14 _ _ _ _ _ _ _ _ _ _ _ _ _ | exact impl_FirstPlaces.mono _ _ _ _ | exact impl_IsOpen.mono _ _ | exact impl_LeftInPeriod.mono _ _ | exact impl_LeftUpTo.mono _ _ _ | exact impl_NumberWithRests.mono _ _ _ | exact impl_PeriodOfRules.mono _ _ | exact impl_PlacesInPeriod.mono _ _ _ | exact impl_PrimePlaces.mono _ _ _ | exact impl_RestsOfNumber.mono _ _ _ | exact impl_RulesOfPattern.mono _ _ _ | exact impl_ShareOfPlaces.mono _ _ _ | exact laws_tPrime.mono _ _ | exact laws_tRises.mono _ _ _ _ | exact laws_tRules.mono _ _ _ | exact laws_tSame.mono _ _ _ | exact spec_FirstPlaces.mono _ _ _ _ | exact spec_NumberWithRests.mono _ _ _ | exact spec_PlacesInPeriod.mono _ _ _ | exact spec_PrimePlaces.mono _ _ _ | exact spec_RestsOfNumber.mono _ _ _ | exact spec_RulesOfPattern.mono _ _ _ | exact spec_ShareOfPlaces.mono _ _ _ | exact LeO.refl _ | exact LeO.none _ | refine LeO.ite ?_ ?_ | refine LeO.bind ?_ (fun _ => ?_))
  ·
   intro y0 y1 y2 y3 y4 y5 y6 y7 y8 y9 y10 y11 y12
   unfold laws_FnPlacesOfPatternsOfAll.j5
   repeat' first
   | (with_reducible first | exact ih0 _ _ _ _ _ _ _ _ _ _ _ _ | exact ih1 _ _ _ _ _ _ _ _ _ _ _ _ _ _ _ _ _ _ | exact ih2 _ _ _ _ _ _ _ _ _ | exact ih3 _ _ _ _ _ _ _ _ _ _ _ _ _ | exact ih4 _ _ _ _ _ _ _ | exact ih5 _ _ _ _ | exact ih6 _ _ _ _ _ _ _ _ _ | exact ih7 _ _ _ _ | exact ih8 _ _ _ _ _ _ _ | exact ih9 _ _ _ _ _ _ _ _ _ | exact ih10 _ _ _ _ _ _ _ _ _ _ _ _ _ | exact ih11 _ _ _ _ _ _ _ _ _ _ _ _ _ _ _ _ _ _ _ _ | exact ih12 _ _ _ _ _ _ _ _ _ _ _ _ _ _ _ _ | exact ih13 _ _ _ _ _ _ _ _ _ _ _ _ _ | exact ih14 _ _ _ _ _ _ _ _ _ _ _ _ _ | exact impl_FirstPlaces.mono _ _ _ _ | exact impl_IsOpen.mono _ _ | exact impl_LeftInPeriod.mono _ _ | exact impl_LeftUpTo.mono _ _ _ | exact impl_NumberWithRests.mono _ _ _ | exact impl_PeriodOfRules.mono _ _ | exact impl_PlacesInPeriod.mono _ _ _ | exact impl_PrimePlaces.mono _ _ _ | exact impl_RestsOfNumber.mono _ _ _ | exact impl_RulesOfPattern.mono _ _ _ | exact impl_ShareOfPlaces.mono _ _ _ | exact laws_tPrime.mono _ _ | exact laws_tRises.mono _ _ _ _ | exact laws_tRules.mono _ _ _ | exact laws_tSame.mono _ _ _ | exact spec_FirstPlaces.mono _ _ _ _ | exact spec_NumberWithRests.mono _ _ _ | exact spec_PlacesInPeriod.mono _ _ _ | exact spec_PrimePlaces.mono _ _ _ | exact spec_RestsOfNumber.mono _ _ _ | exact spec_RulesOfPattern.mono _ _ _ | exact spec_ShareOfPlaces.mono _ _ _ | exact LeO.refl _ | exact LeO.none _ | refine LeO.ite ?_ ?_ | refine LeO.bind ?_ (fun _ => ?_))
theorem laws_FnPlacesOfPatternsOfAll.mono : ∀ a0 a1 a2 a3 a4 a5 a6 a7 a8 a9 a10 k, LeO (laws_FnPlacesOfPatternsOfAll.f k a0 a1 a2 a3 a4 a5 a6 a7 a8 a9 a10) (laws_FnPlacesOfPatternsOfAll.f (k + 1) a0 a1 a2 a3 a4 a5 a6 a7 a8 a9 a10) := by
 intro a0 a1 a2 a3 a4 a5 a6 a7 a8 a9 a10 k
 obtain ⟨ih0, ih1, ih2, ih3, ih4, ih5, ih6, ih7, ih8, ih9, ih10, ih11, ih12, ih13, ih14⟩ := laws_FnPlacesOfPatternsOfAll.mono_l k
 unfold laws_FnPlacesOfPatternsOfAll.f
 repeat' first
   | (with_reducible first | exact ih0 _ _ _ _ _ _ _ _ _ _ _ _ | exact ih1 _ _ _ _ _ _ _ _ _ _ _ _ _ _ _ _ _ _ | exact ih2 _ _ _ _ _ _ _ _ _ | exact ih3 _ _ _ _ _ _ _ _ _ _ _ _ _ | exact ih4 _ _ _ _ _ _ _ | exact ih5 _ _ _ _ | exact ih6 _ _ _ _ _ _ _ _ _ | exact ih7 _ _ _ _ | exact ih8 _ _ _ _ _ _ _ | exact ih9 _ _ _ _ _ _ _ _ _ | exact ih10 _ _ _ _ _ _ _ _ _ _ _ _ _ | exact ih11 _ _ _ _ _ _ _ _ _ _ _ _ _ _ _ _ _ _ _ _ | exact ih12 _ _ _ _ _ _ _ _ _ _ _ _ _ _ _ _ | exact ih13 _ _ _ _ _ _ _ _ _ _ _ _ _ | exact ih14 _ _ _ _ _ _ _ _ _ _ _ _ _ | exact impl_FirstPlaces.mono _ _ _ _ | exact impl_IsOpen.mono _ _ | exact impl_LeftInPeriod.mono _ _ | exact impl_LeftUpTo.mono _ _ _ | exact impl_NumberWithRests.mono _ _ _ | exact impl_PeriodOfRules.mono _ _ | exact impl_PlacesInPeriod.mono _ _ _ | exact impl_PrimePlaces.mono _ _ _ | exact impl_RestsOfNumber.mono _ _ _ | exact impl_RulesOfPattern.mono _ _ _ | exact impl_ShareOfPlaces.mono _ _ _ | exact laws_tPrime.mono _ _ | exact laws_tRises.mono _ _ _ _ | exact laws_tRules.mono _ _ _ | exact laws_tSame.mono _ _ _ | exact spec_FirstPlaces.mono _ _ _ _ | exact spec_NumberWithRests.mono _ _ _ | exact spec_PlacesInPeriod.mono _ _ _ | exact spec_PrimePlaces.mono _ _ _ | exact spec_RestsOfNumber.mono _ _ _ | exact spec_RulesOfPattern.mono _ _ _ | exact spec_ShareOfPlaces.mono _ _ _ | exact LeO.refl _ | exact LeO.none _ | refine LeO.ite ?_ ?_ | refine LeO.bind ?_ (fun _ => ?_))
theorem laws_FnPlacesOfPatternsOfAll.j1_no : ∀ k y0 y1 y2 y3 y4 y5 y6 y7 y8 y9 y10 y11 y12 y13 y14 y15 y16, laws_FnPlacesOfPatternsOfAll.j1 k y0 y1 y2 y3 y4 y5 y6 y7 y8 y9 y10 y11 y12 y13 y14 y15 y16 true = some true → False := by
 intro k y0 y1 y2 y3 y4 y5 y6 y7 y8 y9 y10 y11 y12 y13 y14 y15 y16 h
 cases k with
 | zero => simp [laws_FnPlacesOfPatternsOfAll.j1] at h
 | succ k => simp [laws_FnPlacesOfPatternsOfAll.j1] at h
theorem laws_FnPlacesOfPatternsOfAll.j7_no : ∀ k y0 y1 y2 y3 y4 y5 y6 y7 y8 y9 y10 y11, laws_FnPlacesOfPatternsOfAll.j7 k y0 y1 y2 y3 y4 y5 y6 y7 y8 y9 y10 y11 true = some true → False := by
 intro k y0 y1 y2 y3 y4 y5 y6 y7 y8 y9 y10 y11 h
 cases k with
 | zero => simp [laws_FnPlacesOfPatternsOfAll.j7] at h
 | succ k => simp [laws_FnPlacesOfPatternsOfAll.j7] at h
theorem laws_FnPlacesOfPatternsOfAll.j12_no : ∀ k y0 y1 y2 y3 y4 y5 y6 y7, laws_FnPlacesOfPatternsOfAll.j12 k y0 y1 y2 y3 y4 y5 y6 y7 true = some true → False := by
 intro k y0 y1 y2 y3 y4 y5 y6 y7 h
 cases k with
 | zero => simp [laws_FnPlacesOfPatternsOfAll.j12] at h
 | succ k => simp [laws_FnPlacesOfPatternsOfAll.j12] at h
theorem laws_FnPlacesOfPatternsOfAll.j3_no : ∀ k y0 y1 y2 y3 y4 y5 y6 y7 y8 y9 y10 y11 y12 y13 y14, laws_FnPlacesOfPatternsOfAll.j3 k y0 y1 y2 y3 y4 y5 y6 y7 y8 y9 y10 y11 y12 y13 y14 true = some true → False := by
 intro k y0 y1 y2 y3 y4 y5 y6 y7 y8 y9 y10 y11 y12 y13 y14 h
 cases k with
 | zero => simp [laws_FnPlacesOfPatternsOfAll.j3] at h
 | succ k => simp [laws_FnPlacesOfPatternsOfAll.j3] at h
/-- A frame of which some slots (by two masks) hold whatever u says. -/
def cutFgt (u : Nat → Value) : List (Option Nat) → List Value → List Value
 | some n :: m, _ :: l => u n :: cutFgt u m l
 | none :: m, v :: l => v :: cutFgt u m l
 | _, l => l
theorem cutF {P : Program} {s : Code} {K : Act → World → Prop} {Q' : Exit → Act → World → Prop} {w : World} {L : List Value} {fr} (m m2 : List (Option Nat)) (R : (Nat → Value) → World → Prop)
  (first : ∀ (J K' : Act → World → Prop), (∀ u w', R u w' → J ⟨(cutFgt u m2 (cutFgt u m L)).toArray, fr⟩ w') → (∀ a' w', Met J a' w' → K' a' w') → s.wp P (Exit.then K' Q') ⟨L.toArray, fr⟩ w)
  (rest : ∀ u w', R u w' → K ⟨(cutFgt u m2 (cutFgt u m L)).toArray, fr⟩ w') : s.wp P (Exit.then K Q') ⟨L.toArray, fr⟩ w := by
 refine wp_cut (fun a' w' => ∃ u, R u w' ∧ a' = ⟨(cutFgt u m2 (cutFgt u m L)).toArray, fr⟩) ?_ ?_
 ·
  rintro _ w' ⟨u, h, rfl⟩
  exact rest u w' h
 ·
  intro J K' h1 h2
  exact first J K' (fun u w' h => h1 _ _ ⟨u, h, rfl⟩) h2
theorem cutMeet {J : Act → World → Prop} {R : (Nat → Value) → World → Prop} {m m2 : List (Option Nat)} {L0 L : List Value} {fr} {w' : World} (h : ∀ u w', R u w' → J ⟨(cutFgt u m2 (cutFgt u m L0)).toArray, fr⟩ w') (hr : R (fun n => L.getD n (.bool false)) w') (he : cutFgt (fun n => L.getD n (.bool false)) m2 (cutFgt (fun n => L.getD n (.bool false)) m L0) = L) : Met J ⟨L.toArray, fr⟩ w' := by
 have := h _ _ hr
 rw [he] at this
 exact this
def mk0 : List (Option Nat) := [none, none, none, none, none, none, none, none, none, none, none, none, none, none, none, none, none, none, none, none, none, none, none, none, none, none, none, none, none, none, none, none, none, none, none, none, none, none, none, none, none, none, none, none, none, none, none, none, none, none, none, none, none, none, none, none, none, none, none, none, none, none, none, none, none, none, none, none, none, none, none, none, none, none, none, none, none, none, none, some 79, some 80, some 81, some 82, some 83, some 84, some 85, some 86, some 87, some 88, some 89, some 90, some 91, some 92, some 93, some 94, some 95, some 96, some 97, some 98, some 99, some 100, some 101, some 102, some 103, some 104, some 105, some 106, some 107, some 108, some 109, some 110, some 111, some 112, some 113, some 114, some 115, some 116, some 117, some 118, some 119, some 120, some 121, some 122, some 123, some 124, some 125, some 126, some 127, some 128, some 129, some 130, some 131, some 132, some 133, some 134, some 135, some 136, some 137, some 138, some 139, some 140, some 141, some 142, some 143, some 144, some 145, some 146, some 147, some 148, some 149, some 150, some 151, some 152, some 153, some 154, some 155, some 156, some 157, some 158, some 159, some 160, some 161, some 162, some 163, some 164, some 165, some 166, some 167, some 168, some 169, some 170, some 171, some 172, some 173, some 174, some 175, some 176, some 177, some 178, some 179, some 180, some 181, some 182, some 183, some 184, some 185, some 186, some 187, some 188, some 189, some 190, some 191, none, none, none, some 195, some 196, some 197, some 198, some 199, some 200, some 201, some 202, some 203, some 204, some 205, some 206, some 207, some 208, some 209, some 210, some 211, some 212, some 213, some 214, some 215, some 216, some 217, some 218, some 219, some 220, some 221, some 222, some 223, some 224, some 225, some 226, some 227, some 228, some 229, some 230, some 231, some 232, some 233, some 234, some 235, some 236, some 237, some 238, some 239, some 240, some 241, some 242, some 243, some 244, some 245, some 246, some 247, some 248, some 249, some 250, some 251, some 252, some 253, some 254, some 255, some 256, some 257, some 258, some 259, some 260, some 261, some 262, some 263, some 264, some 265, some 266, some 267, some 268, some 269, some 270, some 271, some 272, some 273, some 274, some 275, some 276, some 277, some 278, some 279, some 280, some 281, some 282, some 283, some 284, some 285, some 286, some 287, some 288, some 289, some 290, some 291, some 292, some 293, some 294, some 295, some 296, some 297, some 298, some 299, some 300, some 301, some 302, some 303, some 304, some 305, some 306, some 307, some 308, some 309, some 310, some 311, some 312, some 313, some 314, some 315, some 316, some 317, some 318, some 319, some 320, some 321, some 322, some 323, some 324, some 325, some 326, some 327, some 328, some 329, some 330, some 331, some 332, some 333, some 334, some 335, some 336, some 337, some 338, some 339, some 340, some 341, some 342, none, none, none, some 346, some 347, some 348, none, none, none, some 352, some 353, some 354, some 355, some 356, some 357, some 358, some 359, some 360, some 361, some 362, some 363, some 364, some 365, some 366, some 367, some 368, some 369, some 370, some 371, some 372, some 373, some 374, some 375, some 376, some 377, some 378, some 379, some 380, some 381, some 382, some 383, some 384, some 385, some 386, some 387, some 388, some 389, some 390, some 391, some 392, some 393, some 394, some 395, some 396, some 397, some 398, some 399, some 400, some 401, some 402, some 403, some 404, some 405, some 406, some 407, some 408, some 409, some 410, some 411, some 412, some 413, some 414, some 415, some 416, some 417, some 418, some 419, some 420, some 421, some 422, some 423, some 424, some 425, some 426, some 427, some 428, some 429, some 430, some 431, some 432, some 433, some 434, some 435, some 436, some 437, some 438, some 439, some 440, some 441, some 442, some 443, some 444, none, none, none, some 448, some 449, some 450, some 451, some 452, some 453, some 454, some 455, some 456, some 457, some 458, some 459, some 460, some 461, some 462]
set_option maxHeartbeats 200000000 in
set_option maxRecDepth 100000 in
theorem laws_FnPlacesOfPatternsOfAll.calls (k : Nat) (A0 : Option Addr) (c0 : Nat) (l0 : List Int) (a1 : Int) (A2 : Option Addr) (c2 : Nat) (l2 : List Int) (a3 : Int) (a4 : Int) (A5 : Option Addr) (c5 : Nat) (l5 : List Int) (a6 : Int) (A7 : Option Addr) (c7 : Nat) (l7 : List Int) (A8 : Option Addr) (c8 : Nat) (l8 : List Int) (A9 : Option Addr) (c9 : Nat) (l9 : List Int) (a10 : Int) (r : Bool) (w : World) (hr0 : Kd.C (Kd.int .i64) w A0 l0.length l0) (hc0 : l0.length ≤ c0) (hr2 : Kd.C (Kd.int .i64) w A2 l2.length l2) (hc2 : l2.length ≤ c2) (hr5 : Kd.C (Kd.int .i64) w A5 l5.length l5) (hc5 : l5.length ≤ c5) (hr7 : Kd.C (Kd.int .i64) w A7 l7.length l7) (hc7 : l7.length ≤ c7) (hr8 : Kd.C (Kd.int .i64) w A8 l8.length l8) (hc8 : l8.length ≤ c8) (hr9 : Kd.C (Kd.int .i64) w A9 l9.length l9) (hc9 : l9.length ≤ c9) (h : laws_FnPlacesOfPatternsOfAll.f k l0 a1 l2 a3 a4 l5 a6 l7 l8 l9 a10 = some r) (hr_ : r = true) :
  Calls Try.prog 3 #[.slice A0 l0.length c0, .int .i64 a1, .slice A2 l2.length c2, .int .i64 a3, .int .i64 a4, .slice A5 l5.length c5, .int .i64 a6, .slice A7 l7.length c7, .slice A8 l8.length c8, .slice A9 l9.length c9, .int .i64 a10] w fun e w' => e = .returned (.bool r) ∧ Below w.heap.size w w' := by
 have HRT := Aside0.mk hr_
 clear hr_
 have HR0 := Aside0.mk hr0
 have HC0 := Aside0.mk hc0
 clear hr0 hc0
 have HR2 := Aside0.mk hr2
 have HC2 := Aside0.mk hc2
 clear hr2 hc2
 have HR5 := Aside0.mk hr5
 have HC5 := Aside0.mk hc5
 clear hr5 hc5
 have HR7 := Aside0.mk hr7
 have HC7 := Aside0.mk hc7
 clear hr7 hc7
 have HR8 := Aside0.mk hr8
 have HC8 := Aside0.mk hc8
 clear hr8 hc8
 have HR9 := Aside0.mk hr9
 have HC9 := Aside0.mk hc9
 clear hr9 hc9
 have HB := Aside0.mk (Below.refl w.heap.size w)
 have H : (if (l0.length : Int) > 10000 then (laws_FnPlacesOfPatternsOfAll.j0 k l0 a1 l2 a3 a4 l5 a6 l7 l8 l9 a10 true) else (if (l2.length : Int) > 10000 then (laws_FnPlacesOfPatternsOfAll.j0 k l0 a1 l2 a3 a4 l5 a6 l7 l8 l9 a10 true) else (if (l5.length : Int) > 10000 then (laws_FnPlacesOfPatternsOfAll.j0 k l0 a1 l2 a3 a4 l5 a6 l7 l8 l9 a10 true) else (if (l7.length : Int) > 10000 then (laws_FnPlacesOfPatternsOfAll.j0 k l0 a1 l2 a3 a4 l5 a6 l7 l8 l9 a10 true) else (if (l8.length : Int) > 10000 then (laws_FnPlacesOfPatternsOfAll.j0 k l0 a1 l2 a3 a4 l5 a6 l7 l8 l9 a10 true) else (laws_FnPlacesOfPatternsOfAll.j0 k l0 a1 l2 a3 a4 l5 a6 l7 l8 l9 a10 (decide ((l9.length : Int) > 10000)))))))) = some r := h
 clear h
 have HC12 := Aside0.mk H
 clear H
 go_enter Try.func3, Try.ntmps3
 go_upto_region 1 with (fail)
 refine cutF mk0 [] (fun u_ wc => ∃ (kq : Nat) (x106_11 : Bool), (u_ 106) = .bool x106_11 ∧ Aside0 (laws_FnPlacesOfPatternsOfAll.j0 kq l0 a1 l2 a3 a4 l5 a6 l7 l8 l9 a10 x106_11 = some r) ∧ Aside0 (kq ≤ k) ∧ Aside0 (Below w.heap.size w wc)) ?_ ?_
 ·
  as_aux_lemma =>
   intro J_ K_ hJ_ hK_
   have H := HC12.out
   clear HC12
   by_cases c13 : (l0.length : Int) > 10000
   ·
    rw [if_pos c13] at H
    have c13b0 : decide (10000 < (l0.length : Int)) = true := decide_eq_true c13
    have c13b1 : decide (10000 < l0.length) = true := decide_eq_true (by omega)
    clear c13
    (first | rw [c13b0] | (simp only [i64_w, i32_w]; rw [c13b0]) | skip)
    have H' := Aside0.mk H
    clear H
    go_wp2
    refine cutMeet hJ_ ?_ (by kernel_rfl)
    exact ⟨_, (true), (by first | rfl | (simp; done) | (simp [*]; done)), H', ⟨by first | omega | exact Nat.le_refl _⟩, ⟨by repeat (first | (with_reducible first | exact HB.out | apply below_alloc | apply pw_below_drewN | apply below_drew1))⟩⟩
   ·
    rw [if_neg c13] at H
    have c13b0 : decide (10000 < (l0.length : Int)) = false := decide_eq_false c13
    have c13b1 : decide (10000 < l0.length) = false := decide_eq_false (by omega)
    clear c13
    (first | rw [c13b0] | (simp only [i64_w, i32_w]; rw [c13b0]) | skip)
    by_cases c14 : (l2.length : Int) > 10000
    ·
     rw [if_pos c14] at H
     have c14b0 : decide (10000 < (l2.length : Int)) = true := decide_eq_true c14
     have c14b1 : decide (10000 < l2.length) = true := decide_eq_true (by omega)
     clear c14
     have H' := Aside0.mk H
     clear H
     go_wp2
     refine cutMeet hJ_ ?_ (by kernel_rfl)
     exact ⟨_, (true), (by first | rfl | (simp; done) | (simp [*]; done)), H', ⟨by first | omega | exact Nat.le_refl _⟩, ⟨by repeat (first | (with_reducible first | exact HB.out | apply below_alloc | apply pw_below_drewN | apply below_drew1))⟩⟩
    ·
     rw [if_neg c14] at H
     have c14b0 : decide (10000 < (l2.length : Int)) = false := decide_eq_false c14
     have c14b1 : decide (10000 < l2.length) = false := decide_eq_false (by omega)
     clear c14
     by_cases c15 : (l5.length : Int) > 10000
     ·
      rw [if_pos c15] at H
      have c15b0 : decide (10000 < (l5.length : Int)) = true := decide_eq_true c15
      have c15b1 : decide (10000 < l5.length) = true := decide_eq_true (by omega)
      clear c15
      have H' := Aside0.mk H
      clear H
      go_wp2
      refine cutMeet hJ_ ?_ (by kernel_rfl)
      exact ⟨_, (true), (by first | rfl | (simp; done) | (simp [*]; done)), H', ⟨by first | omega | exact Nat.le_refl _⟩, ⟨by repeat (first | (with_reducible first | exact HB.out | apply below_alloc | apply pw_below_drewN | apply below_drew1))⟩⟩
     ·
      rw [if_neg c15] at H
      have c15b0 : decide (10000 < (l5.length : Int)) = false := decide_eq_false c15
      have c15b1 : decide (10000 < l5.length) = false := decide_eq_false (by omega)
      clear c15
      by_cases c16 : (l7.length : Int) > 10000
      ·
       rw [if_pos c16] at H
       have c16b0 : decide (10000 < (l7.length : Int)) = true := decide_eq_true c16
       have c16b1 : decide (10000 < l7.length) = true := decide_eq_true (by omega)
       clear c16
       have H' := Aside0.mk H
       clear H
       go_wp2
       refine cutMeet hJ_ ?_ (by kernel_rfl)
       exact ⟨_, (true), (by first | rfl | (simp; done) | (simp [*]; done)), H', ⟨by first | omega | exact Nat.le_refl _⟩, ⟨by repeat (first | (with_reducible first | exact HB.out | apply below_alloc | apply pw_below_drewN | apply below_drew1))⟩⟩
      ·
       rw [if_neg c16] at H
       have c16b0 : decide (10000 < (l7.length : Int)) = false := decide_eq_false c16
       have c16b1 : decide (10000 < l7.length) = false := decide_eq_false (by omega)
       clear c16
       by_cases c17 : (l8.length : Int) > 10000
       ·
        rw [if_pos c17] at H
        have c17b0 : decide (10000 < (l8.length : Int)) = true := decide_eq_true c17
        have c17b1 : decide (10000 < l8.length) = true := decide_eq_true (by omega)
        clear c17
        have H' := Aside0.mk H
        clear H
        go_wp2
        refine cutMeet hJ_ ?_ (by kernel_rfl)
        exact ⟨_, (true), (by first | rfl | (simp; done) | (simp [*]; done)), H', ⟨by first | omega | exact Nat.le_refl _⟩, ⟨by repeat (first | (with_reducible first | exact HB.out | apply below_alloc | apply pw_below_drewN | apply below_drew1))⟩⟩
       ·
        rw [if_neg c17] at H
        have c17b0 : decide (10000 < (l8.length : Int)) = false := decide_eq_false c17
        have c17b1 : decide (10000 < l8.length) = false := decide_eq_false (by omega)
        clear c17
        have H' := Aside0.mk H
        clear H
        go_wp2
        refine cutMeet hJ_ ?_ (by kernel_rfl)
        exact ⟨_, (decide ((l9.length : Int) > 10000)), (by first | rfl | (simp; done) | (simp [*]; done)), H', ⟨by first | omega | exact Nat.le_refl _⟩, ⟨by repeat (first | (with_reducible first | exact HB.out | apply below_alloc | apply pw_below_drewN | apply below_drew1))⟩⟩
 ·
  intro u_ wc hcut
  clear HC12
  obtain ⟨kq, x106_11, e_106, HA, HJ11, HB⟩ := hcut
  dsimp only [cutFgt, mk0]
  rw [e_106]
  cases kq with
  | zero => exact absurd HA.out (by simp [laws_FnPlacesOfPatternsOfAll.j0])
  | succ kj11 =>
   have H := HA.out
   clear HA
   simp only [laws_FnPlacesOfPatternsOfAll.j0] at H
   by_cases c18 : x106_11 = true
   ·
    subst c18
    have H1 : (some true) = some r := by rw [if_pos rfl] at H; exact H
    clear H
    have H := H1
    clear H1
    first
    | exact absurd (Option.some.inj (H.trans (congrArg some HRT.out))) Bool.false_ne_true
    |
     obtain rfl := Option.some.inj H
     go_wp2
     go_ret
     exact ⟨by first | rfl | (simp [errW_none, errW_some] <;> rfl) | (simp [*, errW_none, errW_some] <;> rfl), by repeat (first | (with_reducible first | exact HB.out | apply below_alloc | apply pw_below_drewN | apply below_drew1))⟩
   ·
    replace c18 := Bool.eq_false_iff.mpr c18
    subst c18
    have H1 : ((impl_PlacesInPeriod.f kj11 l0 a1).bind fun bt333 => ((spec_PlacesInPeriod.f kj11 l0 a1).bind fun bt335 => ((impl_RulesOfPattern.f kj11 l0 a1).bind fun bt337 => ((spec_RulesOfPattern.f kj11 l0 a1).bind fun bt341 => ((impl_ShareOfPlaces.f kj11 l0 a1).bind fun bt345 => ((spec_ShareOfPlaces.f kj11 l0 a1).bind fun bt348 => (if (bt333.2 != bt335.2) = true then (laws_FnPlacesOfPatternsOfAll.j1 kj11 l0 a1 l2 a3 a4 l5 a6 l7 l8 l9 a10 bt333.1 bt333.2 bt337.1 bt337.2 bt345.1 bt345.2.1 true) else (if bt333.1 = bt335.1 then (if (bt337.2 != bt341.2) = true then (laws_FnPlacesOfPatternsOfAll.j1 kj11 l0 a1 l2 a3 a4 l5 a6 l7 l8 l9 a10 bt333.1 bt333.2 bt337.1 bt337.2 bt345.1 bt345.2.1 true) else ((laws_tRules.f kj11 bt337.1 bt341.1).bind fun t351 => (if t351 = true then (if (bt345.2.2 != bt348.2.2) = true then (laws_FnPlacesOfPatternsOfAll.j1 kj11 l0 a1 l2 a3 a4 l5 a6 l7 l8 l9 a10 bt333.1 bt333.2 bt337.1 bt337.2 bt345.1 bt345.2.1 true) else (if bt345.1 = bt348.1 then (if bt345.2.1 = bt348.2.1 then (if (bt345.2.2 != bt333.2) = true then (laws_FnPlacesOfPatternsOfAll.j1 kj11 l0 a1 l2 a3 a4 l5 a6 l7 l8 l9 a10 bt333.1 bt333.2 bt337.1 bt337.2 bt345.1 bt345.2.1 true) else (if bt337.2 = true then (laws_FnPlacesOfPatternsOfAll.j1 kj11 l0 a1 l2 a3 a4 l5 a6 l7 l8 l9 a10 bt333.1 bt333.2 bt337.1 bt337.2 bt345.1 bt345.2.1 (!bt333.2)) else (laws_FnPlacesOfPatternsOfAll.j1 kj11 l0 a1 l2 a3 a4 l5 a6 l7 l8 l9 a10 bt333.1 bt333.2 bt337.1 bt337.2 bt345.1 bt345.2.1 false))) else (laws_FnPlacesOfPatternsOfAll.j1 kj11 l0 a1 l2 a3 a4 l5 a6 l7 l8 l9 a10 bt333.1 bt333.2 bt337.1 bt337.2 bt345.1 bt345.2.1 true)) else (laws_FnPlacesOfPatternsOfAll.j1 kj11 l0 a1 l2 a3 a4 l5 a6 l7 l8 l9 a10 bt333.1 bt333.2 bt337.1 bt337.2 bt345.1 bt345.2.1 true))) else (laws_FnPlacesOfPatternsOfAll.j1 kj11 l0 a1 l2 a3 a4 l5 a6 l7 l8 l9 a10 bt333.1 bt333.2 bt337.1 bt337.2 bt345.1 bt345.2.1 true)))) else (laws_FnPlacesOfPatternsOfAll.j1 kj11 l0 a1 l2 a3 a4 l5 a6 l7 l8 l9 a10 bt333.1 bt333.2 bt337.1 bt337.2 bt345.1 bt345.2.1 true))))))))) = some r := by rw [if_neg (show ¬ (false = true) by decide)] at H; exact H
    clear H
    have H := H1
    clear H1
    replace H := Option.bind_eq_some_iff.mp H
    obtain ⟨⟨t333, t334⟩, A190, H⟩ := H
    replace H : ((spec_PlacesInPeriod.f kj11 l0 a1).bind fun bt335 => ((impl_RulesOfPattern.f kj11 l0 a1).bind fun bt337 => ((spec_RulesOfPattern.f kj11 l0 a1).bind fun bt341 => ((impl_ShareOfPlaces.f kj11 l0 a1).bind fun bt345 => ((spec_ShareOfPlaces.f kj11 l0 a1).bind fun bt348 => (if (t334 != bt335.2) = true then (laws_FnPlacesOfPatternsOfAll.j1 kj11 l0 a1 l2 a3 a4 l5 a6 l7 l8 l9 a10 t333 t334 bt337.1 bt337.2 bt345.1 bt345.2.1 true) else (if t333 = bt335.1 then (if (bt337.2 != bt341.2) = true then (laws_FnPlacesOfPatternsOfAll.j1 kj11 l0 a1 l2 a3 a4 l5 a6 l7 l8 l9 a10 t333 t334 bt337.1 bt337.2 bt345.1 bt345.2.1 true) else ((laws_tRules.f kj11 bt337.1 bt341.1).bind fun t351 => (if t351 = true then (if (bt345.2.2 != bt348.2.2) = true then (laws_FnPlacesOfPatternsOfAll.j1 kj11 l0 a1 l2 a3 a4 l5 a6 l7 l8 l9 a10 t333 t334 bt337.1 bt337.2 bt345.1 bt345.2.1 true) else (if bt345.1 = bt348.1 then (if bt345.2.1 = bt348.2.1 then (if (bt345.2.2 != t334) = true then (laws_FnPlacesOfPatternsOfAll.j1 kj11 l0 a1 l2 a3 a4 l5 a6 l7 l8 l9 a10 t333 t334 bt337.1 bt337.2 bt345.1 bt345.2.1 true) else (if bt337.2 = true then (laws_FnPlacesOfPatternsOfAll.j1 kj11 l0 a1 l2 a3 a4 l5 a6 l7 l8 l9 a10 t333 t334 bt337.1 bt337.2 bt345.1 bt345.2.1 (!t334)) else (laws_FnPlacesOfPatternsOfAll.j1 kj11 l0 a1 l2 a3 a4 l5 a6 l7 l8 l9 a10 t333 t334 bt337.1 bt337.2 bt345.1 bt345.2.1 false))) else (laws_FnPlacesOfPatternsOfAll.j1 kj11 l0 a1 l2 a3 a4 l5 a6 l7 l8 l9 a10 t333 t334 bt337.1 bt337.2 bt345.1 bt345.2.1 true)) else (laws_FnPlacesOfPatternsOfAll.j1 kj11 l0 a1 l2 a3 a4 l5 a6 l7 l8 l9 a10 t333 t334 bt337.1 bt337.2 bt345.1 bt345.2.1 true))) else (laws_FnPlacesOfPatternsOfAll.j1 kj11 l0 a1 l2 a3 a4 l5 a6 l7 l8 l9 a10 t333 t334 bt337.1 bt337.2 bt345.1 bt345.2.1 true)))) else (laws_FnPlacesOfPatternsOfAll.j1 kj11 l0 a1 l2 a3 a4 l5 a6 l7 l8 l9 a10 t333 t334 bt337.1 bt337.2 bt345.1 bt345.2.1 true)))))))) = some r := H
    have A19 := Aside0.mk A190
    clear A190
    replace H := Option.bind_eq_some_iff.mp H
    obtain ⟨⟨t335, t336⟩, A200, H⟩ := H
    replace H : ((impl_RulesOfPattern.f kj11 l0 a1).bind fun bt337 => ((spec_RulesOfPattern.f kj11 l0 a1).bind fun bt341 => ((impl_ShareOfPlaces.f kj11 l0 a1).bind fun bt345 => ((spec_ShareOfPlaces.f kj11 l0 a1).bind fun bt348 => (if (t334 != t336) = true then (laws_FnPlacesOfPatternsOfAll.j1 kj11 l0 a1 l2 a3 a4 l5 a6 l7 l8 l9 a10 t333 t334 bt337.1 bt337.2 bt345.1 bt345.2.1 true) else (if t333 = t335 then (if (bt337.2 != bt341.2) = true then (laws_FnPlacesOfPatternsOfAll.j1 kj11 l0 a1 l2 a3 a4 l5 a6 l7 l8 l9 a10 t333 t334 bt337.1 bt337.2 bt345.1 bt345.2.1 true) else ((laws_tRules.f kj11 bt337.1 bt341.1).bind fun t351 => (if t351 = true then (if (bt345.2.2 != bt348.2.2) = true then (laws_FnPlacesOfPatternsOfAll.j1 kj11 l0 a1 l2 a3 a4 l5 a6 l7 l8 l9 a10 t333 t334 bt337.1 bt337.2 bt345.1 bt345.2.1 true) else (if bt345.1 = bt348.1 then (if bt345.2.1 = bt348.2.1 then (if (bt345.2.2 != t334) = true then (laws_FnPlacesOfPatternsOfAll.j1 kj11 l0 a1 l2 a3 a4 l5 a6 l7 l8 l9 a10 t333 t334 bt337.1 bt337.2 bt345.1 bt345.2.1 true) else (if bt337.2 = true then (laws_FnPlacesOfPatternsOfAll.j1 kj11 l0 a1 l2 a3 a4 l5 a6 l7 l8 l9 a10 t333 t334 bt337.1 bt337.2 bt345.1 bt345.2.1 (!t334)) else (laws_FnPlacesOfPatternsOfAll.j1 kj11 l0 a1 l2 a3 a4 l5 a6 l7 l8 l9 a10 t333 t334 bt337.1 bt337.2 bt345.1 bt345.2.1 false))) else (laws_FnPlacesOfPatternsOfAll.j1 kj11 l0 a1 l2 a3 a4 l5 a6 l7 l8 l9 a10 t333 t334 bt337.1 bt337.2 bt345.1 bt345.2.1 true)) else (laws_FnPlacesOfPatternsOfAll.j1 kj11 l0 a1 l2 a3 a4 l5 a6 l7 l8 l9 a10 t333 t334 bt337.1 bt337.2 bt345.1 bt345.2.1 true))) else (laws_FnPlacesOfPatternsOfAll.j1 kj11 l0 a1 l2 a3 a4 l5 a6 l7 l8 l9 a10 t333 t334 bt337.1 bt337.2 bt345.1 bt345.2.1 true)))) else (laws_FnPlacesOfPatternsOfAll.j1 kj11 l0 a1 l2 a3 a4 l5 a6 l7 l8 l9 a10 t333 t334 bt337.1 bt337.2 bt345.1 bt345.2.1 true))))))) = some r := H
    have A20 := Aside0.mk A200
    clear A200
    replace H := Option.bind_eq_some_iff.mp H
    obtain ⟨⟨t337, t338⟩, A210, H⟩ := H
    replace H : ((spec_RulesOfPattern.f kj11 l0 a1).bind fun bt341 => ((impl_ShareOfPlaces.f kj11 l0 a1).bind fun bt345 => ((spec_ShareOfPlaces.f kj11 l0 a1).bind fun bt348 => (if (t334 != t336) = true then (laws_FnPlacesOfPatternsOfAll.j1 kj11 l0 a1 l2 a3 a4 l5 a6 l7 l8 l9 a10 t333 t334 t337 t338 bt345.1 bt345.2.1 true) else (if t333 = t335 then (if (t338 != bt341.2) = true then (laws_FnPlacesOfPatternsOfAll.j1 kj11 l0 a1 l2 a3 a4 l5 a6 l7 l8 l9 a10 t333 t334 t337 t338 bt345.1 bt345.2.1 true) else ((laws_tRules.f kj11 t337 bt341.1).bind fun t351 => (if t351 = true then (if (bt345.2.2 != bt348.2.2) = true then (laws_FnPlacesOfPatternsOfAll.j1 kj11 l0 a1 l2 a3 a4 l5 a6 l7 l8 l9 a10 t333 t334 t337 t338 bt345.1 bt345.2.1 true) else (if bt345.1 = bt348.1 then (if bt345.2.1 = bt348.2.1 then (if (bt345.2.2 != t334) = true then (laws_FnPlacesOfPatternsOfAll.j1 kj11 l0 a1 l2 a3 a4 l5 a6 l7 l8 l9 a10 t333 t334 t337 t338 bt345.1 bt345.2.1 true) else (if t338 = true then (laws_FnPlacesOfPatternsOfAll.j1 kj11 l0 a1 l2 a3 a4 l5 a6 l7 l8 l9 a10 t333 t334 t337 t338 bt345.1 bt345.2.1 (!t334)) else (laws_FnPlacesOfPatternsOfAll.j1 kj11 l0 a1 l2 a3 a4 l5 a6 l7 l8 l9 a10 t333 t334 t337 t338 bt345.1 bt345.2.1 false))) else (laws_FnPlacesOfPatternsOfAll.j1 kj11 l0 a1 l2 a3 a4 l5 a6 l7 l8 l9 a10 t333 t334 t337 t338 bt345.1 bt345.2.1 true)) else (laws_FnPlacesOfPatternsOfAll.j1 kj11 l0 a1 l2 a3 a4 l5 a6 l7 l8 l9 a10 t333 t334 t337 t338 bt345.1 bt345.2.1 true))) else (laws_FnPlacesOfPatternsOfAll.j1 kj11 l0 a1 l2 a3 a4 l5 a6 l7 l8 l9 a10 t333 t334 t337 t338 bt345.1 bt345.2.1 true)))) else (laws_FnPlacesOfPatternsOfAll.j1 kj11 l0 a1 l2 a3 a4 l5 a6 l7 l8 l9 a10 t333 t334 t337 t338 bt345.1 bt345.2.1 true)))))) = some r := H
    have A21 := Aside0.mk A210
    clear A210
    replace H := Option.bind_eq_some_iff.mp H
    obtain ⟨⟨t341, t342⟩, A220, H⟩ := H
    replace H : ((impl_ShareOfPlaces.f kj11 l0 a1).bind fun bt345 => ((spec_ShareOfPlaces.f kj11 l0 a1).bind fun bt348 => (if (t334 != t336) = true then (laws_FnPlacesOfPatternsOfAll.j1 kj11 l0 a1 l2 a3 a4 l5 a6 l7 l8 l9 a10 t333 t334 t337 t338 bt345.1 bt345.2.1 true) else (if t333 = t335 then (if (t338 != t342) = true then (laws_FnPlacesOfPatternsOfAll.j1 kj11 l0 a1 l2 a3 a4 l5 a6 l7 l8 l9 a10 t333 t334 t337 t338 bt345.1 bt345.2.1 true) else ((laws_tRules.f kj11 t337 t341).bind fun t351 => (if t351 = true then (if (bt345.2.2 != bt348.2.2) = true then (laws_FnPlacesOfPatternsOfAll.j1 kj11 l0 a1 l2 a3 a4 l5 a6 l7 l8 l9 a10 t333 t334 t337 t338 bt345.1 bt345.2.1 true) else (if bt345.1 = bt348.1 then (if bt345.2.1 = bt348.2.1 then (if (bt345.2.2 != t334) = true then (laws_FnPlacesOfPatternsOfAll.j1 kj11 l0 a1 l2 a3 a4 l5 a6 l7 l8 l9 a10 t333 t334 t337 t338 bt345.1 bt345.2.1 true) else (if t338 = true then (laws_FnPlacesOfPatternsOfAll.j1 kj11 l0 a1 l2 a3 a4 l5 a6 l7 l8 l9 a10 t333 t334 t337 t338 bt345.1 bt345.2.1 (!t334)) else (laws_FnPlacesOfPatternsOfAll.j1 kj11 l0 a1 l2 a3 a4 l5 a6 l7 l8 l9 a10 t333 t334 t337 t338 bt345.1 bt345.2.1 false))) else (laws_FnPlacesOfPatternsOfAll.j1 kj11 l0 a1 l2 a3 a4 l5 a6 l7 l8 l9 a10 t333 t334 t337 t338 bt345.1 bt345.2.1 true)) else (laws_FnPlacesOfPatternsOfAll.j1 kj11 l0 a1 l2 a3 a4 l5 a6 l7 l8 l9 a10 t333 t334 t337 t338 bt345.1 bt345.2.1 true))) else (laws_FnPlacesOfPatternsOfAll.j1 kj11 l0 a1 l2 a3 a4 l5 a6 l7 l8 l9 a10 t333 t334 t337 t338 bt345.1 bt345.2.1 true)))) else (laws_FnPlacesOfPatternsOfAll.j1 kj11 l0 a1 l2 a3 a4 l5 a6 l7 l8 l9 a10 t333 t334 t337 t338 bt345.1 bt345.2.1 true))))) = some r := H
    have A22 := Aside0.mk A220
    clear A220
    replace H := Option.bind_eq_some_iff.mp H
    obtain ⟨⟨t345, t346, t347⟩, A230, H⟩ := H
    replace H : ((spec_ShareOfPlaces.f kj11 l0 a1).bind fun bt348 => (if (t334 != t336) = true then (laws_FnPlacesOfPatternsOfAll.j1 kj11 l0 a1 l2 a3 a4 l5 a6 l7 l8 l9 a10 t333 t334 t337 t338 t345 t346 true) else (if t333 = t335 then (if (t338 != t342) = true then (laws_FnPlacesOfPatternsOfAll.j1 kj11 l0 a1 l2 a3 a4 l5 a6 l7 l8 l9 a10 t333 t334 t337 t338 t345 t346 true) else ((laws_tRules.f kj11 t337 t341).bind fun t351 => (if t351 = true then (if (t347 != bt348.2.2) = true then (laws_FnPlacesOfPatternsOfAll.j1 kj11 l0 a1 l2 a3 a4 l5 a6 l7 l8 l9 a10 t333 t334 t337 t338 t345 t346 true) else (if t345 = bt348.1 then (if t346 = bt348.2.1 then (if (t347 != t334) = true then (laws_FnPlacesOfPatternsOfAll.j1 kj11 l0 a1 l2 a3 a4 l5 a6 l7 l8 l9 a10 t333 t334 t337 t338 t345 t346 true) else (if t338 = true then (laws_FnPlacesOfPatternsOfAll.j1 kj11 l0 a1 l2 a3 a4 l5 a6 l7 l8 l9 a10 t333 t334 t337 t338 t345 t346 (!t334)) else (laws_FnPlacesOfPatternsOfAll.j1 kj11 l0 a1 l2 a3 a4 l5 a6 l7 l8 l9 a10 t333 t334 t337 t338 t345 t346 false))) else (laws_FnPlacesOfPatternsOfAll.j1 kj11 l0 a1 l2 a3 a4 l5 a6 l7 l8 l9 a10 t333 t334 t337 t338 t345 t346 true)) else (laws_FnPlacesOfPatternsOfAll.j1 kj11 l0 a1 l2 a3 a4 l5 a6 l7 l8 l9 a10 t333 t334 t337 t338 t345 t346 true))) else (laws_FnPlacesOfPatternsOfAll.j1 kj11 l0 a1 l2 a3 a4 l5 a6 l7 l8 l9 a10 t333 t334 t337 t338 t345 t346 true)))) else (laws_FnPlacesOfPatternsOfAll.j1 kj11 l0 a1 l2 a3 a4 l5 a6 l7 l8 l9 a10 t333 t334 t337 t338 t345 t346 true)))) = some r := H
    have A23 := Aside0.mk A230
    clear A230
    replace H := Option.bind_eq_some_iff.mp H
    obtain ⟨⟨t348, t349, t350⟩, A240, H⟩ := H
    replace H : (if (t334 != t336) = true then (laws_FnPlacesOfPatternsOfAll.j1 kj11 l0 a1 l2 a3 a4 l5 a6 l7 l8 l9 a10 t333 t334 t337 t338 t345 t346 true) else (if t333 = t335 then (if (t338 != t342) = true then (laws_FnPlacesOfPatternsOfAll.j1 kj11 l0 a1 l2 a3 a4 l5 a6 l7 l8 l9 a10 t333 t334 t337 t338 t345 t346 true) else ((laws_tRules.f kj11 t337 t341).bind fun t351 => (if t351 = true then (if (t347 != t350) = true then (laws_FnPlacesOfPatternsOfAll.j1 kj11 l0 a1 l2 a3 a4 l5 a6 l7 l8 l9 a10 t333 t334 t337 t338 t345 t346 true) else (if t345 = t348 then (if t346 = t349 then (if (t347 != t334) = true then (laws_FnPlacesOfPatternsOfAll.j1 kj11 l0 a1 l2 a3 a4 l5 a6 l7 l8 l9 a10 t333 t334 t337 t338 t345 t346 true) else (if t338 = true then (laws_FnPlacesOfPatternsOfAll.j1 kj11 l0 a1 l2 a3 a4 l5 a6 l7 l8 l9 a10 t333 t334 t337 t338 t345 t346 (!t334)) else (laws_FnPlacesOfPatternsOfAll.j1 kj11 l0 a1 l2 a3 a4 l5 a6 l7 l8 l9 a10 t333 t334 t337 t338 t345 t346 false))) else (laws_FnPlacesOfPatternsOfAll.j1 kj11 l0 a1 l2 a3 a4 l5 a6 l7 l8 l9 a10 t333 t334 t337 t338 t345 t346 true)) else (laws_FnPlacesOfPatternsOfAll.j1 kj11 l0 a1 l2 a3 a4 l5 a6 l7 l8 l9 a10 t333 t334 t337 t338 t345 t346 true))) else (laws_FnPlacesOfPatternsOfAll.j1 kj11 l0 a1 l2 a3 a4 l5 a6 l7 l8 l9 a10 t333 t334 t337 t338 t345 t346 true)))) else (laws_FnPlacesOfPatternsOfAll.j1 kj11 l0 a1 l2 a3 a4 l5 a6 l7 l8 l9 a10 t333 t334 t337 t338 t345 t346 true))) = some r := H
    have A24 := Aside0.mk A240
    clear A240
    have HC25 := Aside0.mk H
    clear H
    go_upto_region 9 with (first | ((with_reducible refine gate_callee (f := 4) rfl ?_); refine goesL_ (some 110) rfl rfl Try.func4 (by kernel_rfl) rfl #[.slice A0 l0.length c0, .int .i64 a1] rfl (by (try simp only [List.map_toArray, List.map_cons, List.map_nil]); first | done | rfl | (simp only [List.length_drop, List.length_take]; rfl)) ?_; (with_reducible refine (impl_PlacesInPeriod.calls kj11 _ _ l0 a1 t333 t334 _ ?side1 ?side2 A19.out).mono ?_); (case side1 => repeat (first | exact (Kd.C_below HR0.out HB.out) | (with_reducible refine Kd.C_alloc ?_ _) | (with_reducible refine Kd.C_drewN ?_ _) | (with_reducible refine Kd.C_drew ?_))); (case side2 => exact HC0.out); rintro e w26 ⟨rfl, hb⟩; refine ⟨_, rfl, ?_⟩; have n0_ := Aside0.mk (below_step (by repeat (first | (with_reducible first | exact HB.out | apply below_alloc | apply pw_below_drewN | apply below_drew1))) hb); clear HB; have HB := n0_; clear n0_; (try clear hb)) | ((with_reducible refine gate_callee (f := 5) rfl ?_); refine goesL_ (some 116) rfl rfl Try.func5 (by kernel_rfl) rfl #[.slice A0 l0.length c0, .int .i64 a1] rfl (by (try simp only [List.map_toArray, List.map_cons, List.map_nil]); first | done | rfl | (simp only [List.length_drop, List.length_take]; rfl)) ?_; (with_reducible refine (spec_PlacesInPeriod.calls kj11 _ _ l0 a1 t335 t336 _ ?side1 ?side2 A20.out).mono ?_); (case side1 => repeat (first | exact (Kd.C_below HR0.out HB.out) | (with_reducible refine Kd.C_alloc ?_ _) | (with_reducible refine Kd.C_drewN ?_ _) | (with_reducible refine Kd.C_drew ?_))); (case side2 => exact HC0.out); rintro e w27 ⟨rfl, hb⟩; refine ⟨_, rfl, ?_⟩; have n0_ := Aside0.mk (below_step (by repeat (first | (with_reducible first | exact HB.out | apply below_alloc | apply pw_below_drewN | apply below_drew1))) hb); clear HB; have HB := n0_; clear n0_; (try clear hb)) | ((with_reducible refine gate_callee (f := 6) rfl ?_); refine goesL_ (some 122) rfl rfl Try.func6 (by kernel_rfl) rfl #[.slice A0 l0.length c0, .int .i64 a1] rfl (by (try simp only [List.map_toArray, List.map_cons, List.map_nil]); first | done | rfl | (simp only [List.length_drop, List.length_take]; rfl)) ?_; (with_reducible refine (impl_RulesOfPattern.calls kj11 _ _ l0 a1 t337 t338 _ ?side1 ?side2 A21.out).mono ?_); (case side1 => repeat (first | exact (Kd.C_below HR0.out HB.out) | (with_reducible refine Kd.C_alloc ?_ _) | (with_reducible refine Kd.C_drewN ?_ _) | (with_reducible refine Kd.C_drew ?_))); (case side2 => exact HC0.out); rintro e w28 ⟨v339, rfl, ho0, hb⟩; refine ⟨_, rfl, ?_⟩; have n0_ := Aside0.mk (Kd.R_lower ho0 (below_size (by repeat (first | (with_reducible first | exact HB.out | apply below_alloc | apply pw_below_drewN | apply below_drew1))))); have n1_ := Aside0.mk (below_step (by repeat (first | (with_reducible first | exact HB.out | apply below_alloc | apply pw_below_drewN | apply below_drew1))) hb); clear HB; have HO340 := n0_; have HB := n1_; clear n0_ n1_; (try clear hb); (try clear ho0)) | ((with_reducible refine gate_callee (f := 7) rfl ?_); refine goesL_ (some 128) rfl rfl Try.func7 (by kernel_rfl) rfl #[.slice A0 l0.length c0, .int .i64 a1] rfl (by (try simp only [List.map_toArray, List.map_cons, List.map_nil]); first | done | rfl | (simp only [List.length_drop, List.length_take]; rfl)) ?_; (with_reducible refine (spec_RulesOfPattern.calls kj11 _ _ l0 a1 t341 t342 _ ?side1 ?side2 A22.out).mono ?_); (case side1 => repeat (first | exact (Kd.C_below HR0.out HB.out) | (with_reducible refine Kd.C_alloc ?_ _) | (with_reducible refine Kd.C_drewN ?_ _) | (with_reducible refine Kd.C_drew ?_))); (case side2 => exact HC0.out); rintro e w29 ⟨v343, rfl, ho0, hb⟩; refine ⟨_, rfl, ?_⟩; have n0_ := Aside0.mk (Kd.R_elder' (by (with_reducible repeat (first | apply Kd.R_alloc | apply Kd.R_drewN | apply Kd.R_drew)); exact HO340.out) (Kd.R_base ho0) hb); have n1_ := Aside0.mk (Kd.R_lower (Kd.R_new' ho0 (Kd.R_lt (by (with_reducible repeat (first | apply Kd.R_alloc | apply Kd.R_drewN | apply Kd.R_drew)); exact HO340.out))) (below_size (by repeat (first | (with_reducible first | exact HB.out | apply below_alloc | apply pw_below_drewN | apply below_drew1))))); have n2_ := Aside0.mk (below_step (by repeat (first | (with_reducible first | exact HB.out | apply below_alloc | apply pw_below_drewN | apply below_drew1))) hb); clear HO340; clear HB; have HO340 := n0_; have HO344 := n1_; have HB := n2_; clear n0_ n1_ n2_; (try clear hb); (try clear ho0)) | ((with_reducible refine gate_callee (f := 8) rfl ?_); refine goesL_ (some 134) rfl rfl Try.func8 (by kernel_rfl) rfl #[.slice A0 l0.length c0, .int .i64 a1] rfl (by (try simp only [List.map_toArray, List.map_cons, List.map_nil]); first | done | rfl | (simp only [List.length_drop, List.length_take]; rfl)) ?_; (with_reducible refine (impl_ShareOfPlaces.calls kj11 _ _ l0 a1 t345 t346 t347 _ ?side1 ?side2 A23.out).mono ?_); (case side1 => repeat (first | exact (Kd.C_below HR0.out HB.out) | (with_reducible refine Kd.C_alloc ?_ _) | (with_reducible refine Kd.C_drewN ?_ _) | (with_reducible refine Kd.C_drew ?_))); (case side2 => exact HC0.out); rintro e w30 ⟨rfl, hb⟩; refine ⟨_, rfl, ?_⟩; have n0_ := Aside0.mk (Kd.R_below (by (with_reducible repeat (first | apply Kd.R_alloc | apply Kd.R_drewN | apply Kd.R_drew)); exact HO340.out) hb); have n1_ := Aside0.mk (Kd.R_below (by (with_reducible repeat (first | apply Kd.R_alloc | apply Kd.R_drewN | apply Kd.R_drew)); exact HO344.out) hb); have n2_ := Aside0.mk (below_step (by repeat (first | (with_reducible first | exact HB.out | apply below_alloc | apply pw_below_drewN | apply below_drew1))) hb); clear HO340; clear HO344; clear HB; have HO340 := n0_; have HO344 := n1_; have HB := n2_; clear n0_ n1_ n2_; (try clear hb)) | ((with_reducible refine gate_callee (f := 9) rfl ?_); refine goesL_ (some 141) rfl rfl Try.func9 (by kernel_rfl) rfl #[.slice A0 l0.length c0, .int .i64 a1] rfl (by (try simp only [List.map_toArray, List.map_cons, List.map_nil]); first | done | rfl | (simp only [List.length_drop, List.length_take]; rfl)) ?_; (with_reducible refine (spec_ShareOfPlaces.calls kj11 _ _ l0 a1 t348 t349 t350 _ ?side1 ?side2 A24.out).mono ?_); (case side1 => repeat (first | exact (Kd.C_below HR0.out HB.out) | (with_reducible refine Kd.C_alloc ?_ _) | (with_reducible refine Kd.C_drewN ?_ _) | (with_reducible refine Kd.C_drew ?_))); (case side2 => exact HC0.out); rintro e w31 ⟨rfl, hb⟩; refine ⟨_, rfl, ?_⟩; have n0_ := Aside0.mk (Kd.R_below (by (with_reducible repeat (first | apply Kd.R_alloc | apply Kd.R_drewN | apply Kd.R_drew)); exact HO340.out) hb); have n1_ := Aside0.mk (Kd.R_below (by (with_reducible repeat (first | apply Kd.R_alloc | apply Kd.R_drewN | apply Kd.R_drew)); exact HO344.out) hb); have n2_ := Aside0.mk (below_step (by repeat (first | (with_reducible first | exact HB.out | apply below_alloc | apply pw_below_drewN | apply below_drew1))) hb); clear HO340; clear HO344; clear HB; have HO340 := n0_; have HO344 := n1_; have HB := n2_; clear n0_ n1_ n2_; (try clear hb)))
    (try simp only [Act.put, List.setIfInBounds_toArray, List.set_cons_zero, List.set_cons_succ])
    refine cutF mk0 [] (fun u_ wc => ∃ (kq : Nat) (x190_24 : Bool), (u_ 190) = .bool x190_24 ∧ Aside0 (laws_FnPlacesOfPatternsOfAll.j1 kq l0 a1 l2 a3 a4 l5 a6 l7 l8 l9 a10 t333 t334 t337 t338 t345 t346 x190_24 = some r) ∧ Aside0 (kq ≤ kj11) ∧ Aside0 (Kd.R k53 53 wc w.heap.size (fun _ => True) v339 t337) ∧ Aside0 (Below w.heap.size w wc)) ?_ ?_
    ·
     as_aux_lemma =>
      intro J_ K_ hJ_ hK_
      have H := HC25.out
      clear HC25
      by_cases c32 : (t334 != t336) = true
      ·
       rw [if_pos c32] at H
       exact (laws_FnPlacesOfPatternsOfAll.j1_no _ _ _ _ _ _ _ _ _ _ _ _ _ _ _ _ _ _ (H.trans (congrArg some HRT.out))).elim
      ·
       rw [if_neg c32] at H
       have c32b0 : (t334 != t336) = false := by simpa using c32
       (try (have c32b1 : decide (t334 = t336) = true := by simpa using c32))
       (try (have c32b2 : (t334 == t336) = true := by simpa using c32))
       clear c32
       (first | rw [c32b0] | (simp only [i64_w, i32_w]; rw [c32b0]) | skip)
       by_cases c33 : t333 = t335
       ·
        rw [if_pos c33] at H
        have c33b0 : (t333 == t335) = true := beq_iff_eq.mpr c33
        have c33b1 : (t333 != t335) = false := bne_eq_false_iff_eq.mpr c33
        clear c33
        by_cases c34 : (t338 != t342) = true
        ·
         rw [if_pos c34] at H
         exact (laws_FnPlacesOfPatternsOfAll.j1_no _ _ _ _ _ _ _ _ _ _ _ _ _ _ _ _ _ _ (H.trans (congrArg some HRT.out))).elim
        ·
         rw [if_neg c34] at H
         have c34b0 : (t338 != t342) = false := by simpa using c34
         (try (have c34b1 : decide (t338 = t342) = true := by simpa using c34))
         (try (have c34b2 : (t338 == t342) = true := by simpa using c34))
         clear c34
         replace H := Option.bind_eq_some_iff.mp H
         obtain ⟨t351, A350, H⟩ := H
         replace H : (if t351 = true then (if (t347 != t350) = true then (laws_FnPlacesOfPatternsOfAll.j1 kj11 l0 a1 l2 a3 a4 l5 a6 l7 l8 l9 a10 t333 t334 t337 t338 t345 t346 true) else (if t345 = t348 then (if t346 = t349 then (if (t347 != t334) = true then (laws_FnPlacesOfPatternsOfAll.j1 kj11 l0 a1 l2 a3 a4 l5 a6 l7 l8 l9 a10 t333 t334 t337 t338 t345 t346 true) else (if t338 = true then (laws_FnPlacesOfPatternsOfAll.j1 kj11 l0 a1 l2 a3 a4 l5 a6 l7 l8 l9 a10 t333 t334 t337 t338 t345 t346 (!t334)) else (laws_FnPlacesOfPatternsOfAll.j1 kj11 l0 a1 l2 a3 a4 l5 a6 l7 l8 l9 a10 t333 t334 t337 t338 t345 t346 false))) else (laws_FnPlacesOfPatternsOfAll.j1 kj11 l0 a1 l2 a3 a4 l5 a6 l7 l8 l9 a10 t333 t334 t337 t338 t345 t346 true)) else (laws_FnPlacesOfPatternsOfAll.j1 kj11 l0 a1 l2 a3 a4 l5 a6 l7 l8 l9 a10 t333 t334 t337 t338 t345 t346 true))) else (laws_FnPlacesOfPatternsOfAll.j1 kj11 l0 a1 l2 a3 a4 l5 a6 l7 l8 l9 a10 t333 t334 t337 t338 t345 t346 true)) = some r := H
         have A35 := Aside0.mk A350
         clear A350
         by_cases c36 : t351 = true
         ·
          subst c36
          have H1 : (if (t347 != t350) = true then (laws_FnPlacesOfPatternsOfAll.j1 kj11 l0 a1 l2 a3 a4 l5 a6 l7 l8 l9 a10 t333 t334 t337 t338 t345 t346 true) else (if t345 = t348 then (if t346 = t349 then (if (t347 != t334) = true then (laws_FnPlacesOfPatternsOfAll.j1 kj11 l0 a1 l2 a3 a4 l5 a6 l7 l8 l9 a10 t333 t334 t337 t338 t345 t346 true) else (if t338 = true then (laws_FnPlacesOfPatternsOfAll.j1 kj11 l0 a1 l2 a3 a4 l5 a6 l7 l8 l9 a10 t333 t334 t337 t338 t345 t346 (!t334)) else (laws_FnPlacesOfPatternsOfAll.j1 kj11 l0 a1 l2 a3 a4 l5 a6 l7 l8 l9 a10 t333 t334 t337 t338 t345 t346 false))) else (laws_FnPlacesOfPatternsOfAll.j1 kj11 l0 a1 l2 a3 a4 l5 a6 l7 l8 l9 a10 t333 t334 t337 t338 t345 t346 true)) else (laws_FnPlacesOfPatternsOfAll.j1 kj11 l0 a1 l2 a3 a4 l5 a6 l7 l8 l9 a10 t333 t334 t337 t338 t345 t346 true))) = some r := by rw [if_pos rfl] at H; exact H
          clear H
          have H := H1
          clear H1
          by_cases c37 : (t347 != t350) = true
          ·
           rw [if_pos c37] at H
           exact (laws_FnPlacesOfPatternsOfAll.j1_no _ _ _ _ _ _ _ _ _ _ _ _ _ _ _ _ _ _ (H.trans (congrArg some HRT.out))).elim
          ·
           rw [if_neg c37] at H
           have c37b0 : (t347 != t350) = false := by simpa using c37
           (try (have c37b1 : decide (t347 = t350) = true := by simpa using c37))
           (try (have c37b2 : (t347 == t350) = true := by simpa using c37))
           clear c37
           by_cases c40 : t345 = t348
           ·
            rw [if_pos c40] at H
            have c40b0 : (t345 == t348) = true := beq_iff_eq.mpr c40
            have c40b1 : (t345 != t348) = false := bne_eq_false_iff_eq.mpr c40
            clear c40
            by_cases c41 : t346 = t349
            ·
             rw [if_pos c41] at H
             have c41b0 : (t346 == t349) = true := beq_iff_eq.mpr c41
             have c41b1 : (t346 != t349) = false := bne_eq_false_iff_eq.mpr c41
             clear c41
             by_cases c42 : (t347 != t334) = true
             ·
              rw [if_pos c42] at H
              exact (laws_FnPlacesOfPatternsOfAll.j1_no _ _ _ _ _ _ _ _ _ _ _ _ _ _ _ _ _ _ (H.trans (congrArg some HRT.out))).elim
             ·
              rw [if_neg c42] at H
              have c42b0 : (t347 != t334) = false := by simpa using c42
              (try (have c42b1 : decide (t347 = t334) = true := by simpa using c42))
              (try (have c42b2 : (t347 == t334) = true := by simpa using c42))
              clear c42
              by_cases c45 : t338 = true
              ·
               subst c45
               have H1 : (laws_FnPlacesOfPatternsOfAll.j1 kj11 l0 a1 l2 a3 a4 l5 a6 l7 l8 l9 a10 t333 t334 t337 true t345 t346 (!t334)) = some r := by rw [if_pos rfl] at H; exact H
               clear H
               have H := H1
               clear H1
               have H' := Aside0.mk H
               clear H
               obtain ⟨Ao46, co46, eo46⟩ := Kd.R_slice HO340.out
               subst eo46
               obtain ⟨Ao47, co47, eo47⟩ := Kd.R_slice HO344.out
               subst eo47
               go_wp2_with (first | (go_at_call 10; (with_reducible refine (laws_tRules.calls kj11 _ _ t337 _ _ t341 true _ ?side1 ?side2 ?side3 ?side4 A35.out).mono ?_); (case side1 => repeat (first | exact (Kd.R_reads' HO340.out).2.2 | (with_reducible refine Kd.C_alloc ?_ _) | (with_reducible refine Kd.C_drewN ?_ _) | (with_reducible refine Kd.C_drew ?_))); (case side2 => exact (Kd.R_reads' HO340.out).2.1); (case side3 => repeat (first | exact (Kd.R_reads' HO344.out).2.2 | (with_reducible refine Kd.C_alloc ?_ _) | (with_reducible refine Kd.C_drewN ?_ _) | (with_reducible refine Kd.C_drew ?_))); (case side4 => exact (Kd.R_reads' HO344.out).2.1); rintro e w' ⟨rfl, ⟨nd, rfl⟩⟩))
               refine cutMeet hJ_ ?_ (by kernel_rfl)
               exact ⟨_, (!t334), (by first | rfl | (simp; done) | (simp [*]; done)), H', ⟨by have := HJ11.out; first | omega | exact Nat.le_refl _⟩, ⟨by (with_reducible repeat (first | apply Kd.R_alloc | apply Kd.R_drewN | apply Kd.R_drew)); exact Kd.R_mono HO340.out (fun _ hk => trivial)⟩, ⟨by repeat (first | (with_reducible first | exact HB.out | apply below_alloc | apply pw_below_drewN | apply below_drew1))⟩⟩
              ·
               replace c45 := Bool.eq_false_iff.mpr c45
               subst c45
               have H1 : (laws_FnPlacesOfPatternsOfAll.j1 kj11 l0 a1 l2 a3 a4 l5 a6 l7 l8 l9 a10 t333 t334 t337 false t345 t346 false) = some r := by rw [if_neg (show ¬ (false = true) by decide)] at H; exact H
               clear H
               have H := H1
               clear H1
               have H' := Aside0.mk H
               clear H
               obtain ⟨Ao48, co48, eo48⟩ := Kd.R_slice HO340.out
               subst eo48
               obtain ⟨Ao49, co49, eo49⟩ := Kd.R_slice HO344.out
               subst eo49
               go_wp2_with (first | (go_at_call 10; (with_reducible refine (laws_tRules.calls kj11 _ _ t337 _ _ t341 true _ ?side1 ?side2 ?side3 ?side4 A35.out).mono ?_); (case side1 => repeat (first | exact (Kd.R_reads' HO340.out).2.2 | (with_reducible refine Kd.C_alloc ?_ _) | (with_reducible refine Kd.C_drewN ?_ _) | (with_reducible refine Kd.C_drew ?_))); (case side2 => exact (Kd.R_reads' HO340.out).2.1); (case side3 => repeat (first | exact (Kd.R_reads' HO344.out).2.2 | (with_reducible refine Kd.C_alloc ?_ _) | (with_reducible refine Kd.C_drewN ?_ _) | (with_reducible refine Kd.C_drew ?_))); (case side4 => exact (Kd.R_reads' HO344.out).2.1); rintro e w' ⟨rfl, ⟨nd, rfl⟩⟩))
               refine cutMeet hJ_ ?_ (by kernel_rfl)
               exact ⟨_, (false), (by first | rfl | (simp; done) | (simp [*]; done)), H', ⟨by have := HJ11.out; first | omega | exact Nat.le_refl _⟩, ⟨by (with_reducible repeat (first | apply Kd.R_alloc | apply Kd.R_drewN | apply Kd.R_drew)); exact Kd.R_mono HO340.out (fun _ hk => trivial)⟩, ⟨by repeat (first | (with_reducible first | exact HB.out | apply below_alloc | apply pw_below_drewN | apply below_drew1))⟩⟩
            ·
             rw [if_neg c41] at H
             exact (laws_FnPlacesOfPatternsOfAll.j1_no _ _ _ _ _ _ _ _ _ _ _ _ _ _ _ _ _ _ (H.trans (congrArg some HRT.out))).elim
           ·
            rw [if_neg c40] at H
            exact (laws_FnPlacesOfPatternsOfAll.j1_no _ _ _ _ _ _ _ _ _ _ _ _ _ _ _ _ _ _ (H.trans (congrArg some HRT.out))).elim
         ·
          replace c36 := Bool.eq_false_iff.mpr c36
          subst c36
          have H1 : (laws_FnPlacesOfPatternsOfAll.j1 kj11 l0 a1 l2 a3 a4 l5 a6 l7 l8 l9 a10 t333 t334 t337 t338 t345 t346 true) = some r := by rw [if_neg (show ¬ (false = true) by decide)] at H; exact H
          clear H
          have H := H1
          clear H1
          exact (laws_FnPlacesOfPatternsOfAll.j1_no _ _ _ _ _ _ _ _ _ _ _ _ _ _ _ _ _ _ (H.trans (congrArg some HRT.out))).elim
       ·
        rw [if_neg c33] at H
        exact (laws_FnPlacesOfPatternsOfAll.j1_no _ _ _ _ _ _ _ _ _ _ _ _ _ _ _ _ _ _ (H.trans (congrArg some HRT.out))).elim
    ·
     intro u_ wc hcut
     clear HC25
     obtain ⟨kq, x190_24, e_190, HA, HJ24, HO_27, HB⟩ := hcut
     dsimp only [cutFgt, mk0]
     rw [e_190]
     cases kq with
     | zero => exact absurd HA.out (by simp [laws_FnPlacesOfPatternsOfAll.j1])
     | succ kj24 =>
      have H := HA.out
      clear HA
      simp only [laws_FnPlacesOfPatternsOfAll.j1] at H
      by_cases c56 : x190_24 = true
      ·
       subst c56
       have H1 : (some false) = some r := by rw [if_pos rfl] at H; exact H
       clear H
       have H := H1
       clear H1
       exact absurd (Option.some.inj (H.trans (congrArg some HRT.out))) Bool.false_ne_true
      ·
       replace c56 := Bool.eq_false_iff.mpr c56
       subst c56
       have H1 : (if t334 = true then ((some (([2, 3, 5, 7, 11, 13] : List Int) : List Int)).bind fun y352 => (laws_FnPlacesOfPatternsOfAll.l0 kj24 l0 a1 l2 a3 a4 l5 a6 l7 l8 l9 a10 t333 t337 t338 t345 t346 1 y352 (y352.length : Int) 0)) else (laws_FnPlacesOfPatternsOfAll.j6 kj24 l2 a3 a4 l5 a6 l7 l8 l9 a10)) = some r := by rw [if_neg (show ¬ (false = true) by decide)] at H; exact H
       clear H
       have H := H1
       clear H1
       have HC57 := Aside0.mk H
       clear H
       go_upto_if 191 with (fail)
       refine cutF mk0 [none, none, none, none, none, none, none, none, none, none, none, none, none, none, none, none, none, none, none, none, none, none, some 22, none, none, none, none, none, none, none, none, none, none, none, none, none, none, some 37, some 38, some 39, some 40, some 41, some 42, some 43, some 44, some 45, none, none, none, none, none, none, none, none, none, none, none, none, none, none, none, none, none, none, none, none, none, none, none, none, none, none, none, none, none, none, none, none, none, none, none, none, none, none, none, none, none, none, none, none, none, none, none, none, none, none, none, none, none, none, none, none, none, none, none, none, none, none, none, none, none, none, none, none, none, none, none, none, none, none, none, none, none, none, none, none, none, none, none, none, none, none, none, none, none, none, none, none, none, none, none, none, none, none, none, none, none, none, none, none, none, none, none, none, none, none, none, none, none, none, none, none, none, none, none, none, none, none, none, none, none, none, none, none, none, none, none, none, none, none, none, none, none, none, none, none, none, none, none, none, none, none, some 192, some 193, some 194] (fun u_ wc => ∃ (kq : Nat), Aside0 (laws_FnPlacesOfPatternsOfAll.j6 kq l2 a3 a4 l5 a6 l7 l8 l9 a10 = some r) ∧ Aside0 (kq ≤ kj24) ∧ Aside0 (Below w.heap.size w wc)) ?_ ?_
       ·
         intro J_ K_ hJ_ hK_
         have H := HC57.out
         clear HC57
         by_cases c58 : t334 = true
         ·
          subst c58
          have H1 : ((some (([2, 3, 5, 7, 11, 13] : List Int) : List Int)).bind fun y352 => (laws_FnPlacesOfPatternsOfAll.l0 kj24 l0 a1 l2 a3 a4 l5 a6 l7 l8 l9 a10 t333 t337 t338 t345 t346 1 y352 (y352.length : Int) 0)) = some r := by rw [if_pos rfl] at H; exact H
          clear H
          have H := H1
          clear H1
          obtain ⟨y352, hy352⟩ : ∃ y_ : List Int, y_ = (([2, 3, 5, 7, 11, 13] : List Int)) := ⟨_, rfl⟩
          replace H : (laws_FnPlacesOfPatternsOfAll.l0 kj24 l0 a1 l2 a3 a4 l5 a6 l7 l8 l9 a10 t333 t337 t338 t345 t346 1 y352 (y352.length : Int) 0) = some r := by first | (rw [hy352]; with_reducible exact H) | (have H2_ := (Option.bind_some _ _).symm.trans H; rw [hy352]; with_reducible exact H2_) | (have H2_ := (Option.bind_some _ _).symm.trans H; with_reducible exact H2_) | with_reducible exact H | (rw [hy352]; exact H) | exact H
          have Ny352 := Aside0.mk hy352
          clear hy352
          have H' := Aside0.mk H
          clear H
          go_wp2_with (first | ((with_reducible refine gate_dst (N := 192) rfl ?_); (try (refine gate_guard (by rfl) ?_; dsimp only)); refine Kd.R_lit (Kd.int .i64) _ 3 ?hg (N := 192) ?hd (xs := ([2, 3, 5, 7, 11, 13] : List Int)) (inner := [.int .i64 2, .int .i64 3, .int .i64 5, .int .i64 7, .int .i64 11, .int .i64 13]) (ok := fun _ => True) (okp := fun _ => True) ?hr ?hp (fun _ hk => hk) trivial (Below.refl _ _) (Nat.le_refl _) (by simp) ?_; (case hd => rfl); (case hg => rfl); (case hr => first | (go_simp; done) | (go_simp; rfl)); (case hp => exact (Reps.one (show Kd.M (Kd.int .i64) _ _ _ 2 [.int .i64 2] from rfl) (Reps.one (show Kd.M (Kd.int .i64) _ _ _ 3 [.int .i64 3] from rfl) (Reps.one (show Kd.M (Kd.int .i64) _ _ _ 5 [.int .i64 5] from rfl) (Reps.one (show Kd.M (Kd.int .i64) _ _ _ 7 [.int .i64 7] from rfl) (Reps.one (show Kd.M (Kd.int .i64) _ _ _ 11 [.int .i64 11] from rfl) (Reps.one (show Kd.M (Kd.int .i64) _ _ _ 13 [.int .i64 13] from rfl) (Reps.none _ _)))))))); intro v353 w59 ho60 hb hg_ hnew_; clear hg_ hnew_; (first | rw [← Ny352.out] at ho60 | (simp only [Int.reduceToNat] at ho60; rw [← Ny352.out] at ho60)); have n0_ := Aside0.mk (Kd.R_below (by (with_reducible repeat (first | apply Kd.R_alloc | apply Kd.R_drewN | apply Kd.R_drew)); exact HO_27.out) hb); have n1_ := Aside0.mk (Kd.R_lower ho60 (below_size (by repeat (first | (with_reducible first | exact HB.out | apply below_alloc | apply pw_below_drewN | apply below_drew1))))); have n2_ := Aside0.mk (below_step (by repeat (first | (with_reducible first | exact HB.out | apply below_alloc | apply pw_below_drewN | apply below_drew1))) hb); clear HO_27; clear HB; have HO_27 := n0_; have HO354 := n1_; have HB := n2_; clear n0_ n1_ n2_; clear hb ho60; obtain ⟨Ao61, co61, eo61⟩ := Kd.R_slice HO354.out; subst eo61))
          go_loopg [37, 194] kj24 (fun kq v37 v194 w' => ∃ (x37_3 : Int) (x194_3 : Int), v37 = .int .i64 x37_3 ∧ v194 = .int .i64 x194_3 ∧ Aside0 (laws_FnPlacesOfPatternsOfAll.l0 kq l0 a1 l2 a3 a4 l5 a6 l7 l8 l9 a10 t333 t337 t338 t345 t346 x37_3 y352 (y352.length : Int) x194_3 = some r) ∧ Aside0 (kq ≤ kj24) ∧ Aside0 (Kd.R k53 53 w' w.heap.size (fun _ => True) v339 t337) ∧ Aside0 (Kd.R (Kd.int .i64) 3 w' w.heap.size (fun _ => True) (.slice Ao61 y352.length co61) y352) ∧ Aside0 (Below w.heap.size w w'))
          case atStart => exact ⟨(1), (0), (by first | rfl | (simp; done) | (simp [*]; done)), (by first | rfl | (simp; done) | (simp [*]; done)), H', ⟨Nat.le_refl _⟩, ⟨by (with_reducible repeat (first | apply Kd.R_alloc | apply Kd.R_drewN | apply Kd.R_drew)); exact HO_27.out⟩, ⟨by (with_reducible repeat (first | apply Kd.R_alloc | apply Kd.R_drewN | apply Kd.R_drew)); exact HO354.out⟩, ⟨by repeat (first | (with_reducible first | exact HB.out | apply below_alloc | apply pw_below_drewN | apply below_drew1))⟩⟩
          case round =>
           clear H'
           obtain ⟨x37_3, x194_3, rfl, rfl, HA, HK3, HO_27, HO_192, HB⟩ := hrel
           cases gk with
           | zero => exact absurd HA.out (by simp [laws_FnPlacesOfPatternsOfAll.l0])
           | succ k3 =>
            have H := HA.out
            clear HA
            simp only [laws_FnPlacesOfPatternsOfAll.l0] at H
            by_cases c62 : x194_3 < (y352.length : Int)
            ·
             rw [if_pos c62] at H
             have c62b0 : decide (x194_3 < (y352.length : Int)) = true := decide_eq_true c62
             clear c62
             (first | rw [c62b0] | (simp only [i64_w, i32_w]; rw [c62b0]) | skip)
             by_cases c63 : 0 ≤ x194_3
             ·
              rw [if_pos c63] at H
              have c63b0 : decide (0 ≤ x194_3) = true := decide_eq_true c63
              clear c63
              by_cases c64 : x194_3 < (y352.length : Int)
              ·
               rw [if_pos c64] at H
               have c64b0 : decide (x194_3 < (y352.length : Int)) = true := decide_eq_true c64
               clear c64
               by_cases c65 : x194_3 < a1
               ·
                rw [if_pos c65] at H
                have c65b0 : decide (x194_3 < a1) = true := decide_eq_true c65
                clear c65
                have H' := Aside0.mk H
                clear H
                have p355 : 0 ≤ (x194_3 : Int) := of_decide_eq_true (by first | (with_reducible assumption) | assumption)
                have q355 : x194_3 < (y352.length : Int) := of_decide_eq_true (by first | (with_reducible assumption) | assumption)
                obtain ⟨ad355, e355, hx355_0⟩ := Kd.at_int (Kd.R_reads' HO_192.out).2.2 x194_3 p355 q355
                cases e355
                replace p355 := eq_true p355
                replace q355 := eq_true q355
                go_wp2
                go_roundg k3
                case measure => have := HJ11.out; have := HJ24.out; have := HK3.out; omega
                case rel => exact ⟨(wrap64 (x37_3 * (rd y352 x194_3))), (wrap64 (x194_3 + 1)), (by first | rfl | (simp; done) | (simp [*]; done)), (by first | rfl | (simp; done) | (simp [*]; done)), H', ⟨by have := HJ11.out; have := HJ24.out; have := HK3.out; omega⟩, ⟨by (with_reducible repeat (first | apply Kd.R_alloc | apply Kd.R_drewN | apply Kd.R_drew)); exact HO_27.out⟩, ⟨by (with_reducible repeat (first | apply Kd.R_alloc | apply Kd.R_drewN | apply Kd.R_drew)); exact HO_192.out⟩, ⟨by repeat (first | (with_reducible first | exact HB.out | apply below_alloc | apply pw_below_drewN | apply below_drew1))⟩⟩
               ·
                rw [if_neg c65] at H
                have c65b0 : decide (x194_3 < a1) = false := decide_eq_false c65
                clear c65
                have H' := Aside0.mk H
                clear H
                have p355 : 0 ≤ (x194_3 : Int) := of_decide_eq_true (by first | (with_reducible assumption) | assumption)
                have q355 : x194_3 < (y352.length : Int) := of_decide_eq_true (by first | (with_reducible assumption) | assumption)
                obtain ⟨ad355, e355, hx355_0⟩ := Kd.at_int (Kd.R_reads' HO_192.out).2.2 x194_3 p355 q355
                cases e355
                replace p355 := eq_true p355
                replace q355 := eq_true q355
                go_wp2
                go_roundg k3
                case measure => have := HJ11.out; have := HJ24.out; have := HK3.out; omega
                case rel => exact ⟨(x37_3), (wrap64 (x194_3 + 1)), (by first | rfl | (simp; done) | (simp [*]; done)), (by first | rfl | (simp; done) | (simp [*]; done)), H', ⟨by have := HJ11.out; have := HJ24.out; have := HK3.out; omega⟩, ⟨by (with_reducible repeat (first | apply Kd.R_alloc | apply Kd.R_drewN | apply Kd.R_drew)); exact HO_27.out⟩, ⟨by (with_reducible repeat (first | apply Kd.R_alloc | apply Kd.R_drewN | apply Kd.R_drew)); exact HO_192.out⟩, ⟨by repeat (first | (with_reducible first | exact HB.out | apply below_alloc | apply pw_below_drewN | apply below_drew1))⟩⟩
              ·
               rw [if_neg c64] at H
               exact absurd H (by simp)
             ·
              rw [if_neg c63] at H
              exact absurd H (by simp)
            ·
             rw [if_neg c62] at H
             have c62b0 : decide (x194_3 < (y352.length : Int)) = false := decide_eq_false c62
             clear c62
             (first | rw [c62b0] | (simp only [i64_w, i32_w]; rw [c62b0]) | skip)
             have HC66 := Aside0.mk H
             clear H
             go_upto_region 19 with (fail)
             refine cutF mk0 [] (fun u_ wc => ∃ (kq : Nat) (x221_65 : Bool), (u_ 221) = .bool x221_65 ∧ Aside0 (laws_FnPlacesOfPatternsOfAll.j3 kq l0 a1 l2 a3 a4 l5 a6 l7 l8 l9 a10 t333 t337 t338 x37_3 x221_65 = some r) ∧ Aside0 (kq ≤ k3) ∧ Aside0 (Kd.R k53 53 wc w.heap.size (fun _ => True) v339 t337) ∧ Aside0 (Below w.heap.size w wc)) ?_ ?_
             ·
              as_aux_lemma =>
               intro J_ K_ hJ_ hK_
               have H := HC66.out
               clear HC66
               by_cases c67 : (wrap64 (t333 * t346)) = (wrap64 (t345 * x37_3))
               ·
                rw [if_pos c67] at H
                have c67b0 : ((wrap64 (t333 * t346)) == (wrap64 (t345 * x37_3))) = true := beq_iff_eq.mpr c67
                have c67b1 : ((wrap64 (t333 * t346)) != (wrap64 (t345 * x37_3))) = false := bne_eq_false_iff_eq.mpr c67
                clear c67
                (first | rw [c67b0] | (simp only [i64_w, i32_w]; rw [c67b0]) | skip)
                by_cases c68 : t333 < 0
                ·
                 rw [if_pos c68] at H
                 exact (laws_FnPlacesOfPatternsOfAll.j3_no _ _ _ _ _ _ _ _ _ _ _ _ _ _ _ _ (H.trans (congrArg some HRT.out))).elim
                ·
                 rw [if_neg c68] at H
                 have c68b0 : decide (t333 < 0) = false := decide_eq_false c68
                 clear c68
                 have H' := Aside0.mk H
                 clear H
                 go_wp2
                 refine cutMeet hJ_ ?_ (by kernel_rfl)
                 exact ⟨_, (decide (t333 > x37_3)), (by first | rfl | (simp; done) | (simp [*]; done)), H', ⟨by have := HJ11.out; have := HJ24.out; have := HK3.out; first | omega | exact Nat.le_refl _⟩, ⟨by (with_reducible repeat (first | apply Kd.R_alloc | apply Kd.R_drewN | apply Kd.R_drew)); exact HO_27.out⟩, ⟨by repeat (first | (with_reducible first | exact HB.out | apply below_alloc | apply pw_below_drewN | apply below_drew1))⟩⟩
               ·
                rw [if_neg c67] at H
                exact (laws_FnPlacesOfPatternsOfAll.j3_no _ _ _ _ _ _ _ _ _ _ _ _ _ _ _ _ (H.trans (congrArg some HRT.out))).elim
             ·
              intro u_ wc hcut
              clear HC66
              obtain ⟨kq, x221_65, e_221, HA, HJ65, HO_27, HB⟩ := hcut
              dsimp only [cutFgt, mk0]
              rw [e_221]
              cases kq with
              | zero => exact absurd HA.out (by simp [laws_FnPlacesOfPatternsOfAll.j3])
              | succ kj65 =>
               have H := HA.out
               clear HA
               simp only [laws_FnPlacesOfPatternsOfAll.j3] at H
               by_cases c69 : x221_65 = true
               ·
                subst c69
                have H1 : (some false) = some r := by rw [if_pos rfl] at H; exact H
                clear H
                have H := H1
                clear H1
                exact absurd (Option.some.inj (H.trans (congrArg some HRT.out))) Bool.false_ne_true
               ·
                replace c69 := Bool.eq_false_iff.mpr c69
                subst c69
                have H1 : (if x37_3 ≤ 600 then ((impl_FirstPlaces.f kj65 l0 a1 x37_3).bind fun bt356 => (if bt356.2 = true then (if (bt356.1.length : Int) = t333 then (laws_FnPlacesOfPatternsOfAll.j4 kj65 l2 a3 a4 l5 a6 l7 l8 l9 a10 t333 t337 t338 x37_3) else (some false)) else (some false))) else (laws_FnPlacesOfPatternsOfAll.j4 kj65 l2 a3 a4 l5 a6 l7 l8 l9 a10 t333 t337 t338 x37_3)) = some r := by rw [if_neg (show ¬ (false = true) by decide)] at H; exact H
                clear H
                have H := H1
                clear H1
                have HC70 := Aside0.mk H
                clear H
                go_upto_if 223 with (fail)
                refine cutF mk0 [none, none, none, none, none, none, none, none, none, none, none, none, none, none, none, none, none, none, none, none, none, none, some 22, none, none, none, none, none, none, none, none, none, none, none, none, none, none, none, none, none, some 40, some 41] (fun u_ wc => ∃ (kq : Nat), Aside0 (laws_FnPlacesOfPatternsOfAll.j4 kq l2 a3 a4 l5 a6 l7 l8 l9 a10 t333 t337 t338 x37_3 = some r) ∧ Aside0 (kq ≤ kj65) ∧ Aside0 (Kd.R k53 53 wc w.heap.size (fun _ => True) v339 t337) ∧ Aside0 (Below w.heap.size w wc)) ?_ ?_
                ·
                 as_aux_lemma =>
                  intro J_ K_ hJ_ hK_
                  have H := HC70.out
                  clear HC70
                  by_cases c71 : x37_3 ≤ 600
                  ·
                   rw [if_pos c71] at H
                   have c71b0 : decide (x37_3 ≤ 600) = true := decide_eq_true c71
                   clear c71
                   (first | rw [c71b0] | (simp only [i64_w, i32_w]; rw [c71b0]) | skip)
                   replace H := Option.bind_eq_some_iff.mp H
                   obtain ⟨⟨t356, t357⟩, A720, H⟩ := H
                   replace H : (if t357 = true then (if (t356.length : Int) = t333 then (laws_FnPlacesOfPatternsOfAll.j4 kj65 l2 a3 a4 l5 a6 l7 l8 l9 a10 t333 t337 t338 x37_3) else (some false)) else (some false)) = some r := H
                   have A72 := Aside0.mk A720
                   clear A720
                   by_cases c73 : t357 = true
                   ·
                    subst c73
                    have H1 : (if (t356.length : Int) = t333 then (laws_FnPlacesOfPatternsOfAll.j4 kj65 l2 a3 a4 l5 a6 l7 l8 l9 a10 t333 t337 t338 x37_3) else (some false)) = some r := by rw [if_pos rfl] at H; exact H
                    clear H
                    have H := H1
                    clear H1
                    by_cases c74 : (t356.length : Int) = t333
                    ·
                     rw [if_pos c74] at H
                     have c74b0 : ((t356.length : Int) == t333) = true := beq_iff_eq.mpr c74
                     have c74b1 : ((t356.length : Int) != t333) = false := bne_eq_false_iff_eq.mpr c74
                     clear c74
                     have H' := Aside0.mk H
                     clear H
                     go_wp2_with (first | ((with_reducible refine gate_callee (f := 11) rfl ?_); refine goesL_ (some 228) rfl rfl Try.func11 (by kernel_rfl) rfl #[.slice A0 l0.length c0, .int .i64 a1, .int .i64 x37_3] rfl (by (try simp only [List.map_toArray, List.map_cons, List.map_nil]); first | done | rfl | (simp only [List.length_drop, List.length_take]; rfl)) ?_; (with_reducible refine (impl_FirstPlaces.calls kj65 _ _ l0 a1 x37_3 t356 true _ ?side1 ?side2 A72.out).mono ?_); (case side1 => repeat (first | exact (Kd.C_below HR0.out HB.out) | (with_reducible refine Kd.C_alloc ?_ _) | (with_reducible refine Kd.C_drewN ?_ _) | (with_reducible refine Kd.C_drew ?_))); (case side2 => exact HC0.out); rintro e w75 ⟨v358, rfl, ho0, hb⟩; refine ⟨_, rfl, ?_⟩; have n0_ := Aside0.mk (Kd.R_below (by (with_reducible repeat (first | apply Kd.R_alloc | apply Kd.R_drewN | apply Kd.R_drew)); exact HO_27.out) hb); have n1_ := Aside0.mk (Kd.R_lower ho0 (below_size (by repeat (first | (with_reducible first | exact HB.out | apply below_alloc | apply pw_below_drewN | apply below_drew1))))); have n2_ := Aside0.mk (below_step (by repeat (first | (with_reducible first | exact HB.out | apply below_alloc | apply pw_below_drewN | apply below_drew1))) hb); clear HO_27; clear HB; have HO_27 := n0_; have HO359 := n1_; have HB := n2_; clear n0_ n1_ n2_; (try clear hb); (try clear ho0); obtain ⟨Ao76, co76, eo76⟩ := Kd.R_slice HO359.out; subst eo76))
                     refine cutMeet hJ_ ?_ (by kernel_rfl)
                     exact ⟨_, H', ⟨by have := HJ11.out; have := HJ24.out; have := HK3.out; have := HJ65.out; first | omega | exact Nat.le_refl _⟩, ⟨by (with_reducible repeat (first | apply Kd.R_alloc | apply Kd.R_drewN | apply Kd.R_drew)); exact HO_27.out⟩, ⟨by repeat (first | (with_reducible first | exact HB.out | apply below_alloc | apply pw_below_drewN | apply below_drew1))⟩⟩
                    ·
                     rw [if_neg c74] at H
                     have c74b0 : ((t356.length : Int) == t333) = false := beq_eq_false_iff_ne.mpr c74
                     have c74b1 : ((t356.length : Int) != t333) = true := bne_iff_ne.mpr c74
                     exact absurd (Option.some.inj (H.trans (congrArg some HRT.out))) Bool.false_ne_true
                   ·
                    replace c73 := Bool.eq_false_iff.mpr c73
                    subst c73
                    have H1 : (some false) = some r := by rw [if_neg (show ¬ (false = true) by decide)] at H; exact H
                    clear H
                    have H := H1
                    clear H1
                    exact absurd (Option.some.inj (H.trans (congrArg some HRT.out))) Bool.false_ne_true
                  ·
                   rw [if_neg c71] at H
                   have c71b0 : decide (x37_3 ≤ 600) = false := decide_eq_false c71
                   clear c71
                   (first | rw [c71b0] | (simp only [i64_w, i32_w]; rw [c71b0]) | skip)
                   have H' := Aside0.mk H
                   clear H
                   go_wp2
                   refine cutMeet hJ_ ?_ (by kernel_rfl)
                   exact ⟨_, H', ⟨by have := HJ11.out; have := HJ24.out; have := HK3.out; have := HJ65.out; first | omega | exact Nat.le_refl _⟩, ⟨by (with_reducible repeat (first | apply Kd.R_alloc | apply Kd.R_drewN | apply Kd.R_drew)); exact HO_27.out⟩, ⟨by repeat (first | (with_reducible first | exact HB.out | apply below_alloc | apply pw_below_drewN | apply below_drew1))⟩⟩
                ·
                 intro u_ wc hcut
                 clear HC70
                 obtain ⟨kq, HA, HJ69, HO_27, HB⟩ := hcut
                 dsimp only [cutFgt, mk0]
                 cases kq with
                 | zero => exact absurd HA.out (by simp [laws_FnPlacesOfPatternsOfAll.j4])
                 | succ kj69 =>
                  have H := HA.out
                  clear HA
                  simp only [laws_FnPlacesOfPatternsOfAll.j4] at H
                  have HC80 := Aside0.mk H
                  clear H
                  go_upto_region 25 with (fail)
                  refine cutF mk0 [] (fun u_ wc => ∃ (kq : Nat) (x244_79 : Bool), (u_ 244) = .bool x244_79 ∧ Aside0 (laws_FnPlacesOfPatternsOfAll.j5 kq l2 a3 a4 l5 a6 l7 l8 l9 a10 t333 t337 x37_3 x244_79 = some r) ∧ Aside0 (kq ≤ kj69) ∧ Aside0 (Kd.R k53 53 wc w.heap.size (fun _ => True) v339 t337) ∧ Aside0 (Below w.heap.size w wc)) ?_ ?_
                  ·
                   as_aux_lemma =>
                    intro J_ K_ hJ_ hK_
                    have H := HC80.out
                    clear HC80
                    by_cases c81 : t338 = true
                    ·
                     subst c81
                     have H1 : (laws_FnPlacesOfPatternsOfAll.j5 kj69 l2 a3 a4 l5 a6 l7 l8 l9 a10 t333 t337 x37_3 (decide ((t337.length : Int) > 0))) = some r := by rw [if_pos rfl] at H; exact H
                     clear H
                     have H := H1
                     clear H1
                     have H' := Aside0.mk H
                     clear H
                     obtain ⟨Ao82, co82, eo82⟩ := Kd.R_slice HO_27.out
                     subst eo82
                     go_wp2
                     refine cutMeet hJ_ ?_ (by kernel_rfl)
                     exact ⟨_, (decide ((t337.length : Int) > 0)), (by first | rfl | (simp; done) | (simp [*]; done)), H', ⟨by have := HJ11.out; have := HJ24.out; have := HK3.out; have := HJ65.out; have := HJ69.out; first | omega | exact Nat.le_refl _⟩, ⟨by (with_reducible repeat (first | apply Kd.R_alloc | apply Kd.R_drewN | apply Kd.R_drew)); exact HO_27.out⟩, ⟨by repeat (first | (with_reducible first | exact HB.out | apply below_alloc | apply pw_below_drewN | apply below_drew1))⟩⟩
                    ·
                     replace c81 := Bool.eq_false_iff.mpr c81
                     subst c81
                     have H1 : (laws_FnPlacesOfPatternsOfAll.j5 kj69 l2 a3 a4 l5 a6 l7 l8 l9 a10 t333 t337 x37_3 false) = some r := by rw [if_neg (show ¬ (false = true) by decide)] at H; exact H
                     clear H
                     have H := H1
                     clear H1
                     have H' := Aside0.mk H
                     clear H
                     go_wp2
                     refine cutMeet hJ_ ?_ (by kernel_rfl)
                     exact ⟨_, (false), (by first | rfl | (simp; done) | (simp [*]; done)), H', ⟨by have := HJ11.out; have := HJ24.out; have := HK3.out; have := HJ65.out; have := HJ69.out; first | omega | exact Nat.le_refl _⟩, ⟨by (with_reducible repeat (first | apply Kd.R_alloc | apply Kd.R_drewN | apply Kd.R_drew)); exact HO_27.out⟩, ⟨by repeat (first | (with_reducible first | exact HB.out | apply below_alloc | apply pw_below_drewN | apply below_drew1))⟩⟩
                  ·
                   intro u_ wc hcut
                   clear HC80
                   obtain ⟨kq, x244_79, e_244, HA, HJ79, HO_27, HB⟩ := hcut
                   dsimp only [cutFgt, mk0]
                   rw [e_244]
                   cases kq with
                   | zero => exact absurd HA.out (by simp [laws_FnPlacesOfPatternsOfAll.j5])
                   | succ kj79 =>
                    have H := HA.out
                    clear HA
                    simp only [laws_FnPlacesOfPatternsOfAll.j5] at H
                    by_cases c83 : x244_79 = true
                    ·
                     subst c83
                     have H1 : ((impl_LeftInPeriod.f kj79 t337).bind fun bt360 => ((impl_PeriodOfRules.f kj79 t337).bind fun bt362 => (if bt360.2 = true then (if bt362.2 = true then (if (wrap64 (bt360.1 * x37_3)) = (wrap64 (t333 * bt362.1)) then (laws_FnPlacesOfPatternsOfAll.j6 kj79 l2 a3 a4 l5 a6 l7 l8 l9 a10) else (some false)) else (some false)) else (some false)))) = some r := by rw [if_pos rfl] at H; exact H
                     clear H
                     have H := H1
                     clear H1
                     replace H := Option.bind_eq_some_iff.mp H
                     obtain ⟨⟨t360, t361⟩, A840, H⟩ := H
                     replace H : ((impl_PeriodOfRules.f kj79 t337).bind fun bt362 => (if t361 = true then (if bt362.2 = true then (if (wrap64 (t360 * x37_3)) = (wrap64 (t333 * bt362.1)) then (laws_FnPlacesOfPatternsOfAll.j6 kj79 l2 a3 a4 l5 a6 l7 l8 l9 a10) else (some false)) else (some false)) else (some false))) = some r := H
                     have A84 := Aside0.mk A840
                     clear A840
                     replace H := Option.bind_eq_some_iff.mp H
                     obtain ⟨⟨t362, t363⟩, A850, H⟩ := H
                     replace H : (if t361 = true then (if t363 = true then (if (wrap64 (t360 * x37_3)) = (wrap64 (t333 * t362)) then (laws_FnPlacesOfPatternsOfAll.j6 kj79 l2 a3 a4 l5 a6 l7 l8 l9 a10) else (some false)) else (some false)) else (some false)) = some r := H
                     have A85 := Aside0.mk A850
                     clear A850
                     by_cases c86 : t361 = true
                     ·
                      subst c86
                      have H1 : (if t363 = true then (if (wrap64 (t360 * x37_3)) = (wrap64 (t333 * t362)) then (laws_FnPlacesOfPatternsOfAll.j6 kj79 l2 a3 a4 l5 a6 l7 l8 l9 a10) else (some false)) else (some false)) = some r := by rw [if_pos rfl] at H; exact H
                      clear H
                      have H := H1
                      clear H1
                      by_cases c87 : t363 = true
                      ·
                       subst c87
                       have H1 : (if (wrap64 (t360 * x37_3)) = (wrap64 (t333 * t362)) then (laws_FnPlacesOfPatternsOfAll.j6 kj79 l2 a3 a4 l5 a6 l7 l8 l9 a10) else (some false)) = some r := by rw [if_pos rfl] at H; exact H
                       clear H
                       have H := H1
                       clear H1
                       by_cases c88 : (wrap64 (t360 * x37_3)) = (wrap64 (t333 * t362))
                       ·
                        rw [if_pos c88] at H
                        have c88b0 : ((wrap64 (t360 * x37_3)) == (wrap64 (t333 * t362))) = true := beq_iff_eq.mpr c88
                        have c88b1 : ((wrap64 (t360 * x37_3)) != (wrap64 (t333 * t362))) = false := bne_eq_false_iff_eq.mpr c88
                        clear c88
                        have H' := Aside0.mk H
                        clear H
                        obtain ⟨Ao89, co89, eo89⟩ := Kd.R_slice HO_27.out
                        subst eo89
                        go_wp2_with (first | ((with_reducible refine gate_callee (f := 12) rfl ?_); refine goesL_ (some 247) rfl rfl Try.func12 (by kernel_rfl) rfl #[.slice Ao89 t337.length co89] rfl (by (try simp only [List.map_toArray, List.map_cons, List.map_nil]); first | done | rfl | (simp only [List.length_drop, List.length_take]; rfl)) ?_; (with_reducible refine (impl_LeftInPeriod.calls kj79 _ _ t337 t360 true _ ?side1 ?side2 A84.out).mono ?_); (case side1 => repeat (first | exact (Kd.R_reads' HO_27.out).2.2 | (with_reducible refine Kd.C_alloc ?_ _) | (with_reducible refine Kd.C_drewN ?_ _) | (with_reducible refine Kd.C_drew ?_))); (case side2 => exact (Kd.R_reads' HO_27.out).2.1); rintro e w90 ⟨rfl, hb⟩; refine ⟨_, rfl, ?_⟩; have n0_ := Aside0.mk (Kd.R_below (by (with_reducible repeat (first | apply Kd.R_alloc | apply Kd.R_drewN | apply Kd.R_drew)); exact HO_27.out) hb); have n1_ := Aside0.mk (below_step (by repeat (first | (with_reducible first | exact HB.out | apply below_alloc | apply pw_below_drewN | apply below_drew1))) hb); clear HO_27; clear HB; have HO_27 := n0_; have HB := n1_; clear n0_ n1_; (try clear hb)) | ((with_reducible refine gate_callee (f := 13) rfl ?_); refine goesL_ (some 252) rfl rfl Try.func13 (by kernel_rfl) rfl #[.slice Ao89 t337.length co89] rfl (by (try simp only [List.map_toArray, List.map_cons, List.map_nil]); first | done | rfl | (simp only [List.length_drop, List.length_take]; rfl)) ?_; (with_reducible refine (impl_PeriodOfRules.calls kj79 _ _ t337 t362 true _ ?side1 ?side2 A85.out).mono ?_); (case side1 => repeat (first | exact (Kd.R_reads' HO_27.out).2.2 | (with_reducible refine Kd.C_alloc ?_ _) | (with_reducible refine Kd.C_drewN ?_ _) | (with_reducible refine Kd.C_drew ?_))); (case side2 => exact (Kd.R_reads' HO_27.out).2.1); rintro e w91 ⟨rfl, hb⟩; refine ⟨_, rfl, ?_⟩; have n0_ := Aside0.mk (Kd.R_below (by (with_reducible repeat (first | apply Kd.R_alloc | apply Kd.R_drewN | apply Kd.R_drew)); exact HO_27.out) hb); have n1_ := Aside0.mk (below_step (by repeat (first | (with_reducible first | exact HB.out | apply below_alloc | apply pw_below_drewN | apply below_drew1))) hb); clear HO_27; clear HB; have HO_27 := n0_; have HB := n1_; clear n0_ n1_; (try clear hb)))
                        refine cutMeet hJ_ ?_ (by kernel_rfl)
                        exact ⟨_, H', ⟨by have := HJ11.out; have := HJ24.out; have := HK3.out; have := HJ65.out; have := HJ69.out; have := HJ79.out; first | omega | exact Nat.le_refl _⟩, ⟨by repeat (first | (with_reducible first | exact HB.out | apply below_alloc | apply pw_below_drewN | apply below_drew1))⟩⟩
                       ·
                        rw [if_neg c88] at H
                        have c88b0 : ((wrap64 (t360 * x37_3)) == (wrap64 (t333 * t362))) = false := beq_eq_false_iff_ne.mpr c88
                        have c88b1 : ((wrap64 (t360 * x37_3)) != (wrap64 (t333 * t362))) = true := bne_iff_ne.mpr c88
                        exact absurd (Option.some.inj (H.trans (congrArg some HRT.out))) Bool.false_ne_true
                      ·
                       replace c87 := Bool.eq_false_iff.mpr c87
                       subst c87
                       have H1 : (some false) = some r := by rw [if_neg (show ¬ (false = true) by decide)] at H; exact H
                       clear H
                       have H := H1
                       clear H1
                       exact absurd (Option.some.inj (H.trans (congrArg some HRT.out))) Bool.false_ne_true
                     ·
                      replace c86 := Bool.eq_false_iff.mpr c86
                      subst c86
                      have H1 : (some false) = some r := by rw [if_neg (show ¬ (false = true) by decide)] at H; exact H
                      clear H
                      have H := H1
                      clear H1
                      exact absurd (Option.some.inj (H.trans (congrArg some HRT.out))) Bool.false_ne_true
                    ·
                     replace c83 := Bool.eq_false_iff.mpr c83
                     subst c83
                     have H1 : (laws_FnPlacesOfPatternsOfAll.j6 kj79 l2 a3 a4 l5 a6 l7 l8 l9 a10) = some r := by rw [if_neg (show ¬ (false = true) by decide)] at H; exact H
                     clear H
                     have H := H1
                     clear H1
                     have H' := Aside0.mk H
                     clear H
                     go_wp2
                     refine cutMeet hJ_ ?_ (by kernel_rfl)
                     exact ⟨_, H', ⟨by have := HJ11.out; have := HJ24.out; have := HK3.out; have := HJ65.out; have := HJ69.out; have := HJ79.out; first | omega | exact Nat.le_refl _⟩, ⟨by repeat (first | (with_reducible first | exact HB.out | apply below_alloc | apply pw_below_drewN | apply below_drew1))⟩⟩
         ·
          replace c58 := Bool.eq_false_iff.mpr c58
          subst c58
          have H1 : (laws_FnPlacesOfPatternsOfAll.j6 kj24 l2 a3 a4 l5 a6 l7 l8 l9 a10) = some r := by rw [if_neg (show ¬ (false = true) by decide)] at H; exact H
          clear H
          have H := H1
          clear H1
          have H' := Aside0.mk H
          clear H
          go_wp2
          refine cutMeet hJ_ ?_ (by kernel_rfl)
          exact ⟨_, H', ⟨by have := HJ11.out; have := HJ24.out; first | omega | exact Nat.le_refl _⟩, ⟨by repeat (first | (with_reducible first | exact HB.out | apply below_alloc | apply pw_below_drewN | apply below_drew1))⟩⟩
       ·
        intro u_ wc hcut
        clear HC57
        obtain ⟨kq, HA, HJ56, HB⟩ := hcut
        dsimp only [cutFgt, mk0]
        cases kq with
        | zero => exact absurd HA.out (by simp [laws_FnPlacesOfPatternsOfAll.j6])
        | succ kj56 =>
         have H := HA.out
         clear HA
         simp only [laws_FnPlacesOfPatternsOfAll.j6] at H
         replace H := Option.bind_eq_some_iff.mp H
         obtain ⟨⟨t364, t365⟩, A1010, H⟩ := H
         replace H : ((spec_FirstPlaces.f kj56 l2 a3 a4).bind fun bt368 => ((impl_PrimePlaces.f kj56 l5 a6).bind fun bt372 => ((spec_PrimePlaces.f kj56 l5 a6).bind fun bt376 => (if (t365 != bt368.2) = true then (laws_FnPlacesOfPatternsOfAll.j7 kj56 l2 a3 a4 l5 l7 l8 l9 a10 t364 t365 bt372.1 bt372.2 true) else ((laws_tSame.f kj56 t364 bt368.1).bind fun t380 => (if t380 = true then (if (bt372.2 != bt376.2) = true then (laws_FnPlacesOfPatternsOfAll.j7 kj56 l2 a3 a4 l5 l7 l8 l9 a10 t364 t365 bt372.1 bt372.2 true) else ((laws_tSame.f kj56 bt372.1 bt376.1).bind fun t381 => (laws_FnPlacesOfPatternsOfAll.j7 kj56 l2 a3 a4 l5 l7 l8 l9 a10 t364 t365 bt372.1 bt372.2 (!t381)))) else (laws_FnPlacesOfPatternsOfAll.j7 kj56 l2 a3 a4 l5 l7 l8 l9 a10 t364 t365 bt372.1 bt372.2 true))))))) = some r := H
         have A101 := Aside0.mk A1010
         clear A1010
         replace H := Option.bind_eq_some_iff.mp H
         obtain ⟨⟨t368, t369⟩, A1020, H⟩ := H
         replace H : ((impl_PrimePlaces.f kj56 l5 a6).bind fun bt372 => ((spec_PrimePlaces.f kj56 l5 a6).bind fun bt376 => (if (t365 != t369) = true then (laws_FnPlacesOfPatternsOfAll.j7 kj56 l2 a3 a4 l5 l7 l8 l9 a10 t364 t365 bt372.1 bt372.2 true) else ((laws_tSame.f kj56 t364 t368).bind fun t380 => (if t380 = true then (if (bt372.2 != bt376.2) = true then (laws_FnPlacesOfPatternsOfAll.j7 kj56 l2 a3 a4 l5 l7 l8 l9 a10 t364 t365 bt372.1 bt372.2 true) else ((laws_tSame.f kj56 bt372.1 bt376.1).bind fun t381 => (laws_FnPlacesOfPatternsOfAll.j7 kj56 l2 a3 a4 l5 l7 l8 l9 a10 t364 t365 bt372.1 bt372.2 (!t381)))) else (laws_FnPlacesOfPatternsOfAll.j7 kj56 l2 a3 a4 l5 l7 l8 l9 a10 t364 t365 bt372.1 bt372.2 true)))))) = some r := H
         have A102 := Aside0.mk A1020
         clear A1020
         replace H := Option.bind_eq_some_iff.mp H
         obtain ⟨⟨t372, t373⟩, A1030, H⟩ := H
         replace H : ((spec_PrimePlaces.f kj56 l5 a6).bind fun bt376 => (if (t365 != t369) = true then (laws_FnPlacesOfPatternsOfAll.j7 kj56 l2 a3 a4 l5 l7 l8 l9 a10 t364 t365 t372 t373 true) else ((laws_tSame.f kj56 t364 t368).bind fun t380 => (if t380 = true then (if (t373 != bt376.2) = true then (laws_FnPlacesOfPatternsOfAll.j7 kj56 l2 a3 a4 l5 l7 l8 l9 a10 t364 t365 t372 t373 true) else ((laws_tSame.f kj56 t372 bt376.1).bind fun t381 => (laws_FnPlacesOfPatternsOfAll.j7 kj56 l2 a3 a4 l5 l7 l8 l9 a10 t364 t365 t372 t373 (!t381)))) else (laws_FnPlacesOfPatternsOfAll.j7 kj56 l2 a3 a4 l5 l7 l8 l9 a10 t364 t365 t372 t373 true))))) = some r := H
         have A103 := Aside0.mk A1030
         clear A1030
         replace H := Option.bind_eq_some_iff.mp H
         obtain ⟨⟨t376, t377⟩, A1040, H⟩ := H
         replace H : (if (t365 != t369) = true then (laws_FnPlacesOfPatternsOfAll.j7 kj56 l2 a3 a4 l5 l7 l8 l9 a10 t364 t365 t372 t373 true) else ((laws_tSame.f kj56 t364 t368).bind fun t380 => (if t380 = true then (if (t373 != t377) = true then (laws_FnPlacesOfPatternsOfAll.j7 kj56 l2 a3 a4 l5 l7 l8 l9 a10 t364 t365 t372 t373 true) else ((laws_tSame.f kj56 t372 t376).bind fun t381 => (laws_FnPlacesOfPatternsOfAll.j7 kj56 l2 a3 a4 l5 l7 l8 l9 a10 t364 t365 t372 t373 (!t381)))) else (laws_FnPlacesOfPatternsOfAll.j7 kj56 l2 a3 a4 l5 l7 l8 l9 a10 t364 t365 t372 t373 true)))) = some r := H
         have A104 := Aside0.mk A1040
         clear A1040
         have HC105 := Aside0.mk H
         clear H
         go_upto_region 34 with (first | ((with_reducible refine gate_callee (f := 11) rfl ?_); refine goesL_ (some 274) rfl rfl Try.func11 (by kernel_rfl) rfl #[.slice A2 l2.length c2, .int .i64 a3, .int .i64 a4] rfl (by (try simp only [List.map_toArray, List.map_cons, List.map_nil]); first | done | rfl | (simp only [List.length_drop, List.length_take]; rfl)) ?_; (with_reducible refine (impl_FirstPlaces.calls kj56 _ _ l2 a3 a4 t364 t365 _ ?side1 ?side2 A101.out).mono ?_); (case side1 => repeat (first | exact (Kd.C_below HR2.out HB.out) | (with_reducible refine Kd.C_alloc ?_ _) | (with_reducible refine Kd.C_drewN ?_ _) | (with_reducible refine Kd.C_drew ?_))); (case side2 => exact HC2.out); rintro e w106 ⟨v366, rfl, ho0, hb⟩; refine ⟨_, rfl, ?_⟩; have n0_ := Aside0.mk (Kd.R_lower ho0 (below_size (by repeat (first | (with_reducible first | exact HB.out | apply below_alloc | apply pw_below_drewN | apply below_drew1))))); have n1_ := Aside0.mk (below_step (by repeat (first | (with_reducible first | exact HB.out | apply below_alloc | apply pw_below_drewN | apply below_drew1))) hb); clear HB; have HO367 := n0_; have HB := n1_; clear n0_ n1_; (try clear hb); (try clear ho0)) | ((with_reducible refine gate_callee (f := 14) rfl ?_); refine goesL_ (some 281) rfl rfl Try.func14 (by kernel_rfl) rfl #[.slice A2 l2.length c2, .int .i64 a3, .int .i64 a4] rfl (by (try simp only [List.map_toArray, List.map_cons, List.map_nil]); first | done | rfl | (simp only [List.length_drop, List.length_take]; rfl)) ?_; (with_reducible refine (spec_FirstPlaces.calls kj56 _ _ l2 a3 a4 t368 t369 _ ?side1 ?side2 A102.out).mono ?_); (case side1 => repeat (first | exact (Kd.C_below HR2.out HB.out) | (with_reducible refine Kd.C_alloc ?_ _) | (with_reducible refine Kd.C_drewN ?_ _) | (with_reducible refine Kd.C_drew ?_))); (case side2 => exact HC2.out); rintro e w107 ⟨v370, rfl, ho0, hb⟩; refine ⟨_, rfl, ?_⟩; have n0_ := Aside0.mk (Kd.R_elder' (by (with_reducible repeat (first | apply Kd.R_alloc | apply Kd.R_drewN | apply Kd.R_drew)); exact HO367.out) (Kd.R_base ho0) hb); have n1_ := Aside0.mk (Kd.R_lower (Kd.R_new' ho0 (Kd.R_lt (by (with_reducible repeat (first | apply Kd.R_alloc | apply Kd.R_drewN | apply Kd.R_drew)); exact HO367.out))) (below_size (by repeat (first | (with_reducible first | exact HB.out | apply below_alloc | apply pw_below_drewN | apply below_drew1))))); have n2_ := Aside0.mk (below_step (by repeat (first | (with_reducible first | exact HB.out | apply below_alloc | apply pw_below_drewN | apply below_drew1))) hb); clear HO367; clear HB; have HO367 := n0_; have HO371 := n1_; have HB := n2_; clear n0_ n1_ n2_; (try clear hb); (try clear ho0)) | ((with_reducible refine gate_callee (f := 15) rfl ?_); refine goesL_ (some 287) rfl rfl Try.func15 (by kernel_rfl) rfl #[.slice A5 l5.length c5, .int .i64 a6] rfl (by (try simp only [List.map_toArray, List.map_cons, List.map_nil]); first | done | rfl | (simp only [List.length_drop, List.length_take]; rfl)) ?_; (with_reducible refine (impl_PrimePlaces.calls kj56 _ _ l5 a6 t372 t373 _ ?side1 ?side2 A103.out).mono ?_); (case side1 => repeat (first | exact (Kd.C_below HR5.out HB.out) | (with_reducible refine Kd.C_alloc ?_ _) | (with_reducible refine Kd.C_drewN ?_ _) | (with_reducible refine Kd.C_drew ?_))); (case side2 => exact HC5.out); rintro e w108 ⟨v374, rfl, ho0, hb⟩; refine ⟨_, rfl, ?_⟩; have n0_ := Aside0.mk (Kd.R_elder' (by (with_reducible repeat (first | apply Kd.R_alloc | apply Kd.R_drewN | apply Kd.R_drew)); exact HO367.out) (Kd.R_base ho0) hb); have n1_ := Aside0.mk (Kd.R_elder' (by (with_reducible repeat (first | apply Kd.R_alloc | apply Kd.R_drewN | apply Kd.R_drew)); exact HO371.out) (Kd.R_base ho0) hb); have n2_ := Aside0.mk (Kd.R_lower (Kd.R_new' (Kd.R_new' ho0 (Kd.R_lt (by (with_reducible repeat (first | apply Kd.R_alloc | apply Kd.R_drewN | apply Kd.R_drew)); exact HO367.out))) (Kd.R_lt (by (with_reducible repeat (first | apply Kd.R_alloc | apply Kd.R_drewN | apply Kd.R_drew)); exact HO371.out))) (below_size (by repeat (first | (with_reducible first | exact HB.out | apply below_alloc | apply pw_below_drewN | apply below_drew1))))); have n3_ := Aside0.mk (below_step (by repeat (first | (with_reducible first | exact HB.out | apply below_alloc | apply pw_below_drewN | apply below_drew1))) hb); clear HO367; clear HO371; clear HB; have HO367 := n0_; have HO371 := n1_; have HO375 := n2_; have HB := n3_; clear n0_ n1_ n2_ n3_; (try clear hb); (try clear ho0)) | ((with_reducible refine gate_callee (f := 16) rfl ?_); refine goesL_ (some 293) rfl rfl Try.func16 (by kernel_rfl) rfl #[.slice A5 l5.length c5, .int .i64 a6] rfl (by (try simp only [List.map_toArray, List.map_cons, List.map_nil]); first | done | rfl | (simp only [List.length_drop, List.length_take]; rfl)) ?_; (with_reducible refine (spec_PrimePlaces.calls kj56 _ _ l5 a6 t376 t377 _ ?side1 ?side2 A104.out).mono ?_); (case side1 => repeat (first | exact (Kd.C_below HR5.out HB.out) | (with_reducible refine Kd.C_alloc ?_ _) | (with_reducible refine Kd.C_drewN ?_ _) | (with_reducible refine Kd.C_drew ?_))); (case side2 => exact HC5.out); rintro e w109 ⟨v378, rfl, ho0, hb⟩; refine ⟨_, rfl, ?_⟩; have n0_ := Aside0.mk (Kd.R_elder' (by (with_reducible repeat (first | apply Kd.R_alloc | apply Kd.R_drewN | apply Kd.R_drew)); exact HO367.out) (Kd.R_base ho0) hb); have n1_ := Aside0.mk (Kd.R_elder' (by (with_reducible repeat (first | apply Kd.R_alloc | apply Kd.R_drewN | apply Kd.R_drew)); exact HO371.out) (Kd.R_base ho0) hb); have n2_ := Aside0.mk (Kd.R_elder' (by (with_reducible repeat (first | apply Kd.R_alloc | apply Kd.R_drewN | apply Kd.R_drew)); exact HO375.out) (Kd.R_base ho0) hb); have n3_ := Aside0.mk (Kd.R_lower (Kd.R_new' (Kd.R_new' (Kd.R_new' ho0 (Kd.R_lt (by (with_reducible repeat (first | apply Kd.R_alloc | apply Kd.R_drewN | apply Kd.R_drew)); exact HO367.out))) (Kd.R_lt (by (with_reducible repeat (first | apply Kd.R_alloc | apply Kd.R_drewN | apply Kd.R_drew)); exact HO371.out))) (Kd.R_lt (by (with_reducible repeat (first | apply Kd.R_alloc | apply Kd.R_drewN | apply Kd.R_drew)); exact HO375.out))) (below_size (by repeat (first | (with_reducible first | exact HB.out | apply below_alloc | apply pw_below_drewN | apply below_drew1))))); have n4_ := Aside0.mk (below_step (by repeat (first | (with_reducible first | exact HB.out | apply below_alloc | apply pw_below_drewN | apply below_drew1))) hb); clear HO367; clear HO371; clear HO375; clear HB; have HO367 := n0_; have HO371 := n1_; have HO375 := n2_; have HO379 := n3_; have HB := n4_; clear n0_ n1_ n2_ n3_ n4_; (try clear hb); (try clear ho0)))
         (try simp only [Act.put, List.setIfInBounds_toArray, List.set_cons_zero, List.set_cons_succ])
         refine cutF mk0 [] (fun u_ wc => ∃ (kq : Nat) (x315_104 : Bool), (u_ 315) = .bool x315_104 ∧ Aside0 (laws_FnPlacesOfPatternsOfAll.j7 kq l2 a3 a4 l5 l7 l8 l9 a10 t364 t365 t372 t373 x315_104 = some r) ∧ Aside0 (kq ≤ kj56) ∧ Aside0 (Kd.R (Kd.int .i64) 3 wc w.heap.size (fun k_ => some k_ ≠ (v374 : Value).ownBlock) v366 t364) ∧ Aside0 (Kd.R (Kd.int .i64) 3 wc w.heap.size (fun k_ => some k_ ≠ (v366 : Value).ownBlock) v374 t372) ∧ Aside0 (Below w.heap.size w wc)) ?_ ?_
         ·
          as_aux_lemma =>
           intro J_ K_ hJ_ hK_
           have H := HC105.out
           clear HC105
           by_cases c110 : (t365 != t369) = true
           ·
            rw [if_pos c110] at H
            exact (laws_FnPlacesOfPatternsOfAll.j7_no _ _ _ _ _ _ _ _ _ _ _ _ _ (H.trans (congrArg some HRT.out))).elim
           ·
            rw [if_neg c110] at H
            have c110b0 : (t365 != t369) = false := by simpa using c110
            (try (have c110b1 : decide (t365 = t369) = true := by simpa using c110))
            (try (have c110b2 : (t365 == t369) = true := by simpa using c110))
            clear c110
            (first | rw [c110b0] | (simp only [i64_w, i32_w]; rw [c110b0]) | skip)
            replace H := Option.bind_eq_some_iff.mp H
            obtain ⟨t380, A1110, H⟩ := H
            replace H : (if t380 = true then (if (t373 != t377) = true then (laws_FnPlacesOfPatternsOfAll.j7 kj56 l2 a3 a4 l5 l7 l8 l9 a10 t364 t365 t372 t373 true) else ((laws_tSame.f kj56 t372 t376).bind fun t381 => (laws_FnPlacesOfPatternsOfAll.j7 kj56 l2 a3 a4 l5 l7 l8 l9 a10 t364 t365 t372 t373 (!t381)))) else (laws_FnPlacesOfPatternsOfAll.j7 kj56 l2 a3 a4 l5 l7 l8 l9 a10 t364 t365 t372 t373 true)) = some r := H
            have A111 := Aside0.mk A1110
            clear A1110
            by_cases c112 : t380 = true
            ·
             subst c112
             have H1 : (if (t373 != t377) = true then (laws_FnPlacesOfPatternsOfAll.j7 kj56 l2 a3 a4 l5 l7 l8 l9 a10 t364 t365 t372 t373 true) else ((laws_tSame.f kj56 t372 t376).bind fun t381 => (laws_FnPlacesOfPatternsOfAll.j7 kj56 l2 a3 a4 l5 l7 l8 l9 a10 t364 t365 t372 t373 (!t381)))) = some r := by rw [if_pos rfl] at H; exact H
             clear H
             have H := H1
             clear H1
             by_cases c113 : (t373 != t377) = true
             ·
              rw [if_pos c113] at H
              exact (laws_FnPlacesOfPatternsOfAll.j7_no _ _ _ _ _ _ _ _ _ _ _ _ _ (H.trans (congrArg some HRT.out))).elim
             ·
              rw [if_neg c113] at H
              have c113b0 : (t373 != t377) = false := by simpa using c113
              (try (have c113b1 : decide (t373 = t377) = true := by simpa using c113))
              (try (have c113b2 : (t373 == t377) = true := by simpa using c113))
              clear c113
              replace H := Option.bind_eq_some_iff.mp H
              obtain ⟨t381, A1160, H⟩ := H
              replace H : (laws_FnPlacesOfPatternsOfAll.j7 kj56 l2 a3 a4 l5 l7 l8 l9 a10 t364 t365 t372 t373 (!t381)) = some r := H
              have A116 := Aside0.mk A1160
              clear A1160
              have H' := Aside0.mk H
              clear H
              obtain ⟨Ao117, co117, eo117⟩ := Kd.R_slice HO367.out
              subst eo117
              obtain ⟨Ao118, co118, eo118⟩ := Kd.R_slice HO371.out
              subst eo118
              go_wp2_with (first | (go_at_call 17; (with_reducible refine (laws_tSame.calls kj56 _ _ t364 _ _ t368 true _ ?side1 ?side2 ?side3 ?side4 A111.out).mono ?_); (case side1 => repeat (first | exact (Kd.R_reads' HO367.out).2.2 | (with_reducible refine Kd.C_alloc ?_ _) | (with_reducible refine Kd.C_drewN ?_ _) | (with_reducible refine Kd.C_drew ?_))); (case side2 => exact (Kd.R_reads' HO367.out).2.1); (case side3 => repeat (first | exact (Kd.R_reads' HO371.out).2.2 | (with_reducible refine Kd.C_alloc ?_ _) | (with_reducible refine Kd.C_drewN ?_ _) | (with_reducible refine Kd.C_drew ?_))); (case side4 => exact (Kd.R_reads' HO371.out).2.1); rintro e w' ⟨rfl, ⟨nd, rfl⟩⟩; obtain ⟨Ao119, co119, eo119⟩ := Kd.R_slice HO375.out; subst eo119; obtain ⟨Ao120, co120, eo120⟩ := Kd.R_slice HO379.out; subst eo120) | (go_at_call 17; (with_reducible refine (laws_tSame.calls kj56 _ _ t372 _ _ t376 t381 _ ?side1 ?side2 ?side3 ?side4 A116.out).mono ?_); (case side1 => repeat (first | exact (Kd.R_reads' HO375.out).2.2 | (with_reducible refine Kd.C_alloc ?_ _) | (with_reducible refine Kd.C_drewN ?_ _) | (with_reducible refine Kd.C_drew ?_))); (case side2 => exact (Kd.R_reads' HO375.out).2.1); (case side3 => repeat (first | exact (Kd.R_reads' HO379.out).2.2 | (with_reducible refine Kd.C_alloc ?_ _) | (with_reducible refine Kd.C_drewN ?_ _) | (with_reducible refine Kd.C_drew ?_))); (case side4 => exact (Kd.R_reads' HO379.out).2.1); rintro e w' ⟨rfl, ⟨nd, rfl⟩⟩))
              refine cutMeet hJ_ ?_ (by kernel_rfl)
              exact ⟨_, (!t381), (by first | rfl | (simp; done) | (simp [*]; done)), H', ⟨by have := HJ11.out; have := HJ24.out; have := HJ56.out; first | omega | exact Nat.le_refl _⟩, ⟨by (with_reducible repeat (first | apply Kd.R_alloc | apply Kd.R_drewN | apply Kd.R_drew)); exact Kd.R_mono HO367.out (fun _ hk => hk.1.2)⟩, ⟨by (with_reducible repeat (first | apply Kd.R_alloc | apply Kd.R_drewN | apply Kd.R_drew)); exact Kd.R_mono HO375.out (fun _ hk => hk.1.1.2)⟩, ⟨by repeat (first | (with_reducible first | exact HB.out | apply below_alloc | apply pw_below_drewN | apply below_drew1))⟩⟩
            ·
             replace c112 := Bool.eq_false_iff.mpr c112
             subst c112
             have H1 : (laws_FnPlacesOfPatternsOfAll.j7 kj56 l2 a3 a4 l5 l7 l8 l9 a10 t364 t365 t372 t373 true) = some r := by rw [if_neg (show ¬ (false = true) by decide)] at H; exact H
             clear H
             have H := H1
             clear H1
             exact (laws_FnPlacesOfPatternsOfAll.j7_no _ _ _ _ _ _ _ _ _ _ _ _ _ (H.trans (congrArg some HRT.out))).elim
         ·
          intro u_ wc hcut
          clear HC105
          obtain ⟨kq, x315_104, e_315, HA, HJ104, HO_46, HO_50, HB⟩ := hcut
          dsimp only [cutFgt, mk0]
          rw [e_315]
          cases kq with
          | zero => exact absurd HA.out (by simp [laws_FnPlacesOfPatternsOfAll.j7])
          | succ kj104 =>
           have H := HA.out
           clear HA
           simp only [laws_FnPlacesOfPatternsOfAll.j7] at H
           by_cases c123 : x315_104 = true
           ·
            subst c123
            have H1 : (some false) = some r := by rw [if_pos rfl] at H; exact H
            clear H
            have H := H1
            clear H1
            exact absurd (Option.some.inj (H.trans (congrArg some HRT.out))) Bool.false_ne_true
           ·
            replace c123 := Bool.eq_false_iff.mpr c123
            subst c123
            have H1 : (if t365 = true then ((laws_tRises.f kj104 t364 1 a4).bind fun t382 => (if t382 = true then ((impl_RulesOfPattern.f kj104 l2 a3).bind fun bt383 => (if bt383.2 = true then ((impl_LeftUpTo.f kj104 bt383.1 a4).bind fun bt387 => (if bt387.2 = true then ((laws_tSame.f kj104 bt387.1 t364).bind fun t391 => (if t391 = true then (laws_FnPlacesOfPatternsOfAll.j8 kj104 l5 l7 l8 l9 a10 t372 t373) else (some false))) else (some false))) else (laws_FnPlacesOfPatternsOfAll.j8 kj104 l5 l7 l8 l9 a10 t372 t373))) else (some false))) else (laws_FnPlacesOfPatternsOfAll.j8 kj104 l5 l7 l8 l9 a10 t372 t373)) = some r := by rw [if_neg (show ¬ (false = true) by decide)] at H; exact H
            clear H
            have H := H1
            clear H1
            have HC124 := Aside0.mk H
            clear H
            go_upto_if 316 with (fail)
            refine cutF mk0 [none, none, none, none, none, none, none, none, none, none, none, none, none, none, none, none, none, none, none, none, none, none, some 22, none, none, none, none, none, none, none, none, none, none, none, none, none, none, none, none, none, none, none, none, none, none, none, none, none, none, none, none, none, none, none, some 54, some 55, some 56, some 57] (fun u_ wc => ∃ (kq : Nat), Aside0 (laws_FnPlacesOfPatternsOfAll.j8 kq l5 l7 l8 l9 a10 t372 t373 = some r) ∧ Aside0 (kq ≤ kj104) ∧ Aside0 (Kd.R (Kd.int .i64) 3 wc w.heap.size (fun _ => True) v374 t372) ∧ Aside0 (Below w.heap.size w wc)) ?_ ?_
            ·
             as_aux_lemma =>
              intro J_ K_ hJ_ hK_
              have H := HC124.out
              clear HC124
              by_cases c125 : t365 = true
              ·
               subst c125
               have H1 : ((laws_tRises.f kj104 t364 1 a4).bind fun t382 => (if t382 = true then ((impl_RulesOfPattern.f kj104 l2 a3).bind fun bt383 => (if bt383.2 = true then ((impl_LeftUpTo.f kj104 bt383.1 a4).bind fun bt387 => (if bt387.2 = true then ((laws_tSame.f kj104 bt387.1 t364).bind fun t391 => (if t391 = true then (laws_FnPlacesOfPatternsOfAll.j8 kj104 l5 l7 l8 l9 a10 t372 t373) else (some false))) else (some false))) else (laws_FnPlacesOfPatternsOfAll.j8 kj104 l5 l7 l8 l9 a10 t372 t373))) else (some false))) = some r := by rw [if_pos rfl] at H; exact H
               clear H
               have H := H1
               clear H1
               replace H := Option.bind_eq_some_iff.mp H
               obtain ⟨t382, A1260, H⟩ := H
               replace H : (if t382 = true then ((impl_RulesOfPattern.f kj104 l2 a3).bind fun bt383 => (if bt383.2 = true then ((impl_LeftUpTo.f kj104 bt383.1 a4).bind fun bt387 => (if bt387.2 = true then ((laws_tSame.f kj104 bt387.1 t364).bind fun t391 => (if t391 = true then (laws_FnPlacesOfPatternsOfAll.j8 kj104 l5 l7 l8 l9 a10 t372 t373) else (some false))) else (some false))) else (laws_FnPlacesOfPatternsOfAll.j8 kj104 l5 l7 l8 l9 a10 t372 t373))) else (some false)) = some r := H
               have A126 := Aside0.mk A1260
               clear A1260
               by_cases c127 : t382 = true
               ·
                subst c127
                have H1 : ((impl_RulesOfPattern.f kj104 l2 a3).bind fun bt383 => (if bt383.2 = true then ((impl_LeftUpTo.f kj104 bt383.1 a4).bind fun bt387 => (if bt387.2 = true then ((laws_tSame.f kj104 bt387.1 t364).bind fun t391 => (if t391 = true then (laws_FnPlacesOfPatternsOfAll.j8 kj104 l5 l7 l8 l9 a10 t372 t373) else (some false))) else (some false))) else (laws_FnPlacesOfPatternsOfAll.j8 kj104 l5 l7 l8 l9 a10 t372 t373))) = some r := by rw [if_pos rfl] at H; exact H
                clear H
                have H := H1
                clear H1
                replace H := Option.bind_eq_some_iff.mp H
                obtain ⟨⟨t383, t384⟩, A1280, H⟩ := H
                replace H : (if t384 = true then ((impl_LeftUpTo.f kj104 t383 a4).bind fun bt387 => (if bt387.2 = true then ((laws_tSame.f kj104 bt387.1 t364).bind fun t391 => (if t391 = true then (laws_FnPlacesOfPatternsOfAll.j8 kj104 l5 l7 l8 l9 a10 t372 t373) else (some false))) else (some false))) else (laws_FnPlacesOfPatternsOfAll.j8 kj104 l5 l7 l8 l9 a10 t372 t373)) = some r := H
                have A128 := Aside0.mk A1280
                clear A1280
                by_cases c129 : t384 = true
                ·
                 subst c129
                 have H1 : ((impl_LeftUpTo.f kj104 t383 a4).bind fun bt387 => (if bt387.2 = true then ((laws_tSame.f kj104 bt387.1 t364).bind fun t391 => (if t391 = true then (laws_FnPlacesOfPatternsOfAll.j8 kj104 l5 l7 l8 l9 a10 t372 t373) else (some false))) else (some false))) = some r := by rw [if_pos rfl] at H; exact H
                 clear H
                 have H := H1
                 clear H1
                 replace H := Option.bind_eq_some_iff.mp H
                 obtain ⟨⟨t387, t388⟩, A1300, H⟩ := H
                 replace H : (if t388 = true then ((laws_tSame.f kj104 t387 t364).bind fun t391 => (if t391 = true then (laws_FnPlacesOfPatternsOfAll.j8 kj104 l5 l7 l8 l9 a10 t372 t373) else (some false))) else (some false)) = some r := H
                 have A130 := Aside0.mk A1300
                 clear A1300
                 by_cases c131 : t388 = true
                 ·
                  subst c131
                  have H1 : ((laws_tSame.f kj104 t387 t364).bind fun t391 => (if t391 = true then (laws_FnPlacesOfPatternsOfAll.j8 kj104 l5 l7 l8 l9 a10 t372 t373) else (some false))) = some r := by rw [if_pos rfl] at H; exact H
                  clear H
                  have H := H1
                  clear H1
                  replace H := Option.bind_eq_some_iff.mp H
                  obtain ⟨t391, A1320, H⟩ := H
                  replace H : (if t391 = true then (laws_FnPlacesOfPatternsOfAll.j8 kj104 l5 l7 l8 l9 a10 t372 t373) else (some false)) = some r := H
                  have A132 := Aside0.mk A1320
                  clear A1320
                  by_cases c133 : t391 = true
                  ·
                   subst c133
                   have H1 : (laws_FnPlacesOfPatternsOfAll.j8 kj104 l5 l7 l8 l9 a10 t372 t373) = some r := by rw [if_pos rfl] at H; exact H
                   clear H
                   have H := H1
                   clear H1
                   have H' := Aside0.mk H
                   clear H
                   obtain ⟨Ao134, co134, eo134⟩ := Kd.R_slice HO_46.out
                   subst eo134
                   go_wp2_with (first | ((with_reducible refine gate_callee (f := 18) rfl ?_); refine goesL_ (some 319) rfl rfl Try.func18 (by kernel_rfl) rfl #[.slice Ao134 t364.length co134, .int .i64 1, .int .i64 a4] rfl (by (try simp only [List.map_toArray, List.map_cons, List.map_nil]); first | done | rfl | (simp only [List.length_drop, List.length_take]; rfl)) ?_; (with_reducible refine (laws_tRises.calls kj104 _ _ t364 1 a4 true _ ?side1 ?side2 A126.out).mono ?_); (case side1 => repeat (first | exact (Kd.R_reads' HO_46.out).2.2 | (with_reducible refine Kd.C_alloc ?_ _) | (with_reducible refine Kd.C_drewN ?_ _) | (with_reducible refine Kd.C_drew ?_))); (case side2 => exact (Kd.R_reads' HO_46.out).2.1); rintro e w' ⟨rfl, ⟨nd, rfl⟩⟩; refine ⟨_, rfl, ?_⟩) | ((with_reducible refine gate_callee (f := 6) rfl ?_); refine goesL_ (some 324) rfl rfl Try.func6 (by kernel_rfl) rfl #[.slice A2 l2.length c2, .int .i64 a3] rfl (by (try simp only [List.map_toArray, List.map_cons, List.map_nil]); first | done | rfl | (simp only [List.length_drop, List.length_take]; rfl)) ?_; (with_reducible refine (impl_RulesOfPattern.calls kj104 _ _ l2 a3 t383 true _ ?side1 ?side2 A128.out).mono ?_); (case side1 => repeat (first | exact (Kd.C_below HR2.out (by repeat (first | (with_reducible first | exact HB.out | apply below_alloc | apply pw_below_drewN | apply below_drew1)))) | (with_reducible refine Kd.C_alloc ?_ _) | (with_reducible refine Kd.C_drewN ?_ _) | (with_reducible refine Kd.C_drew ?_))); (case side2 => exact HC2.out); rintro e w135 ⟨v385, rfl, ho0, hb⟩; refine ⟨_, rfl, ?_⟩; have n0_ := Aside0.mk (Kd.R_below (by (with_reducible repeat (first | apply Kd.R_alloc | apply Kd.R_drewN | apply Kd.R_drew)); exact HO_46.out) hb); have n1_ := Aside0.mk (Kd.R_below (by (with_reducible repeat (first | apply Kd.R_alloc | apply Kd.R_drewN | apply Kd.R_drew)); exact HO_50.out) hb); have n2_ := Aside0.mk (Kd.R_lower ho0 (below_size (by repeat (first | (with_reducible first | exact HB.out | apply below_alloc | apply pw_below_drewN | apply below_drew1))))); have n3_ := Aside0.mk (below_step (by repeat (first | (with_reducible first | exact HB.out | apply below_alloc | apply pw_below_drewN | apply below_drew1))) hb); clear HO_46; clear HO_50; clear HB; have HO_46 := n0_; have HO_50 := n1_; have HO386 := n2_; have HB := n3_; clear n0_ n1_ n2_ n3_; (try clear hb); (try clear ho0); obtain ⟨Ao136, co136, eo136⟩ := Kd.R_slice HO386.out; subst eo136) | ((with_reducible refine gate_callee (f := 19) rfl ?_); refine goesL_ (some 331) rfl rfl Try.func19 (by kernel_rfl) rfl #[.slice Ao136 t383.length co136, .int .i64 a4] rfl (by (try simp only [List.map_toArray, List.map_cons, List.map_nil]); first | done | rfl | (simp only [List.length_drop, List.length_take]; rfl)) ?_; (with_reducible refine (impl_LeftUpTo.calls kj104 _ _ t383 a4 t387 true _ ?side1 ?side2 A130.out).mono ?_); (case side1 => repeat (first | exact (Kd.R_reads' HO386.out).2.2 | (with_reducible refine Kd.C_alloc ?_ _) | (with_reducible refine Kd.C_drewN ?_ _) | (with_reducible refine Kd.C_drew ?_))); (case side2 => exact (Kd.R_reads' HO386.out).2.1); rintro e w137 ⟨v389, rfl, ho0, hb⟩; refine ⟨_, rfl, ?_⟩; have n0_ := Aside0.mk (Kd.R_elder' (by (with_reducible repeat (first | apply Kd.R_alloc | apply Kd.R_drewN | apply Kd.R_drew)); exact HO_46.out) (Kd.R_base ho0) hb); have n1_ := Aside0.mk (Kd.R_elder' (by (with_reducible repeat (first | apply Kd.R_alloc | apply Kd.R_drewN | apply Kd.R_drew)); exact HO_50.out) (Kd.R_base ho0) hb); have n2_ := Aside0.mk (Kd.R_below (by (with_reducible repeat (first | apply Kd.R_alloc | apply Kd.R_drewN | apply Kd.R_drew)); exact HO386.out) hb); have n3_ := Aside0.mk (Kd.R_lower (Kd.R_new' (Kd.R_new' ho0 (Kd.R_lt (by (with_reducible repeat (first | apply Kd.R_alloc | apply Kd.R_drewN | apply Kd.R_drew)); exact HO_46.out))) (Kd.R_lt (by (with_reducible repeat (first | apply Kd.R_alloc | apply Kd.R_drewN | apply Kd.R_drew)); exact HO_50.out))) (below_size (by repeat (first | (with_reducible first | exact HB.out | apply below_alloc | apply pw_below_drewN | apply below_drew1))))); have n4_ := Aside0.mk (below_step (by repeat (first | (with_reducible first | exact HB.out | apply below_alloc | apply pw_below_drewN | apply below_drew1))) hb); clear HO_46; clear HO_50; clear HO386; clear HB; have HO_46 := n0_; have HO_50 := n1_; have HO386 := n2_; have HO390 := n3_; have HB := n4_; clear n0_ n1_ n2_ n3_ n4_; (try clear hb); (try clear ho0); obtain ⟨Ao138, co138, eo138⟩ := Kd.R_slice HO390.out; subst eo138) | (go_at_call 17; (with_reducible refine (laws_tSame.calls kj104 _ _ t387 _ _ t364 true _ ?side1 ?side2 ?side3 ?side4 A132.out).mono ?_); (case side1 => repeat (first | exact (Kd.R_reads' HO390.out).2.2 | (with_reducible refine Kd.C_alloc ?_ _) | (with_reducible refine Kd.C_drewN ?_ _) | (with_reducible refine Kd.C_drew ?_))); (case side2 => exact (Kd.R_reads' HO390.out).2.1); (case side3 => repeat (first | exact (Kd.R_reads' HO_46.out).2.2 | (with_reducible refine Kd.C_alloc ?_ _) | (with_reducible refine Kd.C_drewN ?_ _) | (with_reducible refine Kd.C_drew ?_))); (case side4 => exact (Kd.R_reads' HO_46.out).2.1); rintro e w' ⟨rfl, ⟨nd, rfl⟩⟩))
                   refine cutMeet hJ_ ?_ (by kernel_rfl)
                   exact ⟨_, H', ⟨by have := HJ11.out; have := HJ24.out; have := HJ56.out; have := HJ104.out; first | omega | exact Nat.le_refl _⟩, ⟨by (with_reducible repeat (first | apply Kd.R_alloc | apply Kd.R_drewN | apply Kd.R_drew)); exact Kd.R_mono HO_50.out (fun _ hk => trivial)⟩, ⟨by repeat (first | (with_reducible first | exact HB.out | apply below_alloc | apply pw_below_drewN | apply below_drew1))⟩⟩
                  ·
                   replace c133 := Bool.eq_false_iff.mpr c133
                   subst c133
                   have H1 : (some false) = some r := by rw [if_neg (show ¬ (false = true) by decide)] at H; exact H
                   clear H
                   have H := H1
                   clear H1
                   exact absurd (Option.some.inj (H.trans (congrArg some HRT.out))) Bool.false_ne_true
                 ·
                  replace c131 := Bool.eq_false_iff.mpr c131
                  subst c131
                  have H1 : (some false) = some r := by rw [if_neg (show ¬ (false = true) by decide)] at H; exact H
                  clear H
                  have H := H1
                  clear H1
                  exact absurd (Option.some.inj (H.trans (congrArg some HRT.out))) Bool.false_ne_true
                ·
                 replace c129 := Bool.eq_false_iff.mpr c129
                 subst c129
                 have H1 : (laws_FnPlacesOfPatternsOfAll.j8 kj104 l5 l7 l8 l9 a10 t372 t373) = some r := by rw [if_neg (show ¬ (false = true) by decide)] at H; exact H
                 clear H
                 have H := H1
                 clear H1
                 have H' := Aside0.mk H
                 clear H
                 obtain ⟨Ao148, co148, eo148⟩ := Kd.R_slice HO_46.out
                 subst eo148
                 go_wp2_with (first | ((with_reducible refine gate_callee (f := 18) rfl ?_); refine goesL_ (some 319) rfl rfl Try.func18 (by kernel_rfl) rfl #[.slice Ao148 t364.length co148, .int .i64 1, .int .i64 a4] rfl (by (try simp only [List.map_toArray, List.map_cons, List.map_nil]); first | done | rfl | (simp only [List.length_drop, List.length_take]; rfl)) ?_; (with_reducible refine (laws_tRises.calls kj104 _ _ t364 1 a4 true _ ?side1 ?side2 A126.out).mono ?_); (case side1 => repeat (first | exact (Kd.R_reads' HO_46.out).2.2 | (with_reducible refine Kd.C_alloc ?_ _) | (with_reducible refine Kd.C_drewN ?_ _) | (with_reducible refine Kd.C_drew ?_))); (case side2 => exact (Kd.R_reads' HO_46.out).2.1); rintro e w' ⟨rfl, ⟨nd, rfl⟩⟩; refine ⟨_, rfl, ?_⟩) | ((with_reducible refine gate_callee (f := 6) rfl ?_); refine goesL_ (some 324) rfl rfl Try.func6 (by kernel_rfl) rfl #[.slice A2 l2.length c2, .int .i64 a3] rfl (by (try simp only [List.map_toArray, List.map_cons, List.map_nil]); first | done | rfl | (simp only [List.length_drop, List.length_take]; rfl)) ?_; (with_reducible refine (impl_RulesOfPattern.calls kj104 _ _ l2 a3 t383 false _ ?side1 ?side2 A128.out).mono ?_); (case side1 => repeat (first | exact (Kd.C_below HR2.out (by repeat (first | (with_reducible first | exact HB.out | apply below_alloc | apply pw_below_drewN | apply below_drew1)))) | (with_reducible refine Kd.C_alloc ?_ _) | (with_reducible refine Kd.C_drewN ?_ _) | (with_reducible refine Kd.C_drew ?_))); (case side2 => exact HC2.out); rintro e w149 ⟨v385, rfl, ho0, hb⟩; refine ⟨_, rfl, ?_⟩; have n0_ := Aside0.mk (Kd.R_below (by (with_reducible repeat (first | apply Kd.R_alloc | apply Kd.R_drewN | apply Kd.R_drew)); exact HO_46.out) hb); have n1_ := Aside0.mk (Kd.R_below (by (with_reducible repeat (first | apply Kd.R_alloc | apply Kd.R_drewN | apply Kd.R_drew)); exact HO_50.out) hb); have n2_ := Aside0.mk (Kd.R_lower ho0 (below_size (by repeat (first | (with_reducible first | exact HB.out | apply below_alloc | apply pw_below_drewN | apply below_drew1))))); have n3_ := Aside0.mk (below_step (by repeat (first | (with_reducible first | exact HB.out | apply below_alloc | apply pw_below_drewN | apply below_drew1))) hb); clear HO_46; clear HO_50; clear HB; have HO_46 := n0_; have HO_50 := n1_; have HO386 := n2_; have HB := n3_; clear n0_ n1_ n2_ n3_; (try clear hb); (try clear ho0)))
                 refine cutMeet hJ_ ?_ (by kernel_rfl)
                 exact ⟨_, H', ⟨by have := HJ11.out; have := HJ24.out; have := HJ56.out; have := HJ104.out; first | omega | exact Nat.le_refl _⟩, ⟨by (with_reducible repeat (first | apply Kd.R_alloc | apply Kd.R_drewN | apply Kd.R_drew)); exact Kd.R_mono HO_50.out (fun _ hk => trivial)⟩, ⟨by repeat (first | (with_reducible first | exact HB.out | apply below_alloc | apply pw_below_drewN | apply below_drew1))⟩⟩
               ·
                replace c127 := Bool.eq_false_iff.mpr c127
                subst c127
                have H1 : (some false) = some r := by rw [if_neg (show ¬ (false = true) by decide)] at H; exact H
                clear H
                have H := H1
                clear H1
                exact absurd (Option.some.inj (H.trans (congrArg some HRT.out))) Bool.false_ne_true
              ·
               replace c125 := Bool.eq_false_iff.mpr c125
               subst c125
               have H1 : (laws_FnPlacesOfPatternsOfAll.j8 kj104 l5 l7 l8 l9 a10 t372 t373) = some r := by rw [if_neg (show ¬ (false = true) by decide)] at H; exact H
               clear H
               have H := H1
               clear H1
               have H' := Aside0.mk H
               clear H
               go_wp2
               refine cutMeet hJ_ ?_ (by kernel_rfl)
               exact ⟨_, H', ⟨by have := HJ11.out; have := HJ24.out; have := HJ56.out; have := HJ104.out; first | omega | exact Nat.le_refl _⟩, ⟨by (with_reducible repeat (first | apply Kd.R_alloc | apply Kd.R_drewN | apply Kd.R_drew)); exact Kd.R_mono HO_50.out (fun _ hk => trivial)⟩, ⟨by repeat (first | (with_reducible first | exact HB.out | apply below_alloc | apply pw_below_drewN | apply below_drew1))⟩⟩
            ·
             intro u_ wc hcut
             clear HC124
             obtain ⟨kq, HA, HJ123, HO_50, HB⟩ := hcut
             dsimp only [cutFgt, mk0]
             cases kq with
             | zero => exact absurd HA.out (by simp [laws_FnPlacesOfPatternsOfAll.j8])
             | succ kj123 =>
              have H := HA.out
              clear HA
              simp only [laws_FnPlacesOfPatternsOfAll.j8] at H
              have HC151 := Aside0.mk H
              clear H
              go_upto_if 342 with (fail)
              refine cutF mk0 [none, none, none, none, none, none, none, none, none, none, none, none, none, none, none, none, none, none, none, none, none, none, some 22, none, none, none, none, none, none, none, none, none, none, none, none, none, none, none, none, none, none, none, none, none, none, none, none, none, none, none, none, none, none, none, none, none, none, none, none, some 59, none, some 61, some 62, some 63, none, none, none, none, none, none, none, none, none, none, none, none, none, none, none, none, none, none, none, none, none, none, none, none, none, none, none, none, none, none, none, none, none, none, none, none, none, none, none, none, none, none, none, none, none, none, none, none, none, none, none, none, none, none, none, none, none, none, none, none, none, none, none, none, none, none, none, none, none, none, none, none, none, none, none, none, none, none, none, none, none, none, none, none, none, none, none, none, none, none, none, none, none, none, none, none, none, none, none, none, none, none, none, none, none, none, none, none, none, none, none, none, none, none, none, none, none, none, none, none, none, none, none, none, none, none, none, none, none, none, none, none, none, none, none, none, none, none, none, none, none, none, none, none, none, none, none, none, none, none, none, none, none, none, none, none, none, none, none, none, none, none, none, none, none, none, none, none, none, none, none, none, none, none, none, none, none, none, none, none, none, none, none, none, none, none, none, none, none, none, none, none, none, none, none, none, none, none, none, none, none, none, none, none, none, none, none, none, none, none, none, none, none, none, none, none, none, none, none, none, none, none, none, none, none, none, none, none, none, none, none, none, none, none, none, none, none, none, none, none, none, none, none, none, none, none, none, none, none, none, none, none, none, none, none, none, none, none, none, none, none, none, none, none, none, none, none, none, none, none, none, none, none, none, none, none, none, none, none, some 343, some 344, some 345, none, none, none, some 349, some 350, some 351] (fun u_ wc => ∃ (kq : Nat), Aside0 (laws_FnPlacesOfPatternsOfAll.j11 kq l7 l8 l9 a10 = some r) ∧ Aside0 (kq ≤ kj123) ∧ Aside0 (Below w.heap.size w wc)) ?_ ?_
              ·
               as_aux_lemma =>
                intro J_ K_ hJ_ hK_
                have H := HC151.out
                clear HC151
                by_cases c152 : t373 = true
                ·
                 subst c152
                 have H1 : (laws_FnPlacesOfPatternsOfAll.l1 kj123 l5 l7 l8 l9 a10 t372 t372 (t372.length : Int) 0) = some r := by rw [if_pos rfl] at H; exact H
                 clear H
                 have H := H1
                 clear H1
                 have H' := Aside0.mk H
                 clear H
                 obtain ⟨Ao153, co153, eo153⟩ := Kd.R_slice HO_50.out
                 subst eo153
                 go_wp2
                 go_loopg [345] kj123 (fun kq v345 w' => ∃ (x345_6 : Int), v345 = .int .i64 x345_6 ∧ Aside0 (laws_FnPlacesOfPatternsOfAll.l1 kq l5 l7 l8 l9 a10 t372 t372 (t372.length : Int) x345_6 = some r) ∧ Aside0 (kq ≤ kj123) ∧ Aside0 (Kd.R (Kd.int .i64) 3 w' w.heap.size (fun _ => True) (.slice Ao153 t372.length co153) t372) ∧ Aside0 (Kd.R (Kd.int .i64) 3 w' w.heap.size (fun _ => True) (.slice Ao153 t372.length co153) t372) ∧ Aside0 (Below w.heap.size w w'))
                 case atStart => exact ⟨(0), (by first | rfl | (simp; done) | (simp [*]; done)), H', ⟨Nat.le_refl _⟩, ⟨by (with_reducible repeat (first | apply Kd.R_alloc | apply Kd.R_drewN | apply Kd.R_drew)); exact HO_50.out⟩, ⟨by (with_reducible repeat (first | apply Kd.R_alloc | apply Kd.R_drewN | apply Kd.R_drew)); exact HO_50.out⟩, ⟨by repeat (first | (with_reducible first | exact HB.out | apply below_alloc | apply pw_below_drewN | apply below_drew1))⟩⟩
                 case round =>
                  clear H'
                  obtain ⟨x345_6, rfl, HA, HK6, HO_50, HO_343, HB⟩ := hrel
                  cases gk with
                  | zero => exact absurd HA.out (by simp [laws_FnPlacesOfPatternsOfAll.l1])
                  | succ k6 =>
                   have H := HA.out
                   clear HA
                   simp only [laws_FnPlacesOfPatternsOfAll.l1] at H
                   by_cases c154 : x345_6 < (t372.length : Int)
                   ·
                    rw [if_pos c154] at H
                    have c154b0 : decide (x345_6 < (t372.length : Int)) = true := decide_eq_true c154
                    clear c154
                    (first | rw [c154b0] | (simp only [i64_w, i32_w]; rw [c154b0]) | skip)
                    by_cases c155 : 0 ≤ x345_6
                    ·
                     rw [if_pos c155] at H
                     have c155b0 : decide (0 ≤ x345_6) = true := decide_eq_true c155
                     clear c155
                     by_cases c156 : x345_6 < (t372.length : Int)
                     ·
                      rw [if_pos c156] at H
                      have c156b0 : decide (x345_6 < (t372.length : Int)) = true := decide_eq_true c156
                      clear c156
                      have H' := Aside0.mk H
                      clear H
                      have p394 : 0 ≤ (x345_6 : Int) := of_decide_eq_true (by first | (with_reducible assumption) | assumption)
                      have q394 : x345_6 < (t372.length : Int) := of_decide_eq_true (by first | (with_reducible assumption) | assumption)
                      obtain ⟨ad394, e394, hx394_0⟩ := Kd.at_int (Kd.R_reads' HO_343.out).2.2 x345_6 p394 q394
                      cases e394
                      replace p394 := eq_true p394
                      replace q394 := eq_true q394
                      go_wp2
                      go_loopg [351] k6 (fun kq v351 w' => ∃ (x351_7 : Int), v351 = .int .i64 x351_7 ∧ Aside0 (laws_FnPlacesOfPatternsOfAll.l2 kq l5 l7 l8 l9 a10 t372 (rd t372 x345_6) t372 (t372.length : Int) x345_6 l5 (l5.length : Int) x351_7 = some r) ∧ Aside0 (kq ≤ k6) ∧ Aside0 (Kd.R (Kd.int .i64) 3 w' w.heap.size (fun _ => True) (.slice (some ad394) t372.length co153) t372) ∧ Aside0 (Kd.R (Kd.int .i64) 3 w' w.heap.size (fun _ => True) (.slice (some ad394) t372.length co153) t372) ∧ Aside0 (Below w.heap.size w w'))
                      case atStart => exact ⟨(0), (by first | rfl | (simp; done) | (simp [*]; done)), H', ⟨Nat.le_refl _⟩, ⟨by (with_reducible repeat (first | apply Kd.R_alloc | apply Kd.R_drewN | apply Kd.R_drew)); exact HO_50.out⟩, ⟨by (with_reducible repeat (first | apply Kd.R_alloc | apply Kd.R_drewN | apply Kd.R_drew)); exact HO_343.out⟩, ⟨by repeat (first | (with_reducible first | exact HB.out | apply below_alloc | apply pw_below_drewN | apply below_drew1))⟩⟩
                      case round =>
                       clear H'
                       obtain ⟨x351_7, rfl, HA, HK7, HO_50, HO_343, HB⟩ := hrel
                       cases gk with
                       | zero => exact absurd HA.out (by simp [laws_FnPlacesOfPatternsOfAll.l2])
                       | succ k7 =>
                        have H := HA.out
                        clear HA
                        simp only [laws_FnPlacesOfPatternsOfAll.l2] at H
                        by_cases c157 : x351_7 < (l5.length : Int)
                        ·
                         rw [if_pos c157] at H
                         have c157b0 : decide (x351_7 < (l5.length : Int)) = true := decide_eq_true c157
                         clear c157
                         by_cases c158 : 0 ≤ x351_7
                         ·
                          rw [if_pos c158] at H
                          have c158b0 : decide (0 ≤ x351_7) = true := decide_eq_true c158
                          clear c158
                          by_cases c159 : x351_7 < (l5.length : Int)
                          ·
                           rw [if_pos c159] at H
                           have c159b0 : decide (x351_7 < (l5.length : Int)) = true := decide_eq_true c159
                           clear c159
                           replace H := Option.bind_eq_some_iff.mp H
                           obtain ⟨t396, A1600, H⟩ := H
                           replace H : (if t396 = true then (laws_FnPlacesOfPatternsOfAll.l2 k7 l5 l7 l8 l9 a10 t372 (rd t372 x345_6) t372 (t372.length : Int) x345_6 l5 (l5.length : Int) (wrap64 (x351_7 + 1))) else (some false)) = some r := H
                           have A160 := Aside0.mk A1600
                           clear A1600
                           by_cases c161 : t396 = true
                           ·
                            subst c161
                            have H1 : (laws_FnPlacesOfPatternsOfAll.l2 k7 l5 l7 l8 l9 a10 t372 (rd t372 x345_6) t372 (t372.length : Int) x345_6 l5 (l5.length : Int) (wrap64 (x351_7 + 1))) = some r := by rw [if_pos rfl] at H; exact H
                            clear H
                            have H := H1
                            clear H1
                            have H' := Aside0.mk H
                            clear H
                            have p395 : 0 ≤ (x351_7 : Int) := of_decide_eq_true (by first | (with_reducible assumption) | assumption)
                            have q395 : x351_7 < (l5.length : Int) := of_decide_eq_true (by first | (with_reducible assumption) | assumption)
                            obtain ⟨ad395, e395, hx395_0⟩ := Kd.at_int HR5.out x351_7 p395 q395
                            cases e395
                            (try replace hx395_0 := (HB.out.cell (World.block_lt_of_cell? w _ hx395_0)).trans hx395_0)
                            replace p395 := eq_true p395
                            replace q395 := eq_true q395
                            go_wp2_with (first | ((with_reducible refine gate_callee (f := 20) rfl ?_); refine goesL_ (some 358) rfl rfl Try.func20 (by kernel_rfl) rfl #[.int .i64 (wrap64 ((rd t372 x345_6) + (rd l5 x351_7)))] rfl (by (try simp only [List.map_toArray, List.map_cons, List.map_nil]); first | done | rfl | (simp only [List.length_drop, List.length_take]; rfl)) ?_; (with_reducible refine (laws_tPrime.calls k7 (wrap64 ((rd t372 x345_6) + (rd l5 x351_7))) true _ A160.out).mono ?_); rintro e w' ⟨rfl, ⟨nd, rfl⟩⟩; refine ⟨_, rfl, ?_⟩))
                            go_roundg k7
                            case measure => have := HJ11.out; have := HJ24.out; have := HJ56.out; have := HJ104.out; have := HJ123.out; have := HK6.out; have := HK7.out; omega
                            case rel => exact ⟨(wrap64 (x351_7 + 1)), (by first | rfl | (simp; done) | (simp [*]; done)), H', ⟨by have := HJ11.out; have := HJ24.out; have := HJ56.out; have := HJ104.out; have := HJ123.out; have := HK6.out; have := HK7.out; omega⟩, ⟨by (with_reducible repeat (first | apply Kd.R_alloc | apply Kd.R_drewN | apply Kd.R_drew)); exact HO_50.out⟩, ⟨by (with_reducible repeat (first | apply Kd.R_alloc | apply Kd.R_drewN | apply Kd.R_drew)); exact HO_343.out⟩, ⟨by repeat (first | (with_reducible first | exact HB.out | apply below_alloc | apply pw_below_drewN | apply below_drew1))⟩⟩
                           ·
                            replace c161 := Bool.eq_false_iff.mpr c161
                            subst c161
                            have H1 : (some false) = some r := by rw [if_neg (show ¬ (false = true) by decide)] at H; exact H
                            clear H
                            have H := H1
                            clear H1
                            exact absurd (Option.some.inj (H.trans (congrArg some HRT.out))) Bool.false_ne_true
                          ·
                           rw [if_neg c159] at H
                           exact absurd H (by simp)
                         ·
                          rw [if_neg c158] at H
                          exact absurd H (by simp)
                        ·
                         rw [if_neg c157] at H
                         have c157b0 : decide (x351_7 < (l5.length : Int)) = false := decide_eq_false c157
                         clear c157
                         have H' := Aside0.mk H
                         clear H
                         go_wp2
                         go_roundg k7
                         case measure => have := HJ11.out; have := HJ24.out; have := HJ56.out; have := HJ104.out; have := HJ123.out; have := HK6.out; have := HK7.out; omega
                         case rel => exact ⟨(wrap64 (x345_6 + 1)), (by first | rfl | (simp; done) | (simp [*]; done)), H', ⟨by have := HJ11.out; have := HJ24.out; have := HJ56.out; have := HJ104.out; have := HJ123.out; have := HK6.out; have := HK7.out; omega⟩, ⟨by (with_reducible repeat (first | apply Kd.R_alloc | apply Kd.R_drewN | apply Kd.R_drew)); exact HO_50.out⟩, ⟨by (with_reducible repeat (first | apply Kd.R_alloc | apply Kd.R_drewN | apply Kd.R_drew)); exact HO_343.out⟩, ⟨by repeat (first | (with_reducible first | exact HB.out | apply below_alloc | apply pw_below_drewN | apply below_drew1))⟩⟩
                     ·
                      rw [if_neg c156] at H
                      exact absurd H (by simp)
                    ·
                     rw [if_neg c155] at H
                     exact absurd H (by simp)
                   ·
                    rw [if_neg c154] at H
                    have c154b0 : decide (x345_6 < (t372.length : Int)) = false := decide_eq_false c154
                    clear c154
                    (first | rw [c154b0] | (simp only [i64_w, i32_w]; rw [c154b0]) | skip)
                    replace H := Option.bind_eq_some_iff.mp H
                    obtain ⟨⟨t392, t393⟩, A1620, H⟩ := H
                    replace H : (if t393 = true then (if t392 = true then (laws_FnPlacesOfPatternsOfAll.j11 k6 l7 l8 l9 a10) else (if (t372.length : Int) > (wrap64 (2 * (l5.length : Int))) then (some false) else (laws_FnPlacesOfPatternsOfAll.j11 k6 l7 l8 l9 a10))) else (laws_FnPlacesOfPatternsOfAll.j11 k6 l7 l8 l9 a10)) = some r := H
                    have A162 := Aside0.mk A1620
                    clear A1620
                    by_cases c163 : t393 = true
                    ·
                     subst c163
                     have H1 : (if t392 = true then (laws_FnPlacesOfPatternsOfAll.j11 k6 l7 l8 l9 a10) else (if (t372.length : Int) > (wrap64 (2 * (l5.length : Int))) then (some false) else (laws_FnPlacesOfPatternsOfAll.j11 k6 l7 l8 l9 a10))) = some r := by rw [if_pos rfl] at H; exact H
                     clear H
                     have H := H1
                     clear H1
                     by_cases c164 : t392 = true
                     ·
                      subst c164
                      have H1 : (laws_FnPlacesOfPatternsOfAll.j11 k6 l7 l8 l9 a10) = some r := by rw [if_pos rfl] at H; exact H
                      clear H
                      have H := H1
                      clear H1
                      have H' := Aside0.mk H
                      clear H
                      go_wp2_with (first | ((with_reducible refine gate_callee (f := 21) rfl ?_); refine goesL_ (some 364) rfl rfl Try.func21 (by kernel_rfl) rfl #[.slice A5 l5.length c5] rfl (by (try simp only [List.map_toArray, List.map_cons, List.map_nil]); first | done | rfl | (simp only [List.length_drop, List.length_take]; rfl)) ?_; (with_reducible refine (impl_IsOpen.calls k6 _ _ l5 true true _ ?side1 ?side2 A162.out).mono ?_); (case side1 => repeat (first | exact (Kd.C_below HR5.out HB.out) | (with_reducible refine Kd.C_alloc ?_ _) | (with_reducible refine Kd.C_drewN ?_ _) | (with_reducible refine Kd.C_drew ?_))); (case side2 => exact HC5.out); rintro e w165 ⟨rfl, hb⟩; refine ⟨_, rfl, ?_⟩; have n0_ := Aside0.mk (Kd.R_below (by (with_reducible repeat (first | apply Kd.R_alloc | apply Kd.R_drewN | apply Kd.R_drew)); exact HO_50.out) hb); have n1_ := Aside0.mk (Kd.R_below (by (with_reducible repeat (first | apply Kd.R_alloc | apply Kd.R_drewN | apply Kd.R_drew)); exact HO_343.out) hb); have n2_ := Aside0.mk (below_step (by repeat (first | (with_reducible first | exact HB.out | apply below_alloc | apply pw_below_drewN | apply below_drew1))) hb); clear HO_50; clear HO_343; clear HB; have HO_50 := n0_; have HO_343 := n1_; have HB := n2_; clear n0_ n1_ n2_; (try clear hb)))
                      refine cutMeet hJ_ ?_ (by kernel_rfl)
                      exact ⟨_, H', ⟨by have := HJ11.out; have := HJ24.out; have := HJ56.out; have := HJ104.out; have := HJ123.out; have := HK6.out; first | omega | exact Nat.le_refl _⟩, ⟨by repeat (first | (with_reducible first | exact HB.out | apply below_alloc | apply pw_below_drewN | apply below_drew1))⟩⟩
                     ·
                      replace c164 := Bool.eq_false_iff.mpr c164
                      subst c164
                      have H1 : (if (t372.length : Int) > (wrap64 (2 * (l5.length : Int))) then (some false) else (laws_FnPlacesOfPatternsOfAll.j11 k6 l7 l8 l9 a10)) = some r := by rw [if_neg (show ¬ (false = true) by decide)] at H; exact H
                      clear H
                      have H := H1
                      clear H1
                      by_cases c166 : (t372.length : Int) > (wrap64 (2 * (l5.length : Int)))
                      ·
                       rw [if_pos c166] at H
                       have c166b0 : decide ((wrap64 (2 * (l5.length : Int))) < (t372.length : Int)) = true := decide_eq_true c166
                       clear c166
                       exact absurd (Option.some.inj (H.trans (congrArg some HRT.out))) Bool.false_ne_true
                      ·
                       rw [if_neg c166] at H
                       have c166b0 : decide ((wrap64 (2 * (l5.length : Int))) < (t372.length : Int)) = false := decide_eq_false c166
                       clear c166
                       have H' := Aside0.mk H
                       clear H
                       go_wp2_with (first | ((with_reducible refine gate_callee (f := 21) rfl ?_); refine goesL_ (some 364) rfl rfl Try.func21 (by kernel_rfl) rfl #[.slice A5 l5.length c5] rfl (by (try simp only [List.map_toArray, List.map_cons, List.map_nil]); first | done | rfl | (simp only [List.length_drop, List.length_take]; rfl)) ?_; (with_reducible refine (impl_IsOpen.calls k6 _ _ l5 false true _ ?side1 ?side2 A162.out).mono ?_); (case side1 => repeat (first | exact (Kd.C_below HR5.out HB.out) | (with_reducible refine Kd.C_alloc ?_ _) | (with_reducible refine Kd.C_drewN ?_ _) | (with_reducible refine Kd.C_drew ?_))); (case side2 => exact HC5.out); rintro e w168 ⟨rfl, hb⟩; refine ⟨_, rfl, ?_⟩; have n0_ := Aside0.mk (Kd.R_below (by (with_reducible repeat (first | apply Kd.R_alloc | apply Kd.R_drewN | apply Kd.R_drew)); exact HO_50.out) hb); have n1_ := Aside0.mk (Kd.R_below (by (with_reducible repeat (first | apply Kd.R_alloc | apply Kd.R_drewN | apply Kd.R_drew)); exact HO_343.out) hb); have n2_ := Aside0.mk (below_step (by repeat (first | (with_reducible first | exact HB.out | apply below_alloc | apply pw_below_drewN | apply below_drew1))) hb); clear HO_50; clear HO_343; clear HB; have HO_50 := n0_; have HO_343 := n1_; have HB := n2_; clear n0_ n1_ n2_; (try clear hb)))
                       refine cutMeet hJ_ ?_ (by kernel_rfl)
                       exact ⟨_, H', ⟨by have := HJ11.out; have := HJ24.out; have := HJ56.out; have := HJ104.out; have := HJ123.out; have := HK6.out; first | omega | exact Nat.le_refl _⟩, ⟨by repeat (first | (with_reducible first | exact HB.out | apply below_alloc | apply pw_below_drewN | apply below_drew1))⟩⟩
                    ·
                     replace c163 := Bool.eq_false_iff.mpr c163
                     subst c163
                     have H1 : (laws_FnPlacesOfPatternsOfAll.j11 k6 l7 l8 l9 a10) = some r := by rw [if_neg (show ¬ (false = true) by decide)] at H; exact H
                     clear H
                     have H := H1
                     clear H1
                     have H' := Aside0.mk H
                     clear H
                     go_wp2_with (first | ((with_reducible refine gate_callee (f := 21) rfl ?_); refine goesL_ (some 364) rfl rfl Try.func21 (by kernel_rfl) rfl #[.slice A5 l5.length c5] rfl (by (try simp only [List.map_toArray, List.map_cons, List.map_nil]); first | done | rfl | (simp only [List.length_drop, List.length_take]; rfl)) ?_; (with_reducible refine (impl_IsOpen.calls k6 _ _ l5 t392 false _ ?side1 ?side2 A162.out).mono ?_); (case side1 => repeat (first | exact (Kd.C_below HR5.out HB.out) | (with_reducible refine Kd.C_alloc ?_ _) | (with_reducible refine Kd.C_drewN ?_ _) | (with_reducible refine Kd.C_drew ?_))); (case side2 => exact HC5.out); rintro e w169 ⟨rfl, hb⟩; refine ⟨_, rfl, ?_⟩; have n0_ := Aside0.mk (Kd.R_below (by (with_reducible repeat (first | apply Kd.R_alloc | apply Kd.R_drewN | apply Kd.R_drew)); exact HO_50.out) hb); have n1_ := Aside0.mk (Kd.R_below (by (with_reducible repeat (first | apply Kd.R_alloc | apply Kd.R_drewN | apply Kd.R_drew)); exact HO_343.out) hb); have n2_ := Aside0.mk (below_step (by repeat (first | (with_reducible first | exact HB.out | apply below_alloc | apply pw_below_drewN | apply below_drew1))) hb); clear HO_50; clear HO_343; clear HB; have HO_50 := n0_; have HO_343 := n1_; have HB := n2_; clear n0_ n1_ n2_; (try clear hb)))
                     refine cutMeet hJ_ ?_ (by kernel_rfl)
                     exact ⟨_, H', ⟨by have := HJ11.out; have := HJ24.out; have := HJ56.out; have := HJ104.out; have := HJ123.out; have := HK6.out; first | omega | exact Nat.le_refl _⟩, ⟨by repeat (first | (with_reducible first | exact HB.out | apply below_alloc | apply pw_below_drewN | apply below_drew1))⟩⟩
                ·
                 replace c152 := Bool.eq_false_iff.mpr c152
                 subst c152
                 have H1 : (laws_FnPlacesOfPatternsOfAll.j11 kj123 l7 l8 l9 a10) = some r := by rw [if_neg (show ¬ (false = true) by decide)] at H; exact H
                 clear H
                 have H := H1
                 clear H1
                 have H' := Aside0.mk H
                 clear H
                 go_wp2
                 refine cutMeet hJ_ ?_ (by kernel_rfl)
                 exact ⟨_, H', ⟨by have := HJ11.out; have := HJ24.out; have := HJ56.out; have := HJ104.out; have := HJ123.out; first | omega | exact Nat.le_refl _⟩, ⟨by repeat (first | (with_reducible first | exact HB.out | apply below_alloc | apply pw_below_drewN | apply below_drew1))⟩⟩
              ·
               intro u_ wc hcut
               clear HC151
               obtain ⟨kq, HA, HJ150, HB⟩ := hcut
               dsimp only [cutFgt, mk0]
               cases kq with
               | zero => exact absurd HA.out (by simp [laws_FnPlacesOfPatternsOfAll.j11])
               | succ kj150 =>
                have H := HA.out
                clear HA
                simp only [laws_FnPlacesOfPatternsOfAll.j11] at H
                replace H := Option.bind_eq_some_iff.mp H
                obtain ⟨⟨t397, t398⟩, A1700, H⟩ := H
                replace H : ((spec_NumberWithRests.f kj150 l7 l8).bind fun bt399 => ((impl_RestsOfNumber.f kj150 l9 a10).bind fun bt401 => ((spec_RestsOfNumber.f kj150 l9 a10).bind fun bt405 => (if (t398 != bt399.2) = true then (laws_FnPlacesOfPatternsOfAll.j12 kj150 l7 l8 l9 a10 t397 t398 bt401.1 bt401.2 true) else (if t397 = bt399.1 then (if (bt401.2 != bt405.2) = true then (laws_FnPlacesOfPatternsOfAll.j12 kj150 l7 l8 l9 a10 t397 t398 bt401.1 bt401.2 true) else ((laws_tSame.f kj150 bt401.1 bt405.1).bind fun t409 => (laws_FnPlacesOfPatternsOfAll.j12 kj150 l7 l8 l9 a10 t397 t398 bt401.1 bt401.2 (!t409)))) else (laws_FnPlacesOfPatternsOfAll.j12 kj150 l7 l8 l9 a10 t397 t398 bt401.1 bt401.2 true)))))) = some r := H
                have A170 := Aside0.mk A1700
                clear A1700
                replace H := Option.bind_eq_some_iff.mp H
                obtain ⟨⟨t399, t400⟩, A1710, H⟩ := H
                replace H : ((impl_RestsOfNumber.f kj150 l9 a10).bind fun bt401 => ((spec_RestsOfNumber.f kj150 l9 a10).bind fun bt405 => (if (t398 != t400) = true then (laws_FnPlacesOfPatternsOfAll.j12 kj150 l7 l8 l9 a10 t397 t398 bt401.1 bt401.2 true) else (if t397 = t399 then (if (bt401.2 != bt405.2) = true then (laws_FnPlacesOfPatternsOfAll.j12 kj150 l7 l8 l9 a10 t397 t398 bt401.1 bt401.2 true) else ((laws_tSame.f kj150 bt401.1 bt405.1).bind fun t409 => (laws_FnPlacesOfPatternsOfAll.j12 kj150 l7 l8 l9 a10 t397 t398 bt401.1 bt401.2 (!t409)))) else (laws_FnPlacesOfPatternsOfAll.j12 kj150 l7 l8 l9 a10 t397 t398 bt401.1 bt401.2 true))))) = some r := H
                have A171 := Aside0.mk A1710
                clear A1710
                replace H := Option.bind_eq_some_iff.mp H
                obtain ⟨⟨t401, t402⟩, A1720, H⟩ := H
                replace H : ((spec_RestsOfNumber.f kj150 l9 a10).bind fun bt405 => (if (t398 != t400) = true then (laws_FnPlacesOfPatternsOfAll.j12 kj150 l7 l8 l9 a10 t397 t398 t401 t402 true) else (if t397 = t399 then (if (t402 != bt405.2) = true then (laws_FnPlacesOfPatternsOfAll.j12 kj150 l7 l8 l9 a10 t397 t398 t401 t402 true) else ((laws_tSame.f kj150 t401 bt405.1).bind fun t409 => (laws_FnPlacesOfPatternsOfAll.j12 kj150 l7 l8 l9 a10 t397 t398 t401 t402 (!t409)))) else (laws_FnPlacesOfPatternsOfAll.j12 kj150 l7 l8 l9 a10 t397 t398 t401 t402 true)))) = some r := H
                have A172 := Aside0.mk A1720
                clear A1720
                replace H := Option.bind_eq_some_iff.mp H
                obtain ⟨⟨t405, t406⟩, A1730, H⟩ := H
                replace H : (if (t398 != t400) = true then (laws_FnPlacesOfPatternsOfAll.j12 kj150 l7 l8 l9 a10 t397 t398 t401 t402 true) else (if t397 = t399 then (if (t402 != t406) = true then (laws_FnPlacesOfPatternsOfAll.j12 kj150 l7 l8 l9 a10 t397 t398 t401 t402 true) else ((laws_tSame.f kj150 t401 t405).bind fun t409 => (laws_FnPlacesOfPatternsOfAll.j12 kj150 l7 l8 l9 a10 t397 t398 t401 t402 (!t409)))) else (laws_FnPlacesOfPatternsOfAll.j12 kj150 l7 l8 l9 a10 t397 t398 t401 t402 true))) = some r := H
                have A173 := Aside0.mk A1730
                clear A1730
                have HC174 := Aside0.mk H
                clear H
                go_upto_region 62 with (first | ((with_reducible refine gate_callee (f := 22) rfl ?_); refine goesL_ (some 383) rfl rfl Try.func22 (by kernel_rfl) rfl #[.slice A7 l7.length c7, .slice A8 l8.length c8] rfl (by (try simp only [List.map_toArray, List.map_cons, List.map_nil]); first | done | rfl | (simp only [List.length_drop, List.length_take]; rfl)) ?_; (with_reducible refine (impl_NumberWithRests.calls kj150 _ _ l7 _ _ l8 t397 t398 _ ?side1 ?side2 ?side3 ?side4 A170.out).mono ?_); (case side1 => repeat (first | exact (Kd.C_below HR7.out HB.out) | (with_reducible refine Kd.C_alloc ?_ _) | (with_reducible refine Kd.C_drewN ?_ _) | (with_reducible refine Kd.C_drew ?_))); (case side2 => exact HC7.out); (case side3 => repeat (first | exact (Kd.C_below HR8.out HB.out) | (with_reducible refine Kd.C_alloc ?_ _) | (with_reducible refine Kd.C_drewN ?_ _) | (with_reducible refine Kd.C_drew ?_))); (case side4 => exact HC8.out); rintro e w175 ⟨rfl, hb⟩; refine ⟨_, rfl, ?_⟩; have n0_ := Aside0.mk (below_step (by repeat (first | (with_reducible first | exact HB.out | apply below_alloc | apply pw_below_drewN | apply below_drew1))) hb); clear HB; have HB := n0_; clear n0_; (try clear hb)) | ((with_reducible refine gate_callee (f := 23) rfl ?_); refine goesL_ (some 389) rfl rfl Try.func23 (by kernel_rfl) rfl #[.slice A7 l7.length c7, .slice A8 l8.length c8] rfl (by (try simp only [List.map_toArray, List.map_cons, List.map_nil]); first | done | rfl | (simp only [List.length_drop, List.length_take]; rfl)) ?_; (with_reducible refine (spec_NumberWithRests.calls kj150 _ _ l7 _ _ l8 t399 t400 _ ?side1 ?side2 ?side3 ?side4 A171.out).mono ?_); (case side1 => repeat (first | exact (Kd.C_below HR7.out HB.out) | (with_reducible refine Kd.C_alloc ?_ _) | (with_reducible refine Kd.C_drewN ?_ _) | (with_reducible refine Kd.C_drew ?_))); (case side2 => exact HC7.out); (case side3 => repeat (first | exact (Kd.C_below HR8.out HB.out) | (with_reducible refine Kd.C_alloc ?_ _) | (with_reducible refine Kd.C_drewN ?_ _) | (with_reducible refine Kd.C_drew ?_))); (case side4 => exact HC8.out); rintro e w' ⟨rfl, ⟨nd, rfl⟩⟩; refine ⟨_, rfl, ?_⟩) | ((with_reducible refine gate_callee (f := 24) rfl ?_); refine goesL_ (some 395) rfl rfl Try.func24 (by kernel_rfl) rfl #[.slice A9 l9.length c9, .int .i64 a10] rfl (by (try simp only [List.map_toArray, List.map_cons, List.map_nil]); first | done | rfl | (simp only [List.length_drop, List.length_take]; rfl)) ?_; (with_reducible refine (impl_RestsOfNumber.calls kj150 _ _ l9 a10 t401 t402 _ ?side1 ?side2 A172.out).mono ?_); (case side1 => repeat (first | exact (Kd.C_below HR9.out (by repeat (first | (with_reducible first | exact HB.out | apply below_alloc | apply pw_below_drewN | apply below_drew1)))) | (with_reducible refine Kd.C_alloc ?_ _) | (with_reducible refine Kd.C_drewN ?_ _) | (with_reducible refine Kd.C_drew ?_))); (case side2 => exact HC9.out); rintro e w176 ⟨v403, rfl, ho0, hb⟩; refine ⟨_, rfl, ?_⟩; have n0_ := Aside0.mk (Kd.R_lower ho0 (below_size (by repeat (first | (with_reducible first | exact HB.out | apply below_alloc | apply pw_below_drewN | apply below_drew1))))); have n1_ := Aside0.mk (below_step (by repeat (first | (with_reducible first | exact HB.out | apply below_alloc | apply pw_below_drewN | apply below_drew1))) hb); clear HB; have HO404 := n0_; have HB := n1_; clear n0_ n1_; (try clear hb); (try clear ho0)) | ((with_reducible refine gate_callee (f := 25) rfl ?_); refine goesL_ (some 401) rfl rfl Try.func25 (by kernel_rfl) rfl #[.slice A9 l9.length c9, .int .i64 a10] rfl (by (try simp only [List.map_toArray, List.map_cons, List.map_nil]); first | done | rfl | (simp only [List.length_drop, List.length_take]; rfl)) ?_; (with_reducible refine (spec_RestsOfNumber.calls kj150 _ _ l9 a10 t405 t406 _ ?side1 ?side2 A173.out).mono ?_); (case side1 => repeat (first | exact (Kd.C_below HR9.out HB.out) | (with_reducible refine Kd.C_alloc ?_ _) | (with_reducible refine Kd.C_drewN ?_ _) | (with_reducible refine Kd.C_drew ?_))); (case side2 => exact HC9.out); rintro e w177 ⟨v407, rfl, ho0, hb⟩; refine ⟨_, rfl, ?_⟩; have n0_ := Aside0.mk (Kd.R_elder' (by (with_reducible repeat (first | apply Kd.R_alloc | apply Kd.R_drewN | apply Kd.R_drew)); exact HO404.out) (Kd.R_base ho0) hb); have n1_ := Aside0.mk (Kd.R_lower (Kd.R_new' ho0 (Kd.R_lt (by (with_reducible repeat (first | apply Kd.R_alloc | apply Kd.R_drewN | apply Kd.R_drew)); exact HO404.out))) (below_size (by repeat (first | (with_reducible first | exact HB.out | apply below_alloc | apply pw_below_drewN | apply below_drew1))))); have n2_ := Aside0.mk (below_step (by repeat (first | (with_reducible first | exact HB.out | apply below_alloc | apply pw_below_drewN | apply below_drew1))) hb); clear HO404; clear HB; have HO404 := n0_; have HO408 := n1_; have HB := n2_; clear n0_ n1_ n2_; (try clear hb); (try clear ho0)))
                (try simp only [Act.put, List.setIfInBounds_toArray, List.set_cons_zero, List.set_cons_succ])
                refine cutF mk0 [] (fun u_ wc => ∃ (kq : Nat) (x422_173 : Bool), (u_ 422) = .bool x422_173 ∧ Aside0 (laws_FnPlacesOfPatternsOfAll.j12 kq l7 l8 l9 a10 t397 t398 t401 t402 x422_173 = some r) ∧ Aside0 (kq ≤ kj150) ∧ Aside0 (Kd.R (Kd.int .i64) 3 wc w.heap.size (fun _ => True) v403 t401) ∧ Aside0 (Below w.heap.size w wc)) ?_ ?_
                ·
                 as_aux_lemma =>
                  intro J_ K_ hJ_ hK_
                  have H := HC174.out
                  clear HC174
                  by_cases c178 : (t398 != t400) = true
                  ·
                   rw [if_pos c178] at H
                   exact (laws_FnPlacesOfPatternsOfAll.j12_no _ _ _ _ _ _ _ _ _ (H.trans (congrArg some HRT.out))).elim
                  ·
                   rw [if_neg c178] at H
                   have c178b0 : (t398 != t400) = false := by simpa using c178
                   (try (have c178b1 : decide (t398 = t400) = true := by simpa using c178))
                   (try (have c178b2 : (t398 == t400) = true := by simpa using c178))
                   clear c178
                   (first | rw [c178b0] | (simp only [i64_w, i32_w]; rw [c178b0]) | skip)
                   by_cases c179 : t397 = t399
                   ·
                    rw [if_pos c179] at H
                    have c179b0 : (t397 == t399) = true := beq_iff_eq.mpr c179
                    have c179b1 : (t397 != t399) = false := bne_eq_false_iff_eq.mpr c179
                    clear c179
                    by_cases c180 : (t402 != t406) = true
                    ·
                     rw [if_pos c180] at H
                     exact (laws_FnPlacesOfPatternsOfAll.j12_no _ _ _ _ _ _ _ _ _ (H.trans (congrArg some HRT.out))).elim
                    ·
                     rw [if_neg c180] at H
                     have c180b0 : (t402 != t406) = false := by simpa using c180
                     (try (have c180b1 : decide (t402 = t406) = true := by simpa using c180))
                     (try (have c180b2 : (t402 == t406) = true := by simpa using c180))
                     clear c180
                     replace H := Option.bind_eq_some_iff.mp H
                     obtain ⟨t409, A1810, H⟩ := H
                     replace H : (laws_FnPlacesOfPatternsOfAll.j12 kj150 l7 l8 l9 a10 t397 t398 t401 t402 (!t409)) = some r := H
                     have A181 := Aside0.mk A1810
                     clear A1810
                     have H' := Aside0.mk H
                     clear H
                     obtain ⟨Ao182, co182, eo182⟩ := Kd.R_slice HO404.out
                     subst eo182
                     obtain ⟨Ao183, co183, eo183⟩ := Kd.R_slice HO408.out
                     subst eo183
                     go_wp2_with (first | (go_at_call 17; (with_reducible refine (laws_tSame.calls kj150 _ _ t401 _ _ t405 t409 _ ?side1 ?side2 ?side3 ?side4 A181.out).mono ?_); (case side1 => repeat (first | exact (Kd.R_reads' HO404.out).2.2 | (with_reducible refine Kd.C_alloc ?_ _) | (with_reducible refine Kd.C_drewN ?_ _) | (with_reducible refine Kd.C_drew ?_))); (case side2 => exact (Kd.R_reads' HO404.out).2.1); (case side3 => repeat (first | exact (Kd.R_reads' HO408.out).2.2 | (with_reducible refine Kd.C_alloc ?_ _) | (with_reducible refine Kd.C_drewN ?_ _) | (with_reducible refine Kd.C_drew ?_))); (case side4 => exact (Kd.R_reads' HO408.out).2.1); rintro e w' ⟨rfl, ⟨nd, rfl⟩⟩))
                     refine cutMeet hJ_ ?_ (by kernel_rfl)
                     exact ⟨_, (!t409), (by first | rfl | (simp; done) | (simp [*]; done)), H', ⟨by have := HJ11.out; have := HJ24.out; have := HJ56.out; have := HJ104.out; have := HJ123.out; have := HJ150.out; first | omega | exact Nat.le_refl _⟩, ⟨by (with_reducible repeat (first | apply Kd.R_alloc | apply Kd.R_drewN | apply Kd.R_drew)); exact Kd.R_mono HO404.out (fun _ hk => trivial)⟩, ⟨by repeat (first | (with_reducible first | exact HB.out | apply below_alloc | apply pw_below_drewN | apply below_drew1))⟩⟩
                   ·
                    rw [if_neg c179] at H
                    exact (laws_FnPlacesOfPatternsOfAll.j12_no _ _ _ _ _ _ _ _ _ (H.trans (congrArg some HRT.out))).elim
                ·
                 intro u_ wc hcut
                 clear HC174
                 obtain ⟨kq, x422_173, e_422, HA, HJ173, HO_68, HB⟩ := hcut
                 dsimp only [cutFgt, mk0]
                 rw [e_422]
                 cases kq with
                 | zero => exact absurd HA.out (by simp [laws_FnPlacesOfPatternsOfAll.j12])
                 | succ kj173 =>
                  have H := HA.out
                  clear HA
                  simp only [laws_FnPlacesOfPatternsOfAll.j12] at H
                  by_cases c184 : x422_173 = true
                  ·
                   subst c184
                   have H1 : (some false) = some r := by rw [if_pos rfl] at H; exact H
                   clear H
                   have H := H1
                   clear H1
                   exact absurd (Option.some.inj (H.trans (congrArg some HRT.out))) Bool.false_ne_true
                  ·
                   replace c184 := Bool.eq_false_iff.mpr c184
                   subst c184
                   have H1 : (if t398 = true then ((impl_RestsOfNumber.f kj173 l7 t397).bind fun bt410 => (if bt410.2 = true then ((laws_tSame.f kj173 bt410.1 l8).bind fun t414 => (if t414 = true then (laws_FnPlacesOfPatternsOfAll.j13 kj173 l9 a10 t401 t402) else (some false))) else (some false))) else (laws_FnPlacesOfPatternsOfAll.j13 kj173 l9 a10 t401 t402)) = some r := by rw [if_neg (show ¬ (false = true) by decide)] at H; exact H
                   clear H
                   have H := H1
                   clear H1
                   have HC185 := Aside0.mk H
                   clear H
                   go_upto_if 423 with (fail)
                   refine cutF mk0 [none, none, none, none, none, none, none, none, none, none, none, none, none, none, none, none, none, none, none, none, none, none, some 22, none, none, none, none, none, none, none, none, none, none, none, none, none, none, none, none, none, none, none, none, none, none, none, none, none, none, none, none, none, none, none, none, none, none, none, none, none, none, none, none, none, none, none, none, none, none, none, none, none, some 72, some 73] (fun u_ wc => ∃ (kq : Nat), Aside0 (laws_FnPlacesOfPatternsOfAll.j13 kq l9 a10 t401 t402 = some r) ∧ Aside0 (kq ≤ kj173) ∧ Aside0 (Kd.R (Kd.int .i64) 3 wc w.heap.size (fun _ => True) v403 t401) ∧ Aside0 (Below w.heap.size w wc)) ?_ ?_
                   ·
                    as_aux_lemma =>
                     intro J_ K_ hJ_ hK_
                     have H := HC185.out
                     clear HC185
                     by_cases c186 : t398 = true
                     ·
                      subst c186
                      have H1 : ((impl_RestsOfNumber.f kj173 l7 t397).bind fun bt410 => (if bt410.2 = true then ((laws_tSame.f kj173 bt410.1 l8).bind fun t414 => (if t414 = true then (laws_FnPlacesOfPatternsOfAll.j13 kj173 l9 a10 t401 t402) else (some false))) else (some false))) = some r := by rw [if_pos rfl] at H; exact H
                      clear H
                      have H := H1
                      clear H1
                      replace H := Option.bind_eq_some_iff.mp H
                      obtain ⟨⟨t410, t411⟩, A1870, H⟩ := H
                      replace H : (if t411 = true then ((laws_tSame.f kj173 t410 l8).bind fun t414 => (if t414 = true then (laws_FnPlacesOfPatternsOfAll.j13 kj173 l9 a10 t401 t402) else (some false))) else (some false)) = some r := H
                      have A187 := Aside0.mk A1870
                      clear A1870
                      by_cases c188 : t411 = true
                      ·
                       subst c188
                       have H1 : ((laws_tSame.f kj173 t410 l8).bind fun t414 => (if t414 = true then (laws_FnPlacesOfPatternsOfAll.j13 kj173 l9 a10 t401 t402) else (some false))) = some r := by rw [if_pos rfl] at H; exact H
                       clear H
                       have H := H1
                       clear H1
                       replace H := Option.bind_eq_some_iff.mp H
                       obtain ⟨t414, A1890, H⟩ := H
                       replace H : (if t414 = true then (laws_FnPlacesOfPatternsOfAll.j13 kj173 l9 a10 t401 t402) else (some false)) = some r := H
                       have A189 := Aside0.mk A1890
                       clear A1890
                       by_cases c190 : t414 = true
                       ·
                        subst c190
                        have H1 : (laws_FnPlacesOfPatternsOfAll.j13 kj173 l9 a10 t401 t402) = some r := by rw [if_pos rfl] at H; exact H
                        clear H
                        have H := H1
                        clear H1
                        have H' := Aside0.mk H
                        clear H
                        go_wp2_with (first | ((with_reducible refine gate_callee (f := 24) rfl ?_); refine goesL_ (some 427) rfl rfl Try.func24 (by kernel_rfl) rfl #[.slice A7 l7.length c7, .int .i64 t397] rfl (by (try simp only [List.map_toArray, List.map_cons, List.map_nil]); first | done | rfl | (simp only [List.length_drop, List.length_take]; rfl)) ?_; (with_reducible refine (impl_RestsOfNumber.calls kj173 _ _ l7 t397 t410 true _ ?side1 ?side2 A187.out).mono ?_); (case side1 => repeat (first | exact (Kd.C_below HR7.out HB.out) | (with_reducible refine Kd.C_alloc ?_ _) | (with_reducible refine Kd.C_drewN ?_ _) | (with_reducible refine Kd.C_drew ?_))); (case side2 => exact HC7.out); rintro e w191 ⟨v412, rfl, ho0, hb⟩; refine ⟨_, rfl, ?_⟩; have n0_ := Aside0.mk (Kd.R_elder' (by (with_reducible repeat (first | apply Kd.R_alloc | apply Kd.R_drewN | apply Kd.R_drew)); exact HO_68.out) (Kd.R_base ho0) hb); have n1_ := Aside0.mk (Kd.R_lower (Kd.R_new' ho0 (Kd.R_lt (by (with_reducible repeat (first | apply Kd.R_alloc | apply Kd.R_drewN | apply Kd.R_drew)); exact HO_68.out))) (below_size (by repeat (first | (with_reducible first | exact HB.out | apply below_alloc | apply pw_below_drewN | apply below_drew1))))); have n2_ := Aside0.mk (below_step (by repeat (first | (with_reducible first | exact HB.out | apply below_alloc | apply pw_below_drewN | apply below_drew1))) hb); clear HO_68; clear HB; have HO_68 := n0_; have HO413 := n1_; have HB := n2_; clear n0_ n1_ n2_; (try clear hb); (try clear ho0); obtain ⟨Ao192, co192, eo192⟩ := Kd.R_slice HO413.out; subst eo192) | (go_at_call 17; (with_reducible refine (laws_tSame.calls kj173 _ _ t410 _ _ l8 true _ ?side1 ?side2 ?side3 ?side4 A189.out).mono ?_); (case side1 => repeat (first | exact (Kd.R_reads' HO413.out).2.2 | (with_reducible refine Kd.C_alloc ?_ _) | (with_reducible refine Kd.C_drewN ?_ _) | (with_reducible refine Kd.C_drew ?_))); (case side2 => exact (Kd.R_reads' HO413.out).2.1); (case side3 => repeat (first | exact (Kd.C_below HR8.out HB.out) | (with_reducible refine Kd.C_alloc ?_ _) | (with_reducible refine Kd.C_drewN ?_ _) | (with_reducible refine Kd.C_drew ?_))); (case side4 => exact HC8.out); rintro e w' ⟨rfl, ⟨nd, rfl⟩⟩))
                        refine cutMeet hJ_ ?_ (by kernel_rfl)
                        exact ⟨_, H', ⟨by have := HJ11.out; have := HJ24.out; have := HJ56.out; have := HJ104.out; have := HJ123.out; have := HJ150.out; have := HJ173.out; first | omega | exact Nat.le_refl _⟩, ⟨by (with_reducible repeat (first | apply Kd.R_alloc | apply Kd.R_drewN | apply Kd.R_drew)); exact Kd.R_mono HO_68.out (fun _ hk => trivial)⟩, ⟨by repeat (first | (with_reducible first | exact HB.out | apply below_alloc | apply pw_below_drewN | apply below_drew1))⟩⟩
                       ·
                        replace c190 := Bool.eq_false_iff.mpr c190
                        subst c190
                        have H1 : (some false) = some r := by rw [if_neg (show ¬ (false = true) by decide)] at H; exact H
                        clear H
                        have H := H1
                        clear H1
                        exact absurd (Option.some.inj (H.trans (congrArg some HRT.out))) Bool.false_ne_true
                      ·
                       replace c188 := Bool.eq_false_iff.mpr c188
                       subst c188
                       have H1 : (some false) = some r := by rw [if_neg (show ¬ (false = true) by decide)] at H; exact H
                       clear H
                       have H := H1
                       clear H1
                       exact absurd (Option.some.inj (H.trans (congrArg some HRT.out))) Bool.false_ne_true
                     ·
                      replace c186 := Bool.eq_false_iff.mpr c186
                      subst c186
                      have H1 : (laws_FnPlacesOfPatternsOfAll.j13 kj173 l9 a10 t401 t402) = some r := by rw [if_neg (show ¬ (false = true) by decide)] at H; exact H
                      clear H
                      have H := H1
                      clear H1
                      have H' := Aside0.mk H
                      clear H
                      go_wp2
                      refine cutMeet hJ_ ?_ (by kernel_rfl)
                      exact ⟨_, H', ⟨by have := HJ11.out; have := HJ24.out; have := HJ56.out; have := HJ104.out; have := HJ123.out; have := HJ150.out; have := HJ173.out; first | omega | exact Nat.le_refl _⟩, ⟨by (with_reducible repeat (first | apply Kd.R_alloc | apply Kd.R_drewN | apply Kd.R_drew)); exact HO_68.out⟩, ⟨by repeat (first | (with_reducible first | exact HB.out | apply below_alloc | apply pw_below_drewN | apply below_drew1))⟩⟩
                   ·
                    intro u_ wc hcut
                    clear HC185
                    obtain ⟨kq, HA, HJ184, HO_68, HB⟩ := hcut
                    dsimp only [cutFgt, mk0]
                    cases kq with
                    | zero => exact absurd HA.out (by simp [laws_FnPlacesOfPatternsOfAll.j13])
                    | succ kj184 =>
                     have H := HA.out
                     clear HA
                     simp only [laws_FnPlacesOfPatternsOfAll.j13] at H
                     by_cases c196 : t402 = true
                     ·
                      subst c196
                      have H1 : ((impl_NumberWithRests.f kj184 l9 t401).bind fun bt415 => (laws_FnPlacesOfPatternsOfAll.l3 kj184 a10 bt415.1 bt415.2 1 l9 (l9.length : Int) 0)) = some r := by rw [if_pos rfl] at H; exact H
                      clear H
                      have H := H1
                      clear H1
                      replace H := Option.bind_eq_some_iff.mp H
                      obtain ⟨⟨t415, t416⟩, A1970, H⟩ := H
                      replace H : (laws_FnPlacesOfPatternsOfAll.l3 kj184 a10 t415 t416 1 l9 (l9.length : Int) 0) = some r := H
                      have A197 := Aside0.mk A1970
                      clear A1970
                      have H' := Aside0.mk H
                      clear H
                      obtain ⟨Ao198, co198, eo198⟩ := Kd.R_slice HO_68.out
                      subst eo198
                      go_wp2_with (first | ((with_reducible refine gate_callee (f := 22) rfl ?_); refine goesL_ (some 442) rfl rfl Try.func22 (by kernel_rfl) rfl #[.slice A9 l9.length c9, .slice Ao198 t401.length co198] rfl (by (try simp only [List.map_toArray, List.map_cons, List.map_nil]); first | done | rfl | (simp only [List.length_drop, List.length_take]; rfl)) ?_; (with_reducible refine (impl_NumberWithRests.calls kj184 _ _ l9 _ _ t401 t415 t416 _ ?side1 ?side2 ?side3 ?side4 A197.out).mono ?_); (case side1 => repeat (first | exact (Kd.C_below HR9.out HB.out) | (with_reducible refine Kd.C_alloc ?_ _) | (with_reducible refine Kd.C_drewN ?_ _) | (with_reducible refine Kd.C_drew ?_))); (case side2 => exact HC9.out); (case side3 => repeat (first | exact (Kd.R_reads' HO_68.out).2.2 | (with_reducible refine Kd.C_alloc ?_ _) | (with_reducible refine Kd.C_drewN ?_ _) | (with_reducible refine Kd.C_drew ?_))); (case side4 => exact (Kd.R_reads' HO_68.out).2.1); rintro e w199 ⟨rfl, hb⟩; refine ⟨_, rfl, ?_⟩; have n0_ := Aside0.mk (Kd.R_below (by (with_reducible repeat (first | apply Kd.R_alloc | apply Kd.R_drewN | apply Kd.R_drew)); exact HO_68.out) hb); have n1_ := Aside0.mk (below_step (by repeat (first | (with_reducible first | exact HB.out | apply below_alloc | apply pw_below_drewN | apply below_drew1))) hb); clear HO_68; clear HB; have HO_68 := n0_; have HB := n1_; clear n0_ n1_; (try clear hb)))
                      go_loopg [76, 447] kj184 (fun kq v76 v447 w' => ∃ (x76_9 : Int) (x447_9 : Int), v76 = .int .i64 x76_9 ∧ v447 = .int .i64 x447_9 ∧ Aside0 (laws_FnPlacesOfPatternsOfAll.l3 kq a10 t415 t416 x76_9 l9 (l9.length : Int) x447_9 = some r) ∧ Aside0 (kq ≤ kj184) ∧ Aside0 (Below w.heap.size w w'))
                      case atStart => exact ⟨(1), (0), (by first | rfl | (simp; done) | (simp [*]; done)), (by first | rfl | (simp; done) | (simp [*]; done)), H', ⟨Nat.le_refl _⟩, ⟨by repeat (first | (with_reducible first | exact HB.out | apply below_alloc | apply pw_below_drewN | apply below_drew1))⟩⟩
                      case round =>
                       clear H'
                       obtain ⟨x76_9, x447_9, rfl, rfl, HA, HK9, HB⟩ := hrel
                       cases gk with
                       | zero => exact absurd HA.out (by simp [laws_FnPlacesOfPatternsOfAll.l3])
                       | succ k9 =>
                        have H := HA.out
                        clear HA
                        simp only [laws_FnPlacesOfPatternsOfAll.l3] at H
                        by_cases c200 : x447_9 < (l9.length : Int)
                        ·
                         rw [if_pos c200] at H
                         have c200b0 : decide (x447_9 < (l9.length : Int)) = true := decide_eq_true c200
                         clear c200
                         by_cases c201 : 0 ≤ x447_9
                         ·
                          rw [if_pos c201] at H
                          have c201b0 : decide (0 ≤ x447_9) = true := decide_eq_true c201
                          clear c201
                          by_cases c202 : x447_9 < (l9.length : Int)
                          ·
                           rw [if_pos c202] at H
                           have c202b0 : decide (x447_9 < (l9.length : Int)) = true := decide_eq_true c202
                           clear c202
                           have H' := Aside0.mk H
                           clear H
                           have p417 : 0 ≤ (x447_9 : Int) := of_decide_eq_true (by first | (with_reducible assumption) | assumption)
                           have q417 : x447_9 < (l9.length : Int) := of_decide_eq_true (by first | (with_reducible assumption) | assumption)
                           obtain ⟨ad417, e417, hx417_0⟩ := Kd.at_int HR9.out x447_9 p417 q417
                           cases e417
                           (try replace hx417_0 := (HB.out.cell (World.block_lt_of_cell? w _ hx417_0)).trans hx417_0)
                           replace p417 := eq_true p417
                           replace q417 := eq_true q417
                           go_wp2
                           go_roundg k9
                           case measure => have := HJ11.out; have := HJ24.out; have := HJ56.out; have := HJ104.out; have := HJ123.out; have := HJ150.out; have := HJ173.out; have := HJ184.out; have := HK9.out; omega
                           case rel => exact ⟨(wrap64 (x76_9 * (rd l9 x447_9))), (wrap64 (x447_9 + 1)), (by first | rfl | (simp; done) | (simp [*]; done)), (by first | rfl | (simp; done) | (simp [*]; done)), H', ⟨by have := HJ11.out; have := HJ24.out; have := HJ56.out; have := HJ104.out; have := HJ123.out; have := HJ150.out; have := HJ173.out; have := HJ184.out; have := HK9.out; omega⟩, ⟨by repeat (first | (with_reducible first | exact HB.out | apply below_alloc | apply pw_below_drewN | apply below_drew1))⟩⟩
                          ·
                           rw [if_neg c202] at H
                           exact absurd H (by simp)
                         ·
                          rw [if_neg c201] at H
                          exact absurd H (by simp)
                        ·
                         rw [if_neg c200] at H
                         have c200b0 : decide (x447_9 < (l9.length : Int)) = false := decide_eq_false c200
                         clear c200
                         by_cases c203 : t416 = true
                         ·
                          subst c203
                          have H1 : (if x76_9 = 0 then (none) else (some (t415 == (Int.tmod a10 x76_9)))) = some r := by rw [if_pos rfl] at H; exact H
                          clear H
                          have H := H1
                          clear H1
                          by_cases c204 : x76_9 = 0
                          ·
                           rw [if_pos c204] at H
                           exact absurd H (by simp)
                          ·
                           rw [if_neg c204] at H
                           have c204b0 : (x76_9 == 0) = false := beq_eq_false_iff_ne.mpr c204
                           have c204b1 : (x76_9 != 0) = true := bne_iff_ne.mpr c204
                           first
                           | exact absurd (Option.some.inj (H.trans (congrArg some HRT.out))) Bool.false_ne_true
                           |
                            obtain rfl := Option.some.inj H
                            go_wp2
                            go_ret
                            exact ⟨by first | rfl | (simp [errW_none, errW_some] <;> rfl) | (simp [*, errW_none, errW_some] <;> rfl), by repeat (first | (with_reducible first | exact HB.out | apply below_alloc | apply pw_below_drewN | apply below_drew1))⟩
                         ·
                          replace c203 := Bool.eq_false_iff.mpr c203
                          subst c203
                          have H1 : (some false) = some r := by rw [if_neg (show ¬ (false = true) by decide)] at H; exact H
                          clear H
                          have H := H1
                          clear H1
                          exact absurd (Option.some.inj (H.trans (congrArg some HRT.out))) Bool.false_ne_true
                     ·
                      replace c196 := Bool.eq_false_iff.mpr c196
                      subst c196
                      have H1 : (some true) = some r := by rw [if_neg (show ¬ (false = true) by decide)] at H; exact H
                      clear H
                      have H := H1
                      clear H1
                      first
                      | exact absurd (Option.some.inj (H.trans (congrArg some HRT.out))) Bool.false_ne_true
                      |
                       obtain rfl := Option.some.inj H
                       go_wp2
                       go_ret
                       exact ⟨by first | rfl | (simp [errW_none, errW_some] <;> rfl) | (simp [*, errW_none, errW_some] <;> rfl), by repeat (first | (with_reducible first | exact HB.out | apply below_alloc | apply pw_below_drewN | apply below_drew1))⟩

/-- THE ONE PURE STATEMENT of laws_FnPlacesOfPatternsOfAll: yours. -/
def laws_FnPlacesOfPatternsOfAll.Pure : Prop := ∀ (l0 : List Int) (a1 : Int) (l2 : List Int) (a3 : Int) (a4 : Int) (l5 : List Int) (a6 : Int) (l7 : List Int) (l8 : List Int) (l9 : List Int) (a10 : Int), l0.length ≤ maxLen → l0.length * 8 ≤ 140737488351232 → (∀ x ∈ l0, (Lit.int .i64 x).wf = true) → (Lit.int .i64 a1).wf = true → l2.length ≤ maxLen → l2.length * 8 ≤ 140737488351232 → (∀ x ∈ l2, (Lit.int .i64 x).wf = true) → (Lit.int .i64 a3).wf = true → (Lit.int .i64 a4).wf = true → l5.length ≤ maxLen → l5.length * 8 ≤ 140737488351232 → (∀ x ∈ l5, (Lit.int .i64 x).wf = true) → (Lit.int .i64 a6).wf = true → l7.length ≤ maxLen → l7.length * 8 ≤ 140737488351232 → (∀ x ∈ l7, (Lit.int .i64 x).wf = true) → l8.length ≤ maxLen → l8.length * 8 ≤ 140737488351232 → (∀ x ∈ l8, (Lit.int .i64 x).wf = true) → l9.length ≤ maxLen → l9.length * 8 ≤ 140737488351232 → (∀ x ∈ l9, (Lit.int .i64 x).wf = true) → (Lit.int .i64 a10).wf = true → ∃ k, laws_FnPlacesOfPatternsOfAll.f k l0 a1 l2 a3 a4 l5 a6 l7 l8 l9 a10 = some true
theorem laws_FnPlacesOfPatternsOfAll.walk (P : laws_FnPlacesOfPatternsOfAll.Pure) (a0 : Option Addr) (len0 cap0 : Nat) (z0 : List Int) (a1 : Int) (a2 : Option Addr) (len2 cap2 : Nat) (z2 : List Int) (a3 : Int) (a4 : Int) (a5 : Option Addr) (len5 cap5 : Nat) (z5 : List Int) (a6 : Int) (a7 : Option Addr) (len7 cap7 : Nat) (z7 : List Int) (a8 : Option Addr) (len8 cap8 : Nat) (z8 : List Int) (a9 : Option Addr) (len9 cap9 : Nat) (z9 : List Int) (a10 : Int) (w : World) (w0 : (a0 = none ∧ len0 = 0 ∧ cap0 = 0 ∧ z0 = []) ∨ ∃ x, a0 = some x ∧ len0 ≤ cap0 ∧ cap0 ≤ maxLen ∧ z0.length = cap0 ∧ (∀ i, i < z0.length → w.cell? (x.add i) = some (.int .i64 (z0.getD i 0))) ∧ ∀ n ∈ z0, (Lit.int .i64 n).wf = true) (y0 : len0 * 8 ≤ 140737488351232) (w1 : (Lit.int .i64 a1).wf = true) (w2 : (a2 = none ∧ len2 = 0 ∧ cap2 = 0 ∧ z2 = []) ∨ ∃ x, a2 = some x ∧ len2 ≤ cap2 ∧ cap2 ≤ maxLen ∧ z2.length = cap2 ∧ (∀ i, i < z2.length → w.cell? (x.add i) = some (.int .i64 (z2.getD i 0))) ∧ ∀ n ∈ z2, (Lit.int .i64 n).wf = true) (y2 : len2 * 8 ≤ 140737488351232) (w3 : (Lit.int .i64 a3).wf = true) (w4 : (Lit.int .i64 a4).wf = true) (w5 : (a5 = none ∧ len5 = 0 ∧ cap5 = 0 ∧ z5 = []) ∨ ∃ x, a5 = some x ∧ len5 ≤ cap5 ∧ cap5 ≤ maxLen ∧ z5.length = cap5 ∧ (∀ i, i < z5.length → w.cell? (x.add i) = some (.int .i64 (z5.getD i 0))) ∧ ∀ n ∈ z5, (Lit.int .i64 n).wf = true) (y5 : len5 * 8 ≤ 140737488351232) (w6 : (Lit.int .i64 a6).wf = true) (w7 : (a7 = none ∧ len7 = 0 ∧ cap7 = 0 ∧ z7 = []) ∨ ∃ x, a7 = some x ∧ len7 ≤ cap7 ∧ cap7 ≤ maxLen ∧ z7.length = cap7 ∧ (∀ i, i < z7.length → w.cell? (x.add i) = some (.int .i64 (z7.getD i 0))) ∧ ∀ n ∈ z7, (Lit.int .i64 n).wf = true) (y7 : len7 * 8 ≤ 140737488351232) (w8 : (a8 = none ∧ len8 = 0 ∧ cap8 = 0 ∧ z8 = []) ∨ ∃ x, a8 = some x ∧ len8 ≤ cap8 ∧ cap8 ≤ maxLen ∧ z8.length = cap8 ∧ (∀ i, i < z8.length → w.cell? (x.add i) = some (.int .i64 (z8.getD i 0))) ∧ ∀ n ∈ z8, (Lit.int .i64 n).wf = true) (y8 : len8 * 8 ≤ 140737488351232) (w9 : (a9 = none ∧ len9 = 0 ∧ cap9 = 0 ∧ z9 = []) ∨ ∃ x, a9 = some x ∧ len9 ≤ cap9 ∧ cap9 ≤ maxLen ∧ z9.length = cap9 ∧ (∀ i, i < z9.length → w.cell? (x.add i) = some (.int .i64 (z9.getD i 0))) ∧ ∀ n ∈ z9, (Lit.int .i64 n).wf = true) (y9 : len9 * 8 ≤ 140737488351232) (w10 : (Lit.int .i64 a10).wf = true) :
  Calls Try.prog 3 #[.slice a0 len0 cap0, .int .i64 a1, .slice a2 len2 cap2, .int .i64 a3, .int .i64 a4, .slice a5 len5 cap5, .int .i64 a6, .slice a7 len7 cap7, .slice a8 len8 cap8, .slice a9 len9 cap9, .int .i64 a10] w fun e w' => e = .returned (.bool true) ∧ Below w.heap.size w w' := by
 obtain ⟨l0, rfl, hr0, hm0, hw0, hc0⟩ := ReadsInt.ofRowC w0
 obtain ⟨l2, rfl, hr2, hm2, hw2, hc2⟩ := ReadsInt.ofRowC w2
 obtain ⟨l5, rfl, hr5, hm5, hw5, hc5⟩ := ReadsInt.ofRowC w5
 obtain ⟨l7, rfl, hr7, hm7, hw7, hc7⟩ := ReadsInt.ofRowC w7
 obtain ⟨l8, rfl, hr8, hm8, hw8, hc8⟩ := ReadsInt.ofRowC w8
 obtain ⟨l9, rfl, hr9, hm9, hw9, hc9⟩ := ReadsInt.ofRowC w9
 obtain ⟨k, h⟩ := P l0 a1 l2 a3 a4 l5 a6 l7 l8 l9 a10 hm0 y0 hw0 w1 hm2 y2 hw2 w3 w4 hm5 y5 hw5 w6 hm7 y7 hw7 hm8 y8 hw8 hm9 y9 hw9 w10
 refine (laws_FnPlacesOfPatternsOfAll.calls k _ _ l0 a1 _ _ l2 a3 a4 _ _ l5 a6 _ _ l7 _ _ l8 _ _ l9 a10 true w (Kd.C_of_reads (d := (0 : Int)) (h1 := fun _ => rfl) hr0) hc0 (Kd.C_of_reads (d := (0 : Int)) (h1 := fun _ => rfl) hr2) hc2 (Kd.C_of_reads (d := (0 : Int)) (h1 := fun _ => rfl) hr5) hc5 (Kd.C_of_reads (d := (0 : Int)) (h1 := fun _ => rfl) hr7) hc7 (Kd.C_of_reads (d := (0 : Int)) (h1 := fun _ => rfl) hr8) hc8 (Kd.C_of_reads (d := (0 : Int)) (h1 := fun _ => rfl) hr9) hc9 h rfl).mono ?_
 rintro e w' ⟨rfl, hd⟩
 exact ⟨rfl, hd⟩

end Go.Proofs.Ytghajkmoinfjnaa.PFnPlacesOfPatternsOfAll
