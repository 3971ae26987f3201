-- Written for this claim by a program of this session, out of the translation and given contracts.
import Derived.Test.YtbdapgjgjllojaaPFnPatternsOpenx0
import Derived.Test.YtbdapgjgjllojaaPFnPatternsOpenx1
import Derived.Test.YtbdapgjgjllojaaPFnPatternsOpenx2
import Derived.Test.YtbdapgjgjllojaaPFnPatternsOpenx3
import Derived.Test.YtbdapgjgjllojaaPFnPatternsOpenx4
import Derived.Test.YtbdapgjgjllojaaPFnPatternsOpenx5
import Derived.Test.YtbdapgjgjllojaaPFnPatternsOpenx6
import Derived.Test.YtbdapgjgjllojaaPFnPatternsOpenx7
import Derived.Test.YtbdapgjgjllojaaPFnPatternsOpenx8
import Derived.Test.YtbdapgjgjllojaaPFnPatternsOpenx9
import Derived.Test.YtbdapgjgjllojaaPFnPatternsOpenx10
import Derived.Test.YtbdapgjgjllojaaPFnPatternsOpenx11
namespace Go.Proofs.Ytbdapgjgjllojaa.PFnPatternsOpen
open Go.RowKit Go.Proofs.YtbdapgjgjllojaaW.PrintWords Go.Proofs.YtbdapgjgjllojaaW.PrintLast Go.Proofs.YtbdapgjgjllojaaW.PrintMore
attribute [local go_sem] max2_int min2_int max_two min_two max_three min_three max_four min_four   -- for this text's walks alone
set_option linter.unusedVariables false
set_option linter.unusedSimpArgs false

/-! ### laws_FnPatternsOpen: function 4 -/
mutual
def laws_FnPatternsOpen.j0 : Nat → List Int → List Int → Bool → Bool → Int → Bool → List Int → Bool → Option (Bool)
 | 0, _, _, _, _, _, _, _, _ => none
 | k + 1, x1, x5, x6, x7, x10, x11, x14, x163 => if x163 = true then (some false) else (if x7 = true then ((impl_IsOpen.f k x14).bind fun bt364 => ((impl_BackPattern.f k x14).bind fun bt366 => (if bt364.2 = true then (if (bt364.1 != x6) = true then (laws_FnPatternsOpen.j1 k x1 x5 x6 x10 x11 true) else (if bt366.2 = true then ((laws_tSame.f k bt366.1 x5).bind fun t370 => (laws_FnPatternsOpen.j1 k x1 x5 x6 x10 x11 (!t370))) else (laws_FnPatternsOpen.j1 k x1 x5 x6 x10 x11 true))) else (laws_FnPatternsOpen.j1 k x1 x5 x6 x10 x11 true)))) else (laws_FnPatternsOpen.j6 k x1))
def laws_FnPatternsOpen.j6 : Nat → List Int → Option (Bool)
 | 0, _ => none
 | k + 1, x1 => (spec_DrawNarrowestOpen.f x1).bind fun t382 => ((impl_NarrowestOpen.f k t382).bind fun bt383 => ((spec_NarrowestOpen.f k t382).bind fun bt387 => (if (bt383.2 != bt387.2) = true then (laws_FnPatternsOpen.j7 k x1 t382 bt383.1 bt383.2 true) else ((laws_tSame.f k bt383.1 bt387.1).bind fun t391 => (laws_FnPatternsOpen.j7 k x1 t382 bt383.1 bt383.2 (!t391))))))
def laws_FnPatternsOpen.j7 : Nat → List Int → Int → List Int → Bool → Bool → Option (Bool)
 | 0, _, _, _, _, _ => none
 | k + 1, x1, x29, x30, x31, x283 => if x283 = true then (some false) else (if x31 = true then ((impl_IsOpen.f k x30).bind fun bt392 => (if 0 ≤ (wrap64 (x29 - 1)) then (if (wrap64 (x29 - 1)) < (x30.length : Int) then (if bt392.2 = true then (if bt392.1 = true then (laws_FnPatternsOpen.j8 k x1 x29 x30 (rd x30 (wrap64 (x29 - 1))) ((x30.length : Int) != x29)) else (laws_FnPatternsOpen.j8 k x1 x29 x30 (rd x30 (wrap64 (x29 - 1))) true)) else (laws_FnPatternsOpen.j8 k x1 x29 x30 (rd x30 (wrap64 (x29 - 1))) true)) else (none)) else (none))) else (laws_FnPatternsOpen.j10 k x1))
def laws_FnPatternsOpen.j10 : Nat → List Int → Option (Bool)
 | 0, _ => none
 | k + 1, x1 => (spec_DrawAllOpen.f x1).bind fun bt403 => ((impl_AllOpen.f k bt403.1 bt403.2).bind fun bt405 => ((spec_AllOpen.f k bt403.1 bt403.2).bind fun bt409 => ((impl_CountOpen.f k bt403.1 bt403.2).bind fun bt413 => ((spec_CountOpen.f k bt403.1 bt403.2).bind fun bt415 => (if (bt405.2 != bt409.2) = true then (laws_FnPatternsOpen.j11 k x1 bt403.1 bt403.2 bt405.1 bt405.2 bt413.1 true) else ((laws_tRows.f k bt405.1 bt409.1).bind fun t417 => (if t417 = true then (if (bt413.2 != bt415.2) = true then (laws_FnPatternsOpen.j11 k x1 bt403.1 bt403.2 bt405.1 bt405.2 bt413.1 true) else (if bt413.1 = bt415.1 then (if bt413.2 = true then (laws_FnPatternsOpen.j11 k x1 bt403.1 bt403.2 bt405.1 bt405.2 bt413.1 (bt405.2 != (decide (bt413.1 ≤ 300)))) else (laws_FnPatternsOpen.j11 k x1 bt403.1 bt403.2 bt405.1 bt405.2 bt413.1 (bt405.2 != false))) else (laws_FnPatternsOpen.j11 k x1 bt403.1 bt403.2 bt405.1 bt405.2 bt413.1 true))) else (laws_FnPatternsOpen.j11 k x1 bt403.1 bt403.2 bt405.1 bt405.2 bt413.1 true))))))))
def laws_FnPatternsOpen.j11 : Nat → List Int → Int → Int → List (List Int) → Bool → Int → Bool → Option (Bool)
 | 0, _, _, _, _, _, _, _ => none
 | k + 1, x1, x42, x43, x44, x45, x48, x401 => if x401 = true then (some false) else (if x45 = true then (laws_FnPatternsOpen.l3 k x1 x42 x43 x44 x48 x44 (x44.length : Int) 0) else (laws_FnPatternsOpen.j14 k x1))
def laws_FnPatternsOpen.j14 : Nat → List Int → Option (Bool)
 | 0, _ => none
 | k + 1, x1 => (spec_DrawAddOffsets.f k x1).bind fun bt428 => ((impl_AddOffsets.f k bt428.1 bt428.2).bind fun bt432 => ((spec_AddOffsets.f k bt428.1 bt428.2).bind fun bt436 => ((spec_DrawRestsOf.f k x1).bind fun bt440 => ((impl_RestsOf.f k bt440.1 bt440.2).bind fun bt444 => ((spec_RestsOf.f k bt440.1 bt440.2).bind fun bt448 => (if (bt432.2 == bt436.2) = true then ((laws_tSame.f k bt432.1 bt436.1).bind fun t452 => (if t452 = true then (if (bt444.2 == bt448.2) = true then ((laws_tSame.f k bt444.1 bt448.1).bind fun t453 => (if t453 = true then (if bt432.2 = true then ((laws_tRises.f k bt432.1 1 bt428.2).bind fun t454 => (some t454)) else (some true)) else (some false))) else (some false)) else (some false))) else (some false)))))))
def laws_FnPatternsOpen.l3 : Nat → List Int → Int → Int → List (List Int) → Int → List (List Int) → Int → Int → Option (Bool)
 | 0, _, _, _, _, _, _, _, _ => none
 | k + 1, x1, x42, x43, x44, x48, x403, x404, x405 => if x405 < x404 then (if 0 ≤ x405 then (if x405 < (x403.length : Int) then ((impl_IsOpen.f k (rd_L1 x403 x405)).bind fun bt419 => ((impl_BackPattern.f k (rd_L1 x403 x405)).bind fun bt421 => (laws_FnPatternsOpen.l4 k x1 x42 x43 x44 x48 (rd_L1 x403 x405) bt419.1 bt419.2 bt421.1 bt421.2 false x403 x404 x405 x44 (x44.length : Int) 0))) else (none)) else (none)) else (if (x44.length : Int) = x48 then (laws_FnPatternsOpen.j14 k x1) else (some false))
def laws_FnPatternsOpen.l4 : Nat → List Int → Int → Int → List (List Int) → Int → List Int → Bool → Bool → List Int → Bool → Bool → List (List Int) → Int → Int → List (List Int) → Int → Int → Option (Bool)
 | 0, _, _, _, _, _, _, _, _, _, _, _, _, _, _, _, _, _ => none
 | k + 1, x1, x42, x43, x44, x48, x53, x54, x55, x56, x57, x58, x403, x404, x405, x419, x420, x421 => if x421 < x420 then (if 0 ≤ x421 then (if x421 < (x419.length : Int) then (if x58 = true then (laws_FnPatternsOpen.l4 k x1 x42 x43 x44 x48 x53 x54 x55 x56 x57 true x403 x404 x405 x419 x420 (wrap64 (x421 + 1))) else ((laws_tSame.f k (rd_L1 x419 x421) x56).bind fun t426 => (laws_FnPatternsOpen.l4 k x1 x42 x43 x44 x48 x53 x54 x55 x56 x57 t426 x403 x404 x405 x419 x420 (wrap64 (x421 + 1))))) else (none)) else (none)) else (if x55 = true then (if x54 = true then (if (x53.length : Int) = x42 then (if 0 ≤ (wrap64 (x42 - 1)) then (if (wrap64 (x42 - 1)) < (x53.length : Int) then (if (rd x53 (wrap64 (x42 - 1))) = x43 then (if x57 = true then (if x58 = true then (laws_FnPatternsOpen.l3 k x1 x42 x43 x44 x48 x403 x404 (wrap64 (x405 + 1))) else (some false)) else (some false)) else (some false)) else (none)) else (none)) else (some false)) else (some false)) else (some false))
def laws_FnPatternsOpen.j8 : Nat → List Int → Int → List Int → Int → Bool → Option (Bool)
 | 0, _, _, _, _, _ => none
 | k + 1, x1, x29, x30, x36, x306 => if x306 = true then (some false) else (laws_FnPatternsOpen.l2 k x1 x29 x30 x36 0)
def laws_FnPatternsOpen.l2 : Nat → List Int → Int → List Int → Int → Int → Option (Bool)
 | 0, _, _, _, _, _ => none
 | k + 1, x1, x29, x30, x36, x37 => if x37 < x36 then ((impl_CountOpen.f k x29 x37).bind fun bt395 => (if bt395.2 = true then (if bt395.1 = 0 then (laws_FnPatternsOpen.l2 k x1 x29 x30 x36 (wrap64 (x37 + 1))) else (some false)) else (some false))) else ((impl_AllOpen.f k x29 x36).bind fun bt397 => (if bt397.2 = true then (if (bt397.1.length : Int) < 1 then (some false) else (if 0 < (bt397.1.length : Int) then ((laws_tSame.f k (rd_L1 bt397.1 0) x30).bind fun t402 => (if t402 = true then (laws_FnPatternsOpen.j10 k x1) else (some false))) else (none))) else (some false)))
def laws_FnPatternsOpen.j1 : Nat → List Int → List Int → Bool → Int → Bool → Bool → Option (Bool)
 | 0, _, _, _, _, _, _ => none
 | k + 1, x1, x5, x6, x10, x11, x191 => if x191 = true then (some false) else ((some (([2, 3, 5, 7, 11, 13] : List Int) : List Int)).bind fun y371 => (laws_FnPatternsOpen.l0 k x1 x5 x6 x10 x11 false y371 (y371.length : Int) 0))
def laws_FnPatternsOpen.l0 : Nat → List Int → List Int → Bool → Int → Bool → Bool → List Int → Int → Int → Option (Bool)
 | 0, _, _, _, _, _, _, _, _, _ => none
 | k + 1, x1, x5, x6, x10, x11, x22, x192, x193, x194 => if x194 < x193 then (if 0 ≤ x194 then (if x194 < (x192.length : Int) then ((impl_RestsOf.f k x5 (rd x192 x194)).bind fun bt375 => (if bt375.2 = true then ((laws_tRises.f k bt375.1 0 (wrap64 ((rd x192 x194) - 1))).bind fun t379 => (if t379 = true then (if (bt375.1.length : Int) > (x5.length : Int) then (laws_FnPatternsOpen.j3 k x1 x5 x6 x10 x11 x22 (rd x192 x194) bt375.1 x192 x193 x194 true) else (if (bt375.1.length : Int) = (rd x192 x194) then (if x22 = true then (laws_FnPatternsOpen.j3 k x1 x5 x6 x10 x11 x22 (rd x192 x194) bt375.1 x192 x193 x194 false) else (if x11 = true then (laws_FnPatternsOpen.j3 k x1 x5 x6 x10 x11 x22 (rd x192 x194) bt375.1 x192 x193 x194 (x10 != (rd x192 x194))) else (laws_FnPatternsOpen.j3 k x1 x5 x6 x10 x11 x22 (rd x192 x194) bt375.1 x192 x193 x194 true))) else (laws_FnPatternsOpen.j3 k x1 x5 x6 x10 x11 x22 (rd x192 x194) bt375.1 x192 x193 x194 false))) else (laws_FnPatternsOpen.j3 k x1 x5 x6 x10 x11 x22 (rd x192 x194) bt375.1 x192 x193 x194 true))) else (laws_FnPatternsOpen.j3 k x1 x5 x6 x10 x11 x22 (rd x192 x194) bt375.1 x192 x193 x194 true))) else (none)) else (none)) else (if (x22 == x6) = true then (some false) else (laws_FnPatternsOpen.j6 k x1))
def laws_FnPatternsOpen.j3 : Nat → List Int → List Int → Bool → Int → Bool → Bool → Int → List Int → List Int → Int → Int → Bool → Option (Bool)
 | 0, _, _, _, _, _, _, _, _, _, _, _, _ => none
 | k + 1, x1, x5, x6, x10, x11, x22, x24, x25, x192, x193, x194, x238 => if x238 = true then (some false) else (if x22 = true then (laws_FnPatternsOpen.j4 k x1 x5 x6 x10 x11 true x24 x25 x192 x193 x194) else (laws_FnPatternsOpen.j4 k x1 x5 x6 x10 x11 ((x25.length : Int) == x24) x24 x25 x192 x193 x194))
def laws_FnPatternsOpen.j4 : Nat → List Int → List Int → Bool → Int → Bool → Bool → Int → List Int → List Int → Int → Int → Option (Bool)
 | 0, _, _, _, _, _, _, _, _, _, _, _ => none
 | k + 1, x1, x5, x6, x10, x11, x22, x24, x25, x192, x193, x194 => laws_FnPatternsOpen.l1 k x1 x5 x6 x10 x11 x22 x24 x25 x192 x193 x194 x5 (x5.length : Int) 0
def laws_FnPatternsOpen.l1 : Nat → List Int → List Int → Bool → Int → Bool → Bool → Int → List Int → List Int → Int → Int → List Int → Int → Int → Option (Bool)
 | 0, _, _, _, _, _, _, _, _, _, _, _, _, _, _ => none
 | k + 1, x1, x5, x6, x10, x11, x22, x24, x25, x192, x193, x194, x246, x247, x248 => if x248 < x247 then (if 0 ≤ x248 then (if x248 < (x246.length : Int) then (if x24 = 0 then (none) else ((laws_tHas.f k x25 (Int.tmod (rd x246 x248) x24)).bind fun t381 => (if t381 = true then (laws_FnPatternsOpen.l1 k x1 x5 x6 x10 x11 x22 x24 x25 x192 x193 x194 x246 x247 (wrap64 (x248 + 1))) else (some false)))) else (none)) else (none)) else (laws_FnPatternsOpen.l0 k x1 x5 x6 x10 x11 x22 x192 x193 (wrap64 (x194 + 1)))
end
def laws_FnPatternsOpen.f (k : Nat) (l0 : List Int) (l1 : List Int) : Option (Bool) := (laws_big.f l0 l1).bind fun t340 => (if t340 = true then (some true) else ((spec_DrawIsOpen.f k l0).bind fun t341 => ((impl_IsOpen.f k t341).bind fun bt344 => ((spec_IsOpen.f k t341).bind fun bt346 => ((impl_FirstClosing.f k t341).bind fun bt348 => ((spec_FirstClosing.f k t341).bind fun bt350 => ((impl_BackPattern.f k t341).bind fun bt352 => ((spec_BackPattern.f k t341).bind fun bt356 => (if (bt344.2 != bt346.2) = true then (laws_FnPatternsOpen.j0 k l1 t341 bt344.1 bt344.2 bt348.1 bt348.2 bt352.1 true) else (if (bt344.1 != bt346.1) = true then (laws_FnPatternsOpen.j0 k l1 t341 bt344.1 bt344.2 bt348.1 bt348.2 bt352.1 true) else (if (bt348.2 != bt350.2) = true then (laws_FnPatternsOpen.j0 k l1 t341 bt344.1 bt344.2 bt348.1 bt348.2 bt352.1 true) else (if bt348.1 = bt350.1 then (if (bt352.2 != bt356.2) = true then (laws_FnPatternsOpen.j0 k l1 t341 bt344.1 bt344.2 bt348.1 bt348.2 bt352.1 true) else ((laws_tSame.f k bt352.1 bt356.1).bind fun t360 => (if t360 = true then ((impl_IsPattern.f k t341).bind fun t361 => (if (bt344.2 != t361) = true then (laws_FnPatternsOpen.j0 k l1 t341 bt344.1 bt344.2 bt348.1 bt348.2 bt352.1 true) else ((impl_IsPattern.f k t341).bind fun t362 => ((spec_IsPattern.f k t341).bind fun t363 => (if (t362 != t363) = true then (laws_FnPatternsOpen.j0 k l1 t341 bt344.1 bt344.2 bt348.1 bt348.2 bt352.1 true) else (if bt344.2 = true then (if (bt348.2 != (!bt344.1)) = true then (laws_FnPatternsOpen.j0 k l1 t341 bt344.1 bt344.2 bt348.1 bt348.2 bt352.1 true) else (laws_FnPatternsOpen.j0 k l1 t341 bt344.1 bt344.2 bt348.1 bt348.2 bt352.1 (bt352.2 != bt344.2))) else (if (bt348.2 != false) = true then (laws_FnPatternsOpen.j0 k l1 t341 bt344.1 bt344.2 bt348.1 bt348.2 bt352.1 true) else (laws_FnPatternsOpen.j0 k l1 t341 bt344.1 bt344.2 bt348.1 bt348.2 bt352.1 (bt352.2 != bt344.2))))))))) else (laws_FnPatternsOpen.j0 k l1 t341 bt344.1 bt344.2 bt348.1 bt348.2 bt352.1 true)))) else (laws_FnPatternsOpen.j0 k l1 t341 bt344.1 bt344.2 bt348.1 bt348.2 bt352.1 true)))))))))))))
theorem laws_FnPatternsOpen.mono_l : ∀ k, (∀ y0 y1 y2 y3 y4 y5 y6 y7, LeO (laws_FnPatternsOpen.j0 k y0 y1 y2 y3 y4 y5 y6 y7) (laws_FnPatternsOpen.j0 (k + 1) y0 y1 y2 y3 y4 y5 y6 y7)) ∧ (∀ y0, LeO (laws_FnPatternsOpen.j6 k y0) (laws_FnPatternsOpen.j6 (k + 1) y0)) ∧ (∀ y0 y1 y2 y3 y4, LeO (laws_FnPatternsOpen.j7 k y0 y1 y2 y3 y4) (laws_FnPatternsOpen.j7 (k + 1) y0 y1 y2 y3 y4)) ∧ (∀ y0, LeO (laws_FnPatternsOpen.j10 k y0) (laws_FnPatternsOpen.j10 (k + 1) y0)) ∧ (∀ y0 y1 y2 y3 y4 y5 y6, LeO (laws_FnPatternsOpen.j11 k y0 y1 y2 y3 y4 y5 y6) (laws_FnPatternsOpen.j11 (k + 1) y0 y1 y2 y3 y4 y5 y6)) ∧ (∀ y0, LeO (laws_FnPatternsOpen.j14 k y0) (laws_FnPatternsOpen.j14 (k + 1) y0)) ∧ (∀ y0 y1 y2 y3 y4 y5 y6 y7, LeO (laws_FnPatternsOpen.l3 k y0 y1 y2 y3 y4 y5 y6 y7) (laws_FnPatternsOpen.l3 (k + 1) y0 y1 y2 y3 y4 y5 y6 y7)) ∧ (∀ y0 y1 y2 y3 y4 y5 y6 y7 y8 y9 y10 y11 y12 y13 y14 y15 y16, LeO (laws_FnPatternsOpen.l4 k y0 y1 y2 y3 y4 y5 y6 y7 y8 y9 y10 y11 y12 y13 y14 y15 y16) (laws_FnPatternsOpen.l4 (k + 1) y0 y1 y2 y3 y4 y5 y6 y7 y8 y9 y10 y11 y12 y13 y14 y15 y16)) ∧ (∀ y0 y1 y2 y3 y4, LeO (laws_FnPatternsOpen.j8 k y0 y1 y2 y3 y4) (laws_FnPatternsOpen.j8 (k + 1) y0 y1 y2 y3 y4)) ∧ (∀ y0 y1 y2 y3 y4, LeO (laws_FnPatternsOpen.l2 k y0 y1 y2 y3 y4) (laws_FnPatternsOpen.l2 (k + 1) y0 y1 y2 y3 y4)) ∧ (∀ y0 y1 y2 y3 y4 y5, LeO (laws_FnPatternsOpen.j1 k y0 y1 y2 y3 y4 y5) (laws_FnPatternsOpen.j1 (k + 1) y0 y1 y2 y3 y4 y5)) ∧ (∀ y0 y1 y2 y3 y4 y5 y6 y7 y8, LeO (laws_FnPatternsOpen.l0 k y0 y1 y2 y3 y4 y5 y6 y7 y8) (laws_FnPatternsOpen.l0 (k + 1) y0 y1 y2 y3 y4 y5 y6 y7 y8)) ∧ (∀ y0 y1 y2 y3 y4 y5 y6 y7 y8 y9 y10 y11, LeO (laws_FnPatternsOpen.j3 k y0 y1 y2 y3 y4 y5 y6 y7 y8 y9 y10 y11) (laws_FnPatternsOpen.j3 (k + 1) y0 y1 y2 y3 y4 y5 y6 y7 y8 y9 y10 y11)) ∧ (∀ y0 y1 y2 y3 y4 y5 y6 y7 y8 y9 y10, LeO (laws_FnPatternsOpen.j4 k y0 y1 y2 y3 y4 y5 y6 y7 y8 y9 y10) (laws_FnPatternsOpen.j4 (k + 1) y0 y1 y2 y3 y4 y5 y6 y7 y8 y9 y10)) ∧ (∀ y0 y1 y2 y3 y4 y5 y6 y7 y8 y9 y10 y11 y12 y13, LeO (laws_FnPatternsOpen.l1 k y0 y1 y2 y3 y4 y5 y6 y7 y8 y9 y10 y11 y12 y13) (laws_FnPatternsOpen.l1 (k + 1) y0 y1 y2 y3 y4 y5 y6 y7 y8 y9 y10 y11 y12 y13))
 | 0 => ⟨fun _ _ _ _ _ _ _ _ r h => by simp [laws_FnPatternsOpen.j0] at h, fun _ r h => by simp [laws_FnPatternsOpen.j6] at h, fun _ _ _ _ _ r h => by simp [laws_FnPatternsOpen.j7] at h, fun _ r h => by simp [laws_FnPatternsOpen.j10] at h, fun _ _ _ _ _ _ _ r h => by simp [laws_FnPatternsOpen.j11] at h, fun _ r h => by simp [laws_FnPatternsOpen.j14] at h, fun _ _ _ _ _ _ _ _ r h => by simp [laws_FnPatternsOpen.l3] at h, fun _ _ _ _ _ _ _ _ _ _ _ _ _ _ _ _ _ r h => by simp [laws_FnPatternsOpen.l4] at h, fun _ _ _ _ _ r h => by simp [laws_FnPatternsOpen.j8] at h, fun _ _ _ _ _ r h => by simp [laws_FnPatternsOpen.l2] at h, fun _ _ _ _ _ _ r h => by simp [laws_FnPatternsOpen.j1] at h, fun _ _ _ _ _ _ _ _ _ r h => by simp [laws_FnPatternsOpen.l0] at h, fun _ _ _ _ _ _ _ _ _ _ _ _ r h => by simp [laws_FnPatternsOpen.j3] at h, fun _ _ _ _ _ _ _ _ _ _ _ r h => by simp [laws_FnPatternsOpen.j4] at h, fun _ _ _ _ _ _ _ _ _ _ _ _ _ _ r h => by simp [laws_FnPatternsOpen.l1] at h⟩
 | k + 1 => by
  obtain ⟨ih0, ih1, ih2, ih3, ih4, ih5, ih6, ih7, ih8, ih9, ih10, ih11, ih12, ih13, ih14⟩ := laws_FnPatternsOpen.mono_l k
  refine ⟨?_, ?_, ?_, ?_, ?_, ?_, ?_, ?_, ?_, ?_, ?_, ?_, ?_, ?_, ?_⟩
  ·
   intro y0 y1 y2 y3 y4 y5 y6 y7
   unfold laws_FnPatternsOpen.j0
   repeat' first
   | (with_reducible first | exact ih0 _ _ _ _ _ _ _ _ | exact ih1 _ | exact ih2 _ _ _ _ _ | exact ih3 _ | exact ih4 _ _ _ _ _ _ _ | exact ih5 _ | exact ih6 _ _ _ _ _ _ _ _ | exact ih7 _ _ _ _ _ _ _ _ _ _ _ _ _ _ _ _ _ | exact ih8 _ _ _ _ _ | exact ih9 _ _ _ _ _ | exact ih10 _ _ _ _ _ _ | exact ih11 _ _ _ _ _ _ _ _ _ | exact ih12 _ _ _ _ _ _ _ _ _ _ _ _ | exact ih13 _ _ _ _ _ _ _ _ _ _ _ | exact ih14 _ _ _ _ _ _ _ _ _ _ _ _ _ _ | exact impl_AddOffsets.mono _ _ _ | exact impl_AllOpen.mono _ _ _ | exact impl_BackPattern.mono _ _ | exact impl_CountOpen.mono _ _ _ | exact impl_FirstClosing.mono _ _ | exact impl_IsOpen.mono _ _ | exact impl_IsPattern.mono _ _ | exact impl_NarrowestOpen.mono _ _ | exact impl_RestsOf.mono _ _ _ | exact laws_tHas.mono _ _ _ | exact laws_tRises.mono _ _ _ _ | exact laws_tRows.mono _ _ _ | exact laws_tSame.mono _ _ _ | exact spec_AddOffsets.mono _ _ _ | exact spec_AllOpen.mono _ _ _ | exact spec_BackPattern.mono _ _ | exact spec_CountOpen.mono _ _ _ | exact spec_DrawAddOffsets.mono _ _ | exact spec_DrawIsOpen.mono _ _ | exact spec_DrawRestsOf.mono _ _ | exact spec_FirstClosing.mono _ _ | exact spec_IsOpen.mono _ _ | exact spec_IsPattern.mono _ _ | exact spec_NarrowestOpen.mono _ _ | exact spec_RestsOf.mono _ _ _ | exact LeO.refl _ | exact LeO.none _ | refine LeO.ite ?_ ?_ | refine LeO.bind ?_ (fun _ => ?_))
  ·
   intro y0
   unfold laws_FnPatternsOpen.j6
   repeat' first
   | (with_reducible first | exact ih0 _ _ _ _ _ _ _ _ | exact ih1 _ | exact ih2 _ _ _ _ _ | exact ih3 _ | exact ih4 _ _ _ _ _ _ _ | exact ih5 _ | exact ih6 _ _ _ _ _ _ _ _ | exact ih7 _ _ _ _ _ _ _ _ _ _ _ _ _ _ _ _ _ | exact ih8 _ _ _ _ _ | exact ih9 _ _ _ _ _ | exact ih10 _ _ _ _ _ _ | exact ih11 _ _ _ _ _ _ _ _ _ | exact ih12 _ _ _ _ _ _ _ _ _ _ _ _ | exact ih13 _ _ _ _ _ _ _ _ _ _ _ | exact ih14 _ _ _ _ _ _ _ _ _ _ _ _ _ _ | exact impl_AddOffsets.mono _ _ _ | exact impl_AllOpen.mono _ _ _ | exact impl_BackPattern.mono _ _ | exact impl_CountOpen.mono _ _ _ | exact impl_FirstClosing.mono _ _ | exact impl_IsOpen.mono _ _ | exact impl_IsPattern.mono _ _ | exact impl_NarrowestOpen.mono _ _ | exact impl_RestsOf.mono _ _ _ | exact laws_tHas.mono _ _ _ | exact laws_tRises.mono _ _ _ _ | exact laws_tRows.mono _ _ _ | exact laws_tSame.mono _ _ _ | exact spec_AddOffsets.mono _ _ _ | exact spec_AllOpen.mono _ _ _ | exact spec_BackPattern.mono _ _ | exact spec_CountOpen.mono _ _ _ | exact spec_DrawAddOffsets.mono _ _ | exact spec_DrawIsOpen.mono _ _ | exact spec_DrawRestsOf.mono _ _ | exact spec_FirstClosing.mono _ _ | exact spec_IsOpen.mono _ _ | exact spec_IsPattern.mono _ _ | exact spec_NarrowestOpen.mono _ _ | exact spec_RestsOf.mono _ _ _ | exact LeO.refl _ | exact LeO.none _ | refine LeO.ite ?_ ?_ | refine LeO.bind ?_ (fun _ => ?_))
  ·
   intro y0 y1 y2 y3 y4
   unfold laws_FnPatternsOpen.j7
   repeat' first
   | (with_reducible first | exact ih0 _ _ _ _ _ _ _ _ | exact ih1 _ | exact ih2 _ _ _ _ _ | exact ih3 _ | exact ih4 _ _ _ _ _ _ _ | exact ih5 _ | exact ih6 _ _ _ _ _ _ _ _ | exact ih7 _ _ _ _ _ _ _ _ _ _ _ _ _ _ _ _ _ | exact ih8 _ _ _ _ _ | exact ih9 _ _ _ _ _ | exact ih10 _ _ _ _ _ _ | exact ih11 _ _ _ _ _ _ _ _ _ | exact ih12 _ _ _ _ _ _ _ _ _ _ _ _ | exact ih13 _ _ _ _ _ _ _ _ _ _ _ | exact ih14 _ _ _ _ _ _ _ _ _ _ _ _ _ _ | exact impl_AddOffsets.mono _ _ _ | exact impl_AllOpen.mono _ _ _ | exact impl_BackPattern.mono _ _ | exact impl_CountOpen.mono _ _ _ | exact impl_FirstClosing.mono _ _ | exact impl_IsOpen.mono _ _ | exact impl_IsPattern.mono _ _ | exact impl_NarrowestOpen.mono _ _ | exact impl_RestsOf.mono _ _ _ | exact laws_tHas.mono _ _ _ | exact laws_tRises.mono _ _ _ _ | exact laws_tRows.mono _ _ _ | exact laws_tSame.mono _ _ _ | exact spec_AddOffsets.mono _ _ _ | exact spec_AllOpen.mono _ _ _ | exact spec_BackPattern.mono _ _ | exact spec_CountOpen.mono _ _ _ | exact spec_DrawAddOffsets.mono _ _ | exact spec_DrawIsOpen.mono _ _ | exact spec_DrawRestsOf.mono _ _ | exact spec_FirstClosing.mono _ _ | exact spec_IsOpen.mono _ _ | exact spec_IsPattern.mono _ _ | exact spec_NarrowestOpen.mono _ _ | exact spec_RestsOf.mono _ _ _ | exact LeO.refl _ | exact LeO.none _ | refine LeO.ite ?_ ?_ | refine LeO.bind ?_ (fun _ => ?_))
  ·
   intro y0
   unfold laws_FnPatternsOpen.j10
   repeat' first
   | (with_reducible first | exact ih0 _ _ _ _ _ _ _ _ | exact ih1 _ | exact ih2 _ _ _ _ _ | exact ih3 _ | exact ih4 _ _ _ _ _ _ _ | exact ih5 _ | exact ih6 _ _ _ _ _ _ _ _ | exact ih7 _ _ _ _ _ _ _ _ _ _ _ _ _ _ _ _ _ | exact ih8 _ _ _ _ _ | exact ih9 _ _ _ _ _ | exact ih10 _ _ _ _ _ _ | exact ih11 _ _ _ _ _ _ _ _ _ | exact ih12 _ _ _ _ _ _ _ _ _ _ _ _ | exact ih13 _ _ _ _ _ _ _ _ _ _ _ | exact ih14 _ _ _ _ _ _ _ _ _ _ _ _ _ _ | exact impl_AddOffsets.mono _ _ _ | exact impl_AllOpen.mono _ _ _ | exact impl_BackPattern.mono _ _ | exact impl_CountOpen.mono _ _ _ | exact impl_FirstClosing.mono _ _ | exact impl_IsOpen.mono _ _ | exact impl_IsPattern.mono _ _ | exact impl_NarrowestOpen.mono _ _ | exact impl_RestsOf.mono _ _ _ | exact laws_tHas.mono _ _ _ | exact laws_tRises.mono _ _ _ _ | exact laws_tRows.mono _ _ _ | exact laws_tSame.mono _ _ _ | exact spec_AddOffsets.mono _ _ _ | exact spec_AllOpen.mono _ _ _ | exact spec_BackPattern.mono _ _ | exact spec_CountOpen.mono _ _ _ | exact spec_DrawAddOffsets.mono _ _ | exact spec_DrawIsOpen.mono _ _ | exact spec_DrawRestsOf.mono _ _ | exact spec_FirstClosing.mono _ _ | exact spec_IsOpen.mono _ _ | exact spec_IsPattern.mono _ _ | exact spec_NarrowestOpen.mono _ _ | exact spec_RestsOf.mono _ _ _ | exact LeO.refl _ | exact LeO.none _ | refine LeO.ite ?_ ?_ | refine LeO.bind ?_ (fun _ => ?_))
  ·
   intro y0 y1 y2 y3 y4 y5 y6
   unfold laws_FnPatternsOpen.j11
   repeat' first
   | (with_reducible first | exact ih0 _ _ _ _ _ _ _ _ | exact ih1 _ | exact ih2 _ _ _ _ _ | exact ih3 _ | exact ih4 _ _ _ _ _ _ _ | exact ih5 _ | exact ih6 _ _ _ _ _ _ _ _ | exact ih7 _ _ _ _ _ _ _ _ _ _ _ _ _ _ _ _ _ | exact ih8 _ _ _ _ _ | exact ih9 _ _ _ _ _ | exact ih10 _ _ _ _ _ _ | exact ih11 _ _ _ _ _ _ _ _ _ | exact ih12 _ _ _ _ _ _ _ _ _ _ _ _ | exact ih13 _ _ _ _ _ _ _ _ _ _ _ | exact ih14 _ _ _ _ _ _ _ _ _ _ _ _ _ _ | exact impl_AddOffsets.mono _ _ _ | exact impl_AllOpen.mono _ _ _ | exact impl_BackPattern.mono _ _ | exact impl_CountOpen.mono _ _ _ | exact impl_FirstClosing.mono _ _ | exact impl_IsOpen.mono _ _ | exact impl_IsPattern.mono _ _ | exact impl_NarrowestOpen.mono _ _ | exact impl_RestsOf.mono _ _ _ | exact laws_tHas.mono _ _ _ | exact laws_tRises.mono _ _ _ _ | exact laws_tRows.mono _ _ _ | exact laws_tSame.mono _ _ _ | exact spec_AddOffsets.mono _ _ _ | exact spec_AllOpen.mono _ _ _ | exact spec_BackPattern.mono _ _ | exact spec_CountOpen.mono _ _ _ | exact spec_DrawAddOffsets.mono _ _ | exact spec_DrawIsOpen.mono _ _ | exact spec_DrawRestsOf.mono _ _ | exact spec_FirstClosing.mono _ _ | exact spec_IsOpen.mono _ _ | exact spec_IsPattern.mono _ _ | exact spec_NarrowestOpen.mono _ _ | exact spec_RestsOf.mono _ _ _ | exact LeO.refl _ | exact LeO.none _ | refine LeO.ite ?_ ?_ | refine LeO.bind ?_ (fun _ => ?_))
  ·
   intro y0
   unfold laws_FnPatternsOpen.j14
   repeat' first
   | (with_reducible first | exact ih0 _ _ _ _ _ _ _ _ | exact ih1 _ | exact ih2 _ _ _ _ _ | exact ih3 _ | exact ih4 _ _ _ _ _ _ _ | exact ih5 _ | exact ih6 _ _ _ _ _ _ _ _ | exact ih7 _ _ _ _ _ _ _ _ _ _ _ _ _ _ _ _ _ | exact ih8 _ _ _ _ _ | exact ih9 _ _ _ _ _ | exact ih10 _ _ _ _ _ _ | exact ih11 _ _ _ _ _ _ _ _ _ | exact ih12 _ _ _ _ _ _ _ _ _ _ _ _ | exact ih13 _ _ _ _ _ _ _ _ _ _ _ | exact ih14 _ _ _ _ _ _ _ _ _ _ _ _ _ _ | exact impl_AddOffsets.mono _ _ _ | exact impl_AllOpen.mono _ _ _ | exact impl_BackPattern.mono _ _ | exact impl_CountOpen.mono _ _ _ | exact impl_FirstClosing.mono _ _ | exact impl_IsOpen.mono _ _ | exact impl_IsPattern.mono _ _ | exact impl_NarrowestOpen.mono _ _ | exact impl_RestsOf.mono _ _ _ | exact laws_tHas.mono _ _ _ | exact laws_tRises.mono _ _ _ _ | exact laws_tRows.mono _ _ _ | exact laws_tSame.mono _ _ _ | exact spec_AddOffsets.mono _ _ _ | exact spec_AllOpen.mono _ _ _ | exact spec_BackPattern.mono _ _ | exact spec_CountOpen.mono _ _ _ | exact spec_DrawAddOffsets.mono _ _ | exact spec_DrawIsOpen.mono _ _ | exact spec_DrawRestsOf.mono _ _ | exact spec_FirstClosing.mono _ _ | exact spec_IsOpen.mono _ _ | exact spec_IsPattern.mono _ _ | exact spec_NarrowestOpen.mono _ _ | exact spec_RestsOf.mono _ _ _ | exact LeO.refl _ | exact LeO.none _ | refine LeO.ite ?_ ?_ | refine LeO.bind ?_ (fun _ => ?_))
  ·
   intro y0 y1 y2 y3 y4 y5 y6 y7
   unfold laws_FnPatternsOpen.l3
   repeat' first
   | (with_reducible first | exact ih0 _ _ _ _ _ _ _ _ | exact ih1 _ | exact ih2 _ _ _ _ _ | exact ih3 _ | exact ih4 _ _ _ _ _ _ _ | exact ih5 _ | exact ih6 _ _ _ _ _ _ _ _ | exact ih7 _ _ _ _ _ _ _ _ _ _ _ _ _ _ _ _ _ | exact ih8 _ _ _ _ _ | exact ih9 _ _ _ _ _ | exact ih10 _ _ _ _ _ _ | exact ih11 _ _ _ _ _ _ _ _ _ | exact ih12 _ _ _ _ _ _ _ _ _ _ _ _ | exact ih13 _ _ _ _ _ _ _ _ _ _ _ | exact ih14 _ _ _ _ _ _ _ _ _ _ _ _ _ _ | exact impl_AddOffsets.mono _ _ _ | exact impl_AllOpen.mono _ _ _ | exact impl_BackPattern.mono _ _ | exact impl_CountOpen.mono _ _ _ | exact impl_FirstClosing.mono _ _ | exact impl_IsOpen.mono _ _ | exact impl_IsPattern.mono _ _ | exact impl_NarrowestOpen.mono _ _ | exact impl_RestsOf.mono _ _ _ | exact laws_tHas.mono _ _ _ | exact laws_tRises.mono _ _ _ _ | exact laws_tRows.mono _ _ _ | exact laws_tSame.mono _ _ _ | exact spec_AddOffsets.mono _ _ _ | exact spec_AllOpen.mono _ _ _ | exact spec_BackPattern.mono _ _ | exact spec_CountOpen.mono _ _ _ | exact spec_DrawAddOffsets.mono _ _ | exact spec_DrawIsOpen.mono _ _ | exact spec_DrawRestsOf.mono _ _ | exact spec_FirstClosing.mono _ _ | exact spec_IsOpen.mono _ _ | exact spec_IsPattern.mono _ _ | exact spec_NarrowestOpen.mono _ _ | exact spec_RestsOf.mono _ _ _ | exact LeO.refl _ | exact LeO.none _ | refine LeO.ite ?_ ?_ | refine LeO.bind ?_ (fun _ => ?_))
  ·
   intro y0 y1 y2 y3 y4 y5 y6 y7 y8 y9 y10 y11 y12 y13 y14 y15 y16
   unfold laws_FnPatternsOpen.l4
   repeat' first
   | (with_reducible first | exact ih0 _ _ _ _ _ _ _ _ | exact ih1 _ | exact ih2 _ _ _ _ _ | exact ih3 _ | exact ih4 _ _ _ _ _ _ _ | exact ih5 _ | exact ih6 _ _ _ _ _ _ _ _ | exact ih7 _ _ _ _ _ _ _ _ _ _ _ _ _ _ _ _ _ | exact ih8 _ _ _ _ _ | exact ih9 _ _ _ _ _ | exact ih10 _ _ _ _ _ _ | exact ih11 _ _ _ _ _ _ _ _ _ | exact ih12 _ _ _ _ _ _ _ _ _ _ _ _ | exact ih13 _ _ _ _ _ _ _ _ _ _ _ | exact ih14 _ _ _ _ _ _ _ _ _ _ _ _ _ _ | exact impl_AddOffsets.mono _ _ _ | exact impl_AllOpen.mono _ _ _ | exact impl_BackPattern.mono _ _ | exact impl_CountOpen.mono _ _ _ | exact impl_FirstClosing.mono _ _ | exact impl_IsOpen.mono _ _ | exact impl_IsPattern.mono _ _ | exact impl_NarrowestOpen.mono _ _ | exact impl_RestsOf.mono _ _ _ | exact laws_tHas.mono _ _ _ | exact laws_tRises.mono _ _ _ _ | exact laws_tRows.mono _ _ _ | exact laws_tSame.mono _ _ _ | exact spec_AddOffsets.mono _ _ _ | exact spec_AllOpen.mono _ _ _ | exact spec_BackPattern.mono _ _ | exact spec_CountOpen.mono _ _ _ | exact spec_DrawAddOffsets.mono _ _ | exact spec_DrawIsOpen.mono _ _ | exact spec_DrawRestsOf.mono _ _ | exact spec_FirstClosing.mono _ _ | exact spec_IsOpen.mono _ _ | exact spec_IsPattern.mono _ _ | exact spec_NarrowestOpen.mono _ _ | exact spec_RestsOf.mono _ _ _ | exact LeO.refl _ | exact LeO.none _ | refine LeO.ite ?_ ?_ | refine LeO.bind ?_ (fun _ => ?_))
  ·
   intro y0 y1 y2 y3 y4
   unfold laws_FnPatternsOpen.j8
   repeat' first
   | (with_reducible first | exact ih0 _ _ _ _ _ _ _ _ | exact ih1 _ | exact ih2 _ _ _ _ _ | exact ih3 _ | exact ih4 _ _ _ _ _ _ _ | exact ih5 _ | exact ih6 _ _ _ _ _ _ _ _ | exact ih7 _ _ _ _ _ _ _ _ _ _ _ _ _ _ _ _ _ | exact ih8 _ _ _ _ _ | exact ih9 _ _ _ _ _ | exact ih10 _ _ _ _ _ _ | exact ih11 _ _ _ _ _ _ _ _ _ | exact ih12 _ _ _ _ _ _ _ _ _ _ _ _ | exact ih13 _ _ _ _ _ _ _ _ _ _ _ | exact ih14 _ _ _ _ _ _ _ _ _ _ _ _ _ _ | exact impl_AddOffsets.mono _ _ _ | exact impl_AllOpen.mono _ _ _ | exact impl_BackPattern.mono _ _ | exact impl_CountOpen.mono _ _ _ | exact impl_FirstClosing.mono _ _ | exact impl_IsOpen.mono _ _ | exact impl_IsPattern.mono _ _ | exact impl_NarrowestOpen.mono _ _ | exact impl_RestsOf.mono _ _ _ | exact laws_tHas.mono _ _ _ | exact laws_tRises.mono _ _ _ _ | exact laws_tRows.mono _ _ _ | exact laws_tSame.mono _ _ _ | exact spec_AddOffsets.mono _ _ _ | exact spec_AllOpen.mono _ _ _ | exact spec_BackPattern.mono _ _ | exact spec_CountOpen.mono _ _ _ | exact spec_DrawAddOffsets.mono _ _ | exact spec_DrawIsOpen.mono _ _ | exact spec_DrawRestsOf.mono _ _ | exact spec_FirstClosing.mono _ _ | exact spec_IsOpen.mono _ _ | exact spec_IsPattern.mono _ _ | exact spec_NarrowestOpen.mono _ _ | exact spec_RestsOf.mono _ _ _ | exact LeO.refl _ | exact LeO.none _ | refine LeO.ite ?_ ?_ | refine LeO.bind ?_ (fun _ => ?_))
  ·
   intro y0 y1 y2 y3 y4
   unfold laws_FnPatternsOpen.l2
   repeat' first
   | (with_reducible first | exact ih0 _ _ _ _ _ _ _ _ | exact ih1 _ | exact ih2 _ _ _ _ _ | exact ih3 _ | exact ih4 _ _ _ _ _ _ _ | exact ih5 _ | exact ih6 _ _ _ _ _ _ _ _ | exact ih7 _ _ _ _ _ _ _ _ _ _ _ _ _ _ _ _ _ | exact ih8 _ _ _ _ _ | exact ih9 _ _ _ _ _ | exact ih10 _ _ _ _ _ _ | exact ih11 _ _ _ _ _ _ _ _ _ | exact ih12 _ _ _ _ _ _ _ _ _ _ _ _ | exact ih13 _ _ _ _ _ _ _ _ _ _ _ | exact ih14 _ _ _ _ _ _ _ _ _ _ _ _ _ _ | exact impl_AddOffsets.mono _ _ _ | exact impl_AllOpen.mono _ _ _ | exact impl_BackPattern.mono _ _ | exact impl_CountOpen.mono _ _ _ | exact impl_FirstClosing.mono _ _ | exact impl_IsOpen.mono _ _ | exact impl_IsPattern.mono _ _ | exact impl_NarrowestOpen.mono _ _ | exact impl_RestsOf.mono _ _ _ | exact laws_tHas.mono _ _ _ | exact laws_tRises.mono _ _ _ _ | exact laws_tRows.mono _ _ _ | exact laws_tSame.mono _ _ _ | exact spec_AddOffsets.mono _ _ _ | exact spec_AllOpen.mono _ _ _ | exact spec_BackPattern.mono _ _ | exact spec_CountOpen.mono _ _ _ | exact spec_DrawAddOffsets.mono _ _ | exact spec_DrawIsOpen.mono _ _ | exact spec_DrawRestsOf.mono _ _ | exact spec_FirstClosing.mono _ _ | exact spec_IsOpen.mono _ _ | exact spec_IsPattern.mono _ _ | exact spec_NarrowestOpen.mono _ _ | exact spec_RestsOf.mono _ _ _ | exact LeO.refl _ | exact LeO.none _ | refine LeO.ite ?_ ?_ | refine LeO.bind ?_ (fun _ => ?_))
  ·
   intro y0 y1 y2 y3 y4 y5
   unfold laws_FnPatternsOpen.j1
   repeat' first
   | (with_reducible first | exact ih0 _ _ _ _ _ _ _ _ | exact ih1 _ | exact ih2 _ _ _ _ _ | exact ih3 _ | exact ih4 _ _ _ _ _ _ _ | exact ih5 _ | exact ih6 _ _ _ _ _ _ _ _ | exact ih7 _ _ _ _ _ _ _ _ _ _ _ _ _ _ _ _ _ | exact ih8 _ _ _ _ _ | exact ih9 _ _ _ _ _ | exact ih10 _ _ _ _ _ _ | exact ih11 _ _ _ _ _ _ _ _ _ | exact ih12 _ _ _ _ _ _ _ _ _ _ _ _ | exact ih13 _ _ _ _ _ _ _ _ _ _ _ | exact ih14 _ _ _ _ _ _ _ _ _ _ _ _ _ _ | exact impl_AddOffsets.mono _ _ _ | exact impl_AllOpen.mono _ _ _ | exact impl_BackPattern.mono _ _ | exact impl_CountOpen.mono _ _ _ | exact impl_FirstClosing.mono _ _ | exact impl_IsOpen.mono _ _ | exact impl_IsPattern.mono _ _ | exact impl_NarrowestOpen.mono _ _ | exact impl_RestsOf.mono _ _ _ | exact laws_tHas.mono _ _ _ | exact laws_tRises.mono _ _ _ _ | exact laws_tRows.mono _ _ _ | exact laws_tSame.mono _ _ _ | exact spec_AddOffsets.mono _ _ _ | exact spec_AllOpen.mono _ _ _ | exact spec_BackPattern.mono _ _ | exact spec_CountOpen.mono _ _ _ | exact spec_DrawAddOffsets.mono _ _ | exact spec_DrawIsOpen.mono _ _ | exact spec_DrawRestsOf.mono _ _ | exact spec_FirstClosing.mono _ _ | exact spec_IsOpen.mono _ _ | exact spec_IsPattern.mono _ _ | exact spec_NarrowestOpen.mono _ _ | exact spec_RestsOf.mono _ _ _ | exact LeO.refl _ | exact LeO.none _ | refine LeO.ite ?_ ?_ | refine LeO.bind ?_ (fun _ => ?_))
  ·
   intro y0 y1 y2 y3 y4 y5 y6 y7 y8
   unfold laws_FnPatternsOpen.l0
   repeat' first
   | (with_reducible first | exact ih0 _ _ _ _ _ _ _ _ | exact ih1 _ | exact ih2 _ _ _ _ _ | exact ih3 _ | exact ih4 _ _ _ _ _ _ _ | exact ih5 _ | exact ih6 _ _ _ _ _ _ _ _ | exact ih7 _ _ _ _ _ _ _ _ _ _ _ _ _ _ _ _ _ | exact ih8 _ _ _ _ _ | exact ih9 _ _ _ _ _ | exact ih10 _ _ _ _ _ _ | exact ih11 _ _ _ _ _ _ _ _ _ | exact ih12 _ _ _ _ _ _ _ _ _ _ _ _ | exact ih13 _ _ _ _ _ _ _ _ _ _ _ | exact ih14 _ _ _ _ _ _ _ _ _ _ _ _ _ _ | exact impl_AddOffsets.mono _ _ _ | exact impl_AllOpen.mono _ _ _ | exact impl_BackPattern.mono _ _ | exact impl_CountOpen.mono _ _ _ | exact impl_FirstClosing.mono _ _ | exact impl_IsOpen.mono _ _ | exact impl_IsPattern.mono _ _ | exact impl_NarrowestOpen.mono _ _ | exact impl_RestsOf.mono _ _ _ | exact laws_tHas.mono _ _ _ | exact laws_tRises.mono _ _ _ _ | exact laws_tRows.mono _ _ _ | exact laws_tSame.mono _ _ _ | exact spec_AddOffsets.mono _ _ _ | exact spec_AllOpen.mono _ _ _ | exact spec_BackPattern.mono _ _ | exact spec_CountOpen.mono _ _ _ | exact spec_DrawAddOffsets.mono _ _ | exact spec_DrawIsOpen.mono _ _ | exact spec_DrawRestsOf.mono _ _ | exact spec_FirstClosing.mono _ _ | exact spec_IsOpen.mono _ _ | exact spec_IsPattern.mono _ _ | exact spec_NarrowestOpen.mono _ _ | exact spec_RestsOf.mono _ _ _ | exact LeO.refl _ | exact LeO.none _ | refine LeO.ite ?_ ?_ | refine LeO.bind ?_ (fun _ => ?_))
  ·
   intro y0 y1 y2 y3 y4 y5 y6 y7 y8 y9 y10 y11
   unfold laws_FnPatternsOpen.j3
   repeat' first
   | (with_reducible first | exact ih0 _ _ _ _ _ _ _ _ | exact ih1 _ | exact ih2 _ _ _ _ _ | exact ih3 _ | exact ih4 _ _ _ _ _ _ _ | exact ih5 _ | exact ih6 _ _ _ _ _ _ _ _ | exact ih7 _ _ _ _ _ _ _ _ _ _ _ _ _ _ _ _ _ | exact ih8 _ _ _ _ _ | exact ih9 _ _ _ _ _ | exact ih10 _ _ _ _ _ _ | exact ih11 _ _ _ _ _ _ _ _ _ | exact ih12 _ _ _ _ _ _ _ _ _ _ _ _ | exact ih13 _ _ _ _ _ _ _ _ _ _ _ | exact ih14 _ _ _ _ _ _ _ _ _ _ _ _ _ _ | exact impl_AddOffsets.mono _ _ _ | exact impl_AllOpen.mono _ _ _ | exact impl_BackPattern.mono _ _ | exact impl_CountOpen.mono _ _ _ | exact impl_FirstClosing.mono _ _ | exact impl_IsOpen.mono _ _ | exact impl_IsPattern.mono _ _ | exact impl_NarrowestOpen.mono _ _ | exact impl_RestsOf.mono _ _ _ | exact laws_tHas.mono _ _ _ | exact laws_tRises.mono _ _ _ _ | exact laws_tRows.mono _ _ _ | exact laws_tSame.mono _ _ _ | exact spec_AddOffsets.mono _ _ _ | exact spec_AllOpen.mono _ _ _ | exact spec_BackPattern.mono _ _ | exact spec_CountOpen.mono _ _ _ | exact spec_DrawAddOffsets.mono _ _ | exact spec_DrawIsOpen.mono _ _ | exact spec_DrawRestsOf.mono _ _ | exact spec_FirstClosing.mono _ _ | exact spec_IsOpen.mono _ _ | exact spec_IsPattern.mono _ _ | exact spec_NarrowestOpen.mono _ _ | exact spec_RestsOf.mono _ _ _ | exact LeO.refl _ | exact LeO.none _ | refine LeO.ite ?_ ?_ | refine LeO.bind ?_ (fun _ => ?_))
  ·
   intro y0 y1 y2 y3 y4 y5 y6 y7 y8 y9 y10
   unfold laws_FnPatternsOpen.j4
   repeat' first
   | (with_reducible first | exact ih0 _ _ _ _ _ _ _ _ | exact ih1 _ | exact ih2 _ _ _ _ _ | exact ih3 _ | exact ih4 _ _ _ _ _ _ _ | exact ih5 _ | exact ih6 _ _ _ _ _ _ _ _ | exact ih7 _ _ _ _ _ _ _ _ _ _ _ _ _ _ _ _ _ | exact ih8 _ _ _ _ _ | exact ih9 _ _ _ _ _ | exact ih10 _ _ _ _ _ _ | exact ih11 _ _ _ _ _ _ _ _ _ | exact ih12 _ _ _ _ _ _ _ _ _ _ _ _ | exact ih13 _ _ _ _ _ _ _ _ _ _ _ | exact ih14 _ _ _ _ _ _ _ _ _ _ _ _ _ _ | exact impl_AddOffsets.mono _ _ _ | exact impl_AllOpen.mono _ _ _ | exact impl_BackPattern.mono _ _ | exact impl_CountOpen.mono _ _ _ | exact impl_FirstClosing.mono _ _ | exact impl_IsOpen.mono _ _ | exact impl_IsPattern.mono _ _ | exact impl_NarrowestOpen.mono _ _ | exact impl_RestsOf.mono _ _ _ | exact laws_tHas.mono _ _ _ | exact laws_tRises.mono _ _ _ _ | exact laws_tRows.mono _ _ _ | exact laws_tSame.mono _ _ _ | exact spec_AddOffsets.mono _ _ _ | exact spec_AllOpen.mono _ _ _ | exact spec_BackPattern.mono _ _ | exact spec_CountOpen.mono _ _ _ | exact spec_DrawAddOffsets.mono _ _ | exact spec_DrawIsOpen.mono _ _ | exact spec_DrawRestsOf.mono _ _ | exact spec_FirstClosing.mono _ _ | exact spec_IsOpen.mono _ _ | exact spec_IsPattern.mono _ _ | exact spec_NarrowestOpen.mono _ _ | exact spec_RestsOf.mono _ _ _ | exact LeO.refl _ | exact LeO.none _ | refine LeO.ite ?_ ?_ | refine LeO.bind ?_ (fun _ => ?_))
  ·
   intro y0 y1 y2 y3 y4 y5 y6 y7 y8 y9 y10 y11 y12 y13
   unfold laws_FnPatternsOpen.l1
   repeat' first
   | (with_reducible first | exact ih0 _ _ _ _ _ _ _ _ | exact ih1 _ | exact ih2 _ _ _ _ _ | exact ih3 _ | exact ih4 _ _ _ _ _ _ _ | exact ih5 _ | exact ih6 _ _ _ _ _ _ _ _ | exact ih7 _ _ _ _ _ _ _ _ _ _ _ _ _ _ _ _ _ | exact ih8 _ _ _ _ _ | exact ih9 _ _ _ _ _ | exact ih10 _ _ _ _ _ _ | exact ih11 _ _ _ _ _ _ _ _ _ | exact ih12 _ _ _ _ _ _ _ _ _ _ _ _ | exact ih13 _ _ _ _ _ _ _ _ _ _ _ | exact ih14 _ _ _ _ _ _ _ _ _ _ _ _ _ _ | exact impl_AddOffsets.mono _ _ _ | exact impl_AllOpen.mono _ _ _ | exact impl_BackPattern.mono _ _ | exact impl_CountOpen.mono _ _ _ | exact impl_FirstClosing.mono _ _ | exact impl_IsOpen.mono _ _ | exact impl_IsPattern.mono _ _ | exact impl_NarrowestOpen.mono _ _ | exact impl_RestsOf.mono _ _ _ | exact laws_tHas.mono _ _ _ | exact laws_tRises.mono _ _ _ _ | exact laws_tRows.mono _ _ _ | exact laws_tSame.mono _ _ _ | exact spec_AddOffsets.mono _ _ _ | exact spec_AllOpen.mono _ _ _ | exact spec_BackPattern.mono _ _ | exact spec_CountOpen.mono _ _ _ | exact spec_DrawAddOffsets.mono _ _ | exact spec_DrawIsOpen.mono _ _ | exact spec_DrawRestsOf.mono _ _ | exact spec_FirstClosing.mono _ _ | exact spec_IsOpen.mono _ _ | exact spec_IsPattern.mono _ _ | exact spec_NarrowestOpen.mono _ _ | exact spec_RestsOf.mono _ _ _ | exact LeO.refl _ | exact LeO.none _ | refine LeO.ite ?_ ?_ | refine LeO.bind ?_ (fun _ => ?_))
theorem laws_FnPatternsOpen.mono : ∀ a0 a1 k, LeO (laws_FnPatternsOpen.f k a0 a1) (laws_FnPatternsOpen.f (k + 1) a0 a1) := by
 intro a0 a1 k
 obtain ⟨ih0, ih1, ih2, ih3, ih4, ih5, ih6, ih7, ih8, ih9, ih10, ih11, ih12, ih13, ih14⟩ := laws_FnPatternsOpen.mono_l k
 unfold laws_FnPatternsOpen.f
 repeat' first
   | (with_reducible first | exact ih0 _ _ _ _ _ _ _ _ | exact ih1 _ | exact ih2 _ _ _ _ _ | exact ih3 _ | exact ih4 _ _ _ _ _ _ _ | exact ih5 _ | exact ih6 _ _ _ _ _ _ _ _ | exact ih7 _ _ _ _ _ _ _ _ _ _ _ _ _ _ _ _ _ | exact ih8 _ _ _ _ _ | exact ih9 _ _ _ _ _ | exact ih10 _ _ _ _ _ _ | exact ih11 _ _ _ _ _ _ _ _ _ | exact ih12 _ _ _ _ _ _ _ _ _ _ _ _ | exact ih13 _ _ _ _ _ _ _ _ _ _ _ | exact ih14 _ _ _ _ _ _ _ _ _ _ _ _ _ _ | exact impl_AddOffsets.mono _ _ _ | exact impl_AllOpen.mono _ _ _ | exact impl_BackPattern.mono _ _ | exact impl_CountOpen.mono _ _ _ | exact impl_FirstClosing.mono _ _ | exact impl_IsOpen.mono _ _ | exact impl_IsPattern.mono _ _ | exact impl_NarrowestOpen.mono _ _ | exact impl_RestsOf.mono _ _ _ | exact laws_tHas.mono _ _ _ | exact laws_tRises.mono _ _ _ _ | exact laws_tRows.mono _ _ _ | exact laws_tSame.mono _ _ _ | exact spec_AddOffsets.mono _ _ _ | exact spec_AllOpen.mono _ _ _ | exact spec_BackPattern.mono _ _ | exact spec_CountOpen.mono _ _ _ | exact spec_DrawAddOffsets.mono _ _ | exact spec_DrawIsOpen.mono _ _ | exact spec_DrawRestsOf.mono _ _ | exact spec_FirstClosing.mono _ _ | exact spec_IsOpen.mono _ _ | exact spec_IsPattern.mono _ _ | exact spec_NarrowestOpen.mono _ _ | exact spec_RestsOf.mono _ _ _ | exact LeO.refl _ | exact LeO.none _ | refine LeO.ite ?_ ?_ | refine LeO.bind ?_ (fun _ => ?_))
theorem laws_FnPatternsOpen.j0_no : ∀ k y0 y1 y2 y3 y4 y5 y6, laws_FnPatternsOpen.j0 k y0 y1 y2 y3 y4 y5 y6 true = some true → False := by
 intro k y0 y1 y2 y3 y4 y5 y6 h
 cases k with
 | zero => simp [laws_FnPatternsOpen.j0] at h
 | succ k => simp [laws_FnPatternsOpen.j0] at h
theorem laws_FnPatternsOpen.j7_no : ∀ k y0 y1 y2 y3, laws_FnPatternsOpen.j7 k y0 y1 y2 y3 true = some true → False := by
 intro k y0 y1 y2 y3 h
 cases k with
 | zero => simp [laws_FnPatternsOpen.j7] at h
 | succ k => simp [laws_FnPatternsOpen.j7] at h
theorem laws_FnPatternsOpen.j11_no : ∀ k y0 y1 y2 y3 y4 y5, laws_FnPatternsOpen.j11 k y0 y1 y2 y3 y4 y5 true = some true → False := by
 intro k y0 y1 y2 y3 y4 y5 h
 cases k with
 | zero => simp [laws_FnPatternsOpen.j11] at h
 | succ k => simp [laws_FnPatternsOpen.j11] at h
theorem laws_FnPatternsOpen.j8_no : ∀ k y0 y1 y2 y3, laws_FnPatternsOpen.j8 k y0 y1 y2 y3 true = some true → False := by
 intro k y0 y1 y2 y3 h
 cases k with
 | zero => simp [laws_FnPatternsOpen.j8] at h
 | succ k => simp [laws_FnPatternsOpen.j8] at h
theorem laws_FnPatternsOpen.j1_no : ∀ k y0 y1 y2 y3 y4, laws_FnPatternsOpen.j1 k y0 y1 y2 y3 y4 true = some true → False := by
 intro k y0 y1 y2 y3 y4 h
 cases k with
 | zero => simp [laws_FnPatternsOpen.j1] at h
 | succ k => simp [laws_FnPatternsOpen.j1] at h
theorem laws_FnPatternsOpen.j3_no : ∀ k y0 y1 y2 y3 y4 y5 y6 y7 y8 y9 y10, laws_FnPatternsOpen.j3 k y0 y1 y2 y3 y4 y5 y6 y7 y8 y9 y10 true = some true → False := by
 intro k y0 y1 y2 y3 y4 y5 y6 y7 y8 y9 y10 h
 cases k with
 | zero => simp [laws_FnPatternsOpen.j3] at h
 | succ k => simp [laws_FnPatternsOpen.j3] at h
/-- A frame of which some slots (by two masks) hold whatever u says. -/
def cutFgt (u : Nat → Value) : List (Option Nat) → List Value → List Value
 | some n :: m, _ :: l => u n :: cutFgt u m l
 | none :: m, v :: l => v :: cutFgt u m l
 | _, l => l
theorem cutF {P : Program} {s : Code} {K : Act → World → Prop} {Q' : Exit → Act → World → Prop} {w : World} {L : List Value} {fr} (m m2 : List (Option Nat)) (R : (Nat → Value) → World → Prop)
  (first : ∀ (J K' : Act → World → Prop), (∀ u w', R u w' → J ⟨(cutFgt u m2 (cutFgt u m L)).toArray, fr⟩ w') → (∀ a' w', Met J a' w' → K' a' w') → s.wp P (Exit.then K' Q') ⟨L.toArray, fr⟩ w)
  (rest : ∀ u w', R u w' → K ⟨(cutFgt u m2 (cutFgt u m L)).toArray, fr⟩ w') : s.wp P (Exit.then K Q') ⟨L.toArray, fr⟩ w := by
 refine wp_cut (fun a' w' => ∃ u, R u w' ∧ a' = ⟨(cutFgt u m2 (cutFgt u m L)).toArray, fr⟩) ?_ ?_
 ·
  rintro _ w' ⟨u, h, rfl⟩
  exact rest u w' h
 ·
  intro J K' h1 h2
  exact first J K' (fun u w' h => h1 _ _ ⟨u, h, rfl⟩) h2
theorem cutMeet {J : Act → World → Prop} {R : (Nat → Value) → World → Prop} {m m2 : List (Option Nat)} {L0 L : List Value} {fr} {w' : World} (h : ∀ u w', R u w' → J ⟨(cutFgt u m2 (cutFgt u m L0)).toArray, fr⟩ w') (hr : R (fun n => L.getD n (.bool false)) w') (he : cutFgt (fun n => L.getD n (.bool false)) m2 (cutFgt (fun n => L.getD n (.bool false)) m L0) = L) : Met J ⟨L.toArray, fr⟩ w' := by
 have := h _ _ hr
 rw [he] at this
 exact this
def mk0 : List (Option Nat) := [none, none, none, none, none, none, none, none, none, none, none, none, none, none, none, none, none, none, none, none, none, none, none, none, none, none, none, none, none, none, none, none, none, none, none, none, none, none, none, none, none, none, none, none, none, none, none, none, none, none, none, none, none, none, none, none, none, none, none, none, none, none, none, none, none, none, none, none, none, none, none, none, none, some 73, some 74, some 75, some 76, some 77, some 78, some 79, some 80, some 81, some 82, some 83, some 84, some 85, some 86, some 87, some 88, some 89, some 90, some 91, some 92, some 93, some 94, some 95, some 96, some 97, some 98, some 99, some 100, some 101, some 102, some 103, some 104, some 105, some 106, some 107, some 108, some 109, some 110, some 111, some 112, some 113, some 114, some 115, some 116, some 117, some 118, some 119, some 120, some 121, some 122, some 123, some 124, some 125, some 126, some 127, some 128, some 129, some 130, some 131, some 132, some 133, some 134, some 135, some 136, some 137, some 138, some 139, some 140, some 141, some 142, some 143, some 144, some 145, some 146, some 147, some 148, some 149, some 150, some 151, some 152, some 153, some 154, some 155, some 156, some 157, some 158, some 159, some 160, some 161, some 162, some 163, some 164, some 165, some 166, some 167, some 168, some 169, some 170, some 171, some 172, some 173, some 174, some 175, some 176, some 177, some 178, some 179, some 180, some 181, some 182, some 183, some 184, some 185, some 186, some 187, some 188, some 189, some 190, some 191, none, none, none, some 195, some 196, some 197, some 198, some 199, some 200, some 201, some 202, some 203, some 204, some 205, some 206, some 207, some 208, some 209, some 210, some 211, some 212, some 213, some 214, some 215, some 216, some 217, some 218, some 219, some 220, some 221, some 222, some 223, some 224, some 225, some 226, some 227, some 228, some 229, some 230, some 231, some 232, some 233, some 234, some 235, some 236, some 237, some 238, some 239, some 240, some 241, some 242, some 243, some 244, some 245, none, none, none, some 249, some 250, some 251, some 252, some 253, some 254, some 255, some 256, some 257, some 258, some 259, some 260, some 261, some 262, some 263, some 264, some 265, some 266, some 267, some 268, some 269, some 270, some 271, some 272, some 273, some 274, some 275, some 276, some 277, some 278, some 279, some 280, some 281, some 282, some 283, some 284, some 285, some 286, some 287, some 288, some 289, some 290, some 291, some 292, some 293, some 294, some 295, some 296, some 297, some 298, some 299, some 300, some 301, some 302, some 303, some 304, some 305, some 306, some 307, some 308, some 309, some 310, some 311, some 312, some 313, some 314, some 315, some 316, some 317, some 318, some 319, some 320, some 321, some 322, some 323, some 324, some 325, some 326, some 327, some 328, some 329, some 330, some 331, some 332, some 333, some 334, some 335, some 336, some 337, some 338, some 339, some 340, some 341, some 342, some 343, some 344, some 345, some 346, some 347, some 348, some 349, some 350, some 351, some 352, some 353, some 354, some 355, some 356, some 357, some 358, some 359, some 360, some 361, some 362, some 363, some 364, some 365, some 366, some 367, some 368, some 369, some 370, some 371, some 372, some 373, some 374, some 375, some 376, some 377, some 378, some 379, some 380, some 381, some 382, some 383, some 384, some 385, some 386, some 387, some 388, some 389, some 390, some 391, some 392, some 393, some 394, some 395, some 396, some 397, some 398, some 399, some 400, some 401, some 402, none, none, none, some 406, some 407, some 408, some 409, some 410, some 411, some 412, some 413, some 414, some 415, some 416, some 417, some 418, none, none, none, some 422, some 423, some 424, some 425, some 426, some 427, some 428, some 429, some 430, some 431, some 432, some 433, some 434, some 435, some 436, some 437, some 438, some 439, some 440, some 441, some 442, some 443, some 444, some 445, some 446, some 447, some 448, some 449, some 450, some 451, some 452, some 453, some 454, some 455, some 456, some 457, some 458, some 459, some 460, some 461, some 462, some 463, some 464, some 465, some 466, some 467, some 468, some 469, some 470, some 471, some 472, some 473, some 474, some 475, some 476, some 477, some 478, some 479, some 480, some 481, some 482, some 483, some 484, some 485, some 486, some 487, some 488, some 489, some 490, some 491, some 492, some 493, some 494, some 495, some 496, some 497, some 498, some 499, some 500, some 501, some 502, some 503, some 504, some 505, some 506, some 507, some 508, some 509, some 510, some 511, some 512, some 513, some 514, some 515, some 516, some 517, some 518, some 519, some 520, some 521, some 522, some 523, some 524, some 525, some 526]
def mk1 : List (Option Nat) := [none, none, none, none, none, none, none, none, none, none, none, none, none, none, none, none, none, none, none, none, none, none, none, none, none, none, none, none, none, none, none, none, none, none, none, none, none, none, none, none, none, none, none, none, none, none, none, none, none, none, none, none, none, none, none, none, none, none, none, none, none, none, none, none, none, none, none, none, none, none, none, none, none, none, none, none, none, none, none, none, none, none, none, none, none, none, none, none, none, none, none, none, none, none, none, none, none, none, none, none, none, none, none, none, none, none, none, none, none, none, none, none, none, none, none, none, none, none, none, none, none, none, none, none, none, none, none, none, none, none, none, none, none, none, none, none, none, none, none, none, none, none, none, none, none, none, none, none, none, none, none, none, none, none, none, none, none, none, none, none, none, none, none, none, none, none, none, none, none, none, none, none, none, none, none, none, none, none, none, none, none, none, none, none, none, none, none, none, none, none, none, none, none, none, none, some 195, some 196, some 197, some 198, some 199, some 200, some 201, some 202, some 203, some 204, some 205, some 206, some 207, some 208, some 209, some 210, some 211, some 212, some 213, some 214, some 215, some 216, some 217, some 218, some 219, some 220, some 221, some 222, some 223, some 224, some 225, some 226, some 227, some 228, some 229, some 230, some 231, some 232, some 233, some 234, some 235, some 236, some 237, some 238, some 239, some 240, some 241, some 242, some 243, some 244, some 245, none, none, none, some 249, some 250, some 251, some 252, some 253, some 254, some 255, some 256, some 257, some 258, some 259, none, none, none, none, none, none, none, none, none, none, none, none, none, none, none, none, none, none, none, none, none, none, none, none, none, none, none, none, none, none, none, none, none, none, none, none, none, none, none, none, none, none, none, none, none, none, none, none, none, none, none, none, none, none, none, none, none, none, none, none, none, none, none, none, none, none, none, none, none, none, none, none, none, none, none, none, none, none, none, none, none, none, none, none, none, none, none, none, none, none, none, none, none, none, none, none, none, none, none, none, none, none, none, none, none, none, none, none, none, none, none, none, none, none, none, none, none, none, none, none, none, none, none, none, none, none, none, none, none, none, none, none, none, none, none, none, none, none, none, none, none, none, none, none, none, none, none, none, none, none, none, none, none, none, none, none, none, none, none, none, none, none, none, none, none, none, none, none, none, none, none, none, none, none, none, none, none, none, none, none, none, none, none, none, none, none, none, none, none, none, none, none, none, none, none, none, none, none, none, none, none, none, none, none, none, none, none, none, none, none, none, none, none, none, none, none, none, none, none, none, none, none, none, none, none, none, none, none, none, none, none, none, none, none, none, none, none, none, none, none, none, none, none, none, none, none, none, none, none, none, none, none, none, none, none, none, none, none, none, none, none, none, none, none, none, none, none]
set_option maxHeartbeats 200000000 in
set_option maxRecDepth 100000 in
theorem laws_FnPatternsOpen.calls (k : Nat) (A0 : Option Addr) (c0 : Nat) (l0 : List Int) (A1 : Option Addr) (c1 : Nat) (l1 : List Int) (r : Bool) (w : World) (hr0 : Kd.C (Kd.int .u8) w A0 l0.length l0) (hc0 : l0.length ≤ c0) (hr1 : Kd.C (Kd.int .u8) w A1 l1.length l1) (hc1 : l1.length ≤ c1) (h : laws_FnPatternsOpen.f k l0 l1 = some r) (hr_ : r = true) :
  Calls Try.prog 4 #[.slice A0 l0.length c0, .slice A1 l1.length c1] w fun e w' => e = .returned (.bool r) ∧ Below w.heap.size w w' := by
 have HRT := Aside0.mk hr_
 clear hr_
 have HR0 := Aside0.mk hr0
 have HC0 := Aside0.mk hc0
 clear hr0 hc0
 have HR1 := Aside0.mk hr1
 have HC1 := Aside0.mk hc1
 clear hr1 hc1
 have HB := Aside0.mk (Below.refl w.heap.size w)
 have H : ((laws_big.f l0 l1).bind fun t340 => (if t340 = true then (some true) else ((spec_DrawIsOpen.f k l0).bind fun t341 => ((impl_IsOpen.f k t341).bind fun bt344 => ((spec_IsOpen.f k t341).bind fun bt346 => ((impl_FirstClosing.f k t341).bind fun bt348 => ((spec_FirstClosing.f k t341).bind fun bt350 => ((impl_BackPattern.f k t341).bind fun bt352 => ((spec_BackPattern.f k t341).bind fun bt356 => (if (bt344.2 != bt346.2) = true then (laws_FnPatternsOpen.j0 k l1 t341 bt344.1 bt344.2 bt348.1 bt348.2 bt352.1 true) else (if (bt344.1 != bt346.1) = true then (laws_FnPatternsOpen.j0 k l1 t341 bt344.1 bt344.2 bt348.1 bt348.2 bt352.1 true) else (if (bt348.2 != bt350.2) = true then (laws_FnPatternsOpen.j0 k l1 t341 bt344.1 bt344.2 bt348.1 bt348.2 bt352.1 true) else (if bt348.1 = bt350.1 then (if (bt352.2 != bt356.2) = true then (laws_FnPatternsOpen.j0 k l1 t341 bt344.1 bt344.2 bt348.1 bt348.2 bt352.1 true) else ((laws_tSame.f k bt352.1 bt356.1).bind fun t360 => (if t360 = true then ((impl_IsPattern.f k t341).bind fun t361 => (if (bt344.2 != t361) = true then (laws_FnPatternsOpen.j0 k l1 t341 bt344.1 bt344.2 bt348.1 bt348.2 bt352.1 true) else ((impl_IsPattern.f k t341).bind fun t362 => ((spec_IsPattern.f k t341).bind fun t363 => (if (t362 != t363) = true then (laws_FnPatternsOpen.j0 k l1 t341 bt344.1 bt344.2 bt348.1 bt348.2 bt352.1 true) else (if bt344.2 = true then (if (bt348.2 != (!bt344.1)) = true then (laws_FnPatternsOpen.j0 k l1 t341 bt344.1 bt344.2 bt348.1 bt348.2 bt352.1 true) else (laws_FnPatternsOpen.j0 k l1 t341 bt344.1 bt344.2 bt348.1 bt348.2 bt352.1 (bt352.2 != bt344.2))) else (if (bt348.2 != false) = true then (laws_FnPatternsOpen.j0 k l1 t341 bt344.1 bt344.2 bt348.1 bt348.2 bt352.1 true) else (laws_FnPatternsOpen.j0 k l1 t341 bt344.1 bt344.2 bt348.1 bt348.2 bt352.1 (bt352.2 != bt344.2))))))))) else (laws_FnPatternsOpen.j0 k l1 t341 bt344.1 bt344.2 bt348.1 bt348.2 bt352.1 true)))) else (laws_FnPatternsOpen.j0 k l1 t341 bt344.1 bt344.2 bt348.1 bt348.2 bt352.1 true)))))))))))))) = some r := h
 clear h
 replace H := Option.bind_eq_some_iff.mp H
 obtain ⟨t340, A30, H⟩ := H
 replace H : (if t340 = true then (some true) else ((spec_DrawIsOpen.f k l0).bind fun t341 => ((impl_IsOpen.f k t341).bind fun bt344 => ((spec_IsOpen.f k t341).bind fun bt346 => ((impl_FirstClosing.f k t341).bind fun bt348 => ((spec_FirstClosing.f k t341).bind fun bt350 => ((impl_BackPattern.f k t341).bind fun bt352 => ((spec_BackPattern.f k t341).bind fun bt356 => (if (bt344.2 != bt346.2) = true then (laws_FnPatternsOpen.j0 k l1 t341 bt344.1 bt344.2 bt348.1 bt348.2 bt352.1 true) else (if (bt344.1 != bt346.1) = true then (laws_FnPatternsOpen.j0 k l1 t341 bt344.1 bt344.2 bt348.1 bt348.2 bt352.1 true) else (if (bt348.2 != bt350.2) = true then (laws_FnPatternsOpen.j0 k l1 t341 bt344.1 bt344.2 bt348.1 bt348.2 bt352.1 true) else (if bt348.1 = bt350.1 then (if (bt352.2 != bt356.2) = true then (laws_FnPatternsOpen.j0 k l1 t341 bt344.1 bt344.2 bt348.1 bt348.2 bt352.1 true) else ((laws_tSame.f k bt352.1 bt356.1).bind fun t360 => (if t360 = true then ((impl_IsPattern.f k t341).bind fun t361 => (if (bt344.2 != t361) = true then (laws_FnPatternsOpen.j0 k l1 t341 bt344.1 bt344.2 bt348.1 bt348.2 bt352.1 true) else ((impl_IsPattern.f k t341).bind fun t362 => ((spec_IsPattern.f k t341).bind fun t363 => (if (t362 != t363) = true then (laws_FnPatternsOpen.j0 k l1 t341 bt344.1 bt344.2 bt348.1 bt348.2 bt352.1 true) else (if bt344.2 = true then (if (bt348.2 != (!bt344.1)) = true then (laws_FnPatternsOpen.j0 k l1 t341 bt344.1 bt344.2 bt348.1 bt348.2 bt352.1 true) else (laws_FnPatternsOpen.j0 k l1 t341 bt344.1 bt344.2 bt348.1 bt348.2 bt352.1 (bt352.2 != bt344.2))) else (if (bt348.2 != false) = true then (laws_FnPatternsOpen.j0 k l1 t341 bt344.1 bt344.2 bt348.1 bt348.2 bt352.1 true) else (laws_FnPatternsOpen.j0 k l1 t341 bt344.1 bt344.2 bt348.1 bt348.2 bt352.1 (bt352.2 != bt344.2))))))))) else (laws_FnPatternsOpen.j0 k l1 t341 bt344.1 bt344.2 bt348.1 bt348.2 bt352.1 true)))) else (laws_FnPatternsOpen.j0 k l1 t341 bt344.1 bt344.2 bt348.1 bt348.2 bt352.1 true))))))))))))) = some r := H
 have A3 := Aside0.mk A30
 clear A30
 by_cases c4 : t340 = true
 ·
  as_aux_lemma =>
   subst c4
   have H1 : (some true) = some r := by rw [if_pos rfl] at H; exact H
   clear H
   have H := H1
   clear H1
   first
   | exact absurd (Option.some.inj (H.trans (congrArg some HRT.out))) Bool.false_ne_true
   |
    obtain rfl := Option.some.inj H
    go_enter Try.func4, Try.ntmps4
    go_wp2_with (first | ((with_reducible refine gate_callee (f := 27) rfl ?_); refine goesL_ (some 75) rfl rfl Try.func27 (by kernel_rfl) rfl #[.slice A0 l0.length c0, .slice A1 l1.length c1] rfl (by (try simp only [List.map_toArray, List.map_cons, List.map_nil]); first | done | rfl | (simp only [List.length_drop, List.length_take]; rfl)) ?_; (with_reducible refine (laws_big.calls _ _ l0 _ _ l1 true _ ?side1 ?side2 ?side3 ?side4 A3.out).mono ?_); (case side1 => repeat (first | exact HR0.out | (with_reducible refine Kd.C_alloc ?_ _) | (with_reducible refine Kd.C_drewN ?_ _) | (with_reducible refine Kd.C_drew ?_))); (case side2 => exact HC0.out); (case side3 => repeat (first | exact HR1.out | (with_reducible refine Kd.C_alloc ?_ _) | (with_reducible refine Kd.C_drewN ?_ _) | (with_reducible refine Kd.C_drew ?_))); (case side4 => exact HC1.out); rintro e w' ⟨rfl, ⟨nd, rfl⟩⟩; refine ⟨_, rfl, ?_⟩))
    go_ret
    exact ⟨by first | rfl | (simp [errW_none, errW_some] <;> rfl) | (simp [*, errW_none, errW_some] <;> rfl), by repeat (first | (with_reducible first | exact HB.out | apply below_alloc | apply pw_below_drewN | apply below_drew1))⟩
 ·
  replace c4 := Bool.eq_false_iff.mpr c4
  subst c4
  have H1 : ((spec_DrawIsOpen.f k l0).bind fun t341 => ((impl_IsOpen.f k t341).bind fun bt344 => ((spec_IsOpen.f k t341).bind fun bt346 => ((impl_FirstClosing.f k t341).bind fun bt348 => ((spec_FirstClosing.f k t341).bind fun bt350 => ((impl_BackPattern.f k t341).bind fun bt352 => ((spec_BackPattern.f k t341).bind fun bt356 => (if (bt344.2 != bt346.2) = true then (laws_FnPatternsOpen.j0 k l1 t341 bt344.1 bt344.2 bt348.1 bt348.2 bt352.1 true) else (if (bt344.1 != bt346.1) = true then (laws_FnPatternsOpen.j0 k l1 t341 bt344.1 bt344.2 bt348.1 bt348.2 bt352.1 true) else (if (bt348.2 != bt350.2) = true then (laws_FnPatternsOpen.j0 k l1 t341 bt344.1 bt344.2 bt348.1 bt348.2 bt352.1 true) else (if bt348.1 = bt350.1 then (if (bt352.2 != bt356.2) = true then (laws_FnPatternsOpen.j0 k l1 t341 bt344.1 bt344.2 bt348.1 bt348.2 bt352.1 true) else ((laws_tSame.f k bt352.1 bt356.1).bind fun t360 => (if t360 = true then ((impl_IsPattern.f k t341).bind fun t361 => (if (bt344.2 != t361) = true then (laws_FnPatternsOpen.j0 k l1 t341 bt344.1 bt344.2 bt348.1 bt348.2 bt352.1 true) else ((impl_IsPattern.f k t341).bind fun t362 => ((spec_IsPattern.f k t341).bind fun t363 => (if (t362 != t363) = true then (laws_FnPatternsOpen.j0 k l1 t341 bt344.1 bt344.2 bt348.1 bt348.2 bt352.1 true) else (if bt344.2 = true then (if (bt348.2 != (!bt344.1)) = true then (laws_FnPatternsOpen.j0 k l1 t341 bt344.1 bt344.2 bt348.1 bt348.2 bt352.1 true) else (laws_FnPatternsOpen.j0 k l1 t341 bt344.1 bt344.2 bt348.1 bt348.2 bt352.1 (bt352.2 != bt344.2))) else (if (bt348.2 != false) = true then (laws_FnPatternsOpen.j0 k l1 t341 bt344.1 bt344.2 bt348.1 bt348.2 bt352.1 true) else (laws_FnPatternsOpen.j0 k l1 t341 bt344.1 bt344.2 bt348.1 bt348.2 bt352.1 (bt352.2 != bt344.2))))))))) else (laws_FnPatternsOpen.j0 k l1 t341 bt344.1 bt344.2 bt348.1 bt348.2 bt352.1 true)))) else (laws_FnPatternsOpen.j0 k l1 t341 bt344.1 bt344.2 bt348.1 bt348.2 bt352.1 true)))))))))))) = some r := by rw [if_neg (show ¬ (false = true) by decide)] at H; exact H
  clear H
  have H := H1
  clear H1
  replace H := Option.bind_eq_some_iff.mp H
  obtain ⟨t341, A50, H⟩ := H
  replace H : ((impl_IsOpen.f k t341).bind fun bt344 => ((spec_IsOpen.f k t341).bind fun bt346 => ((impl_FirstClosing.f k t341).bind fun bt348 => ((spec_FirstClosing.f k t341).bind fun bt350 => ((impl_BackPattern.f k t341).bind fun bt352 => ((spec_BackPattern.f k t341).bind fun bt356 => (if (bt344.2 != bt346.2) = true then (laws_FnPatternsOpen.j0 k l1 t341 bt344.1 bt344.2 bt348.1 bt348.2 bt352.1 true) else (if (bt344.1 != bt346.1) = true then (laws_FnPatternsOpen.j0 k l1 t341 bt344.1 bt344.2 bt348.1 bt348.2 bt352.1 true) else (if (bt348.2 != bt350.2) = true then (laws_FnPatternsOpen.j0 k l1 t341 bt344.1 bt344.2 bt348.1 bt348.2 bt352.1 true) else (if bt348.1 = bt350.1 then (if (bt352.2 != bt356.2) = true then (laws_FnPatternsOpen.j0 k l1 t341 bt344.1 bt344.2 bt348.1 bt348.2 bt352.1 true) else ((laws_tSame.f k bt352.1 bt356.1).bind fun t360 => (if t360 = true then ((impl_IsPattern.f k t341).bind fun t361 => (if (bt344.2 != t361) = true then (laws_FnPatternsOpen.j0 k l1 t341 bt344.1 bt344.2 bt348.1 bt348.2 bt352.1 true) else ((impl_IsPattern.f k t341).bind fun t362 => ((spec_IsPattern.f k t341).bind fun t363 => (if (t362 != t363) = true then (laws_FnPatternsOpen.j0 k l1 t341 bt344.1 bt344.2 bt348.1 bt348.2 bt352.1 true) else (if bt344.2 = true then (if (bt348.2 != (!bt344.1)) = true then (laws_FnPatternsOpen.j0 k l1 t341 bt344.1 bt344.2 bt348.1 bt348.2 bt352.1 true) else (laws_FnPatternsOpen.j0 k l1 t341 bt344.1 bt344.2 bt348.1 bt348.2 bt352.1 (bt352.2 != bt344.2))) else (if (bt348.2 != false) = true then (laws_FnPatternsOpen.j0 k l1 t341 bt344.1 bt344.2 bt348.1 bt348.2 bt352.1 true) else (laws_FnPatternsOpen.j0 k l1 t341 bt344.1 bt344.2 bt348.1 bt348.2 bt352.1 (bt352.2 != bt344.2))))))))) else (laws_FnPatternsOpen.j0 k l1 t341 bt344.1 bt344.2 bt348.1 bt348.2 bt352.1 true)))) else (laws_FnPatternsOpen.j0 k l1 t341 bt344.1 bt344.2 bt348.1 bt348.2 bt352.1 true))))))))))) = some r := H
  have A5 := Aside0.mk A50
  clear A50
  replace H := Option.bind_eq_some_iff.mp H
  obtain ⟨⟨t344, t345⟩, A60, H⟩ := H
  replace H : ((spec_IsOpen.f k t341).bind fun bt346 => ((impl_FirstClosing.f k t341).bind fun bt348 => ((spec_FirstClosing.f k t341).bind fun bt350 => ((impl_BackPattern.f k t341).bind fun bt352 => ((spec_BackPattern.f k t341).bind fun bt356 => (if (t345 != bt346.2) = true then (laws_FnPatternsOpen.j0 k l1 t341 t344 t345 bt348.1 bt348.2 bt352.1 true) else (if (t344 != bt346.1) = true then (laws_FnPatternsOpen.j0 k l1 t341 t344 t345 bt348.1 bt348.2 bt352.1 true) else (if (bt348.2 != bt350.2) = true then (laws_FnPatternsOpen.j0 k l1 t341 t344 t345 bt348.1 bt348.2 bt352.1 true) else (if bt348.1 = bt350.1 then (if (bt352.2 != bt356.2) = true then (laws_FnPatternsOpen.j0 k l1 t341 t344 t345 bt348.1 bt348.2 bt352.1 true) else ((laws_tSame.f k bt352.1 bt356.1).bind fun t360 => (if t360 = true then ((impl_IsPattern.f k t341).bind fun t361 => (if (t345 != t361) = true then (laws_FnPatternsOpen.j0 k l1 t341 t344 t345 bt348.1 bt348.2 bt352.1 true) else ((impl_IsPattern.f k t341).bind fun t362 => ((spec_IsPattern.f k t341).bind fun t363 => (if (t362 != t363) = true then (laws_FnPatternsOpen.j0 k l1 t341 t344 t345 bt348.1 bt348.2 bt352.1 true) else (if t345 = true then (if (bt348.2 != (!t344)) = true then (laws_FnPatternsOpen.j0 k l1 t341 t344 t345 bt348.1 bt348.2 bt352.1 true) else (laws_FnPatternsOpen.j0 k l1 t341 t344 t345 bt348.1 bt348.2 bt352.1 (bt352.2 != t345))) else (if (bt348.2 != false) = true then (laws_FnPatternsOpen.j0 k l1 t341 t344 t345 bt348.1 bt348.2 bt352.1 true) else (laws_FnPatternsOpen.j0 k l1 t341 t344 t345 bt348.1 bt348.2 bt352.1 (bt352.2 != t345))))))))) else (laws_FnPatternsOpen.j0 k l1 t341 t344 t345 bt348.1 bt348.2 bt352.1 true)))) else (laws_FnPatternsOpen.j0 k l1 t341 t344 t345 bt348.1 bt348.2 bt352.1 true)))))))))) = some r := H
  have A6 := Aside0.mk A60
  clear A60
  replace H := Option.bind_eq_some_iff.mp H
  obtain ⟨⟨t346, t347⟩, A70, H⟩ := H
  replace H : ((impl_FirstClosing.f k t341).bind fun bt348 => ((spec_FirstClosing.f k t341).bind fun bt350 => ((impl_BackPattern.f k t341).bind fun bt352 => ((spec_BackPattern.f k t341).bind fun bt356 => (if (t345 != t347) = true then (laws_FnPatternsOpen.j0 k l1 t341 t344 t345 bt348.1 bt348.2 bt352.1 true) else (if (t344 != t346) = true then (laws_FnPatternsOpen.j0 k l1 t341 t344 t345 bt348.1 bt348.2 bt352.1 true) else (if (bt348.2 != bt350.2) = true then (laws_FnPatternsOpen.j0 k l1 t341 t344 t345 bt348.1 bt348.2 bt352.1 true) else (if bt348.1 = bt350.1 then (if (bt352.2 != bt356.2) = true then (laws_FnPatternsOpen.j0 k l1 t341 t344 t345 bt348.1 bt348.2 bt352.1 true) else ((laws_tSame.f k bt352.1 bt356.1).bind fun t360 => (if t360 = true then ((impl_IsPattern.f k t341).bind fun t361 => (if (t345 != t361) = true then (laws_FnPatternsOpen.j0 k l1 t341 t344 t345 bt348.1 bt348.2 bt352.1 true) else ((impl_IsPattern.f k t341).bind fun t362 => ((spec_IsPattern.f k t341).bind fun t363 => (if (t362 != t363) = true then (laws_FnPatternsOpen.j0 k l1 t341 t344 t345 bt348.1 bt348.2 bt352.1 true) else (if t345 = true then (if (bt348.2 != (!t344)) = true then (laws_FnPatternsOpen.j0 k l1 t341 t344 t345 bt348.1 bt348.2 bt352.1 true) else (laws_FnPatternsOpen.j0 k l1 t341 t344 t345 bt348.1 bt348.2 bt352.1 (bt352.2 != t345))) else (if (bt348.2 != false) = true then (laws_FnPatternsOpen.j0 k l1 t341 t344 t345 bt348.1 bt348.2 bt352.1 true) else (laws_FnPatternsOpen.j0 k l1 t341 t344 t345 bt348.1 bt348.2 bt352.1 (bt352.2 != t345))))))))) else (laws_FnPatternsOpen.j0 k l1 t341 t344 t345 bt348.1 bt348.2 bt352.1 true)))) else (laws_FnPatternsOpen.j0 k l1 t341 t344 t345 bt348.1 bt348.2 bt352.1 true))))))))) = some r := H
  have A7 := Aside0.mk A70
  clear A70
  replace H := Option.bind_eq_some_iff.mp H
  obtain ⟨⟨t348, t349⟩, A80, H⟩ := H
  replace H : ((spec_FirstClosing.f k t341).bind fun bt350 => ((impl_BackPattern.f k t341).bind fun bt352 => ((spec_BackPattern.f k t341).bind fun bt356 => (if (t345 != t347) = true then (laws_FnPatternsOpen.j0 k l1 t341 t344 t345 t348 t349 bt352.1 true) else (if (t344 != t346) = true then (laws_FnPatternsOpen.j0 k l1 t341 t344 t345 t348 t349 bt352.1 true) else (if (t349 != bt350.2) = true then (laws_FnPatternsOpen.j0 k l1 t341 t344 t345 t348 t349 bt352.1 true) else (if t348 = bt350.1 then (if (bt352.2 != bt356.2) = true then (laws_FnPatternsOpen.j0 k l1 t341 t344 t345 t348 t349 bt352.1 true) else ((laws_tSame.f k bt352.1 bt356.1).bind fun t360 => (if t360 = true then ((impl_IsPattern.f k t341).bind fun t361 => (if (t345 != t361) = true then (laws_FnPatternsOpen.j0 k l1 t341 t344 t345 t348 t349 bt352.1 true) else ((impl_IsPattern.f k t341).bind fun t362 => ((spec_IsPattern.f k t341).bind fun t363 => (if (t362 != t363) = true then (laws_FnPatternsOpen.j0 k l1 t341 t344 t345 t348 t349 bt352.1 true) else (if t345 = true then (if (t349 != (!t344)) = true then (laws_FnPatternsOpen.j0 k l1 t341 t344 t345 t348 t349 bt352.1 true) else (laws_FnPatternsOpen.j0 k l1 t341 t344 t345 t348 t349 bt352.1 (bt352.2 != t345))) else (if (t349 != false) = true then (laws_FnPatternsOpen.j0 k l1 t341 t344 t345 t348 t349 bt352.1 true) else (laws_FnPatternsOpen.j0 k l1 t341 t344 t345 t348 t349 bt352.1 (bt352.2 != t345))))))))) else (laws_FnPatternsOpen.j0 k l1 t341 t344 t345 t348 t349 bt352.1 true)))) else (laws_FnPatternsOpen.j0 k l1 t341 t344 t345 t348 t349 bt352.1 true)))))))) = some r := H
  have A8 := Aside0.mk A80
  clear A80
  replace H := Option.bind_eq_some_iff.mp H
  obtain ⟨⟨t350, t351⟩, A90, H⟩ := H
  replace H : ((impl_BackPattern.f k t341).bind fun bt352 => ((spec_BackPattern.f k t341).bind fun bt356 => (if (t345 != t347) = true then (laws_FnPatternsOpen.j0 k l1 t341 t344 t345 t348 t349 bt352.1 true) else (if (t344 != t346) = true then (laws_FnPatternsOpen.j0 k l1 t341 t344 t345 t348 t349 bt352.1 true) else (if (t349 != t351) = true then (laws_FnPatternsOpen.j0 k l1 t341 t344 t345 t348 t349 bt352.1 true) else (if t348 = t350 then (if (bt352.2 != bt356.2) = true then (laws_FnPatternsOpen.j0 k l1 t341 t344 t345 t348 t349 bt352.1 true) else ((laws_tSame.f k bt352.1 bt356.1).bind fun t360 => (if t360 = true then ((impl_IsPattern.f k t341).bind fun t361 => (if (t345 != t361) = true then (laws_FnPatternsOpen.j0 k l1 t341 t344 t345 t348 t349 bt352.1 true) else ((impl_IsPattern.f k t341).bind fun t362 => ((spec_IsPattern.f k t341).bind fun t363 => (if (t362 != t363) = true then (laws_FnPatternsOpen.j0 k l1 t341 t344 t345 t348 t349 bt352.1 true) else (if t345 = true then (if (t349 != (!t344)) = true then (laws_FnPatternsOpen.j0 k l1 t341 t344 t345 t348 t349 bt352.1 true) else (laws_FnPatternsOpen.j0 k l1 t341 t344 t345 t348 t349 bt352.1 (bt352.2 != t345))) else (if (t349 != false) = true then (laws_FnPatternsOpen.j0 k l1 t341 t344 t345 t348 t349 bt352.1 true) else (laws_FnPatternsOpen.j0 k l1 t341 t344 t345 t348 t349 bt352.1 (bt352.2 != t345))))))))) else (laws_FnPatternsOpen.j0 k l1 t341 t344 t345 t348 t349 bt352.1 true)))) else (laws_FnPatternsOpen.j0 k l1 t341 t344 t345 t348 t349 bt352.1 true))))))) = some r := H
  have A9 := Aside0.mk A90
  clear A90
  replace H := Option.bind_eq_some_iff.mp H
  obtain ⟨⟨t352, t353⟩, A100, H⟩ := H
  replace H : ((spec_BackPattern.f k t341).bind fun bt356 => (if (t345 != t347) = true then (laws_FnPatternsOpen.j0 k l1 t341 t344 t345 t348 t349 t352 true) else (if (t344 != t346) = true then (laws_FnPatternsOpen.j0 k l1 t341 t344 t345 t348 t349 t352 true) else (if (t349 != t351) = true then (laws_FnPatternsOpen.j0 k l1 t341 t344 t345 t348 t349 t352 true) else (if t348 = t350 then (if (t353 != bt356.2) = true then (laws_FnPatternsOpen.j0 k l1 t341 t344 t345 t348 t349 t352 true) else ((laws_tSame.f k t352 bt356.1).bind fun t360 => (if t360 = true then ((impl_IsPattern.f k t341).bind fun t361 => (if (t345 != t361) = true then (laws_FnPatternsOpen.j0 k l1 t341 t344 t345 t348 t349 t352 true) else ((impl_IsPattern.f k t341).bind fun t362 => ((spec_IsPattern.f k t341).bind fun t363 => (if (t362 != t363) = true then (laws_FnPatternsOpen.j0 k l1 t341 t344 t345 t348 t349 t352 true) else (if t345 = true then (if (t349 != (!t344)) = true then (laws_FnPatternsOpen.j0 k l1 t341 t344 t345 t348 t349 t352 true) else (laws_FnPatternsOpen.j0 k l1 t341 t344 t345 t348 t349 t352 (t353 != t345))) else (if (t349 != false) = true then (laws_FnPatternsOpen.j0 k l1 t341 t344 t345 t348 t349 t352 true) else (laws_FnPatternsOpen.j0 k l1 t341 t344 t345 t348 t349 t352 (t353 != t345))))))))) else (laws_FnPatternsOpen.j0 k l1 t341 t344 t345 t348 t349 t352 true)))) else (laws_FnPatternsOpen.j0 k l1 t341 t344 t345 t348 t349 t352 true)))))) = some r := H
  have A10 := Aside0.mk A100
  clear A100
  replace H := Option.bind_eq_some_iff.mp H
  obtain ⟨⟨t356, t357⟩, A110, H⟩ := H
  replace H : (if (t345 != t347) = true then (laws_FnPatternsOpen.j0 k l1 t341 t344 t345 t348 t349 t352 true) else (if (t344 != t346) = true then (laws_FnPatternsOpen.j0 k l1 t341 t344 t345 t348 t349 t352 true) else (if (t349 != t351) = true then (laws_FnPatternsOpen.j0 k l1 t341 t344 t345 t348 t349 t352 true) else (if t348 = t350 then (if (t353 != t357) = true then (laws_FnPatternsOpen.j0 k l1 t341 t344 t345 t348 t349 t352 true) else ((laws_tSame.f k t352 t356).bind fun t360 => (if t360 = true then ((impl_IsPattern.f k t341).bind fun t361 => (if (t345 != t361) = true then (laws_FnPatternsOpen.j0 k l1 t341 t344 t345 t348 t349 t352 true) else ((impl_IsPattern.f k t341).bind fun t362 => ((spec_IsPattern.f k t341).bind fun t363 => (if (t362 != t363) = true then (laws_FnPatternsOpen.j0 k l1 t341 t344 t345 t348 t349 t352 true) else (if t345 = true then (if (t349 != (!t344)) = true then (laws_FnPatternsOpen.j0 k l1 t341 t344 t345 t348 t349 t352 true) else (laws_FnPatternsOpen.j0 k l1 t341 t344 t345 t348 t349 t352 (t353 != t345))) else (if (t349 != false) = true then (laws_FnPatternsOpen.j0 k l1 t341 t344 t345 t348 t349 t352 true) else (laws_FnPatternsOpen.j0 k l1 t341 t344 t345 t348 t349 t352 (t353 != t345))))))))) else (laws_FnPatternsOpen.j0 k l1 t341 t344 t345 t348 t349 t352 true)))) else (laws_FnPatternsOpen.j0 k l1 t341 t344 t345 t348 t349 t352 true))))) = some r := H
  have A11 := Aside0.mk A110
  clear A110
  have HC12 := Aside0.mk H
  clear H
  go_enter Try.func4, Try.ntmps4
  go_upto_region 10 with (first | ((with_reducible refine gate_callee (f := 27) rfl ?_); refine goesL_ (some 75) rfl rfl Try.func27 (by kernel_rfl) rfl #[.slice A0 l0.length c0, .slice A1 l1.length c1] rfl (by (try simp only [List.map_toArray, List.map_cons, List.map_nil]); first | done | rfl | (simp only [List.length_drop, List.length_take]; rfl)) ?_; (with_reducible refine (laws_big.calls _ _ l0 _ _ l1 false _ ?side1 ?side2 ?side3 ?side4 A3.out).mono ?_); (case side1 => repeat (first | exact HR0.out | (with_reducible refine Kd.C_alloc ?_ _) | (with_reducible refine Kd.C_drewN ?_ _) | (with_reducible refine Kd.C_drew ?_))); (case side2 => exact HC0.out); (case side3 => repeat (first | exact HR1.out | (with_reducible refine Kd.C_alloc ?_ _) | (with_reducible refine Kd.C_drewN ?_ _) | (with_reducible refine Kd.C_drew ?_))); (case side4 => exact HC1.out); rintro e w' ⟨rfl, ⟨nd, rfl⟩⟩; refine ⟨_, rfl, ?_⟩) | ((with_reducible refine gate_callee (f := 28) rfl ?_); refine goesL_ (some 77) rfl rfl Try.func28 (by kernel_rfl) rfl #[.slice A0 l0.length c0] rfl (by (try simp only [List.map_toArray, List.map_cons, List.map_nil]); first | done | rfl | (simp only [List.length_drop, List.length_take]; rfl)) ?_; (with_reducible refine (spec_DrawIsOpen.calls k _ _ l0 t341 _ ?side1 ?side2 A5.out).mono ?_); (case side1 => repeat (first | exact HR0.out | (with_reducible refine Kd.C_alloc ?_ _) | (with_reducible refine Kd.C_drewN ?_ _) | (with_reducible refine Kd.C_drew ?_))); (case side2 => exact HC0.out); rintro e w13 ⟨v342, rfl, ho0, hb⟩; refine ⟨_, rfl, ?_⟩; have n0_ := Aside0.mk (Kd.R_lower ho0 (below_size (by repeat (first | (with_reducible first | exact HB.out | apply below_alloc | apply pw_below_drewN | apply below_drew1))))); have n1_ := Aside0.mk (below_step (by repeat (first | (with_reducible first | exact HB.out | apply below_alloc | apply pw_below_drewN | apply below_drew1))) hb); clear HB; have HO343 := n0_; have HB := n1_; clear n0_ n1_; (try clear hb); (try clear ho0); obtain ⟨Ao14, co14, eo14⟩ := Kd.R_slice HO343.out; subst eo14) | ((with_reducible refine gate_callee (f := 5) rfl ?_); refine goesL_ (some 80) rfl rfl Try.func5 (by kernel_rfl) rfl #[.slice Ao14 t341.length co14] rfl (by (try simp only [List.map_toArray, List.map_cons, List.map_nil]); first | done | rfl | (simp only [List.length_drop, List.length_take]; rfl)) ?_; (with_reducible refine (impl_IsOpen.calls k _ _ t341 t344 t345 _ ?side1 ?side2 A6.out).mono ?_); (case side1 => repeat (first | exact (Kd.R_reads' HO343.out).2.2 | (with_reducible refine Kd.C_alloc ?_ _) | (with_reducible refine Kd.C_drewN ?_ _) | (with_reducible refine Kd.C_drew ?_))); (case side2 => exact (Kd.R_reads' HO343.out).2.1); rintro e w15 ⟨rfl, hb⟩; refine ⟨_, rfl, ?_⟩; have n0_ := Aside0.mk (Kd.R_below (by (with_reducible repeat (first | apply Kd.R_alloc | apply Kd.R_drewN | apply Kd.R_drew)); exact HO343.out) hb); have n1_ := Aside0.mk (below_step (by repeat (first | (with_reducible first | exact HB.out | apply below_alloc | apply pw_below_drewN | apply below_drew1))) hb); clear HO343; clear HB; have HO343 := n0_; have HB := n1_; clear n0_ n1_; (try clear hb)) | ((with_reducible refine gate_callee (f := 6) rfl ?_); refine goesL_ (some 85) rfl rfl Try.func6 (by kernel_rfl) rfl #[.slice Ao14 t341.length co14] rfl (by (try simp only [List.map_toArray, List.map_cons, List.map_nil]); first | done | rfl | (simp only [List.length_drop, List.length_take]; rfl)) ?_; (with_reducible refine (spec_IsOpen.calls k _ _ t341 t346 t347 _ ?side1 ?side2 A7.out).mono ?_); (case side1 => repeat (first | exact (Kd.R_reads' HO343.out).2.2 | (with_reducible refine Kd.C_alloc ?_ _) | (with_reducible refine Kd.C_drewN ?_ _) | (with_reducible refine Kd.C_drew ?_))); (case side2 => exact (Kd.R_reads' HO343.out).2.1); rintro e w16 ⟨rfl, hb⟩; refine ⟨_, rfl, ?_⟩; have n0_ := Aside0.mk (Kd.R_below (by (with_reducible repeat (first | apply Kd.R_alloc | apply Kd.R_drewN | apply Kd.R_drew)); exact HO343.out) hb); have n1_ := Aside0.mk (below_step (by repeat (first | (with_reducible first | exact HB.out | apply below_alloc | apply pw_below_drewN | apply below_drew1))) hb); clear HO343; clear HB; have HO343 := n0_; have HB := n1_; clear n0_ n1_; (try clear hb)) | ((with_reducible refine gate_callee (f := 7) rfl ?_); refine goesL_ (some 90) rfl rfl Try.func7 (by kernel_rfl) rfl #[.slice Ao14 t341.length co14] rfl (by (try simp only [List.map_toArray, List.map_cons, List.map_nil]); first | done | rfl | (simp only [List.length_drop, List.length_take]; rfl)) ?_; (with_reducible refine (impl_FirstClosing.calls k _ _ t341 t348 t349 _ ?side1 ?side2 A8.out).mono ?_); (case side1 => repeat (first | exact (Kd.R_reads' HO343.out).2.2 | (with_reducible refine Kd.C_alloc ?_ _) | (with_reducible refine Kd.C_drewN ?_ _) | (with_reducible refine Kd.C_drew ?_))); (case side2 => exact (Kd.R_reads' HO343.out).2.1); rintro e w17 ⟨rfl, hb⟩; refine ⟨_, rfl, ?_⟩; have n0_ := Aside0.mk (Kd.R_below (by (with_reducible repeat (first | apply Kd.R_alloc | apply Kd.R_drewN | apply Kd.R_drew)); exact HO343.out) hb); have n1_ := Aside0.mk (below_step (by repeat (first | (with_reducible first | exact HB.out | apply below_alloc | apply pw_below_drewN | apply below_drew1))) hb); clear HO343; clear HB; have HO343 := n0_; have HB := n1_; clear n0_ n1_; (try clear hb)) | ((with_reducible refine gate_callee (f := 8) rfl ?_); refine goesL_ (some 95) rfl rfl Try.func8 (by kernel_rfl) rfl #[.slice Ao14 t341.length co14] rfl (by (try simp only [List.map_toArray, List.map_cons, List.map_nil]); first | done | rfl | (simp only [List.length_drop, List.length_take]; rfl)) ?_; (with_reducible refine (spec_FirstClosing.calls k _ _ t341 t350 t351 _ ?side1 ?side2 A9.out).mono ?_); (case side1 => repeat (first | exact (Kd.R_reads' HO343.out).2.2 | (with_reducible refine Kd.C_alloc ?_ _) | (with_reducible refine Kd.C_drewN ?_ _) | (with_reducible refine Kd.C_drew ?_))); (case side2 => exact (Kd.R_reads' HO343.out).2.1); rintro e w18 ⟨rfl, hb⟩; refine ⟨_, rfl, ?_⟩; have n0_ := Aside0.mk (Kd.R_below (by (with_reducible repeat (first | apply Kd.R_alloc | apply Kd.R_drewN | apply Kd.R_drew)); exact HO343.out) hb); have n1_ := Aside0.mk (below_step (by repeat (first | (with_reducible first | exact HB.out | apply below_alloc | apply pw_below_drewN | apply below_drew1))) hb); clear HO343; clear HB; have HO343 := n0_; have HB := n1_; clear n0_ n1_; (try clear hb)) | ((with_reducible refine gate_callee (f := 9) rfl ?_); refine goesL_ (some 100) rfl rfl Try.func9 (by kernel_rfl) rfl #[.slice Ao14 t341.length co14] rfl (by (try simp only [List.map_toArray, List.map_cons, List.map_nil]); first | done | rfl | (simp only [List.length_drop, List.length_take]; rfl)) ?_; (with_reducible refine (impl_BackPattern.calls k _ _ t341 t352 t353 _ ?side1 ?side2 A10.out).mono ?_); (case side1 => repeat (first | exact (Kd.R_reads' HO343.out).2.2 | (with_reducible refine Kd.C_alloc ?_ _) | (with_reducible refine Kd.C_drewN ?_ _) | (with_reducible refine Kd.C_drew ?_))); (case side2 => exact (Kd.R_reads' HO343.out).2.1); rintro e w19 ⟨v354, rfl, ho0, hb⟩; refine ⟨_, rfl, ?_⟩; have n0_ := Aside0.mk (Kd.R_elder' (by (with_reducible repeat (first | apply Kd.R_alloc | apply Kd.R_drewN | apply Kd.R_drew)); exact HO343.out) (Kd.R_base ho0) hb); have n1_ := Aside0.mk (Kd.R_lower (Kd.R_new' ho0 (Kd.R_lt (by (with_reducible repeat (first | apply Kd.R_alloc | apply Kd.R_drewN | apply Kd.R_drew)); exact HO343.out))) (below_size (by repeat (first | (with_reducible first | exact HB.out | apply below_alloc | apply pw_below_drewN | apply below_drew1))))); have n2_ := Aside0.mk (below_step (by repeat (first | (with_reducible first | exact HB.out | apply below_alloc | apply pw_below_drewN | apply below_drew1))) hb); clear HO343; clear HB; have HO343 := n0_; have HO355 := n1_; have HB := n2_; clear n0_ n1_ n2_; (try clear hb); (try clear ho0)) | ((with_reducible refine gate_callee (f := 10) rfl ?_); refine goesL_ (some 105) rfl rfl Try.func10 (by kernel_rfl) rfl #[.slice Ao14 t341.length co14] rfl (by (try simp only [List.map_toArray, List.map_cons, List.map_nil]); first | done | rfl | (simp only [List.length_drop, List.length_take]; rfl)) ?_; (with_reducible refine (spec_BackPattern.calls k _ _ t341 t356 t357 _ ?side1 ?side2 A11.out).mono ?_); (case side1 => repeat (first | exact (Kd.R_reads' HO343.out).2.2 | (with_reducible refine Kd.C_alloc ?_ _) | (with_reducible refine Kd.C_drewN ?_ _) | (with_reducible refine Kd.C_drew ?_))); (case side2 => exact (Kd.R_reads' HO343.out).2.1); rintro e w20 ⟨v358, rfl, ho0, hb⟩; refine ⟨_, rfl, ?_⟩; have n0_ := Aside0.mk (Kd.R_elder' (by (with_reducible repeat (first | apply Kd.R_alloc | apply Kd.R_drewN | apply Kd.R_drew)); exact HO343.out) (Kd.R_base ho0) hb); have n1_ := Aside0.mk (Kd.R_elder' (by (with_reducible repeat (first | apply Kd.R_alloc | apply Kd.R_drewN | apply Kd.R_drew)); exact HO355.out) (Kd.R_base ho0) hb); have n2_ := Aside0.mk (Kd.R_lower (Kd.R_new' (Kd.R_new' ho0 (Kd.R_lt (by (with_reducible repeat (first | apply Kd.R_alloc | apply Kd.R_drewN | apply Kd.R_drew)); exact HO343.out))) (Kd.R_lt (by (with_reducible repeat (first | apply Kd.R_alloc | apply Kd.R_drewN | apply Kd.R_drew)); exact HO355.out))) (below_size (by repeat (first | (with_reducible first | exact HB.out | apply below_alloc | apply pw_below_drewN | apply below_drew1))))); have n3_ := Aside0.mk (below_step (by repeat (first | (with_reducible first | exact HB.out | apply below_alloc | apply pw_below_drewN | apply below_drew1))) hb); clear HO343; clear HO355; clear HB; have HO343 := n0_; have HO355 := n1_; have HO359 := n2_; have HB := n3_; clear n0_ n1_ n2_ n3_; (try clear hb); (try clear ho0)))
  (try simp only [Act.put, List.setIfInBounds_toArray, List.set_cons_zero, List.set_cons_succ])
  refine cutF mk0 [] (fun u_ wc => ∃ (kq : Nat) (x163_11 : Bool), (u_ 163) = .bool x163_11 ∧ Aside0 (laws_FnPatternsOpen.j0 kq l1 t341 t344 t345 t348 t349 t352 x163_11 = some r) ∧ Aside0 (kq ≤ k) ∧ Aside0 (Kd.R (Kd.int .i64) 3 wc w.heap.size (fun k_ => some k_ ≠ (v354 : Value).ownBlock) (.slice Ao14 t341.length co14) t341) ∧ Aside0 (Kd.R (Kd.int .i64) 3 wc w.heap.size (fun k_ => some k_ ≠ ((.slice Ao14 t341.length co14) : Value).ownBlock) v354 t352) ∧ Aside0 (Below w.heap.size w wc)) ?_ ?_
  ·
   as_aux_lemma =>
    intro J_ K_ hJ_ hK_
    have H := HC12.out
    clear HC12
    by_cases c21 : (t345 != t347) = true
    ·
     rw [if_pos c21] at H
     exact (laws_FnPatternsOpen.j0_no _ _ _ _ _ _ _ _ (H.trans (congrArg some HRT.out))).elim
    ·
     rw [if_neg c21] at H
     have c21b0 : (t345 != t347) = false := by simpa using c21
     have c21q := eq_true (bne_eq_false_iff_eq.1 c21b0)
     (try (have c21b1 : decide (t345 = t347) = true := by simpa using c21))
     (try (have c21b2 : (t345 == t347) = true := by simpa using c21))
     clear c21
     (first | rw [c21b0] | (simp only [i64_w, i32_w]; rw [c21b0]) | skip)
     by_cases c22 : (t344 != t346) = true
     ·
      rw [if_pos c22] at H
      exact (laws_FnPatternsOpen.j0_no _ _ _ _ _ _ _ _ (H.trans (congrArg some HRT.out))).elim
     ·
      rw [if_neg c22] at H
      have c22b0 : (t344 != t346) = false := by simpa using c22
      have c22q := eq_true (bne_eq_false_iff_eq.1 c22b0)
      (try (have c22b1 : decide (t344 = t346) = true := by simpa using c22))
      (try (have c22b2 : (t344 == t346) = true := by simpa using c22))
      clear c22
      by_cases c23 : (t349 != t351) = true
      ·
       rw [if_pos c23] at H
       exact (laws_FnPatternsOpen.j0_no _ _ _ _ _ _ _ _ (H.trans (congrArg some HRT.out))).elim
      ·
       rw [if_neg c23] at H
       have c23b0 : (t349 != t351) = false := by simpa using c23
       have c23q := eq_true (bne_eq_false_iff_eq.1 c23b0)
       (try (have c23b1 : decide (t349 = t351) = true := by simpa using c23))
       (try (have c23b2 : (t349 == t351) = true := by simpa using c23))
       clear c23
       by_cases c24 : t348 = t350
       ·
        rw [if_pos c24] at H
        have c24b0 : (t348 == t350) = true := beq_iff_eq.mpr c24
        have c24b1 : (t348 != t350) = false := bne_eq_false_iff_eq.mpr c24
        clear c24
        by_cases c25 : (t353 != t357) = true
        ·
         rw [if_pos c25] at H
         exact (laws_FnPatternsOpen.j0_no _ _ _ _ _ _ _ _ (H.trans (congrArg some HRT.out))).elim
        ·
         rw [if_neg c25] at H
         have c25b0 : (t353 != t357) = false := by simpa using c25
         have c25q := eq_true (bne_eq_false_iff_eq.1 c25b0)
         (try (have c25b1 : decide (t353 = t357) = true := by simpa using c25))
         (try (have c25b2 : (t353 == t357) = true := by simpa using c25))
         clear c25
         replace H := Option.bind_eq_some_iff.mp H
         obtain ⟨t360, A260, H⟩ := H
         replace H : (if t360 = true then ((impl_IsPattern.f k t341).bind fun t361 => (if (t345 != t361) = true then (laws_FnPatternsOpen.j0 k l1 t341 t344 t345 t348 t349 t352 true) else ((impl_IsPattern.f k t341).bind fun t362 => ((spec_IsPattern.f k t341).bind fun t363 => (if (t362 != t363) = true then (laws_FnPatternsOpen.j0 k l1 t341 t344 t345 t348 t349 t352 true) else (if t345 = true then (if (t349 != (!t344)) = true then (laws_FnPatternsOpen.j0 k l1 t341 t344 t345 t348 t349 t352 true) else (laws_FnPatternsOpen.j0 k l1 t341 t344 t345 t348 t349 t352 (t353 != t345))) else (if (t349 != false) = true then (laws_FnPatternsOpen.j0 k l1 t341 t344 t345 t348 t349 t352 true) else (laws_FnPatternsOpen.j0 k l1 t341 t344 t345 t348 t349 t352 (t353 != t345))))))))) else (laws_FnPatternsOpen.j0 k l1 t341 t344 t345 t348 t349 t352 true)) = some r := H
         have A26 := Aside0.mk A260
         clear A260
         by_cases c27 : t360 = true
         ·
          subst c27
          have H1 : ((impl_IsPattern.f k t341).bind fun t361 => (if (t345 != t361) = true then (laws_FnPatternsOpen.j0 k l1 t341 t344 t345 t348 t349 t352 true) else ((impl_IsPattern.f k t341).bind fun t362 => ((spec_IsPattern.f k t341).bind fun t363 => (if (t362 != t363) = true then (laws_FnPatternsOpen.j0 k l1 t341 t344 t345 t348 t349 t352 true) else (if t345 = true then (if (t349 != (!t344)) = true then (laws_FnPatternsOpen.j0 k l1 t341 t344 t345 t348 t349 t352 true) else (laws_FnPatternsOpen.j0 k l1 t341 t344 t345 t348 t349 t352 (t353 != t345))) else (if (t349 != false) = true then (laws_FnPatternsOpen.j0 k l1 t341 t344 t345 t348 t349 t352 true) else (laws_FnPatternsOpen.j0 k l1 t341 t344 t345 t348 t349 t352 (t353 != t345))))))))) = some r := by rw [if_pos rfl] at H; exact H
          clear H
          have H := H1
          clear H1
          replace H := Option.bind_eq_some_iff.mp H
          obtain ⟨t361, A280, H⟩ := H
          replace H : (if (t345 != t361) = true then (laws_FnPatternsOpen.j0 k l1 t341 t344 t345 t348 t349 t352 true) else ((impl_IsPattern.f k t341).bind fun t362 => ((spec_IsPattern.f k t341).bind fun t363 => (if (t362 != t363) = true then (laws_FnPatternsOpen.j0 k l1 t341 t344 t345 t348 t349 t352 true) else (if t345 = true then (if (t349 != (!t344)) = true then (laws_FnPatternsOpen.j0 k l1 t341 t344 t345 t348 t349 t352 true) else (laws_FnPatternsOpen.j0 k l1 t341 t344 t345 t348 t349 t352 (t353 != t345))) else (if (t349 != false) = true then (laws_FnPatternsOpen.j0 k l1 t341 t344 t345 t348 t349 t352 true) else (laws_FnPatternsOpen.j0 k l1 t341 t344 t345 t348 t349 t352 (t353 != t345)))))))) = some r := H
          have A28 := Aside0.mk A280
          clear A280
          by_cases c29 : (t345 != t361) = true
          ·
           rw [if_pos c29] at H
           exact (laws_FnPatternsOpen.j0_no _ _ _ _ _ _ _ _ (H.trans (congrArg some HRT.out))).elim
          ·
           rw [if_neg c29] at H
           have c29b0 : (t345 != t361) = false := by simpa using c29
           have c29q := eq_true (bne_eq_false_iff_eq.1 c29b0)
           (try (have c29b1 : decide (t345 = t361) = true := by simpa using c29))
           (try (have c29b2 : (t345 == t361) = true := by simpa using c29))
           clear c29
           replace H := Option.bind_eq_some_iff.mp H
           obtain ⟨t362, A320, H⟩ := H
           replace H : ((spec_IsPattern.f k t341).bind fun t363 => (if (t362 != t363) = true then (laws_FnPatternsOpen.j0 k l1 t341 t344 t345 t348 t349 t352 true) else (if t345 = true then (if (t349 != (!t344)) = true then (laws_FnPatternsOpen.j0 k l1 t341 t344 t345 t348 t349 t352 true) else (laws_FnPatternsOpen.j0 k l1 t341 t344 t345 t348 t349 t352 (t353 != t345))) else (if (t349 != false) = true then (laws_FnPatternsOpen.j0 k l1 t341 t344 t345 t348 t349 t352 true) else (laws_FnPatternsOpen.j0 k l1 t341 t344 t345 t348 t349 t352 (t353 != t345)))))) = some r := H
           have A32 := Aside0.mk A320
           clear A320
           obtain rfl : t361 = t362 := Option.some.inj (A28.out.symm.trans A32.out)
           replace H := Option.bind_eq_some_iff.mp H
           obtain ⟨t363, A330, H⟩ := H
           replace H : (if (t361 != t363) = true then (laws_FnPatternsOpen.j0 k l1 t341 t344 t345 t348 t349 t352 true) else (if t345 = true then (if (t349 != (!t344)) = true then (laws_FnPatternsOpen.j0 k l1 t341 t344 t345 t348 t349 t352 true) else (laws_FnPatternsOpen.j0 k l1 t341 t344 t345 t348 t349 t352 (t353 != t345))) else (if (t349 != false) = true then (laws_FnPatternsOpen.j0 k l1 t341 t344 t345 t348 t349 t352 true) else (laws_FnPatternsOpen.j0 k l1 t341 t344 t345 t348 t349 t352 (t353 != t345))))) = some r := H
           have A33 := Aside0.mk A330
           clear A330
           by_cases c34 : (t361 != t363) = true
           ·
            rw [if_pos c34] at H
            exact (laws_FnPatternsOpen.j0_no _ _ _ _ _ _ _ _ (H.trans (congrArg some HRT.out))).elim
           ·
            rw [if_neg c34] at H
            have c34b0 : (t361 != t363) = false := by simpa using c34
            have c34q := eq_true (bne_eq_false_iff_eq.1 c34b0)
            (try (have c34b1 : decide (t361 = t363) = true := by simpa using c34))
            (try (have c34b2 : (t361 == t363) = true := by simpa using c34))
            clear c34
            by_cases c37 : t345 = true
            ·
             subst c37
             have H1 : (if (t349 != (!t344)) = true then (laws_FnPatternsOpen.j0 k l1 t341 t344 true t348 t349 t352 true) else (laws_FnPatternsOpen.j0 k l1 t341 t344 true t348 t349 t352 (t353 != true))) = some r := by rw [if_pos rfl] at H; exact H
             clear H
             have H := H1
             clear H1
             by_cases c38 : (t349 != (!t344)) = true
             ·
              rw [if_pos c38] at H
              exact (laws_FnPatternsOpen.j0_no _ _ _ _ _ _ _ _ (H.trans (congrArg some HRT.out))).elim
             ·
              rw [if_neg c38] at H
              have c38b0 : (t349 != (!t344)) = false := by simpa using c38
              have c38q := eq_true (bne_eq_false_iff_eq.1 c38b0)
              (try (have c38b1 : decide (t349 = (!t344)) = true := by simpa using c38))
              (try (have c38b2 : (t349 == (!t344)) = true := by simpa using c38))
              clear c38
              have H' := Aside0.mk H
              clear H
              obtain ⟨Ao41, co41, eo41⟩ := Kd.R_slice HO355.out
              subst eo41
              obtain ⟨Ao42, co42, eo42⟩ := Kd.R_slice HO359.out
              subst eo42
              go_wp2_with (first | (go_at_call 11; (with_reducible refine (laws_tSame.calls k _ _ t352 _ _ t356 true _ ?side1 ?side2 ?side3 ?side4 A26.out).mono ?_); (case side1 => repeat (first | exact (Kd.R_reads' HO355.out).2.2 | (with_reducible refine Kd.C_alloc ?_ _) | (with_reducible refine Kd.C_drewN ?_ _) | (with_reducible refine Kd.C_drew ?_))); (case side2 => exact (Kd.R_reads' HO355.out).2.1); (case side3 => repeat (first | exact (Kd.R_reads' HO359.out).2.2 | (with_reducible refine Kd.C_alloc ?_ _) | (with_reducible refine Kd.C_drewN ?_ _) | (with_reducible refine Kd.C_drew ?_))); (case side4 => exact (Kd.R_reads' HO359.out).2.1); rintro e w' ⟨rfl, ⟨nd, rfl⟩⟩) | (go_at_call 12; (with_reducible refine (impl_IsPattern.calls k _ _ t341 t361 _ ?side1 ?side2 A28.out).mono ?_); (case side1 => repeat (first | exact (Kd.R_reads' HO343.out).2.2 | (with_reducible refine Kd.C_alloc ?_ _) | (with_reducible refine Kd.C_drewN ?_ _) | (with_reducible refine Kd.C_drew ?_))); (case side2 => exact (Kd.R_reads' HO343.out).2.1); rintro e w' ⟨rfl, ⟨nd, rfl⟩⟩) | (go_at_call 12; (with_reducible refine (impl_IsPattern.calls k _ _ t341 t361 _ ?side1 ?side2 A32.out).mono ?_); (case side1 => repeat (first | exact (Kd.R_reads' HO343.out).2.2 | (with_reducible refine Kd.C_alloc ?_ _) | (with_reducible refine Kd.C_drewN ?_ _) | (with_reducible refine Kd.C_drew ?_))); (case side2 => exact (Kd.R_reads' HO343.out).2.1); rintro e w' ⟨rfl, ⟨nd, rfl⟩⟩) | (go_at_call 13; (with_reducible refine (spec_IsPattern.calls k _ _ t341 t363 _ ?side1 ?side2 A33.out).mono ?_); (case side1 => repeat (first | exact (Kd.R_reads' HO343.out).2.2 | (with_reducible refine Kd.C_alloc ?_ _) | (with_reducible refine Kd.C_drewN ?_ _) | (with_reducible refine Kd.C_drew ?_))); (case side2 => exact (Kd.R_reads' HO343.out).2.1); rintro e w' ⟨rfl, ⟨nd, rfl⟩⟩))
              refine cutMeet hJ_ ?_ (by kernel_rfl)
              exact ⟨_, ((t353 != true)), (by first | rfl | (simp; done) | (simp [*]; done)), H', ⟨by first | omega | exact Nat.le_refl _⟩, ⟨by (with_reducible repeat (first | apply Kd.R_alloc | apply Kd.R_drewN | apply Kd.R_drew)); exact Kd.R_mono HO343.out (fun _ hk => hk.1.2)⟩, ⟨by (with_reducible repeat (first | apply Kd.R_alloc | apply Kd.R_drewN | apply Kd.R_drew)); exact Kd.R_mono HO355.out (fun _ hk => hk.1.2)⟩, ⟨by repeat (first | (with_reducible first | exact HB.out | apply below_alloc | apply pw_below_drewN | apply below_drew1))⟩⟩
            ·
             replace c37 := Bool.eq_false_iff.mpr c37
             subst c37
             have H1 : (if (t349 != false) = true then (laws_FnPatternsOpen.j0 k l1 t341 t344 false t348 t349 t352 true) else (laws_FnPatternsOpen.j0 k l1 t341 t344 false t348 t349 t352 (t353 != false))) = some r := by rw [if_neg (show ¬ (false = true) by decide)] at H; exact H
             clear H
             have H := H1
             clear H1
             by_cases c43 : (t349 != false) = true
             ·
              rw [if_pos c43] at H
              exact (laws_FnPatternsOpen.j0_no _ _ _ _ _ _ _ _ (H.trans (congrArg some HRT.out))).elim
             ·
              rw [if_neg c43] at H
              have c43b0 : (t349 != false) = false := by simpa using c43
              have c43q := eq_true (bne_eq_false_iff_eq.1 c43b0)
              (try (have c43b1 : decide (t349 = false) = true := by simpa using c43))
              (try (have c43b2 : (t349 == false) = true := by simpa using c43))
              clear c43
              have H' := Aside0.mk H
              clear H
              obtain ⟨Ao46, co46, eo46⟩ := Kd.R_slice HO355.out
              subst eo46
              obtain ⟨Ao47, co47, eo47⟩ := Kd.R_slice HO359.out
              subst eo47
              go_wp2_with (first | (go_at_call 11; (with_reducible refine (laws_tSame.calls k _ _ t352 _ _ t356 true _ ?side1 ?side2 ?side3 ?side4 A26.out).mono ?_); (case side1 => repeat (first | exact (Kd.R_reads' HO355.out).2.2 | (with_reducible refine Kd.C_alloc ?_ _) | (with_reducible refine Kd.C_drewN ?_ _) | (with_reducible refine Kd.C_drew ?_))); (case side2 => exact (Kd.R_reads' HO355.out).2.1); (case side3 => repeat (first | exact (Kd.R_reads' HO359.out).2.2 | (with_reducible refine Kd.C_alloc ?_ _) | (with_reducible refine Kd.C_drewN ?_ _) | (with_reducible refine Kd.C_drew ?_))); (case side4 => exact (Kd.R_reads' HO359.out).2.1); rintro e w' ⟨rfl, ⟨nd, rfl⟩⟩) | (go_at_call 12; (with_reducible refine (impl_IsPattern.calls k _ _ t341 t361 _ ?side1 ?side2 A28.out).mono ?_); (case side1 => repeat (first | exact (Kd.R_reads' HO343.out).2.2 | (with_reducible refine Kd.C_alloc ?_ _) | (with_reducible refine Kd.C_drewN ?_ _) | (with_reducible refine Kd.C_drew ?_))); (case side2 => exact (Kd.R_reads' HO343.out).2.1); rintro e w' ⟨rfl, ⟨nd, rfl⟩⟩) | (go_at_call 12; (with_reducible refine (impl_IsPattern.calls k _ _ t341 t361 _ ?side1 ?side2 A32.out).mono ?_); (case side1 => repeat (first | exact (Kd.R_reads' HO343.out).2.2 | (with_reducible refine Kd.C_alloc ?_ _) | (with_reducible refine Kd.C_drewN ?_ _) | (with_reducible refine Kd.C_drew ?_))); (case side2 => exact (Kd.R_reads' HO343.out).2.1); rintro e w' ⟨rfl, ⟨nd, rfl⟩⟩) | (go_at_call 13; (with_reducible refine (spec_IsPattern.calls k _ _ t341 t363 _ ?side1 ?side2 A33.out).mono ?_); (case side1 => repeat (first | exact (Kd.R_reads' HO343.out).2.2 | (with_reducible refine Kd.C_alloc ?_ _) | (with_reducible refine Kd.C_drewN ?_ _) | (with_reducible refine Kd.C_drew ?_))); (case side2 => exact (Kd.R_reads' HO343.out).2.1); rintro e w' ⟨rfl, ⟨nd, rfl⟩⟩))
              refine cutMeet hJ_ ?_ (by kernel_rfl)
              exact ⟨_, ((t353 != false)), (by first | rfl | (simp; done) | (simp [*]; done)), H', ⟨by first | omega | exact Nat.le_refl _⟩, ⟨by (with_reducible repeat (first | apply Kd.R_alloc | apply Kd.R_drewN | apply Kd.R_drew)); exact Kd.R_mono HO343.out (fun _ hk => hk.1.2)⟩, ⟨by (with_reducible repeat (first | apply Kd.R_alloc | apply Kd.R_drewN | apply Kd.R_drew)); exact Kd.R_mono HO355.out (fun _ hk => hk.1.2)⟩, ⟨by repeat (first | (with_reducible first | exact HB.out | apply below_alloc | apply pw_below_drewN | apply below_drew1))⟩⟩
         ·
          replace c27 := Bool.eq_false_iff.mpr c27
          subst c27
          have H1 : (laws_FnPatternsOpen.j0 k l1 t341 t344 t345 t348 t349 t352 true) = some r := by rw [if_neg (show ¬ (false = true) by decide)] at H; exact H
          clear H
          have H := H1
          clear H1
          exact (laws_FnPatternsOpen.j0_no _ _ _ _ _ _ _ _ (H.trans (congrArg some HRT.out))).elim
       ·
        rw [if_neg c24] at H
        exact (laws_FnPatternsOpen.j0_no _ _ _ _ _ _ _ _ (H.trans (congrArg some HRT.out))).elim
  ·
   intro u_ wc hcut
   clear HC12
   obtain ⟨kq, x163_11, e_163, HA, HJ11, HO_5, HO_14, HB⟩ := hcut
   dsimp only [cutFgt, mk0]
   rw [e_163]
   cases kq with
   | zero => exact absurd HA.out (by simp [laws_FnPatternsOpen.j0])
   | succ kj11 =>
    have H := HA.out
    clear HA
    simp only [laws_FnPatternsOpen.j0] at H
    by_cases c50 : x163_11 = true
    ·
     subst c50
     have H1 : (some false) = some r := by rw [if_pos rfl] at H; exact H
     clear H
     have H := H1
     clear H1
     exact absurd (Option.some.inj (H.trans (congrArg some HRT.out))) Bool.false_ne_true
    ·
     replace c50 := Bool.eq_false_iff.mpr c50
     subst c50
     have H1 : (if t345 = true then ((impl_IsOpen.f kj11 t352).bind fun bt364 => ((impl_BackPattern.f kj11 t352).bind fun bt366 => (if bt364.2 = true then (if (bt364.1 != t344) = true then (laws_FnPatternsOpen.j1 kj11 l1 t341 t344 t348 t349 true) else (if bt366.2 = true then ((laws_tSame.f kj11 bt366.1 t341).bind fun t370 => (laws_FnPatternsOpen.j1 kj11 l1 t341 t344 t348 t349 (!t370))) else (laws_FnPatternsOpen.j1 kj11 l1 t341 t344 t348 t349 true))) else (laws_FnPatternsOpen.j1 kj11 l1 t341 t344 t348 t349 true)))) else (laws_FnPatternsOpen.j6 kj11 l1)) = some r := by rw [if_neg (show ¬ (false = true) by decide)] at H; exact H
     clear H
     have H := H1
     clear H1
     have HC51 := Aside0.mk H
     clear H
     go_upto_if 164 with (fail)
     refine cutF mk0 [none, none, none, none, some 4, none, none, none, none, none, none, none, none, none, none, none, none, none, some 18, some 19, some 20, some 21, some 22, none, some 24, some 25, some 26, none, some 28, none, none, none, none, none, none, none, none, none, none, none, none, none, none, none, none, none, none, none, none, none, none, none, none, none, none, none, none, none, none, none, none, none, none, none, none, none, none, none, none, none, none, none, none, none, none, none, none, none, none, none, none, none, none, none, none, none, none, none, none, none, none, none, none, none, none, none, none, none, none, none, none, none, none, none, none, none, none, none, none, none, none, none, none, none, none, none, none, none, none, none, none, none, none, none, none, none, none, none, none, none, none, none, none, none, none, none, none, none, none, none, none, none, none, none, none, none, none, none, none, none, none, none, none, none, none, none, none, none, none, none, none, none, none, none, none, none, none, none, none, none, none, none, none, none, none, none, none, none, none, none, none, none, none, none, none, none, none, none, none, none, none, none, some 192, some 193, some 194, none, none, none, none, none, none, none, none, none, none, none, none, none, none, none, none, none, none, none, none, none, none, none, none, none, none, none, none, none, none, none, none, none, none, none, none, none, none, none, none, none, none, none, none, none, none, none, none, none, none, none, some 246, some 247, some 248] (fun u_ wc => ∃ (kq : Nat), Aside0 (laws_FnPatternsOpen.j6 kq l1 = some r) ∧ Aside0 (kq ≤ kj11) ∧ Aside0 (Below w.heap.size w wc)) ?_ ?_
     ·
       intro J_ K_ hJ_ hK_
       have H := HC51.out
       clear HC51
       by_cases c52 : t345 = true
       ·
        subst c52
        have H1 : ((impl_IsOpen.f kj11 t352).bind fun bt364 => ((impl_BackPattern.f kj11 t352).bind fun bt366 => (if bt364.2 = true then (if (bt364.1 != t344) = true then (laws_FnPatternsOpen.j1 kj11 l1 t341 t344 t348 t349 true) else (if bt366.2 = true then ((laws_tSame.f kj11 bt366.1 t341).bind fun t370 => (laws_FnPatternsOpen.j1 kj11 l1 t341 t344 t348 t349 (!t370))) else (laws_FnPatternsOpen.j1 kj11 l1 t341 t344 t348 t349 true))) else (laws_FnPatternsOpen.j1 kj11 l1 t341 t344 t348 t349 true)))) = some r := by rw [if_pos rfl] at H; exact H
        clear H
        have H := H1
        clear H1
        replace H := Option.bind_eq_some_iff.mp H
        obtain ⟨⟨t364, t365⟩, A530, H⟩ := H
        replace H : ((impl_BackPattern.f kj11 t352).bind fun bt366 => (if t365 = true then (if (t364 != t344) = true then (laws_FnPatternsOpen.j1 kj11 l1 t341 t344 t348 t349 true) else (if bt366.2 = true then ((laws_tSame.f kj11 bt366.1 t341).bind fun t370 => (laws_FnPatternsOpen.j1 kj11 l1 t341 t344 t348 t349 (!t370))) else (laws_FnPatternsOpen.j1 kj11 l1 t341 t344 t348 t349 true))) else (laws_FnPatternsOpen.j1 kj11 l1 t341 t344 t348 t349 true))) = some r := H
        have A53 := Aside0.mk A530
        clear A530
        replace H := Option.bind_eq_some_iff.mp H
        obtain ⟨⟨t366, t367⟩, A540, H⟩ := H
        replace H : (if t365 = true then (if (t364 != t344) = true then (laws_FnPatternsOpen.j1 kj11 l1 t341 t344 t348 t349 true) else (if t367 = true then ((laws_tSame.f kj11 t366 t341).bind fun t370 => (laws_FnPatternsOpen.j1 kj11 l1 t341 t344 t348 t349 (!t370))) else (laws_FnPatternsOpen.j1 kj11 l1 t341 t344 t348 t349 true))) else (laws_FnPatternsOpen.j1 kj11 l1 t341 t344 t348 t349 true)) = some r := H
        have A54 := Aside0.mk A540
        clear A540
        have HC55 := Aside0.mk H
        clear H
        obtain ⟨Ao56, co56, eo56⟩ := Kd.R_slice HO_14.out
        subst eo56
        go_upto_region 15 with (first | ((with_reducible refine gate_callee (f := 5) rfl ?_); refine goesL_ (some 167) rfl rfl Try.func5 (by kernel_rfl) rfl #[.slice Ao56 t352.length co56] rfl (by (try simp only [List.map_toArray, List.map_cons, List.map_nil]); first | done | rfl | (simp only [List.length_drop, List.length_take]; rfl)) ?_; (with_reducible refine (impl_IsOpen.calls kj11 _ _ t352 t364 t365 _ ?side1 ?side2 A53.out).mono ?_); (case side1 => repeat (first | exact (Kd.R_reads' HO_14.out).2.2 | (with_reducible refine Kd.C_alloc ?_ _) | (with_reducible refine Kd.C_drewN ?_ _) | (with_reducible refine Kd.C_drew ?_))); (case side2 => exact (Kd.R_reads' HO_14.out).2.1); rintro e w57 ⟨rfl, hb⟩; refine ⟨_, rfl, ?_⟩; have n0_ := Aside0.mk (Kd.R_below (by (with_reducible repeat (first | apply Kd.R_alloc | apply Kd.R_drewN | apply Kd.R_drew)); exact HO_5.out) hb); have n1_ := Aside0.mk (Kd.R_below (by (with_reducible repeat (first | apply Kd.R_alloc | apply Kd.R_drewN | apply Kd.R_drew)); exact HO_14.out) hb); have n2_ := Aside0.mk (below_step (by repeat (first | (with_reducible first | exact HB.out | apply below_alloc | apply pw_below_drewN | apply below_drew1))) hb); clear HO_5; clear HO_14; clear HB; have HO_5 := n0_; have HO_14 := n1_; have HB := n2_; clear n0_ n1_ n2_; (try clear hb)) | ((with_reducible refine gate_callee (f := 9) rfl ?_); refine goesL_ (some 172) rfl rfl Try.func9 (by kernel_rfl) rfl #[.slice Ao56 t352.length co56] rfl (by (try simp only [List.map_toArray, List.map_cons, List.map_nil]); first | done | rfl | (simp only [List.length_drop, List.length_take]; rfl)) ?_; (with_reducible refine (impl_BackPattern.calls kj11 _ _ t352 t366 t367 _ ?side1 ?side2 A54.out).mono ?_); (case side1 => repeat (first | exact (Kd.R_reads' HO_14.out).2.2 | (with_reducible refine Kd.C_alloc ?_ _) | (with_reducible refine Kd.C_drewN ?_ _) | (with_reducible refine Kd.C_drew ?_))); (case side2 => exact (Kd.R_reads' HO_14.out).2.1); rintro e w58 ⟨v368, rfl, ho0, hb⟩; refine ⟨_, rfl, ?_⟩; have n0_ := Aside0.mk (Kd.R_elder' (by (with_reducible repeat (first | apply Kd.R_alloc | apply Kd.R_drewN | apply Kd.R_drew)); exact HO_5.out) (Kd.R_base ho0) hb); have n1_ := Aside0.mk (Kd.R_elder' (by (with_reducible repeat (first | apply Kd.R_alloc | apply Kd.R_drewN | apply Kd.R_drew)); exact HO_14.out) (Kd.R_base ho0) hb); have n2_ := Aside0.mk (Kd.R_lower (Kd.R_new' (Kd.R_new' ho0 (Kd.R_lt (by (with_reducible repeat (first | apply Kd.R_alloc | apply Kd.R_drewN | apply Kd.R_drew)); exact HO_5.out))) (Kd.R_lt (by (with_reducible repeat (first | apply Kd.R_alloc | apply Kd.R_drewN | apply Kd.R_drew)); exact HO_14.out))) (below_size (by repeat (first | (with_reducible first | exact HB.out | apply below_alloc | apply pw_below_drewN | apply below_drew1))))); have n3_ := Aside0.mk (below_step (by repeat (first | (with_reducible first | exact HB.out | apply below_alloc | apply pw_below_drewN | apply below_drew1))) hb); clear HO_5; clear HO_14; clear HB; have HO_5 := n0_; have HO_14 := n1_; have HO369 := n2_; have HB := n3_; clear n0_ n1_ n2_ n3_; (try clear hb); (try clear ho0)))
        (try simp only [Act.put, List.setIfInBounds_toArray, List.set_cons_zero, List.set_cons_succ])
        refine cutF mk0 [] (fun u_ wc => ∃ (kq : Nat) (x191_54 : Bool), (u_ 191) = .bool x191_54 ∧ Aside0 (laws_FnPatternsOpen.j1 kq l1 t341 t344 t348 t349 x191_54 = some r) ∧ Aside0 (kq ≤ kj11) ∧ Aside0 (Kd.R (Kd.int .i64) 3 wc w.heap.size (fun _ => True) (.slice Ao14 t341.length co14) t341) ∧ Aside0 (Below w.heap.size w wc)) ?_ ?_
        ·
         as_aux_lemma =>
          intro J_ K_ hJ_ hK_
          have H := HC55.out
          clear HC55
          by_cases c59 : t365 = true
          ·
           subst c59
           have H1 : (if (t364 != t344) = true then (laws_FnPatternsOpen.j1 kj11 l1 t341 t344 t348 t349 true) else (if t367 = true then ((laws_tSame.f kj11 t366 t341).bind fun t370 => (laws_FnPatternsOpen.j1 kj11 l1 t341 t344 t348 t349 (!t370))) else (laws_FnPatternsOpen.j1 kj11 l1 t341 t344 t348 t349 true))) = some r := by rw [if_pos rfl] at H; exact H
           clear H
           have H := H1
           clear H1
           by_cases c60 : (t364 != t344) = true
           ·
            rw [if_pos c60] at H
            exact (laws_FnPatternsOpen.j1_no _ _ _ _ _ _ (H.trans (congrArg some HRT.out))).elim
           ·
            rw [if_neg c60] at H
            have c60b0 : (t364 != t344) = false := by simpa using c60
            have c60q := eq_true (bne_eq_false_iff_eq.1 c60b0)
            (try (have c60b1 : decide (t364 = t344) = true := by simpa using c60))
            (try (have c60b2 : (t364 == t344) = true := by simpa using c60))
            clear c60
            (first | rw [c60b0] | (simp only [i64_w, i32_w]; rw [c60b0]) | skip)
            by_cases c61 : t367 = true
            ·
             subst c61
             have H1 : ((laws_tSame.f kj11 t366 t341).bind fun t370 => (laws_FnPatternsOpen.j1 kj11 l1 t341 t344 t348 t349 (!t370))) = some r := by rw [if_pos rfl] at H; exact H
             clear H
             have H := H1
             clear H1
             replace H := Option.bind_eq_some_iff.mp H
             obtain ⟨t370, A620, H⟩ := H
             replace H : (laws_FnPatternsOpen.j1 kj11 l1 t341 t344 t348 t349 (!t370)) = some r := H
             have A62 := Aside0.mk A620
             clear A620
             have H' := Aside0.mk H
             clear H
             obtain ⟨Ao63, co63, eo63⟩ := Kd.R_slice HO369.out
             subst eo63
             go_wp2_with (first | (go_at_call 11; (with_reducible refine (laws_tSame.calls kj11 _ _ t366 _ _ t341 t370 _ ?side1 ?side2 ?side3 ?side4 A62.out).mono ?_); (case side1 => repeat (first | exact (Kd.R_reads' HO369.out).2.2 | (with_reducible refine Kd.C_alloc ?_ _) | (with_reducible refine Kd.C_drewN ?_ _) | (with_reducible refine Kd.C_drew ?_))); (case side2 => exact (Kd.R_reads' HO369.out).2.1); (case side3 => repeat (first | exact (Kd.R_reads' HO_5.out).2.2 | (with_reducible refine Kd.C_alloc ?_ _) | (with_reducible refine Kd.C_drewN ?_ _) | (with_reducible refine Kd.C_drew ?_))); (case side4 => exact (Kd.R_reads' HO_5.out).2.1); rintro e w' ⟨rfl, ⟨nd, rfl⟩⟩))
             refine cutMeet hJ_ ?_ (by kernel_rfl)
             exact ⟨_, (!t370), (by first | rfl | (simp; done) | (simp [*]; done)), H', ⟨by have := HJ11.out; first | omega | exact Nat.le_refl _⟩, ⟨by (with_reducible repeat (first | apply Kd.R_alloc | apply Kd.R_drewN | apply Kd.R_drew)); exact Kd.R_mono HO_5.out (fun _ hk => trivial)⟩, ⟨by repeat (first | (with_reducible first | exact HB.out | apply below_alloc | apply pw_below_drewN | apply below_drew1))⟩⟩
            ·
             replace c61 := Bool.eq_false_iff.mpr c61
             subst c61
             have H1 : (laws_FnPatternsOpen.j1 kj11 l1 t341 t344 t348 t349 true) = some r := by rw [if_neg (show ¬ (false = true) by decide)] at H; exact H
             clear H
             have H := H1
             clear H1
             exact (laws_FnPatternsOpen.j1_no _ _ _ _ _ _ (H.trans (congrArg some HRT.out))).elim
          ·
           replace c59 := Bool.eq_false_iff.mpr c59
           subst c59
           have H1 : (laws_FnPatternsOpen.j1 kj11 l1 t341 t344 t348 t349 true) = some r := by rw [if_neg (show ¬ (false = true) by decide)] at H; exact H
           clear H
           have H := H1
           clear H1
           exact (laws_FnPatternsOpen.j1_no _ _ _ _ _ _ (H.trans (congrArg some HRT.out))).elim
        ·
         intro u_ wc hcut
         clear HC55
         obtain ⟨kq, x191_54, e_191, HA, HJ54, HO_5, HB⟩ := hcut
         dsimp only [cutFgt, mk0]
         rw [e_191]
         cases kq with
         | zero => exact absurd HA.out (by simp [laws_FnPatternsOpen.j1])
         | succ kj54 =>
          have H := HA.out
          clear HA
          simp only [laws_FnPatternsOpen.j1] at H
          by_cases c64 : x191_54 = true
          ·
           subst c64
           have H1 : (some false) = some r := by rw [if_pos rfl] at H; exact H
           clear H
           have H := H1
           clear H1
           exact absurd (Option.some.inj (H.trans (congrArg some HRT.out))) Bool.false_ne_true
          ·
           replace c64 := Bool.eq_false_iff.mpr c64
           subst c64
           have H1 : ((some (([2, 3, 5, 7, 11, 13] : List Int) : List Int)).bind fun y371 => (laws_FnPatternsOpen.l0 kj54 l1 t341 t344 t348 t349 false y371 (y371.length : Int) 0)) = some r := by rw [if_neg (show ¬ (false = true) by decide)] at H; exact H
           clear H
           have H := H1
           clear H1
           obtain ⟨y371, hy371⟩ : ∃ y_ : List Int, y_ = (([2, 3, 5, 7, 11, 13] : List Int)) := ⟨_, rfl⟩
           replace H : (laws_FnPatternsOpen.l0 kj54 l1 t341 t344 t348 t349 false y371 (y371.length : Int) 0) = some r := by first | (rw [hy371]; with_reducible exact H) | (have H2_ := (Option.bind_some _ _).symm.trans H; rw [hy371]; with_reducible exact H2_) | (have H2_ := (Option.bind_some _ _).symm.trans H; with_reducible exact H2_) | with_reducible exact H | (rw [hy371]; exact H) | exact H
           have Ny371 := Aside0.mk hy371
           clear hy371
           have H' := Aside0.mk H
           clear H
           go_wp2_with (first | ((with_reducible refine gate_dst (N := 192) rfl ?_); (try (refine gate_guard (by rfl) ?_; dsimp only)); refine Kd.R_lit (Kd.int .i64) _ 3 ?hg (N := 192) ?hd (xs := ([2, 3, 5, 7, 11, 13] : List Int)) (inner := [.int .i64 2, .int .i64 3, .int .i64 5, .int .i64 7, .int .i64 11, .int .i64 13]) (ok := fun _ => True) (okp := fun _ => True) ?hr ?hp (fun _ hk => hk) trivial (Below.refl _ _) (Nat.le_refl _) (by simp) ?_; (case hd => rfl); (case hg => rfl); (case hr => first | (go_simp; done) | (go_simp; rfl)); (case hp => exact (Reps.one (show Kd.M (Kd.int .i64) _ _ _ 2 [.int .i64 2] from rfl) (Reps.one (show Kd.M (Kd.int .i64) _ _ _ 3 [.int .i64 3] from rfl) (Reps.one (show Kd.M (Kd.int .i64) _ _ _ 5 [.int .i64 5] from rfl) (Reps.one (show Kd.M (Kd.int .i64) _ _ _ 7 [.int .i64 7] from rfl) (Reps.one (show Kd.M (Kd.int .i64) _ _ _ 11 [.int .i64 11] from rfl) (Reps.one (show Kd.M (Kd.int .i64) _ _ _ 13 [.int .i64 13] from rfl) (Reps.none _ _)))))))); intro v372 w65 ho66 hb hg_ hnew_; clear hg_ hnew_; (first | rw [← Ny371.out] at ho66 | (simp only [Int.reduceToNat] at ho66; rw [← Ny371.out] at ho66)); have n0_ := Aside0.mk (Kd.R_elder' (by (with_reducible repeat (first | apply Kd.R_alloc | apply Kd.R_drewN | apply Kd.R_drew)); exact HO_5.out) (Kd.R_base ho66) hb); have n1_ := Aside0.mk (Kd.R_lower (Kd.R_new' ho66 (Kd.R_lt (by (with_reducible repeat (first | apply Kd.R_alloc | apply Kd.R_drewN | apply Kd.R_drew)); exact HO_5.out))) (below_size (by repeat (first | (with_reducible first | exact HB.out | apply below_alloc | apply pw_below_drewN | apply below_drew1))))); have n2_ := Aside0.mk (below_step (by repeat (first | (with_reducible first | exact HB.out | apply below_alloc | apply pw_below_drewN | apply below_drew1))) hb); clear HO_5; clear HB; have HO_5 := n0_; have HO373 := n1_; have HB := n2_; clear n0_ n1_ n2_; clear hb ho66; obtain ⟨Ao67, co67, eo67⟩ := Kd.R_slice HO373.out; subst eo67))
           go_loopg [22, 194] kj54 (fun kq v22 v194 w' => ∃ (x22_3 : Bool) (x194_3 : Int), v22 = .bool x22_3 ∧ v194 = .int .i64 x194_3 ∧ Aside0 (laws_FnPatternsOpen.l0 kq l1 t341 t344 t348 t349 x22_3 y371 (y371.length : Int) x194_3 = some r) ∧ Aside0 (kq ≤ kj54) ∧ Aside0 (Kd.R (Kd.int .i64) 3 w' w.heap.size (fun k_ => some k_ ≠ ((.slice Ao67 y371.length co67) : Value).ownBlock) (.slice Ao14 t341.length co14) t341) ∧ Aside0 (Kd.R (Kd.int .i64) 3 w' w.heap.size (fun k_ => some k_ ≠ ((.slice Ao14 t341.length co14) : Value).ownBlock) (.slice Ao67 y371.length co67) y371) ∧ Aside0 (Below w.heap.size w w'))
           case atStart => exact ⟨(false), (0), (by first | rfl | (simp; done) | (simp [*]; done)), (by first | rfl | (simp; done) | (simp [*]; done)), H', ⟨Nat.le_refl _⟩, ⟨by (with_reducible repeat (first | apply Kd.R_alloc | apply Kd.R_drewN | apply Kd.R_drew)); exact Kd.R_mono HO_5.out (fun _ hk => hk.2)⟩, ⟨by (with_reducible repeat (first | apply Kd.R_alloc | apply Kd.R_drewN | apply Kd.R_drew)); exact Kd.R_mono HO373.out (fun _ hk => hk.2)⟩, ⟨by repeat (first | (with_reducible first | exact HB.out | apply below_alloc | apply pw_below_drewN | apply below_drew1))⟩⟩
           case round =>
            clear H'
            obtain ⟨x22_3, x194_3, rfl, rfl, HA, HK3, HO_5, HO_192, HB⟩ := hrel
            cases gk with
            | zero => exact absurd HA.out (by simp [laws_FnPatternsOpen.l0])
            | succ k3 =>
             have H := HA.out
             clear HA
             simp only [laws_FnPatternsOpen.l0] at H
             by_cases c68 : x194_3 < (y371.length : Int)
             ·
              rw [if_pos c68] at H
              have c68b0 : decide (x194_3 < (y371.length : Int)) = true := decide_eq_true c68
              clear c68
              by_cases c69 : 0 ≤ x194_3
              ·
               rw [if_pos c69] at H
               have c69b0 : decide (0 ≤ x194_3) = true := decide_eq_true c69
               clear c69
               by_cases c70 : x194_3 < (y371.length : Int)
               ·
                rw [if_pos c70] at H
                have c70b0 : decide (x194_3 < (y371.length : Int)) = true := decide_eq_true c70
                clear c70
                replace H := Option.bind_eq_some_iff.mp H
                obtain ⟨⟨t375, t376⟩, A710, H⟩ := H
                replace H : (if t376 = true then ((laws_tRises.f k3 t375 0 (wrap64 ((rd y371 x194_3) - 1))).bind fun t379 => (if t379 = true then (if (t375.length : Int) > (t341.length : Int) then (laws_FnPatternsOpen.j3 k3 l1 t341 t344 t348 t349 x22_3 (rd y371 x194_3) t375 y371 (y371.length : Int) x194_3 true) else (if (t375.length : Int) = (rd y371 x194_3) then (if x22_3 = true then (laws_FnPatternsOpen.j3 k3 l1 t341 t344 t348 t349 x22_3 (rd y371 x194_3) t375 y371 (y371.length : Int) x194_3 false) else (if t349 = true then (laws_FnPatternsOpen.j3 k3 l1 t341 t344 t348 t349 x22_3 (rd y371 x194_3) t375 y371 (y371.length : Int) x194_3 (t348 != (rd y371 x194_3))) else (laws_FnPatternsOpen.j3 k3 l1 t341 t344 t348 t349 x22_3 (rd y371 x194_3) t375 y371 (y371.length : Int) x194_3 true))) else (laws_FnPatternsOpen.j3 k3 l1 t341 t344 t348 t349 x22_3 (rd y371 x194_3) t375 y371 (y371.length : Int) x194_3 false))) else (laws_FnPatternsOpen.j3 k3 l1 t341 t344 t348 t349 x22_3 (rd y371 x194_3) t375 y371 (y371.length : Int) x194_3 true))) else (laws_FnPatternsOpen.j3 k3 l1 t341 t344 t348 t349 x22_3 (rd y371 x194_3) t375 y371 (y371.length : Int) x194_3 true)) = some r := H
                have A71 := Aside0.mk A710
                clear A710
                have HC72 := Aside0.mk H
                clear H
                have p374 : 0 ≤ (x194_3 : Int) := of_decide_eq_true (by first | (with_reducible assumption) | assumption)
                have q374 : x194_3 < (y371.length : Int) := of_decide_eq_true (by first | (with_reducible assumption) | assumption)
                obtain ⟨ad374, e374, hx374_0⟩ := Kd.at_int (Kd.R_reads' HO_192.out).2.2 x194_3 p374 q374
                cases e374
                replace p374 := eq_true p374
                replace q374 := eq_true q374
                go_upto_region 22 with (first | ((with_reducible refine gate_callee (f := 14) rfl ?_); refine goesL_ (some 201) rfl rfl Try.func14 (by kernel_rfl) rfl #[.slice Ao14 t341.length co14, .int .i64 (rd y371 x194_3)] rfl (by (try simp only [List.map_toArray, List.map_cons, List.map_nil]); first | done | rfl | (simp only [List.length_drop, List.length_take]; rfl)) ?_; (with_reducible refine (impl_RestsOf.calls k3 _ _ t341 (rd y371 x194_3) t375 t376 _ ?side1 ?side2 A71.out).mono ?_); (case side1 => repeat (first | exact (Kd.R_reads' HO_5.out).2.2 | (with_reducible refine Kd.C_alloc ?_ _) | (with_reducible refine Kd.C_drewN ?_ _) | (with_reducible refine Kd.C_drew ?_))); (case side2 => exact (Kd.R_reads' HO_5.out).2.1); rintro e w73 ⟨v377, rfl, ho0, hb⟩; refine ⟨_, rfl, ?_⟩; have n0_ := Aside0.mk (Kd.R_elder' (by (with_reducible repeat (first | apply Kd.R_alloc | apply Kd.R_drewN | apply Kd.R_drew)); exact HO_5.out) (Kd.R_base ho0) hb); have n1_ := Aside0.mk (Kd.R_elder' (by (with_reducible repeat (first | apply Kd.R_alloc | apply Kd.R_drewN | apply Kd.R_drew)); exact HO_192.out) (Kd.R_base ho0) hb); have n2_ := Aside0.mk (Kd.R_lower (Kd.R_new' (Kd.R_new' ho0 (Kd.R_lt (by (with_reducible repeat (first | apply Kd.R_alloc | apply Kd.R_drewN | apply Kd.R_drew)); exact HO_5.out))) (Kd.R_lt (by (with_reducible repeat (first | apply Kd.R_alloc | apply Kd.R_drewN | apply Kd.R_drew)); exact HO_192.out))) (below_size (by repeat (first | (with_reducible first | exact HB.out | apply below_alloc | apply pw_below_drewN | apply below_drew1))))); have n3_ := Aside0.mk (below_step (by repeat (first | (with_reducible first | exact HB.out | apply below_alloc | apply pw_below_drewN | apply below_drew1))) hb); clear HO_5; clear HO_192; clear HB; have HO_5 := n0_; have HO_192 := n1_; have HO378 := n2_; have HB := n3_; clear n0_ n1_ n2_ n3_; (try clear hb); (try clear ho0)))
                (try simp only [Act.put, List.setIfInBounds_toArray, List.set_cons_zero, List.set_cons_succ])
                refine cutF mk1 [] (fun u_ wc => ∃ (kq : Nat) (x238_71 : Bool), (u_ 238) = .bool x238_71 ∧ Aside0 (laws_FnPatternsOpen.j3 kq l1 t341 t344 t348 t349 x22_3 (rd y371 x194_3) t375 y371 (y371.length : Int) x194_3 x238_71 = some r) ∧ Aside0 (kq ≤ k3) ∧ Aside0 (Kd.R (Kd.int .i64) 3 wc w.heap.size (fun k_ => some k_ ≠ (v377 : Value).ownBlock ∧ some k_ ≠ ((.slice (some ad374) y371.length co67) : Value).ownBlock) (.slice Ao14 t341.length co14) t341) ∧ Aside0 (Kd.R (Kd.int .i64) 3 wc w.heap.size (fun k_ => some k_ ≠ ((.slice Ao14 t341.length co14) : Value).ownBlock ∧ some k_ ≠ ((.slice (some ad374) y371.length co67) : Value).ownBlock) v377 t375) ∧ Aside0 (Kd.R (Kd.int .i64) 3 wc w.heap.size (fun k_ => some k_ ≠ ((.slice Ao14 t341.length co14) : Value).ownBlock ∧ some k_ ≠ (v377 : Value).ownBlock) (.slice (some ad374) y371.length co67) y371) ∧ Aside0 (Below w.heap.size w wc)) ?_ ?_
                ·
                 as_aux_lemma =>
                  intro J_ K_ hJ_ hK_
                  have H := HC72.out
                  clear HC72
                  by_cases c74 : t376 = true
                  ·
                   subst c74
                   have H1 : ((laws_tRises.f k3 t375 0 (wrap64 ((rd y371 x194_3) - 1))).bind fun t379 => (if t379 = true then (if (t375.length : Int) > (t341.length : Int) then (laws_FnPatternsOpen.j3 k3 l1 t341 t344 t348 t349 x22_3 (rd y371 x194_3) t375 y371 (y371.length : Int) x194_3 true) else (if (t375.length : Int) = (rd y371 x194_3) then (if x22_3 = true then (laws_FnPatternsOpen.j3 k3 l1 t341 t344 t348 t349 x22_3 (rd y371 x194_3) t375 y371 (y371.length : Int) x194_3 false) else (if t349 = true then (laws_FnPatternsOpen.j3 k3 l1 t341 t344 t348 t349 x22_3 (rd y371 x194_3) t375 y371 (y371.length : Int) x194_3 (t348 != (rd y371 x194_3))) else (laws_FnPatternsOpen.j3 k3 l1 t341 t344 t348 t349 x22_3 (rd y371 x194_3) t375 y371 (y371.length : Int) x194_3 true))) else (laws_FnPatternsOpen.j3 k3 l1 t341 t344 t348 t349 x22_3 (rd y371 x194_3) t375 y371 (y371.length : Int) x194_3 false))) else (laws_FnPatternsOpen.j3 k3 l1 t341 t344 t348 t349 x22_3 (rd y371 x194_3) t375 y371 (y371.length : Int) x194_3 true))) = some r := by rw [if_pos rfl] at H; exact H
                   clear H
                   have H := H1
                   clear H1
                   replace H := Option.bind_eq_some_iff.mp H
                   obtain ⟨t379, A750, H⟩ := H
                   replace H : (if t379 = true then (if (t375.length : Int) > (t341.length : Int) then (laws_FnPatternsOpen.j3 k3 l1 t341 t344 t348 t349 x22_3 (rd y371 x194_3) t375 y371 (y371.length : Int) x194_3 true) else (if (t375.length : Int) = (rd y371 x194_3) then (if x22_3 = true then (laws_FnPatternsOpen.j3 k3 l1 t341 t344 t348 t349 x22_3 (rd y371 x194_3) t375 y371 (y371.length : Int) x194_3 false) else (if t349 = true then (laws_FnPatternsOpen.j3 k3 l1 t341 t344 t348 t349 x22_3 (rd y371 x194_3) t375 y371 (y371.length : Int) x194_3 (t348 != (rd y371 x194_3))) else (laws_FnPatternsOpen.j3 k3 l1 t341 t344 t348 t349 x22_3 (rd y371 x194_3) t375 y371 (y371.length : Int) x194_3 true))) else (laws_FnPatternsOpen.j3 k3 l1 t341 t344 t348 t349 x22_3 (rd y371 x194_3) t375 y371 (y371.length : Int) x194_3 false))) else (laws_FnPatternsOpen.j3 k3 l1 t341 t344 t348 t349 x22_3 (rd y371 x194_3) t375 y371 (y371.length : Int) x194_3 true)) = some r := H
                   have A75 := Aside0.mk A750
                   clear A750
                   by_cases c76 : t379 = true
                   ·
                    subst c76
                    have H1 : (if (t375.length : Int) > (t341.length : Int) then (laws_FnPatternsOpen.j3 k3 l1 t341 t344 t348 t349 x22_3 (rd y371 x194_3) t375 y371 (y371.length : Int) x194_3 true) else (if (t375.length : Int) = (rd y371 x194_3) then (if x22_3 = true then (laws_FnPatternsOpen.j3 k3 l1 t341 t344 t348 t349 x22_3 (rd y371 x194_3) t375 y371 (y371.length : Int) x194_3 false) else (if t349 = true then (laws_FnPatternsOpen.j3 k3 l1 t341 t344 t348 t349 x22_3 (rd y371 x194_3) t375 y371 (y371.length : Int) x194_3 (t348 != (rd y371 x194_3))) else (laws_FnPatternsOpen.j3 k3 l1 t341 t344 t348 t349 x22_3 (rd y371 x194_3) t375 y371 (y371.length : Int) x194_3 true))) else (laws_FnPatternsOpen.j3 k3 l1 t341 t344 t348 t349 x22_3 (rd y371 x194_3) t375 y371 (y371.length : Int) x194_3 false))) = some r := by rw [if_pos rfl] at H; exact H
                    clear H
                    have H := H1
                    clear H1
                    by_cases c77 : (t375.length : Int) > (t341.length : Int)
                    ·
                     rw [if_pos c77] at H
                     exact (laws_FnPatternsOpen.j3_no _ _ _ _ _ _ _ _ _ _ _ _ (H.trans (congrArg some HRT.out))).elim
                    ·
                     rw [if_neg c77] at H
                     have c77b0 : decide ((t341.length : Int) < (t375.length : Int)) = false := decide_eq_false c77
                     have c77b1 : decide (t341.length < t375.length) = false := decide_eq_false (fun h => c77 (Int.ofNat_lt.mpr h))
                     clear c77
                     (first | rw [c77b0] | (simp only [i64_w, i32_w]; rw [c77b0]) | skip)
                     by_cases c79 : (t375.length : Int) = (rd y371 x194_3)
                     ·
                      rw [if_pos c79] at H
                      have c79b0 : ((t375.length : Int) == (rd y371 x194_3)) = true := beq_iff_eq.mpr c79
                      have c79b1 : ((t375.length : Int) != (rd y371 x194_3)) = false := bne_eq_false_iff_eq.mpr c79
                      clear c79
                      by_cases c80 : x22_3 = true
                      ·
                       subst c80
                       have H1 : (laws_FnPatternsOpen.j3 k3 l1 t341 t344 t348 t349 true (rd y371 x194_3) t375 y371 (y371.length : Int) x194_3 false) = some r := by rw [if_pos rfl] at H; exact H
                       clear H
                       have H := H1
                       clear H1
                       have H' := Aside0.mk H
                       clear H
                       obtain ⟨Ao81, co81, eo81⟩ := Kd.R_slice HO378.out
                       subst eo81
                       go_wp2_with (first | (go_at_call 15; (with_reducible refine (laws_tRises.calls k3 _ _ t375 0 (wrap64 ((rd y371 x194_3) - 1)) true _ ?side1 ?side2 A75.out).mono ?_); (case side1 => repeat (first | exact (Kd.R_reads' HO378.out).2.2 | (with_reducible refine Kd.C_alloc ?_ _) | (with_reducible refine Kd.C_drewN ?_ _) | (with_reducible refine Kd.C_drew ?_))); (case side2 => exact (Kd.R_reads' HO378.out).2.1); rintro e w' ⟨rfl, ⟨nd, rfl⟩⟩))
                       refine cutMeet hJ_ ?_ (by kernel_rfl)
                       exact ⟨_, (false), (by first | rfl | (simp; done) | (simp [*]; done)), H', ⟨by have := HJ11.out; have := HJ54.out; have := HK3.out; first | omega | exact Nat.le_refl _⟩, ⟨by (with_reducible repeat (first | apply Kd.R_alloc | apply Kd.R_drewN | apply Kd.R_drew)); exact Kd.R_mono HO_5.out (fun _ hk => ⟨hk.2, hk.1⟩)⟩, ⟨by (with_reducible repeat (first | apply Kd.R_alloc | apply Kd.R_drewN | apply Kd.R_drew)); exact Kd.R_mono HO378.out (fun _ hk => ⟨hk.1.2, hk.2⟩)⟩, ⟨by (with_reducible repeat (first | apply Kd.R_alloc | apply Kd.R_drewN | apply Kd.R_drew)); exact HO_192.out⟩, ⟨by repeat (first | (with_reducible first | exact HB.out | apply below_alloc | apply pw_below_drewN | apply below_drew1))⟩⟩
                      ·
                       replace c80 := Bool.eq_false_iff.mpr c80
                       subst c80
                       have H1 : (if t349 = true then (laws_FnPatternsOpen.j3 k3 l1 t341 t344 t348 t349 false (rd y371 x194_3) t375 y371 (y371.length : Int) x194_3 (t348 != (rd y371 x194_3))) else (laws_FnPatternsOpen.j3 k3 l1 t341 t344 t348 t349 false (rd y371 x194_3) t375 y371 (y371.length : Int) x194_3 true)) = some r := by rw [if_neg (show ¬ (false = true) by decide)] at H; exact H
                       clear H
                       have H := H1
                       clear H1
                       by_cases c82 : t349 = true
                       ·
                        subst c82
                        have H1 : (laws_FnPatternsOpen.j3 k3 l1 t341 t344 t348 true false (rd y371 x194_3) t375 y371 (y371.length : Int) x194_3 (t348 != (rd y371 x194_3))) = some r := by rw [if_pos rfl] at H; exact H
                        clear H
                        have H := H1
                        clear H1
                        have H' := Aside0.mk H
                        clear H
                        obtain ⟨Ao83, co83, eo83⟩ := Kd.R_slice HO378.out
                        subst eo83
                        go_wp2_with (first | (go_at_call 15; (with_reducible refine (laws_tRises.calls k3 _ _ t375 0 (wrap64 ((rd y371 x194_3) - 1)) true _ ?side1 ?side2 A75.out).mono ?_); (case side1 => repeat (first | exact (Kd.R_reads' HO378.out).2.2 | (with_reducible refine Kd.C_alloc ?_ _) | (with_reducible refine Kd.C_drewN ?_ _) | (with_reducible refine Kd.C_drew ?_))); (case side2 => exact (Kd.R_reads' HO378.out).2.1); rintro e w' ⟨rfl, ⟨nd, rfl⟩⟩))
                        refine cutMeet hJ_ ?_ (by kernel_rfl)
                        exact ⟨_, ((t348 != (rd y371 x194_3))), (by first | rfl | (simp; done) | (simp [*]; done)), H', ⟨by have := HJ11.out; have := HJ54.out; have := HK3.out; first | omega | exact Nat.le_refl _⟩, ⟨by (with_reducible repeat (first | apply Kd.R_alloc | apply Kd.R_drewN | apply Kd.R_drew)); exact Kd.R_mono HO_5.out (fun _ hk => ⟨hk.2, hk.1⟩)⟩, ⟨by (with_reducible repeat (first | apply Kd.R_alloc | apply Kd.R_drewN | apply Kd.R_drew)); exact Kd.R_mono HO378.out (fun _ hk => ⟨hk.1.2, hk.2⟩)⟩, ⟨by (with_reducible repeat (first | apply Kd.R_alloc | apply Kd.R_drewN | apply Kd.R_drew)); exact HO_192.out⟩, ⟨by repeat (first | (with_reducible first | exact HB.out | apply below_alloc | apply pw_below_drewN | apply below_drew1))⟩⟩
                       ·
                        replace c82 := Bool.eq_false_iff.mpr c82
                        subst c82
                        have H1 : (laws_FnPatternsOpen.j3 k3 l1 t341 t344 t348 false false (rd y371 x194_3) t375 y371 (y371.length : Int) x194_3 true) = some r := by rw [if_neg (show ¬ (false = true) by decide)] at H; exact H
                        clear H
                        have H := H1
                        clear H1
                        exact (laws_FnPatternsOpen.j3_no _ _ _ _ _ _ _ _ _ _ _ _ (H.trans (congrArg some HRT.out))).elim
                     ·
                      rw [if_neg c79] at H
                      have c79b0 : ((t375.length : Int) == (rd y371 x194_3)) = false := beq_eq_false_iff_ne.mpr c79
                      have c79b1 : ((t375.length : Int) != (rd y371 x194_3)) = true := bne_iff_ne.mpr c79
                      have H' := Aside0.mk H
                      clear H
                      obtain ⟨Ao85, co85, eo85⟩ := Kd.R_slice HO378.out
                      subst eo85
                      go_wp2_with (first | (go_at_call 15; (with_reducible refine (laws_tRises.calls k3 _ _ t375 0 (wrap64 ((rd y371 x194_3) - 1)) true _ ?side1 ?side2 A75.out).mono ?_); (case side1 => repeat (first | exact (Kd.R_reads' HO378.out).2.2 | (with_reducible refine Kd.C_alloc ?_ _) | (with_reducible refine Kd.C_drewN ?_ _) | (with_reducible refine Kd.C_drew ?_))); (case side2 => exact (Kd.R_reads' HO378.out).2.1); rintro e w' ⟨rfl, ⟨nd, rfl⟩⟩))
                      refine cutMeet hJ_ ?_ (by kernel_rfl)
                      exact ⟨_, (false), (by first | rfl | (simp; done) | (simp [*]; done)), H', ⟨by have := HJ11.out; have := HJ54.out; have := HK3.out; first | omega | exact Nat.le_refl _⟩, ⟨by (with_reducible repeat (first | apply Kd.R_alloc | apply Kd.R_drewN | apply Kd.R_drew)); exact Kd.R_mono HO_5.out (fun _ hk => ⟨hk.2, hk.1⟩)⟩, ⟨by (with_reducible repeat (first | apply Kd.R_alloc | apply Kd.R_drewN | apply Kd.R_drew)); exact Kd.R_mono HO378.out (fun _ hk => ⟨hk.1.2, hk.2⟩)⟩, ⟨by (with_reducible repeat (first | apply Kd.R_alloc | apply Kd.R_drewN | apply Kd.R_drew)); exact HO_192.out⟩, ⟨by repeat (first | (with_reducible first | exact HB.out | apply below_alloc | apply pw_below_drewN | apply below_drew1))⟩⟩
                   ·
                    replace c76 := Bool.eq_false_iff.mpr c76
                    subst c76
                    have H1 : (laws_FnPatternsOpen.j3 k3 l1 t341 t344 t348 t349 x22_3 (rd y371 x194_3) t375 y371 (y371.length : Int) x194_3 true) = some r := by rw [if_neg (show ¬ (false = true) by decide)] at H; exact H
                    clear H
                    have H := H1
                    clear H1
                    exact (laws_FnPatternsOpen.j3_no _ _ _ _ _ _ _ _ _ _ _ _ (H.trans (congrArg some HRT.out))).elim
                  ·
                   replace c74 := Bool.eq_false_iff.mpr c74
                   subst c74
                   have H1 : (laws_FnPatternsOpen.j3 k3 l1 t341 t344 t348 t349 x22_3 (rd y371 x194_3) t375 y371 (y371.length : Int) x194_3 true) = some r := by rw [if_neg (show ¬ (false = true) by decide)] at H; exact H
                   clear H
                   have H := H1
                   clear H1
                   exact (laws_FnPatternsOpen.j3_no _ _ _ _ _ _ _ _ _ _ _ _ (H.trans (congrArg some HRT.out))).elim
                ·
                 intro u_ wc hcut
                 clear HC72
                 obtain ⟨kq, x238_71, e_238, HA, HJ71, HO_5, HO_25, HO_192, HB⟩ := hcut
                 dsimp only [cutFgt, mk1]
                 rw [e_238]
                 cases kq with
                 | zero => exact absurd HA.out (by simp [laws_FnPatternsOpen.j3])
                 | succ kj71 =>
                  have H := HA.out
                  clear HA
                  simp only [laws_FnPatternsOpen.j3] at H
                  by_cases c87 : x238_71 = true
                  ·
                   subst c87
                   have H1 : (some false) = some r := by rw [if_pos rfl] at H; exact H
                   clear H
                   have H := H1
                   clear H1
                   exact absurd (Option.some.inj (H.trans (congrArg some HRT.out))) Bool.false_ne_true
                  ·
                   replace c87 := Bool.eq_false_iff.mpr c87
                   subst c87
                   have H1 : (if x22_3 = true then (laws_FnPatternsOpen.j4 kj71 l1 t341 t344 t348 t349 true (rd y371 x194_3) t375 y371 (y371.length : Int) x194_3) else (laws_FnPatternsOpen.j4 kj71 l1 t341 t344 t348 t349 ((t375.length : Int) == (rd y371 x194_3)) (rd y371 x194_3) t375 y371 (y371.length : Int) x194_3)) = some r := by rw [if_neg (show ¬ (false = true) by decide)] at H; exact H
                   clear H
                   have H := H1
                   clear H1
                   have HC88 := Aside0.mk H
                   clear H
                   go_upto_region 24 with (fail)
                   refine cutF mk1 [none, none, none, none, none, none, none, none, none, none, none, none, none, none, none, none, none, none, none, none, none, none, some 22] (fun u_ wc => ∃ (kq : Nat) (x22_87 : Bool), (u_ 22) = .bool x22_87 ∧ Aside0 (laws_FnPatternsOpen.j4 kq l1 t341 t344 t348 t349 x22_87 (rd y371 x194_3) t375 y371 (y371.length : Int) x194_3 = some r) ∧ Aside0 (kq ≤ kj71) ∧ Aside0 (Kd.R (Kd.int .i64) 3 wc w.heap.size (fun k_ => some k_ ≠ (v377 : Value).ownBlock ∧ some k_ ≠ ((.slice (some ad374) y371.length co67) : Value).ownBlock) (.slice Ao14 t341.length co14) t341) ∧ Aside0 (Kd.R (Kd.int .i64) 3 wc w.heap.size (fun k_ => some k_ ≠ ((.slice Ao14 t341.length co14) : Value).ownBlock ∧ some k_ ≠ ((.slice (some ad374) y371.length co67) : Value).ownBlock) v377 t375) ∧ Aside0 (Kd.R (Kd.int .i64) 3 wc w.heap.size (fun k_ => some k_ ≠ ((.slice Ao14 t341.length co14) : Value).ownBlock ∧ some k_ ≠ (v377 : Value).ownBlock) (.slice (some ad374) y371.length co67) y371) ∧ Aside0 (Below w.heap.size w wc)) ?_ ?_
                   ·
                    as_aux_lemma =>
                     intro J_ K_ hJ_ hK_
                     have H := HC88.out
                     clear HC88
                     by_cases c89 : x22_3 = true
                     ·
                      subst c89
                      have H1 : (laws_FnPatternsOpen.j4 kj71 l1 t341 t344 t348 t349 true (rd y371 x194_3) t375 y371 (y371.length : Int) x194_3) = some r := by rw [if_pos rfl] at H; exact H
                      clear H
                      have H := H1
                      clear H1
                      have H' := Aside0.mk H
                      clear H
                      go_wp2
                      refine cutMeet hJ_ ?_ (by kernel_rfl)
                      exact ⟨_, (true), (by first | rfl | (simp; done) | (simp [*]; done)), H', ⟨by have := HJ11.out; have := HJ54.out; have := HK3.out; have := HJ71.out; first | omega | exact Nat.le_refl _⟩, ⟨by (with_reducible repeat (first | apply Kd.R_alloc | apply Kd.R_drewN | apply Kd.R_drew)); exact HO_5.out⟩, ⟨by (with_reducible repeat (first | apply Kd.R_alloc | apply Kd.R_drewN | apply Kd.R_drew)); exact HO_25.out⟩, ⟨by (with_reducible repeat (first | apply Kd.R_alloc | apply Kd.R_drewN | apply Kd.R_drew)); exact HO_192.out⟩, ⟨by repeat (first | (with_reducible first | exact HB.out | apply below_alloc | apply pw_below_drewN | apply below_drew1))⟩⟩
                     ·
                      replace c89 := Bool.eq_false_iff.mpr c89
                      subst c89
                      have H1 : (laws_FnPatternsOpen.j4 kj71 l1 t341 t344 t348 t349 ((t375.length : Int) == (rd y371 x194_3)) (rd y371 x194_3) t375 y371 (y371.length : Int) x194_3) = some r := by rw [if_neg (show ¬ (false = true) by decide)] at H; exact H
                      clear H
                      have H := H1
                      clear H1
                      have H' := Aside0.mk H
                      clear H
                      obtain ⟨Ao90, co90, eo90⟩ := Kd.R_slice HO_25.out
                      subst eo90
                      go_wp2
                      refine cutMeet hJ_ ?_ (by kernel_rfl)
                      exact ⟨_, (((t375.length : Int) == (rd y371 x194_3))), (by first | rfl | (simp; done) | (simp [*]; done)), H', ⟨by have := HJ11.out; have := HJ54.out; have := HK3.out; have := HJ71.out; first | omega | exact Nat.le_refl _⟩, ⟨by (with_reducible repeat (first | apply Kd.R_alloc | apply Kd.R_drewN | apply Kd.R_drew)); exact HO_5.out⟩, ⟨by (with_reducible repeat (first | apply Kd.R_alloc | apply Kd.R_drewN | apply Kd.R_drew)); exact HO_25.out⟩, ⟨by (with_reducible repeat (first | apply Kd.R_alloc | apply Kd.R_drewN | apply Kd.R_drew)); exact HO_192.out⟩, ⟨by repeat (first | (with_reducible first | exact HB.out | apply below_alloc | apply pw_below_drewN | apply below_drew1))⟩⟩
                   ·
                    as_aux_lemma =>
                     intro u_ wc hcut
                     clear HC88
                     obtain ⟨kq, x22_87, e_22, HA, HJ87, HO_5, HO_25, HO_192, HB⟩ := hcut
                     dsimp only [cutFgt, mk1]
                     rw [e_22]
                     cases kq with
                     | zero => exact absurd HA.out (by simp [laws_FnPatternsOpen.j4])
                     | succ kj87 =>
                      have H := HA.out
                      clear HA
                      simp only [laws_FnPatternsOpen.j4] at H
                      have H' := Aside0.mk H
                      clear H
                      go_wp2
                      go_loopg [248] kj87 (fun kq v248 w' => ∃ (x248_6 : Int), v248 = .int .i64 x248_6 ∧ Aside0 (laws_FnPatternsOpen.l1 kq l1 t341 t344 t348 t349 x22_87 (rd y371 x194_3) t375 y371 (y371.length : Int) x194_3 t341 (t341.length : Int) x248_6 = some r) ∧ Aside0 (kq ≤ kj87) ∧ Aside0 (Kd.R (Kd.int .i64) 3 w' w.heap.size (fun k_ => some k_ ≠ (v377 : Value).ownBlock ∧ some k_ ≠ ((.slice (some ad374) y371.length co67) : Value).ownBlock) (.slice Ao14 t341.length co14) t341) ∧ Aside0 (Kd.R (Kd.int .i64) 3 w' w.heap.size (fun k_ => some k_ ≠ ((.slice Ao14 t341.length co14) : Value).ownBlock ∧ some k_ ≠ ((.slice (some ad374) y371.length co67) : Value).ownBlock ∧ some k_ ≠ ((.slice Ao14 t341.length co14) : Value).ownBlock) v377 t375) ∧ Aside0 (Kd.R (Kd.int .i64) 3 w' w.heap.size (fun k_ => some k_ ≠ ((.slice Ao14 t341.length co14) : Value).ownBlock ∧ some k_ ≠ (v377 : Value).ownBlock ∧ some k_ ≠ ((.slice Ao14 t341.length co14) : Value).ownBlock) (.slice (some ad374) y371.length co67) y371) ∧ Aside0 (Kd.R (Kd.int .i64) 3 w' w.heap.size (fun k_ => some k_ ≠ (v377 : Value).ownBlock ∧ some k_ ≠ ((.slice (some ad374) y371.length co67) : Value).ownBlock) (.slice Ao14 t341.length co14) t341) ∧ Aside0 (Below w.heap.size w w'))
                      case atStart => exact ⟨(0), (by first | rfl | (simp; done) | (simp [*]; done)), H', ⟨Nat.le_refl _⟩, ⟨by (with_reducible repeat (first | apply Kd.R_alloc | apply Kd.R_drewN | apply Kd.R_drew)); exact HO_5.out⟩, ⟨by (with_reducible repeat (first | apply Kd.R_alloc | apply Kd.R_drewN | apply Kd.R_drew)); exact Kd.R_mono HO_25.out (fun _ hk => ⟨hk.1, ⟨hk.2, hk.1⟩⟩)⟩, ⟨by (with_reducible repeat (first | apply Kd.R_alloc | apply Kd.R_drewN | apply Kd.R_drew)); exact Kd.R_mono HO_192.out (fun _ hk => ⟨hk.1, ⟨hk.2, hk.1⟩⟩)⟩, ⟨by (with_reducible repeat (first | apply Kd.R_alloc | apply Kd.R_drewN | apply Kd.R_drew)); exact HO_5.out⟩, ⟨by repeat (first | (with_reducible first | exact HB.out | apply below_alloc | apply pw_below_drewN | apply below_drew1))⟩⟩
                      case round =>
                       clear H'
                       obtain ⟨x248_6, rfl, HA, HK6, HO_5, HO_25, HO_192, HO_246, HB⟩ := hrel
                       cases gk with
                       | zero => exact absurd HA.out (by simp [laws_FnPatternsOpen.l1])
                       | succ k6 =>
                        have H := HA.out
                        clear HA
                        simp only [laws_FnPatternsOpen.l1] at H
                        by_cases c91 : x248_6 < (t341.length : Int)
                        ·
                         rw [if_pos c91] at H
                         have c91b0 : decide (x248_6 < (t341.length : Int)) = true := decide_eq_true c91
                         clear c91
                         by_cases c92 : 0 ≤ x248_6
                         ·
                          rw [if_pos c92] at H
                          have c92b0 : decide (0 ≤ x248_6) = true := decide_eq_true c92
                          clear c92
                          by_cases c93 : x248_6 < (t341.length : Int)
                          ·
                           rw [if_pos c93] at H
                           have c93b0 : decide (x248_6 < (t341.length : Int)) = true := decide_eq_true c93
                           clear c93
                           by_cases c94 : (rd y371 x194_3) = 0
                           ·
                            rw [if_pos c94] at H
                            exact absurd H (by simp)
                           ·
                            rw [if_neg c94] at H
                            have c94b0 : ((rd y371 x194_3) == 0) = false := beq_eq_false_iff_ne.mpr c94
                            have c94b1 : ((rd y371 x194_3) != 0) = true := bne_iff_ne.mpr c94
                            replace H := Option.bind_eq_some_iff.mp H
                            obtain ⟨t381, A950, H⟩ := H
                            replace H : (if t381 = true then (laws_FnPatternsOpen.l1 k6 l1 t341 t344 t348 t349 x22_87 (rd y371 x194_3) t375 y371 (y371.length : Int) x194_3 t341 (t341.length : Int) (wrap64 (x248_6 + 1))) else (some false)) = some r := H
                            have A95 := Aside0.mk A950
                            clear A950
                            by_cases c96 : t381 = true
                            ·
                             subst c96
                             have H1 : (laws_FnPatternsOpen.l1 k6 l1 t341 t344 t348 t349 x22_87 (rd y371 x194_3) t375 y371 (y371.length : Int) x194_3 t341 (t341.length : Int) (wrap64 (x248_6 + 1))) = some r := by rw [if_pos rfl] at H; exact H
                             clear H
                             have H := H1
                             clear H1
                             have H' := Aside0.mk H
                             clear H
                             have p380 : 0 ≤ (x248_6 : Int) := of_decide_eq_true (by first | (with_reducible assumption) | assumption)
                             have q380 : x248_6 < (t341.length : Int) := of_decide_eq_true (by first | (with_reducible assumption) | assumption)
                             obtain ⟨ad380, e380, hx380_0⟩ := Kd.at_int (Kd.R_reads' HO_246.out).2.2 x248_6 p380 q380
                             cases e380
                             replace p380 := eq_true p380
                             replace q380 := eq_true q380
                             obtain ⟨Ao97, co97, eo97⟩ := Kd.R_slice HO_25.out
                             subst eo97
                             go_wp2_with (first | ((with_reducible refine gate_callee (f := 16) rfl ?_); refine goesL_ (some 256) rfl rfl Try.func16 (by kernel_rfl) rfl #[.slice Ao97 t375.length co97, .int .i64 (Int.tmod (rd t341 x248_6) (rd y371 x194_3))] rfl (by (try simp only [List.map_toArray, List.map_cons, List.map_nil]); first | done | rfl | (simp only [List.length_drop, List.length_take]; rfl)) ?_; (with_reducible refine (laws_tHas.calls k6 _ _ t375 (Int.tmod (rd t341 x248_6) (rd y371 x194_3)) true _ ?side1 ?side2 A95.out).mono ?_); (case side1 => repeat (first | exact (Kd.R_reads' HO_25.out).2.2 | (with_reducible refine Kd.C_alloc ?_ _) | (with_reducible refine Kd.C_drewN ?_ _) | (with_reducible refine Kd.C_drew ?_))); (case side2 => exact (Kd.R_reads' HO_25.out).2.1); rintro e w' ⟨rfl, ⟨nd, rfl⟩⟩; refine ⟨_, rfl, ?_⟩))
                             go_roundg k6
                             case measure => have := HJ11.out; have := HJ54.out; have := HK3.out; have := HJ71.out; have := HJ87.out; have := HK6.out; omega
                             case rel => exact ⟨(wrap64 (x248_6 + 1)), (by first | rfl | (simp; done) | (simp [*]; done)), H', ⟨by have := HJ11.out; have := HJ54.out; have := HK3.out; have := HJ71.out; have := HJ87.out; have := HK6.out; omega⟩, ⟨by (with_reducible repeat (first | apply Kd.R_alloc | apply Kd.R_drewN | apply Kd.R_drew)); exact HO_5.out⟩, ⟨by (with_reducible repeat (first | apply Kd.R_alloc | apply Kd.R_drewN | apply Kd.R_drew)); exact HO_25.out⟩, ⟨by (with_reducible repeat (first | apply Kd.R_alloc | apply Kd.R_drewN | apply Kd.R_drew)); exact HO_192.out⟩, ⟨by (with_reducible repeat (first | apply Kd.R_alloc | apply Kd.R_drewN | apply Kd.R_drew)); exact HO_246.out⟩, ⟨by repeat (first | (with_reducible first | exact HB.out | apply below_alloc | apply pw_below_drewN | apply below_drew1))⟩⟩
                            ·
                             replace c96 := Bool.eq_false_iff.mpr c96
                             subst c96
                             have H1 : (some false) = some r := by rw [if_neg (show ¬ (false = true) by decide)] at H; exact H
                             clear H
                             have H := H1
                             clear H1
                             exact absurd (Option.some.inj (H.trans (congrArg some HRT.out))) Bool.false_ne_true
                          ·
                           rw [if_neg c93] at H
                           exact absurd H (by simp)
                         ·
                          rw [if_neg c92] at H
                          exact absurd H (by simp)
                        ·
                         rw [if_neg c91] at H
                         have c91b0 : decide (x248_6 < (t341.length : Int)) = false := decide_eq_false c91
                         clear c91
                         have H' := Aside0.mk H
                         clear H
                         go_wp2
                         go_roundg k6
                         case measure => have := HJ11.out; have := HJ54.out; have := HK3.out; have := HJ71.out; have := HJ87.out; have := HK6.out; omega
                         case rel => exact ⟨(x22_87), (wrap64 (x194_3 + 1)), (by first | rfl | (simp; done) | (simp [*]; done)), (by first | rfl | (simp; done) | (simp [*]; done)), H', ⟨by have := HJ11.out; have := HJ54.out; have := HK3.out; have := HJ71.out; have := HJ87.out; have := HK6.out; omega⟩, ⟨by (with_reducible repeat (first | apply Kd.R_alloc | apply Kd.R_drewN | apply Kd.R_drew)); exact Kd.R_mono HO_5.out (fun _ hk => hk.2)⟩, ⟨by (with_reducible repeat (first | apply Kd.R_alloc | apply Kd.R_drewN | apply Kd.R_drew)); exact Kd.R_mono HO_192.out (fun _ hk => hk.1)⟩, ⟨by repeat (first | (with_reducible first | exact HB.out | apply below_alloc | apply pw_below_drewN | apply below_drew1))⟩⟩
               ·
                rw [if_neg c70] at H
                exact absurd H (by simp)
              ·
               rw [if_neg c69] at H
               exact absurd H (by simp)
             ·
              as_aux_lemma =>
               rw [if_neg c68] at H
               have c68b0 : decide (x194_3 < (y371.length : Int)) = false := decide_eq_false c68
               clear c68
               by_cases c99 : (x22_3 == t344) = true
               ·
                rw [if_pos c99] at H
                have c99b0 : (x22_3 == t344) = true := c99
                (try (have c99b1 : decide (x22_3 = t344) = true := by simpa using c99))
                (try (have c99b2 : (x22_3 == t344) = true := by simpa using c99))
                clear c99
                first
                | exact absurd (Option.some.inj (H.trans (congrArg some HRT.out))) Bool.false_ne_true
                |
                 obtain rfl := Option.some.inj H
                 go_wp2
                 go_ret
                 exact ⟨by first | rfl | (simp [errW_none, errW_some] <;> rfl) | (simp [*, errW_none, errW_some] <;> rfl), by repeat (first | (with_reducible first | exact HB.out | apply below_alloc | apply pw_below_drewN | apply below_drew1))⟩
               ·
                rw [if_neg c99] at H
                have c99b0 : (x22_3 == t344) = false := by simpa using c99
                (try (have c99b1 : decide (x22_3 = t344) = false := by simpa using c99))
                (try (have c99b2 : (x22_3 == t344) = false := by simpa using c99))
                (try (have c99b3 : ¬ (x22_3 = t344) := by simpa using c99))
                clear c99
                have H' := Aside0.mk H
                clear H
                go_wp2
                refine cutMeet hJ_ ?_ (by kernel_rfl)
                exact ⟨_, H', ⟨by have := HJ11.out; have := HJ54.out; have := HK3.out; first | omega | exact Nat.le_refl _⟩, ⟨by repeat (first | (with_reducible first | exact HB.out | apply below_alloc | apply pw_below_drewN | apply below_drew1))⟩⟩
       ·
        replace c52 := Bool.eq_false_iff.mpr c52
        subst c52
        have H1 : (laws_FnPatternsOpen.j6 kj11 l1) = some r := by rw [if_neg (show ¬ (false = true) by decide)] at H; exact H
        clear H
        have H := H1
        clear H1
        have H' := Aside0.mk H
        clear H
        go_wp2
        refine cutMeet hJ_ ?_ (by kernel_rfl)
        exact ⟨_, H', ⟨by have := HJ11.out; first | omega | exact Nat.le_refl _⟩, ⟨by repeat (first | (with_reducible first | exact HB.out | apply below_alloc | apply pw_below_drewN | apply below_drew1))⟩⟩
     ·
      intro u_ wc hcut
      clear HC51
      obtain ⟨kq, HA, HJ50, HB⟩ := hcut
      dsimp only [cutFgt, mk0]
      cases kq with
      | zero => exact absurd HA.out (by simp [laws_FnPatternsOpen.j6])
      | succ kj50 =>
       have H := HA.out
       clear HA
       simp only [laws_FnPatternsOpen.j6] at H
       replace H := Option.bind_eq_some_iff.mp H
       obtain ⟨t382, A1000, H⟩ := H
       replace H : ((impl_NarrowestOpen.f kj50 t382).bind fun bt383 => ((spec_NarrowestOpen.f kj50 t382).bind fun bt387 => (if (bt383.2 != bt387.2) = true then (laws_FnPatternsOpen.j7 kj50 l1 t382 bt383.1 bt383.2 true) else ((laws_tSame.f kj50 bt383.1 bt387.1).bind fun t391 => (laws_FnPatternsOpen.j7 kj50 l1 t382 bt383.1 bt383.2 (!t391)))))) = some r := H
       have A100 := Aside0.mk A1000
       clear A1000
       replace H := Option.bind_eq_some_iff.mp H
       obtain ⟨⟨t383, t384⟩, A1010, H⟩ := H
       replace H : ((spec_NarrowestOpen.f kj50 t382).bind fun bt387 => (if (t384 != bt387.2) = true then (laws_FnPatternsOpen.j7 kj50 l1 t382 t383 t384 true) else ((laws_tSame.f kj50 t383 bt387.1).bind fun t391 => (laws_FnPatternsOpen.j7 kj50 l1 t382 t383 t384 (!t391))))) = some r := H
       have A101 := Aside0.mk A1010
       clear A1010
       replace H := Option.bind_eq_some_iff.mp H
       obtain ⟨⟨t387, t388⟩, A1020, H⟩ := H
       replace H : (if (t384 != t388) = true then (laws_FnPatternsOpen.j7 kj50 l1 t382 t383 t384 true) else ((laws_tSame.f kj50 t383 t387).bind fun t391 => (laws_FnPatternsOpen.j7 kj50 l1 t382 t383 t384 (!t391)))) = some r := H
       have A102 := Aside0.mk A1020
       clear A1020
       have HC103 := Aside0.mk H
       clear H
       go_upto_region 37 with (first | ((with_reducible refine gate_callee (f := 29) rfl ?_); refine goesL_ (some 264) rfl rfl Try.func29 (by kernel_rfl) rfl #[.slice A1 l1.length c1] rfl (by (try simp only [List.map_toArray, List.map_cons, List.map_nil]); first | done | rfl | (simp only [List.length_drop, List.length_take]; rfl)) ?_; (with_reducible refine (spec_DrawNarrowestOpen.calls _ _ l1 t382 _ ?side1 ?side2 A100.out).mono ?_); (case side1 => repeat (first | exact (Kd.C_below HR1.out HB.out) | (with_reducible refine Kd.C_alloc ?_ _) | (with_reducible refine Kd.C_drewN ?_ _) | (with_reducible refine Kd.C_drew ?_))); (case side2 => exact HC1.out); rintro e w104 ⟨rfl, hb⟩; refine ⟨_, rfl, ?_⟩; have n0_ := Aside0.mk (below_step (by repeat (first | (with_reducible first | exact HB.out | apply below_alloc | apply pw_below_drewN | apply below_drew1))) hb); clear HB; have HB := n0_; clear n0_; (try clear hb)) | ((with_reducible refine gate_callee (f := 17) rfl ?_); refine goesL_ (some 267) rfl rfl Try.func17 (by kernel_rfl) rfl #[.int .i64 t382] rfl (by (try simp only [List.map_toArray, List.map_cons, List.map_nil]); first | done | rfl | (simp only [List.length_drop, List.length_take]; rfl)) ?_; (with_reducible refine (impl_NarrowestOpen.calls kj50 t382 t383 t384 _ A101.out).mono ?_); rintro e w105 ⟨v385, rfl, ho0, hb⟩; refine ⟨_, rfl, ?_⟩; have n0_ := Aside0.mk (Kd.R_lower ho0 (below_size (by repeat (first | (with_reducible first | exact HB.out | apply below_alloc | apply pw_below_drewN | apply below_drew1))))); have n1_ := Aside0.mk (below_step (by repeat (first | (with_reducible first | exact HB.out | apply below_alloc | apply pw_below_drewN | apply below_drew1))) hb); clear HB; have HO386 := n0_; have HB := n1_; clear n0_ n1_; (try clear hb); (try clear ho0)) | ((with_reducible refine gate_callee (f := 18) rfl ?_); refine goesL_ (some 272) rfl rfl Try.func18 (by kernel_rfl) rfl #[.int .i64 t382] rfl (by (try simp only [List.map_toArray, List.map_cons, List.map_nil]); first | done | rfl | (simp only [List.length_drop, List.length_take]; rfl)) ?_; (with_reducible refine (spec_NarrowestOpen.calls kj50 t382 t387 t388 _ A102.out).mono ?_); rintro e w106 ⟨v389, rfl, ho0, hb⟩; refine ⟨_, rfl, ?_⟩; have n0_ := Aside0.mk (Kd.R_elder' (by (with_reducible repeat (first | apply Kd.R_alloc | apply Kd.R_drewN | apply Kd.R_drew)); exact HO386.out) (Kd.R_base ho0) hb); have n1_ := Aside0.mk (Kd.R_lower (Kd.R_new' ho0 (Kd.R_lt (by (with_reducible repeat (first | apply Kd.R_alloc | apply Kd.R_drewN | apply Kd.R_drew)); exact HO386.out))) (below_size (by repeat (first | (with_reducible first | exact HB.out | apply below_alloc | apply pw_below_drewN | apply below_drew1))))); have n2_ := Aside0.mk (below_step (by repeat (first | (with_reducible first | exact HB.out | apply below_alloc | apply pw_below_drewN | apply below_drew1))) hb); clear HO386; clear HB; have HO386 := n0_; have HO390 := n1_; have HB := n2_; clear n0_ n1_ n2_; (try clear hb); (try clear ho0)))
       (try simp only [Act.put, List.setIfInBounds_toArray, List.set_cons_zero, List.set_cons_succ])
       refine cutF mk0 [] (fun u_ wc => ∃ (kq : Nat) (x283_102 : Bool), (u_ 283) = .bool x283_102 ∧ Aside0 (laws_FnPatternsOpen.j7 kq l1 t382 t383 t384 x283_102 = some r) ∧ Aside0 (kq ≤ kj50) ∧ Aside0 (Kd.R (Kd.int .i64) 3 wc w.heap.size (fun _ => True) v385 t383) ∧ Aside0 (Below w.heap.size w wc)) ?_ ?_
       ·
        as_aux_lemma =>
         intro J_ K_ hJ_ hK_
         have H := HC103.out
         clear HC103
         by_cases c107 : (t384 != t388) = true
         ·
          rw [if_pos c107] at H
          exact (laws_FnPatternsOpen.j7_no _ _ _ _ _ (H.trans (congrArg some HRT.out))).elim
         ·
          rw [if_neg c107] at H
          have c107b0 : (t384 != t388) = false := by simpa using c107
          have c107q := eq_true (bne_eq_false_iff_eq.1 c107b0)
          (try (have c107b1 : decide (t384 = t388) = true := by simpa using c107))
          (try (have c107b2 : (t384 == t388) = true := by simpa using c107))
          clear c107
          (first | rw [c107b0] | (simp only [i64_w, i32_w]; rw [c107b0]) | skip)
          replace H := Option.bind_eq_some_iff.mp H
          obtain ⟨t391, A1080, H⟩ := H
          replace H : (laws_FnPatternsOpen.j7 kj50 l1 t382 t383 t384 (!t391)) = some r := H
          have A108 := Aside0.mk A1080
          clear A1080
          have H' := Aside0.mk H
          clear H
          obtain ⟨Ao109, co109, eo109⟩ := Kd.R_slice HO386.out
          subst eo109
          obtain ⟨Ao110, co110, eo110⟩ := Kd.R_slice HO390.out
          subst eo110
          go_wp2_with (first | (go_at_call 11; (with_reducible refine (laws_tSame.calls kj50 _ _ t383 _ _ t387 t391 _ ?side1 ?side2 ?side3 ?side4 A108.out).mono ?_); (case side1 => repeat (first | exact (Kd.R_reads' HO386.out).2.2 | (with_reducible refine Kd.C_alloc ?_ _) | (with_reducible refine Kd.C_drewN ?_ _) | (with_reducible refine Kd.C_drew ?_))); (case side2 => exact (Kd.R_reads' HO386.out).2.1); (case side3 => repeat (first | exact (Kd.R_reads' HO390.out).2.2 | (with_reducible refine Kd.C_alloc ?_ _) | (with_reducible refine Kd.C_drewN ?_ _) | (with_reducible refine Kd.C_drew ?_))); (case side4 => exact (Kd.R_reads' HO390.out).2.1); rintro e w' ⟨rfl, ⟨nd, rfl⟩⟩))
          refine cutMeet hJ_ ?_ (by kernel_rfl)
          exact ⟨_, (!t391), (by first | rfl | (simp; done) | (simp [*]; done)), H', ⟨by have := HJ11.out; have := HJ50.out; first | omega | exact Nat.le_refl _⟩, ⟨by (with_reducible repeat (first | apply Kd.R_alloc | apply Kd.R_drewN | apply Kd.R_drew)); exact Kd.R_mono HO386.out (fun _ hk => trivial)⟩, ⟨by repeat (first | (with_reducible first | exact HB.out | apply below_alloc | apply pw_below_drewN | apply below_drew1))⟩⟩
       ·
        intro u_ wc hcut
        clear HC103
        obtain ⟨kq, x283_102, e_283, HA, HJ102, HO_30, HB⟩ := hcut
        dsimp only [cutFgt, mk0]
        rw [e_283]
        cases kq with
        | zero => exact absurd HA.out (by simp [laws_FnPatternsOpen.j7])
        | succ kj102 =>
         have H := HA.out
         clear HA
         simp only [laws_FnPatternsOpen.j7] at H
         by_cases c111 : x283_102 = true
         ·
          subst c111
          have H1 : (some false) = some r := by rw [if_pos rfl] at H; exact H
          clear H
          have H := H1
          clear H1
          exact absurd (Option.some.inj (H.trans (congrArg some HRT.out))) Bool.false_ne_true
         ·
          replace c111 := Bool.eq_false_iff.mpr c111
          subst c111
          have H1 : (if t384 = true then ((impl_IsOpen.f kj102 t383).bind fun bt392 => (if 0 ≤ (wrap64 (t382 - 1)) then (if (wrap64 (t382 - 1)) < (t383.length : Int) then (if bt392.2 = true then (if bt392.1 = true then (laws_FnPatternsOpen.j8 kj102 l1 t382 t383 (rd t383 (wrap64 (t382 - 1))) ((t383.length : Int) != t382)) else (laws_FnPatternsOpen.j8 kj102 l1 t382 t383 (rd t383 (wrap64 (t382 - 1))) true)) else (laws_FnPatternsOpen.j8 kj102 l1 t382 t383 (rd t383 (wrap64 (t382 - 1))) true)) else (none)) else (none))) else (laws_FnPatternsOpen.j10 kj102 l1)) = some r := by rw [if_neg (show ¬ (false = true) by decide)] at H; exact H
          clear H
          have H := H1
          clear H1
          have HC112 := Aside0.mk H
          clear H
          go_upto_if 284 with (fail)
          refine cutF mk0 [none, none, none, none, some 4, none, none, none, none, none, none, none, none, none, none, none, none, none, none, none, none, none, none, none, none, none, none, none, none, none, none, none, none, none, some 34, some 35, some 36, some 37, some 38, some 39, some 40, some 41] (fun u_ wc => ∃ (kq : Nat), Aside0 (laws_FnPatternsOpen.j10 kq l1 = some r) ∧ Aside0 (kq ≤ kj102) ∧ Aside0 (Below w.heap.size w wc)) ?_ ?_
          ·
            intro J_ K_ hJ_ hK_
            have H := HC112.out
            clear HC112
            by_cases c113 : t384 = true
            ·
             subst c113
             have H1 : ((impl_IsOpen.f kj102 t383).bind fun bt392 => (if 0 ≤ (wrap64 (t382 - 1)) then (if (wrap64 (t382 - 1)) < (t383.length : Int) then (if bt392.2 = true then (if bt392.1 = true then (laws_FnPatternsOpen.j8 kj102 l1 t382 t383 (rd t383 (wrap64 (t382 - 1))) ((t383.length : Int) != t382)) else (laws_FnPatternsOpen.j8 kj102 l1 t382 t383 (rd t383 (wrap64 (t382 - 1))) true)) else (laws_FnPatternsOpen.j8 kj102 l1 t382 t383 (rd t383 (wrap64 (t382 - 1))) true)) else (none)) else (none))) = some r := by rw [if_pos rfl] at H; exact H
             clear H
             have H := H1
             clear H1
             replace H := Option.bind_eq_some_iff.mp H
             obtain ⟨⟨t392, t393⟩, A1140, H⟩ := H
             replace H : (if 0 ≤ (wrap64 (t382 - 1)) then (if (wrap64 (t382 - 1)) < (t383.length : Int) then (if t393 = true then (if t392 = true then (laws_FnPatternsOpen.j8 kj102 l1 t382 t383 (rd t383 (wrap64 (t382 - 1))) ((t383.length : Int) != t382)) else (laws_FnPatternsOpen.j8 kj102 l1 t382 t383 (rd t383 (wrap64 (t382 - 1))) true)) else (laws_FnPatternsOpen.j8 kj102 l1 t382 t383 (rd t383 (wrap64 (t382 - 1))) true)) else (none)) else (none)) = some r := H
             have A114 := Aside0.mk A1140
             clear A1140
             obtain ⟨ji115, hji115⟩ : ∃ j_ : Int, (wrap64 (t382 - 1)) = j_ := ⟨_, rfl⟩
             replace H : (if 0 ≤ (ji115) then (if (ji115) < (t383.length : Int) then (if t393 = true then (if t392 = true then (laws_FnPatternsOpen.j8 kj102 l1 t382 t383 (rd t383 (ji115)) ((t383.length : Int) != t382)) else (laws_FnPatternsOpen.j8 kj102 l1 t382 t383 (rd t383 (ji115)) true)) else (laws_FnPatternsOpen.j8 kj102 l1 t382 t383 (rd t383 (ji115)) true)) else (none)) else (none)) = some r := by first | (rw [hji115] at H; exact H) | (simp only [hji115] at H ⊢; exact H)
             (try rw [hji115] at A114)
             have hji115w : (IntKind.i64.wrap (t382 - 1)) = ji115 := (i64_w _).trans hji115
             by_cases c116 : 0 ≤ (ji115)
             ·
              rw [if_pos c116] at H
              have c116b0 : decide (0 ≤ (ji115)) = true := decide_eq_true c116
              clear c116
              (first | rw [c116b0] | (simp only [i64_w, i32_w]; rw [c116b0]) | skip)
              by_cases c117 : (ji115) < (t383.length : Int)
              ·
               rw [if_pos c117] at H
               have c117b0 : decide ((ji115) < (t383.length : Int)) = true := decide_eq_true c117
               clear c117
               have HC118 := Aside0.mk H
               clear H
               obtain ⟨Ao119, co119, eo119⟩ := Kd.R_slice HO_30.out
               subst eo119
               go_upto_region 42 with (first | ((with_reducible refine gate_callee (f := 5) rfl ?_); refine goesL_ (some 287) rfl rfl Try.func5 (by kernel_rfl) rfl #[.slice Ao119 t383.length co119] rfl (by (try simp only [List.map_toArray, List.map_cons, List.map_nil]); first | done | rfl | (simp only [List.length_drop, List.length_take]; rfl)) ?_; (with_reducible refine (impl_IsOpen.calls kj102 _ _ t383 t392 t393 _ ?side1 ?side2 A114.out).mono ?_); (case side1 => repeat (first | exact (Kd.R_reads' HO_30.out).2.2 | (with_reducible refine Kd.C_alloc ?_ _) | (with_reducible refine Kd.C_drewN ?_ _) | (with_reducible refine Kd.C_drew ?_))); (case side2 => exact (Kd.R_reads' HO_30.out).2.1); rintro e w120 ⟨rfl, hb⟩; refine ⟨_, rfl, ?_⟩; have n0_ := Aside0.mk (Kd.R_below (by (with_reducible repeat (first | apply Kd.R_alloc | apply Kd.R_drewN | apply Kd.R_drew)); exact HO_30.out) hb); have n1_ := Aside0.mk (below_step (by repeat (first | (with_reducible first | exact HB.out | apply below_alloc | apply pw_below_drewN | apply below_drew1))) hb); clear HO_30; clear HB; have HO_30 := n0_; have HB := n1_; clear n0_ n1_; (try clear hb); have p394 : 0 ≤ ((ji115) : Int) := of_decide_eq_true (by first | (with_reducible assumption) | assumption); have q394 : (ji115) < (t383.length : Int) := of_decide_eq_true (by first | (with_reducible assumption) | assumption); obtain ⟨ad394, e394, hx394_0⟩ := Kd.at_int (Kd.R_reads' HO_30.out).2.2 (ji115) p394 q394; cases e394; replace p394 := eq_true p394; replace q394 := eq_true q394))
               (try simp only [Act.put, List.setIfInBounds_toArray, List.set_cons_zero, List.set_cons_succ])
               refine cutF mk0 [] (fun u_ wc => ∃ (kq : Nat) (x306_117 : Bool), (u_ 306) = .bool x306_117 ∧ Aside0 (laws_FnPatternsOpen.j8 kq l1 t382 t383 (rd t383 (ji115)) x306_117 = some r) ∧ Aside0 (kq ≤ kj102) ∧ Aside0 (Kd.R (Kd.int .i64) 3 wc w.heap.size (fun _ => True) (.slice (some ad394) t383.length co119) t383) ∧ Aside0 (Below w.heap.size w wc)) ?_ ?_
               ·
                as_aux_lemma =>
                 intro J_ K_ hJ_ hK_
                 have H := HC118.out
                 clear HC118
                 by_cases c121 : t393 = true
                 ·
                  subst c121
                  have H1 : (if t392 = true then (laws_FnPatternsOpen.j8 kj102 l1 t382 t383 (rd t383 (ji115)) ((t383.length : Int) != t382)) else (laws_FnPatternsOpen.j8 kj102 l1 t382 t383 (rd t383 (ji115)) true)) = some r := by rw [if_pos rfl] at H; exact H
                  clear H
                  have H := H1
                  clear H1
                  by_cases c122 : t392 = true
                  ·
                   subst c122
                   have H1 : (laws_FnPatternsOpen.j8 kj102 l1 t382 t383 (rd t383 (ji115)) ((t383.length : Int) != t382)) = some r := by rw [if_pos rfl] at H; exact H
                   clear H
                   have H := H1
                   clear H1
                   have H' := Aside0.mk H
                   clear H
                   go_wp2
                   refine cutMeet hJ_ ?_ (by kernel_rfl)
                   exact ⟨_, (((t383.length : Int) != t382)), (by first | rfl | (simp; done) | (simp [*]; done)), H', ⟨by have := HJ11.out; have := HJ50.out; have := HJ102.out; first | omega | exact Nat.le_refl _⟩, ⟨by (with_reducible repeat (first | apply Kd.R_alloc | apply Kd.R_drewN | apply Kd.R_drew)); exact HO_30.out⟩, ⟨by repeat (first | (with_reducible first | exact HB.out | apply below_alloc | apply pw_below_drewN | apply below_drew1))⟩⟩
                  ·
                   replace c122 := Bool.eq_false_iff.mpr c122
                   subst c122
                   have H1 : (laws_FnPatternsOpen.j8 kj102 l1 t382 t383 (rd t383 (ji115)) true) = some r := by rw [if_neg (show ¬ (false = true) by decide)] at H; exact H
                   clear H
                   have H := H1
                   clear H1
                   exact (laws_FnPatternsOpen.j8_no _ _ _ _ _ (H.trans (congrArg some HRT.out))).elim
                 ·
                  replace c121 := Bool.eq_false_iff.mpr c121
                  subst c121
                  have H1 : (laws_FnPatternsOpen.j8 kj102 l1 t382 t383 (rd t383 (ji115)) true) = some r := by rw [if_neg (show ¬ (false = true) by decide)] at H; exact H
                  clear H
                  have H := H1
                  clear H1
                  exact (laws_FnPatternsOpen.j8_no _ _ _ _ _ (H.trans (congrArg some HRT.out))).elim
               ·
                as_aux_lemma =>
                 intro u_ wc hcut
                 clear HC118
                 obtain ⟨kq, x306_117, e_306, HA, HJ117, HO_30, HB⟩ := hcut
                 dsimp only [cutFgt, mk0]
                 rw [e_306]
                 cases kq with
                 | zero => exact absurd HA.out (by simp [laws_FnPatternsOpen.j8])
                 | succ kj117 =>
                  have H := HA.out
                  clear HA
                  simp only [laws_FnPatternsOpen.j8] at H
                  by_cases c123 : x306_117 = true
                  ·
                   subst c123
                   have H1 : (some false) = some r := by rw [if_pos rfl] at H; exact H
                   clear H
                   have H := H1
                   clear H1
                   exact absurd (Option.some.inj (H.trans (congrArg some HRT.out))) Bool.false_ne_true
                  ·
                   replace c123 := Bool.eq_false_iff.mpr c123
                   subst c123
                   have H1 : (laws_FnPatternsOpen.l2 kj117 l1 t382 t383 (rd t383 (ji115)) 0) = some r := by rw [if_neg (show ¬ (false = true) by decide)] at H; exact H
                   clear H
                   have H := H1
                   clear H1
                   have H' := Aside0.mk H
                   clear H
                   go_wp2
                   go_loopg [37] kj117 (fun kq v37 w' => ∃ (x37_5 : Int), v37 = .int .i64 x37_5 ∧ Aside0 (laws_FnPatternsOpen.l2 kq l1 t382 t383 (rd t383 (ji115)) x37_5 = some r) ∧ Aside0 (kq ≤ kj117) ∧ Aside0 (Kd.R (Kd.int .i64) 3 w' w.heap.size (fun _ => True) (.slice (some ad394) t383.length co119) t383) ∧ Aside0 (Below w.heap.size w w'))
                   case atStart => exact ⟨(0), (by first | rfl | (simp; done) | (simp [*]; done)), H', ⟨Nat.le_refl _⟩, ⟨by (with_reducible repeat (first | apply Kd.R_alloc | apply Kd.R_drewN | apply Kd.R_drew)); exact HO_30.out⟩, ⟨by repeat (first | (with_reducible first | exact HB.out | apply below_alloc | apply pw_below_drewN | apply below_drew1))⟩⟩
                   case round =>
                    clear H'
                    obtain ⟨x37_5, rfl, HA, HK5, HO_30, HB⟩ := hrel
                    cases gk with
                    | zero => exact absurd HA.out (by simp [laws_FnPatternsOpen.l2])
                    | succ k5 =>
                     have H := HA.out
                     clear HA
                     simp only [laws_FnPatternsOpen.l2] at H
                     by_cases c124 : x37_5 < (rd t383 (ji115))
                     ·
                      rw [if_pos c124] at H
                      have c124b0 : decide (x37_5 < (rd t383 (ji115))) = true := decide_eq_true c124
                      clear c124
                      replace H := Option.bind_eq_some_iff.mp H
                      obtain ⟨⟨t395, t396⟩, A1250, H⟩ := H
                      replace H : (if t396 = true then (if t395 = 0 then (laws_FnPatternsOpen.l2 k5 l1 t382 t383 (rd t383 (ji115)) (wrap64 (x37_5 + 1))) else (some false)) else (some false)) = some r := H
                      have A125 := Aside0.mk A1250
                      clear A1250
                      by_cases c126 : t396 = true
                      ·
                       subst c126
                       have H1 : (if t395 = 0 then (laws_FnPatternsOpen.l2 k5 l1 t382 t383 (rd t383 (ji115)) (wrap64 (x37_5 + 1))) else (some false)) = some r := by rw [if_pos rfl] at H; exact H
                       clear H
                       have H := H1
                       clear H1
                       by_cases c127 : t395 = 0
                       ·
                        rw [if_pos c127] at H
                        have c127b0 : (t395 == 0) = true := beq_iff_eq.mpr c127
                        have c127b1 : (t395 != 0) = false := bne_eq_false_iff_eq.mpr c127
                        clear c127
                        have H' := Aside0.mk H
                        clear H
                        go_wp2_with (first | ((with_reducible refine gate_callee (f := 19) rfl ?_); refine goesL_ (some 315) rfl rfl Try.func19 (by kernel_rfl) rfl #[.int .i64 t382, .int .i64 x37_5] rfl (by (try simp only [List.map_toArray, List.map_cons, List.map_nil]); first | done | rfl | (simp only [List.length_drop, List.length_take]; rfl)) ?_; (with_reducible refine (impl_CountOpen.calls k5 t382 x37_5 t395 true _ A125.out).mono ?_); rintro e w128 ⟨rfl, hb⟩; refine ⟨_, rfl, ?_⟩; have n0_ := Aside0.mk (Kd.R_below (by (with_reducible repeat (first | apply Kd.R_alloc | apply Kd.R_drewN | apply Kd.R_drew)); exact HO_30.out) hb); have n1_ := Aside0.mk (below_step (by repeat (first | (with_reducible first | exact HB.out | apply below_alloc | apply pw_below_drewN | apply below_drew1))) hb); clear HO_30; clear HB; have HO_30 := n0_; have HB := n1_; clear n0_ n1_; (try clear hb)))
                        go_roundg k5
                        case measure => have := HJ11.out; have := HJ50.out; have := HJ102.out; have := HJ117.out; have := HK5.out; omega
                        case rel => exact ⟨(wrap64 (x37_5 + 1)), (by first | rfl | (simp; done) | (simp [*]; done)), H', ⟨by have := HJ11.out; have := HJ50.out; have := HJ102.out; have := HJ117.out; have := HK5.out; omega⟩, ⟨by (with_reducible repeat (first | apply Kd.R_alloc | apply Kd.R_drewN | apply Kd.R_drew)); exact HO_30.out⟩, ⟨by repeat (first | (with_reducible first | exact HB.out | apply below_alloc | apply pw_below_drewN | apply below_drew1))⟩⟩
                       ·
                        rw [if_neg c127] at H
                        have c127b0 : (t395 == 0) = false := beq_eq_false_iff_ne.mpr c127
                        have c127b1 : (t395 != 0) = true := bne_iff_ne.mpr c127
                        exact absurd (Option.some.inj (H.trans (congrArg some HRT.out))) Bool.false_ne_true
                      ·
                       replace c126 := Bool.eq_false_iff.mpr c126
                       subst c126
                       have H1 : (some false) = some r := by rw [if_neg (show ¬ (false = true) by decide)] at H; exact H
                       clear H
                       have H := H1
                       clear H1
                       exact absurd (Option.some.inj (H.trans (congrArg some HRT.out))) Bool.false_ne_true
                     ·
                      rw [if_neg c124] at H
                      have c124b0 : decide (x37_5 < (rd t383 (ji115))) = false := decide_eq_false c124
                      clear c124
                      replace H := Option.bind_eq_some_iff.mp H
                      obtain ⟨⟨t397, t398⟩, A1310, H⟩ := H
                      replace H : (if t398 = true then (if (t397.length : Int) < 1 then (some false) else (if 0 < (t397.length : Int) then ((laws_tSame.f k5 (rd_L1 t397 0) t383).bind fun t402 => (if t402 = true then (laws_FnPatternsOpen.j10 k5 l1) else (some false))) else (none))) else (some false)) = some r := H
                      have A131 := Aside0.mk A1310
                      clear A1310
                      by_cases c132 : t398 = true
                      ·
                       subst c132
                       have H1 : (if (t397.length : Int) < 1 then (some false) else (if 0 < (t397.length : Int) then ((laws_tSame.f k5 (rd_L1 t397 0) t383).bind fun t402 => (if t402 = true then (laws_FnPatternsOpen.j10 k5 l1) else (some false))) else (none))) = some r := by rw [if_pos rfl] at H; exact H
                       clear H
                       have H := H1
                       clear H1
                       by_cases c133 : (t397.length : Int) < 1
                       ·
                        rw [if_pos c133] at H
                        have c133b0 : decide ((t397.length : Int) < 1) = true := decide_eq_true c133
                        have c133b1 : decide (t397.length < 1) = true := decide_eq_true (by omega)
                        clear c133
                        exact absurd (Option.some.inj (H.trans (congrArg some HRT.out))) Bool.false_ne_true
                       ·
                        rw [if_neg c133] at H
                        have c133b0 : decide ((t397.length : Int) < 1) = false := decide_eq_false c133
                        have c133b1 : decide (t397.length < 1) = false := decide_eq_false (by omega)
                        clear c133
                        by_cases c136 : 0 < (t397.length : Int)
                        ·
                         rw [if_pos c136] at H
                         have c136b0 : decide (0 < (t397.length : Int)) = true := decide_eq_true c136
                         have c136b1 : decide (0 < t397.length) = true := decide_eq_true (by omega)
                         clear c136
                         replace H := Option.bind_eq_some_iff.mp H
                         obtain ⟨t402, A1370, H⟩ := H
                         replace H : (if t402 = true then (laws_FnPatternsOpen.j10 k5 l1) else (some false)) = some r := H
                         have A137 := Aside0.mk A1370
                         clear A1370
                         by_cases c138 : t402 = true
                         ·
                          subst c138
                          have H1 : (laws_FnPatternsOpen.j10 k5 l1) = some r := by rw [if_pos rfl] at H; exact H
                          clear H
                          have H := H1
                          clear H1
                          have H' := Aside0.mk H
                          clear H
                          go_wp2_with (first | ((with_reducible refine gate_callee (f := 20) rfl ?_); refine goesL_ (some 327) rfl rfl Try.func20 (by kernel_rfl) rfl #[.int .i64 t382, .int .i64 (rd t383 (ji115))] rfl (by (try simp only [List.map_toArray, List.map_cons, List.map_nil]); first | done | (simp only [hji115]; rfl) | rfl | (simp only [List.length_drop, List.length_take]; rfl)) ?_; (with_reducible refine (impl_AllOpen.calls k5 t382 (rd t383 (ji115)) t397 true _ A131.out).mono ?_); rintro e w139 ⟨v399, rfl, ho0, hb⟩; refine ⟨_, rfl, ?_⟩; have n0_ := Aside0.mk (Kd.R_below (by (with_reducible repeat (first | apply Kd.R_alloc | apply Kd.R_drewN | apply Kd.R_drew)); exact HO_30.out) hb); have n1_ := Aside0.mk (Kd.S_lower (Kd.S_new' ho0 (Kd.R_lt (by (with_reducible repeat (first | apply Kd.R_alloc | apply Kd.R_drewN | apply Kd.R_drew)); exact HO_30.out))) (below_size (by repeat (first | (with_reducible first | exact HB.out | apply below_alloc | apply pw_below_drewN | apply below_drew1))))); have n2_ := Aside0.mk (below_step (by repeat (first | (with_reducible first | exact HB.out | apply below_alloc | apply pw_below_drewN | apply below_drew1))) hb); clear HO_30; clear HB; have HO_30 := n0_; have HO400 := n1_; have HB := n2_; clear n0_ n1_ n2_; (try clear hb); (try clear ho0); obtain ⟨Ao140, co140, eo140⟩ := Kd.S_slice HO400.out; subst eo140; have p401 : 0 ≤ (0 : Int) := (by omega); have q401 : 0 < (t397.length : Int) := of_decide_eq_true (by first | (with_reducible assumption) | assumption); obtain ⟨ad401, A401_0, c401_0, e401, hx401_0, hl401_0, hi401_0⟩ := at_L1 (Kd.S_reads' HO400.out).2.2 0 p401 q401; cases e401; obtain ⟨ce401, hce401, hMe401, hcc401⟩ := Kd.S_get HO400.out [] 0 p401 (by first | exact q401 | exact of_decide_eq_true (by first | (with_reducible assumption) | assumption) | (have e_ := (Kd.S_reads' HO400.out).1; omega)); obtain ⟨ve401_0, rfl, ge401_0⟩ := hMe401; have hv401_0 := hcc401 0 _ rfl; rw [Nat.add_zero, show ((Kd.slice 3 (Kd.int .i64))).sz = 1 from rfl, Nat.mul_one] at hv401_0; replace hv401_0 := Option.some.inj (hv401_0.symm.trans hx401_0); rw [hv401_0] at ge401_0; have HL401_0 := Aside0.mk (show Kd.R (Kd.int .i64) 3 _ _ _ _ (rd_L1 t397 0) from ge401_0); clear hv401_0 ge401_0; clear hcc401 hce401; have qi401 : (0 < t397.length) = True := eq_true (by omega); (try rw [show ((0 : Int)).toNat = 0 from rfl] at hx401_0); (try rw [Addr.add_zero'] at hx401_0); have HR401_0 := Aside0.mk hi401_0; have HC401_0 := Aside0.mk hl401_0; clear hi401_0 hl401_0; replace p401 := eq_true p401; replace q401 := eq_true q401) | (go_at_call 11; (with_reducible refine (laws_tSame.calls k5 _ _ (rd_L1 t397 0) _ _ t383 true _ ?side1 ?side2 ?side3 ?side4 A137.out).mono ?_); (case side1 => repeat (first | exact (by repeat (first | (with_reducible exact HR401_0.out) | (with_reducible refine Kd.C_alloc ?_ _) | (with_reducible refine Kd.C_drewN ?_ _) | (with_reducible refine Kd.C_drew ?_) | exact HR401_0.out)) | (with_reducible refine Kd.C_alloc ?_ _) | (with_reducible refine Kd.C_drewN ?_ _) | (with_reducible refine Kd.C_drew ?_))); (case side2 => exact HC401_0.out); (case side3 => repeat (first | exact (Kd.R_reads' HO_30.out).2.2 | (with_reducible refine Kd.C_alloc ?_ _) | (with_reducible refine Kd.C_drewN ?_ _) | (with_reducible refine Kd.C_drew ?_))); (case side4 => exact (Kd.R_reads' HO_30.out).2.1); rintro e w' ⟨rfl, ⟨nd, rfl⟩⟩))
                          refine cutMeet hJ_ ?_ (by kernel_rfl)
                          exact ⟨_, H', ⟨by have := HJ11.out; have := HJ50.out; have := HJ102.out; have := HJ117.out; have := HK5.out; first | omega | exact Nat.le_refl _⟩, ⟨by repeat (first | (with_reducible first | exact HB.out | apply below_alloc | apply pw_below_drewN | apply below_drew1))⟩⟩
                         ·
                          replace c138 := Bool.eq_false_iff.mpr c138
                          subst c138
                          have H1 : (some false) = some r := by rw [if_neg (show ¬ (false = true) by decide)] at H; exact H
                          clear H
                          have H := H1
                          clear H1
                          exact absurd (Option.some.inj (H.trans (congrArg some HRT.out))) Bool.false_ne_true
                        ·
                         rw [if_neg c136] at H
                         exact absurd H (by simp)
                      ·
                       replace c132 := Bool.eq_false_iff.mpr c132
                       subst c132
                       have H1 : (some false) = some r := by rw [if_neg (show ¬ (false = true) by decide)] at H; exact H
                       clear H
                       have H := H1
                       clear H1
                       exact absurd (Option.some.inj (H.trans (congrArg some HRT.out))) Bool.false_ne_true
              ·
               rw [if_neg c117] at H
               exact absurd H (by simp)
             ·
              rw [if_neg c116] at H
              exact absurd H (by simp)
            ·
             replace c113 := Bool.eq_false_iff.mpr c113
             subst c113
             have H1 : (laws_FnPatternsOpen.j10 kj102 l1) = some r := by rw [if_neg (show ¬ (false = true) by decide)] at H; exact H
             clear H
             have H := H1
             clear H1
             have H' := Aside0.mk H
             clear H
             go_wp2
             refine cutMeet hJ_ ?_ (by kernel_rfl)
             exact ⟨_, H', ⟨by have := HJ11.out; have := HJ50.out; have := HJ102.out; first | omega | exact Nat.le_refl _⟩, ⟨by repeat (first | (with_reducible first | exact HB.out | apply below_alloc | apply pw_below_drewN | apply below_drew1))⟩⟩
          ·
           intro u_ wc hcut
           clear HC112
           obtain ⟨kq, HA, HJ111, HB⟩ := hcut
           dsimp only [cutFgt, mk0]
           cases kq with
           | zero => exact absurd HA.out (by simp [laws_FnPatternsOpen.j10])
           | succ kj111 =>
            have H := HA.out
            clear HA
            simp only [laws_FnPatternsOpen.j10] at H
            replace H := Option.bind_eq_some_iff.mp H
            obtain ⟨⟨t403, t404⟩, A1440, H⟩ := H
            replace H : ((impl_AllOpen.f kj111 t403 t404).bind fun bt405 => ((spec_AllOpen.f kj111 t403 t404).bind fun bt409 => ((impl_CountOpen.f kj111 t403 t404).bind fun bt413 => ((spec_CountOpen.f kj111 t403 t404).bind fun bt415 => (if (bt405.2 != bt409.2) = true then (laws_FnPatternsOpen.j11 kj111 l1 t403 t404 bt405.1 bt405.2 bt413.1 true) else ((laws_tRows.f kj111 bt405.1 bt409.1).bind fun t417 => (if t417 = true then (if (bt413.2 != bt415.2) = true then (laws_FnPatternsOpen.j11 kj111 l1 t403 t404 bt405.1 bt405.2 bt413.1 true) else (if bt413.1 = bt415.1 then (if bt413.2 = true then (laws_FnPatternsOpen.j11 kj111 l1 t403 t404 bt405.1 bt405.2 bt413.1 (bt405.2 != (decide (bt413.1 ≤ 300)))) else (laws_FnPatternsOpen.j11 kj111 l1 t403 t404 bt405.1 bt405.2 bt413.1 (bt405.2 != false))) else (laws_FnPatternsOpen.j11 kj111 l1 t403 t404 bt405.1 bt405.2 bt413.1 true))) else (laws_FnPatternsOpen.j11 kj111 l1 t403 t404 bt405.1 bt405.2 bt413.1 true)))))))) = some r := H
            have A144 := Aside0.mk A1440
            clear A1440
            replace H := Option.bind_eq_some_iff.mp H
            obtain ⟨⟨t405, t406⟩, A1450, H⟩ := H
            replace H : ((spec_AllOpen.f kj111 t403 t404).bind fun bt409 => ((impl_CountOpen.f kj111 t403 t404).bind fun bt413 => ((spec_CountOpen.f kj111 t403 t404).bind fun bt415 => (if (t406 != bt409.2) = true then (laws_FnPatternsOpen.j11 kj111 l1 t403 t404 t405 t406 bt413.1 true) else ((laws_tRows.f kj111 t405 bt409.1).bind fun t417 => (if t417 = true then (if (bt413.2 != bt415.2) = true then (laws_FnPatternsOpen.j11 kj111 l1 t403 t404 t405 t406 bt413.1 true) else (if bt413.1 = bt415.1 then (if bt413.2 = true then (laws_FnPatternsOpen.j11 kj111 l1 t403 t404 t405 t406 bt413.1 (t406 != (decide (bt413.1 ≤ 300)))) else (laws_FnPatternsOpen.j11 kj111 l1 t403 t404 t405 t406 bt413.1 (t406 != false))) else (laws_FnPatternsOpen.j11 kj111 l1 t403 t404 t405 t406 bt413.1 true))) else (laws_FnPatternsOpen.j11 kj111 l1 t403 t404 t405 t406 bt413.1 true))))))) = some r := H
            have A145 := Aside0.mk A1450
            clear A1450
            replace H := Option.bind_eq_some_iff.mp H
            obtain ⟨⟨t409, t410⟩, A1460, H⟩ := H
            replace H : ((impl_CountOpen.f kj111 t403 t404).bind fun bt413 => ((spec_CountOpen.f kj111 t403 t404).bind fun bt415 => (if (t406 != t410) = true then (laws_FnPatternsOpen.j11 kj111 l1 t403 t404 t405 t406 bt413.1 true) else ((laws_tRows.f kj111 t405 t409).bind fun t417 => (if t417 = true then (if (bt413.2 != bt415.2) = true then (laws_FnPatternsOpen.j11 kj111 l1 t403 t404 t405 t406 bt413.1 true) else (if bt413.1 = bt415.1 then (if bt413.2 = true then (laws_FnPatternsOpen.j11 kj111 l1 t403 t404 t405 t406 bt413.1 (t406 != (decide (bt413.1 ≤ 300)))) else (laws_FnPatternsOpen.j11 kj111 l1 t403 t404 t405 t406 bt413.1 (t406 != false))) else (laws_FnPatternsOpen.j11 kj111 l1 t403 t404 t405 t406 bt413.1 true))) else (laws_FnPatternsOpen.j11 kj111 l1 t403 t404 t405 t406 bt413.1 true)))))) = some r := H
            have A146 := Aside0.mk A1460
            clear A1460
            replace H := Option.bind_eq_some_iff.mp H
            obtain ⟨⟨t413, t414⟩, A1470, H⟩ := H
            replace H : ((spec_CountOpen.f kj111 t403 t404).bind fun bt415 => (if (t406 != t410) = true then (laws_FnPatternsOpen.j11 kj111 l1 t403 t404 t405 t406 t413 true) else ((laws_tRows.f kj111 t405 t409).bind fun t417 => (if t417 = true then (if (t414 != bt415.2) = true then (laws_FnPatternsOpen.j11 kj111 l1 t403 t404 t405 t406 t413 true) else (if t413 = bt415.1 then (if t414 = true then (laws_FnPatternsOpen.j11 kj111 l1 t403 t404 t405 t406 t413 (t406 != (decide (t413 ≤ 300)))) else (laws_FnPatternsOpen.j11 kj111 l1 t403 t404 t405 t406 t413 (t406 != false))) else (laws_FnPatternsOpen.j11 kj111 l1 t403 t404 t405 t406 t413 true))) else (laws_FnPatternsOpen.j11 kj111 l1 t403 t404 t405 t406 t413 true))))) = some r := H
            have A147 := Aside0.mk A1470
            clear A1470
            replace H := Option.bind_eq_some_iff.mp H
            obtain ⟨⟨t415, t416⟩, A1480, H⟩ := H
            replace H : (if (t406 != t410) = true then (laws_FnPatternsOpen.j11 kj111 l1 t403 t404 t405 t406 t413 true) else ((laws_tRows.f kj111 t405 t409).bind fun t417 => (if t417 = true then (if (t414 != t416) = true then (laws_FnPatternsOpen.j11 kj111 l1 t403 t404 t405 t406 t413 true) else (if t413 = t415 then (if t414 = true then (laws_FnPatternsOpen.j11 kj111 l1 t403 t404 t405 t406 t413 (t406 != (decide (t413 ≤ 300)))) else (laws_FnPatternsOpen.j11 kj111 l1 t403 t404 t405 t406 t413 (t406 != false))) else (laws_FnPatternsOpen.j11 kj111 l1 t403 t404 t405 t406 t413 true))) else (laws_FnPatternsOpen.j11 kj111 l1 t403 t404 t405 t406 t413 true)))) = some r := H
            have A148 := Aside0.mk A1480
            clear A1480
            have HC149 := Aside0.mk H
            clear H
            go_upto_region 58 with (first | ((with_reducible refine gate_callee (f := 30) rfl ?_); refine goesL_ (some 347) rfl rfl Try.func30 (by kernel_rfl) rfl #[.slice A1 l1.length c1] rfl (by (try simp only [List.map_toArray, List.map_cons, List.map_nil]); first | done | rfl | (simp only [List.length_drop, List.length_take]; rfl)) ?_; (with_reducible refine (spec_DrawAllOpen.calls _ _ l1 t403 t404 _ ?side1 ?side2 A144.out).mono ?_); (case side1 => repeat (first | exact (Kd.C_below HR1.out HB.out) | (with_reducible refine Kd.C_alloc ?_ _) | (with_reducible refine Kd.C_drewN ?_ _) | (with_reducible refine Kd.C_drew ?_))); (case side2 => exact HC1.out); rintro e w150 ⟨rfl, hb⟩; refine ⟨_, rfl, ?_⟩; have n0_ := Aside0.mk (below_step (by repeat (first | (with_reducible first | exact HB.out | apply below_alloc | apply pw_below_drewN | apply below_drew1))) hb); clear HB; have HB := n0_; clear n0_; (try clear hb)) | ((with_reducible refine gate_callee (f := 20) rfl ?_); refine goesL_ (some 353) rfl rfl Try.func20 (by kernel_rfl) rfl #[.int .i64 t403, .int .i64 t404] rfl (by (try simp only [List.map_toArray, List.map_cons, List.map_nil]); first | done | rfl | (simp only [List.length_drop, List.length_take]; rfl)) ?_; (with_reducible refine (impl_AllOpen.calls kj111 t403 t404 t405 t406 _ A145.out).mono ?_); rintro e w151 ⟨v407, rfl, ho0, hb⟩; refine ⟨_, rfl, ?_⟩; have n0_ := Aside0.mk (Kd.S_lower ho0 (below_size (by repeat (first | (with_reducible first | exact HB.out | apply below_alloc | apply pw_below_drewN | apply below_drew1))))); have n1_ := Aside0.mk (below_step (by repeat (first | (with_reducible first | exact HB.out | apply below_alloc | apply pw_below_drewN | apply below_drew1))) hb); clear HB; have HO408 := n0_; have HB := n1_; clear n0_ n1_; (try clear hb); (try clear ho0)) | ((with_reducible refine gate_callee (f := 21) rfl ?_); refine goesL_ (some 359) rfl rfl Try.func21 (by kernel_rfl) rfl #[.int .i64 t403, .int .i64 t404] rfl (by (try simp only [List.map_toArray, List.map_cons, List.map_nil]); first | done | rfl | (simp only [List.length_drop, List.length_take]; rfl)) ?_; (with_reducible refine (spec_AllOpen.calls kj111 t403 t404 t409 t410 _ A146.out).mono ?_); rintro e w152 ⟨v411, rfl, ho0, hb⟩; refine ⟨_, rfl, ?_⟩; have n0_ := Aside0.mk (Kd.S_elder' (by (with_reducible repeat (first | apply Kd.S_alloc | apply Kd.S_drewN | apply Kd.S_drew)); exact HO408.out) (Kd.S_base ho0) hb); have n1_ := Aside0.mk (Kd.S_lower (Kd.S_new' ho0 (Kd.S_lt (by (with_reducible repeat (first | apply Kd.S_alloc | apply Kd.S_drewN | apply Kd.S_drew)); exact HO408.out))) (below_size (by repeat (first | (with_reducible first | exact HB.out | apply below_alloc | apply pw_below_drewN | apply below_drew1))))); have n2_ := Aside0.mk (below_step (by repeat (first | (with_reducible first | exact HB.out | apply below_alloc | apply pw_below_drewN | apply below_drew1))) hb); clear HO408; clear HB; have HO408 := n0_; have HO412 := n1_; have HB := n2_; clear n0_ n1_ n2_; (try clear hb); (try clear ho0)) | ((with_reducible refine gate_callee (f := 19) rfl ?_); refine goesL_ (some 365) rfl rfl Try.func19 (by kernel_rfl) rfl #[.int .i64 t403, .int .i64 t404] rfl (by (try simp only [List.map_toArray, List.map_cons, List.map_nil]); first | done | rfl | (simp only [List.length_drop, List.length_take]; rfl)) ?_; (with_reducible refine (impl_CountOpen.calls kj111 t403 t404 t413 t414 _ A147.out).mono ?_); rintro e w153 ⟨rfl, hb⟩; refine ⟨_, rfl, ?_⟩; have n0_ := Aside0.mk (Kd.S_below (by (with_reducible repeat (first | apply Kd.S_alloc | apply Kd.S_drewN | apply Kd.S_drew)); exact HO408.out) hb); have n1_ := Aside0.mk (Kd.S_below (by (with_reducible repeat (first | apply Kd.S_alloc | apply Kd.S_drewN | apply Kd.S_drew)); exact HO412.out) hb); have n2_ := Aside0.mk (below_step (by repeat (first | (with_reducible first | exact HB.out | apply below_alloc | apply pw_below_drewN | apply below_drew1))) hb); clear HO408; clear HO412; clear HB; have HO408 := n0_; have HO412 := n1_; have HB := n2_; clear n0_ n1_ n2_; (try clear hb)) | ((with_reducible refine gate_callee (f := 22) rfl ?_); refine goesL_ (some 371) rfl rfl Try.func22 (by kernel_rfl) rfl #[.int .i64 t403, .int .i64 t404] rfl (by (try simp only [List.map_toArray, List.map_cons, List.map_nil]); first | done | rfl | (simp only [List.length_drop, List.length_take]; rfl)) ?_; (with_reducible refine (spec_CountOpen.calls kj111 t403 t404 t415 t416 _ A148.out).mono ?_); rintro e w154 ⟨rfl, hb⟩; refine ⟨_, rfl, ?_⟩; have n0_ := Aside0.mk (Kd.S_below (by (with_reducible repeat (first | apply Kd.S_alloc | apply Kd.S_drewN | apply Kd.S_drew)); exact HO408.out) hb); have n1_ := Aside0.mk (Kd.S_below (by (with_reducible repeat (first | apply Kd.S_alloc | apply Kd.S_drewN | apply Kd.S_drew)); exact HO412.out) hb); have n2_ := Aside0.mk (below_step (by repeat (first | (with_reducible first | exact HB.out | apply below_alloc | apply pw_below_drewN | apply below_drew1))) hb); clear HO408; clear HO412; clear HB; have HO408 := n0_; have HO412 := n1_; have HB := n2_; clear n0_ n1_ n2_; (try clear hb)))
            (try simp only [Act.put, List.setIfInBounds_toArray, List.set_cons_zero, List.set_cons_succ])
            refine cutF mk0 [] (fun u_ wc => ∃ (kq : Nat) (x401_148 : Bool), (u_ 401) = .bool x401_148 ∧ Aside0 (laws_FnPatternsOpen.j11 kq l1 t403 t404 t405 t406 t413 x401_148 = some r) ∧ Aside0 (kq ≤ kj111) ∧ Aside0 (Kd.S (Kd.slice 3 (Kd.int .i64)) 22 wc w.heap.size (fun _ => True) v407 t405) ∧ Aside0 (Below w.heap.size w wc)) ?_ ?_
            ·
             as_aux_lemma =>
              intro J_ K_ hJ_ hK_
              have H := HC149.out
              clear HC149
              by_cases c155 : (t406 != t410) = true
              ·
               rw [if_pos c155] at H
               exact (laws_FnPatternsOpen.j11_no _ _ _ _ _ _ _ (H.trans (congrArg some HRT.out))).elim
              ·
               rw [if_neg c155] at H
               have c155b0 : (t406 != t410) = false := by simpa using c155
               have c155q := eq_true (bne_eq_false_iff_eq.1 c155b0)
               (try (have c155b1 : decide (t406 = t410) = true := by simpa using c155))
               (try (have c155b2 : (t406 == t410) = true := by simpa using c155))
               clear c155
               (first | rw [c155b0] | (simp only [i64_w, i32_w]; rw [c155b0]) | skip)
               replace H := Option.bind_eq_some_iff.mp H
               obtain ⟨t417, A1560, H⟩ := H
               replace H : (if t417 = true then (if (t414 != t416) = true then (laws_FnPatternsOpen.j11 kj111 l1 t403 t404 t405 t406 t413 true) else (if t413 = t415 then (if t414 = true then (laws_FnPatternsOpen.j11 kj111 l1 t403 t404 t405 t406 t413 (t406 != (decide (t413 ≤ 300)))) else (laws_FnPatternsOpen.j11 kj111 l1 t403 t404 t405 t406 t413 (t406 != false))) else (laws_FnPatternsOpen.j11 kj111 l1 t403 t404 t405 t406 t413 true))) else (laws_FnPatternsOpen.j11 kj111 l1 t403 t404 t405 t406 t413 true)) = some r := H
               have A156 := Aside0.mk A1560
               clear A1560
               by_cases c157 : t417 = true
               ·
                subst c157
                have H1 : (if (t414 != t416) = true then (laws_FnPatternsOpen.j11 kj111 l1 t403 t404 t405 t406 t413 true) else (if t413 = t415 then (if t414 = true then (laws_FnPatternsOpen.j11 kj111 l1 t403 t404 t405 t406 t413 (t406 != (decide (t413 ≤ 300)))) else (laws_FnPatternsOpen.j11 kj111 l1 t403 t404 t405 t406 t413 (t406 != false))) else (laws_FnPatternsOpen.j11 kj111 l1 t403 t404 t405 t406 t413 true))) = some r := by rw [if_pos rfl] at H; exact H
                clear H
                have H := H1
                clear H1
                by_cases c158 : (t414 != t416) = true
                ·
                 rw [if_pos c158] at H
                 exact (laws_FnPatternsOpen.j11_no _ _ _ _ _ _ _ (H.trans (congrArg some HRT.out))).elim
                ·
                 rw [if_neg c158] at H
                 have c158b0 : (t414 != t416) = false := by simpa using c158
                 have c158q := eq_true (bne_eq_false_iff_eq.1 c158b0)
                 (try (have c158b1 : decide (t414 = t416) = true := by simpa using c158))
                 (try (have c158b2 : (t414 == t416) = true := by simpa using c158))
                 clear c158
                 by_cases c161 : t413 = t415
                 ·
                  rw [if_pos c161] at H
                  have c161b0 : (t413 == t415) = true := beq_iff_eq.mpr c161
                  have c161b1 : (t413 != t415) = false := bne_eq_false_iff_eq.mpr c161
                  clear c161
                  by_cases c162 : t414 = true
                  ·
                   subst c162
                   have H1 : (laws_FnPatternsOpen.j11 kj111 l1 t403 t404 t405 t406 t413 (t406 != (decide (t413 ≤ 300)))) = some r := by rw [if_pos rfl] at H; exact H
                   clear H
                   have H := H1
                   clear H1
                   have H' := Aside0.mk H
                   clear H
                   obtain ⟨Ao163, co163, eo163⟩ := Kd.S_slice HO408.out
                   subst eo163
                   obtain ⟨Ao164, co164, eo164⟩ := Kd.S_slice HO412.out
                   subst eo164
                   go_wp2_with (first | (go_at_call 23; (with_reducible refine (laws_tRows.calls kj111 _ _ t405 _ _ t409 true _ ?side1 ?side2 ?side3 ?side4 A156.out).mono ?_); (case side1 => repeat (first | exact (Kd.S_reads' HO408.out).2.2 | (with_reducible refine Kd.C_alloc ?_ _) | (with_reducible refine Kd.C_drewN ?_ _) | (with_reducible refine Kd.C_drew ?_))); (case side2 => exact (Kd.S_reads' HO408.out).2.1); (case side3 => repeat (first | exact (Kd.S_reads' HO412.out).2.2 | (with_reducible refine Kd.C_alloc ?_ _) | (with_reducible refine Kd.C_drewN ?_ _) | (with_reducible refine Kd.C_drew ?_))); (case side4 => exact (Kd.S_reads' HO412.out).2.1); rintro e w' ⟨rfl, ⟨nd, rfl⟩⟩))
                   refine cutMeet hJ_ ?_ (by kernel_rfl)
                   exact ⟨_, ((t406 != (decide (t413 ≤ 300)))), (by first | rfl | (simp; done) | (simp [*]; done)), H', ⟨by have := HJ11.out; have := HJ50.out; have := HJ102.out; have := HJ111.out; first | omega | exact Nat.le_refl _⟩, ⟨by (with_reducible repeat (first | apply Kd.S_alloc | apply Kd.S_drewN | apply Kd.S_drew)); exact Kd.S_mono HO408.out (fun _ hk => trivial)⟩, ⟨by repeat (first | (with_reducible first | exact HB.out | apply below_alloc | apply pw_below_drewN | apply below_drew1))⟩⟩
                  ·
                   replace c162 := Bool.eq_false_iff.mpr c162
                   subst c162
                   have H1 : (laws_FnPatternsOpen.j11 kj111 l1 t403 t404 t405 t406 t413 (t406 != false)) = some r := by rw [if_neg (show ¬ (false = true) by decide)] at H; exact H
                   clear H
                   have H := H1
                   clear H1
                   have H' := Aside0.mk H
                   clear H
                   obtain ⟨Ao165, co165, eo165⟩ := Kd.S_slice HO408.out
                   subst eo165
                   obtain ⟨Ao166, co166, eo166⟩ := Kd.S_slice HO412.out
                   subst eo166
                   go_wp2_with (first | (go_at_call 23; (with_reducible refine (laws_tRows.calls kj111 _ _ t405 _ _ t409 true _ ?side1 ?side2 ?side3 ?side4 A156.out).mono ?_); (case side1 => repeat (first | exact (Kd.S_reads' HO408.out).2.2 | (with_reducible refine Kd.C_alloc ?_ _) | (with_reducible refine Kd.C_drewN ?_ _) | (with_reducible refine Kd.C_drew ?_))); (case side2 => exact (Kd.S_reads' HO408.out).2.1); (case side3 => repeat (first | exact (Kd.S_reads' HO412.out).2.2 | (with_reducible refine Kd.C_alloc ?_ _) | (with_reducible refine Kd.C_drewN ?_ _) | (with_reducible refine Kd.C_drew ?_))); (case side4 => exact (Kd.S_reads' HO412.out).2.1); rintro e w' ⟨rfl, ⟨nd, rfl⟩⟩))
                   refine cutMeet hJ_ ?_ (by kernel_rfl)
                   exact ⟨_, ((t406 != false)), (by first | rfl | (simp; done) | (simp [*]; done)), H', ⟨by have := HJ11.out; have := HJ50.out; have := HJ102.out; have := HJ111.out; first | omega | exact Nat.le_refl _⟩, ⟨by (with_reducible repeat (first | apply Kd.S_alloc | apply Kd.S_drewN | apply Kd.S_drew)); exact Kd.S_mono HO408.out (fun _ hk => trivial)⟩, ⟨by repeat (first | (with_reducible first | exact HB.out | apply below_alloc | apply pw_below_drewN | apply below_drew1))⟩⟩
                 ·
                  rw [if_neg c161] at H
                  exact (laws_FnPatternsOpen.j11_no _ _ _ _ _ _ _ (H.trans (congrArg some HRT.out))).elim
               ·
                replace c157 := Bool.eq_false_iff.mpr c157
                subst c157
                have H1 : (laws_FnPatternsOpen.j11 kj111 l1 t403 t404 t405 t406 t413 true) = some r := by rw [if_neg (show ¬ (false = true) by decide)] at H; exact H
                clear H
                have H := H1
                clear H1
                exact (laws_FnPatternsOpen.j11_no _ _ _ _ _ _ _ (H.trans (congrArg some HRT.out))).elim
            ·
             intro u_ wc hcut
             clear HC149
             obtain ⟨kq, x401_148, e_401, HA, HJ148, HO_44, HB⟩ := hcut
             dsimp only [cutFgt, mk0]
             rw [e_401]
             cases kq with
             | zero => exact absurd HA.out (by simp [laws_FnPatternsOpen.j11])
             | succ kj148 =>
              have H := HA.out
              clear HA
              simp only [laws_FnPatternsOpen.j11] at H
              by_cases c171 : x401_148 = true
              ·
               subst c171
               have H1 : (some false) = some r := by rw [if_pos rfl] at H; exact H
               clear H
               have H := H1
               clear H1
               exact absurd (Option.some.inj (H.trans (congrArg some HRT.out))) Bool.false_ne_true
              ·
               replace c171 := Bool.eq_false_iff.mpr c171
               subst c171
               have H1 : (if t406 = true then (laws_FnPatternsOpen.l3 kj148 l1 t403 t404 t405 t413 t405 (t405.length : Int) 0) else (laws_FnPatternsOpen.j14 kj148 l1)) = some r := by rw [if_neg (show ¬ (false = true) by decide)] at H; exact H
               clear H
               have H := H1
               clear H1
               have HC172 := Aside0.mk H
               clear H
               go_upto_if 402 with (fail)
               refine cutF mk0 [none, none, none, none, some 4, none, none, none, none, none, none, none, none, none, none, none, none, none, none, none, none, none, none, none, none, none, none, none, none, none, none, none, none, none, none, none, none, none, none, none, none, none, none, none, none, none, none, none, none, none, none, none, none, some 53, some 54, some 55, some 56, some 57, some 58, none, some 60, none, none, none, none, none, none, none, none, none, none, none, none, none, none, none, none, none, none, none, none, none, none, none, none, none, none, none, none, none, none, none, none, none, none, none, none, none, none, none, none, none, none, none, none, none, none, none, none, none, none, none, none, none, none, none, none, none, none, none, none, none, none, none, none, none, none, none, none, none, none, none, none, none, none, none, none, none, none, none, none, none, none, none, none, none, none, none, none, none, none, none, none, none, none, none, none, none, none, none, none, none, none, none, none, none, none, none, none, none, none, none, none, none, none, none, none, none, none, none, none, none, none, none, none, none, none, none, none, none, none, none, none, none, none, none, none, none, none, none, none, none, none, none, none, none, none, none, none, none, none, none, none, none, none, none, none, none, none, none, none, none, none, none, none, none, none, none, none, none, none, none, none, none, none, none, none, none, none, none, none, none, none, none, none, none, none, none, none, none, none, none, none, none, none, none, none, none, none, none, none, none, none, none, none, none, none, none, none, none, none, none, none, none, none, none, none, none, none, none, none, none, none, none, none, none, none, none, none, none, none, none, none, none, none, none, none, none, none, none, none, none, none, none, none, none, none, none, none, none, none, none, none, none, none, none, none, none, none, none, none, none, none, none, none, none, none, none, none, none, none, none, none, none, none, none, none, none, none, none, none, none, none, none, none, none, none, none, none, none, none, none, none, none, none, none, none, none, none, none, none, none, none, none, none, none, none, none, none, none, none, none, none, none, none, none, none, none, none, none, none, none, none, none, none, none, none, none, none, none, none, none, none, none, none, none, none, none, none, none, none, none, none, some 403, some 404, some 405, none, none, none, none, none, none, none, none, none, none, none, none, none, some 419, some 420, some 421] (fun u_ wc => ∃ (kq : Nat), Aside0 (laws_FnPatternsOpen.j14 kq l1 = some r) ∧ Aside0 (kq ≤ kj148) ∧ Aside0 (Below w.heap.size w wc)) ?_ ?_
               ·
                as_aux_lemma =>
                 intro J_ K_ hJ_ hK_
                 have H := HC172.out
                 clear HC172
                 by_cases c173 : t406 = true
                 ·
                  subst c173
                  have H1 : (laws_FnPatternsOpen.l3 kj148 l1 t403 t404 t405 t413 t405 (t405.length : Int) 0) = some r := by rw [if_pos rfl] at H; exact H
                  clear H
                  have H := H1
                  clear H1
                  have H' := Aside0.mk H
                  clear H
                  obtain ⟨Ao174, co174, eo174⟩ := Kd.S_slice HO_44.out
                  subst eo174
                  go_wp2
                  go_loopg [405] kj148 (fun kq v405 w' => ∃ (x405_6 : Int), v405 = .int .i64 x405_6 ∧ Aside0 (laws_FnPatternsOpen.l3 kq l1 t403 t404 t405 t413 t405 (t405.length : Int) x405_6 = some r) ∧ Aside0 (kq ≤ kj148) ∧ Aside0 (Kd.S (Kd.slice 3 (Kd.int .i64)) 22 w' w.heap.size (fun _ => True) (.slice Ao174 t405.length co174) t405) ∧ Aside0 (Kd.S (Kd.slice 3 (Kd.int .i64)) 22 w' w.heap.size (fun _ => True) (.slice Ao174 t405.length co174) t405) ∧ Aside0 (Below w.heap.size w w'))
                  case atStart => exact ⟨(0), (by first | rfl | (simp; done) | (simp [*]; done)), H', ⟨Nat.le_refl _⟩, ⟨by (with_reducible repeat (first | apply Kd.S_alloc | apply Kd.S_drewN | apply Kd.S_drew)); exact HO_44.out⟩, ⟨by (with_reducible repeat (first | apply Kd.S_alloc | apply Kd.S_drewN | apply Kd.S_drew)); exact HO_44.out⟩, ⟨by repeat (first | (with_reducible first | exact HB.out | apply below_alloc | apply pw_below_drewN | apply below_drew1))⟩⟩
                  case round =>
                   clear H'
                   obtain ⟨x405_6, rfl, HA, HK6, HO_44, HO_403, HB⟩ := hrel
                   cases gk with
                   | zero => exact absurd HA.out (by simp [laws_FnPatternsOpen.l3])
                   | succ k6 =>
                    have H := HA.out
                    clear HA
                    simp only [laws_FnPatternsOpen.l3] at H
                    by_cases c175 : x405_6 < (t405.length : Int)
                    ·
                     rw [if_pos c175] at H
                     have c175b0 : decide (x405_6 < (t405.length : Int)) = true := decide_eq_true c175
                     clear c175
                     (first | rw [c175b0] | (simp only [i64_w, i32_w]; rw [c175b0]) | skip)
                     by_cases c176 : 0 ≤ x405_6
                     ·
                      rw [if_pos c176] at H
                      have c176b0 : decide (0 ≤ x405_6) = true := decide_eq_true c176
                      clear c176
                      by_cases c177 : x405_6 < (t405.length : Int)
                      ·
                       rw [if_pos c177] at H
                       have c177b0 : decide (x405_6 < (t405.length : Int)) = true := decide_eq_true c177
                       clear c177
                       replace H := Option.bind_eq_some_iff.mp H
                       obtain ⟨⟨t419, t420⟩, A1780, H⟩ := H
                       replace H : ((impl_BackPattern.f k6 (rd_L1 t405 x405_6)).bind fun bt421 => (laws_FnPatternsOpen.l4 k6 l1 t403 t404 t405 t413 (rd_L1 t405 x405_6) t419 t420 bt421.1 bt421.2 false t405 (t405.length : Int) x405_6 t405 (t405.length : Int) 0)) = some r := H
                       have A178 := Aside0.mk A1780
                       clear A1780
                       replace H := Option.bind_eq_some_iff.mp H
                       obtain ⟨⟨t421, t422⟩, A1790, H⟩ := H
                       replace H : (laws_FnPatternsOpen.l4 k6 l1 t403 t404 t405 t413 (rd_L1 t405 x405_6) t419 t420 t421 t422 false t405 (t405.length : Int) x405_6 t405 (t405.length : Int) 0) = some r := H
                       have A179 := Aside0.mk A1790
                       clear A1790
                       have H' := Aside0.mk H
                       clear H
                       have p418 : 0 ≤ (x405_6 : Int) := of_decide_eq_true (by first | (with_reducible assumption) | assumption)
                       have q418 : x405_6 < (t405.length : Int) := of_decide_eq_true (by first | (with_reducible assumption) | assumption)
                       obtain ⟨ad418, A418_0, c418_0, e418, hx418_0, hl418_0, hi418_0⟩ := at_L1 (Kd.S_reads' HO_403.out).2.2 x405_6 p418 q418
                       cases e418
                       obtain ⟨ce418, hce418, hMe418, hcc418⟩ := Kd.S_get HO_403.out [] x405_6 p418 (by first | exact q418 | exact of_decide_eq_true (by first | (with_reducible assumption) | assumption) | (have e_ := (Kd.S_reads' HO_403.out).1; omega))
                       obtain ⟨ve418_0, rfl, ge418_0⟩ := hMe418
                       have hv418_0 := hcc418 0 _ rfl
                       rw [Nat.add_zero, show ((Kd.slice 3 (Kd.int .i64))).sz = 1 from rfl, Nat.mul_one] at hv418_0
                       replace hv418_0 := Option.some.inj (hv418_0.symm.trans hx418_0)
                       rw [hv418_0] at ge418_0
                       have HL418_0 := Aside0.mk (show Kd.R (Kd.int .i64) 3 _ _ _ _ (rd_L1 t405 x405_6) from ge418_0)
                       clear hv418_0 ge418_0
                       clear hcc418 hce418
                       have HR418_0 := Aside0.mk hi418_0
                       have HC418_0 := Aside0.mk hl418_0
                       clear hi418_0 hl418_0
                       replace p418 := eq_true p418
                       replace q418 := eq_true q418
                       go_wp2_with (first | ((with_reducible refine gate_callee (f := 5) rfl ?_); refine goesL_ (some 411) rfl rfl Try.func5 (by kernel_rfl) rfl #[.slice A418_0 (rd_L1 t405 x405_6).length c418_0] rfl (by (try simp only [List.map_toArray, List.map_cons, List.map_nil]); first | done | rfl | (simp only [List.length_drop, List.length_take]; rfl)) ?_; (with_reducible refine (impl_IsOpen.calls k6 _ _ (rd_L1 t405 x405_6) t419 t420 _ ?side1 ?side2 A178.out).mono ?_); (case side1 => repeat (first | exact (by repeat (first | (with_reducible exact HR418_0.out) | (with_reducible refine Kd.C_alloc ?_ _) | (with_reducible refine Kd.C_drewN ?_ _) | (with_reducible refine Kd.C_drew ?_) | exact HR418_0.out)) | (with_reducible refine Kd.C_alloc ?_ _) | (with_reducible refine Kd.C_drewN ?_ _) | (with_reducible refine Kd.C_drew ?_))); (case side2 => exact HC418_0.out); rintro e w180 ⟨rfl, hb⟩; refine ⟨_, rfl, ?_⟩; have n0_ := Aside0.mk (Kd.S_below (by (with_reducible repeat (first | apply Kd.S_alloc | apply Kd.S_drewN | apply Kd.S_drew)); exact HO_44.out) hb); have n1_ := Aside0.mk (Kd.S_below (by (with_reducible repeat (first | apply Kd.S_alloc | apply Kd.S_drewN | apply Kd.S_drew)); exact HO_403.out) hb); have n2_ := Aside0.mk (Kd.R_below (by (with_reducible repeat (first | apply Kd.R_alloc | apply Kd.R_drewN | apply Kd.R_drew)); exact HL418_0.out) hb); have n3_ := Aside0.mk (Kd.C_below (by repeat (first | (with_reducible exact HR418_0.out) | (with_reducible refine Kd.C_alloc ?_ _) | (with_reducible refine Kd.C_drewN ?_ _) | (with_reducible refine Kd.C_drew ?_) | exact HR418_0.out)) hb); have n4_ := Aside0.mk (below_step (by repeat (first | (with_reducible first | exact HB.out | apply below_alloc | apply pw_below_drewN | apply below_drew1))) hb); clear HO_44; clear HO_403; clear HL418_0; clear HR418_0; clear HB; have HO_44 := n0_; have HO_403 := n1_; have HL418_0 := n2_; have HR418_0 := n3_; have HB := n4_; clear n0_ n1_ n2_ n3_ n4_; (try clear hb)) | ((with_reducible refine gate_callee (f := 9) rfl ?_); refine goesL_ (some 416) rfl rfl Try.func9 (by kernel_rfl) rfl #[.slice A418_0 (rd_L1 t405 x405_6).length c418_0] rfl (by (try simp only [List.map_toArray, List.map_cons, List.map_nil]); first | done | rfl | (simp only [List.length_drop, List.length_take]; rfl)) ?_; (with_reducible refine (impl_BackPattern.calls k6 _ _ (rd_L1 t405 x405_6) t421 t422 _ ?side1 ?side2 A179.out).mono ?_); (case side1 => repeat (first | exact (by repeat (first | (with_reducible exact HR418_0.out) | (with_reducible refine Kd.C_alloc ?_ _) | (with_reducible refine Kd.C_drewN ?_ _) | (with_reducible refine Kd.C_drew ?_) | exact HR418_0.out)) | (with_reducible refine Kd.C_alloc ?_ _) | (with_reducible refine Kd.C_drewN ?_ _) | (with_reducible refine Kd.C_drew ?_))); (case side2 => exact HC418_0.out); rintro e w181 ⟨v423, rfl, ho0, hb⟩; refine ⟨_, rfl, ?_⟩; have n0_ := Aside0.mk (Kd.S_elder' (by (with_reducible repeat (first | apply Kd.S_alloc | apply Kd.S_drewN | apply Kd.S_drew)); exact HO_44.out) (Kd.R_base ho0) hb); have n1_ := Aside0.mk (Kd.S_elder' (by (with_reducible repeat (first | apply Kd.S_alloc | apply Kd.S_drewN | apply Kd.S_drew)); exact HO_403.out) (Kd.R_base ho0) hb); have n2_ := Aside0.mk (Kd.R_elder' (by (with_reducible repeat (first | apply Kd.R_alloc | apply Kd.R_drewN | apply Kd.R_drew)); exact HL418_0.out) (Kd.R_base ho0) hb); have n3_ := Aside0.mk (Kd.R_lower (Kd.R_new' ho0 (Kd.R_lt (by (with_reducible repeat (first | apply Kd.R_alloc | apply Kd.R_drewN | apply Kd.R_drew)); exact HL418_0.out))) (below_size (by repeat (first | (with_reducible first | exact HB.out | apply below_alloc | apply pw_below_drewN | apply below_drew1))))); have n4_ := Aside0.mk (Kd.C_below (by repeat (first | (with_reducible exact HR418_0.out) | (with_reducible refine Kd.C_alloc ?_ _) | (with_reducible refine Kd.C_drewN ?_ _) | (with_reducible refine Kd.C_drew ?_) | exact HR418_0.out)) hb); have n5_ := Aside0.mk (below_step (by repeat (first | (with_reducible first | exact HB.out | apply below_alloc | apply pw_below_drewN | apply below_drew1))) hb); clear HO_44; clear HO_403; clear HL418_0; clear HR418_0; clear HB; have HO_44 := n0_; have HO_403 := n1_; have HL418_0 := n2_; have HO424 := n3_; have HR418_0 := n4_; have HB := n5_; clear n0_ n1_ n2_ n3_ n4_ n5_; (try clear hb); (try clear ho0)))
                       go_loopg [58, 421] k6 (fun kq v58 v421 w' => ∃ (x58_7 : Bool) (x421_7 : Int), v58 = .bool x58_7 ∧ v421 = .int .i64 x421_7 ∧ Aside0 (laws_FnPatternsOpen.l4 kq l1 t403 t404 t405 t413 (rd_L1 t405 x405_6) t419 t420 t421 t422 x58_7 t405 (t405.length : Int) x405_6 t405 (t405.length : Int) x421_7 = some r) ∧ Aside0 (kq ≤ k6) ∧ Aside0 (Kd.S (Kd.slice 3 (Kd.int .i64)) 22 w' w.heap.size (fun k_ => some k_ ≠ (v423 : Value).ownBlock) (.slice (some ad418) t405.length co174) t405) ∧ Aside0 (Kd.R (Kd.int .i64) 3 w' w.heap.size (fun _ => True) v423 t421) ∧ Aside0 (Kd.S (Kd.slice 3 (Kd.int .i64)) 22 w' w.heap.size (fun k_ => some k_ ≠ (v423 : Value).ownBlock) (.slice (some ad418) t405.length co174) t405) ∧ Aside0 (Kd.S (Kd.slice 3 (Kd.int .i64)) 22 w' w.heap.size (fun k_ => some k_ ≠ (v423 : Value).ownBlock) (.slice (some ad418) t405.length co174) t405) ∧ Aside0 (Kd.C (Kd.int .i64) w' A418_0 (rd_L1 t405 x405_6).length (rd_L1 t405 x405_6)) ∧ Aside0 (Below w.heap.size w w'))
                       case atStart => exact ⟨(false), (0), (by first | rfl | (simp; done) | (simp [*]; done)), (by first | rfl | (simp; done) | (simp [*]; done)), H', ⟨Nat.le_refl _⟩, ⟨by (with_reducible repeat (first | apply Kd.S_alloc | apply Kd.S_drewN | apply Kd.S_drew)); exact Kd.S_mono HO_44.out (fun _ hk => hk.2)⟩, ⟨by (with_reducible repeat (first | apply Kd.R_alloc | apply Kd.R_drewN | apply Kd.R_drew)); exact Kd.R_mono HO424.out (fun _ hk => trivial)⟩, ⟨by (with_reducible repeat (first | apply Kd.S_alloc | apply Kd.S_drewN | apply Kd.S_drew)); exact Kd.S_mono HO_403.out (fun _ hk => hk.2)⟩, ⟨by (with_reducible repeat (first | apply Kd.S_alloc | apply Kd.S_drewN | apply Kd.S_drew)); exact Kd.S_mono HO_44.out (fun _ hk => hk.2)⟩, ⟨by repeat (first | (with_reducible exact HR418_0.out) | (with_reducible refine Kd.C_alloc ?_ _) | (with_reducible refine Kd.C_drewN ?_ _) | (with_reducible refine Kd.C_drew ?_) | exact HR418_0.out)⟩, ⟨by repeat (first | (with_reducible first | exact HB.out | apply below_alloc | apply pw_below_drewN | apply below_drew1))⟩⟩
                       case round =>
                        clear H'
                        obtain ⟨x58_7, x421_7, rfl, rfl, HA, HK7, HO_44, HO_56, HO_403, HO_419, HR418_0, HB⟩ := hrel
                        cases gk with
                        | zero => exact absurd HA.out (by simp [laws_FnPatternsOpen.l4])
                        | succ k7 =>
                         have H := HA.out
                         clear HA
                         simp only [laws_FnPatternsOpen.l4] at H
                         by_cases c182 : x421_7 < (t405.length : Int)
                         ·
                          rw [if_pos c182] at H
                          have c182b0 : decide (x421_7 < (t405.length : Int)) = true := decide_eq_true c182
                          clear c182
                          by_cases c183 : 0 ≤ x421_7
                          ·
                           rw [if_pos c183] at H
                           have c183b0 : decide (0 ≤ x421_7) = true := decide_eq_true c183
                           clear c183
                           by_cases c184 : x421_7 < (t405.length : Int)
                           ·
                            rw [if_pos c184] at H
                            have c184b0 : decide (x421_7 < (t405.length : Int)) = true := decide_eq_true c184
                            clear c184
                            by_cases c185 : x58_7 = true
                            ·
                             subst c185
                             have H1 : (laws_FnPatternsOpen.l4 k7 l1 t403 t404 t405 t413 (rd_L1 t405 x405_6) t419 t420 t421 t422 true t405 (t405.length : Int) x405_6 t405 (t405.length : Int) (wrap64 (x421_7 + 1))) = some r := by rw [if_pos rfl] at H; exact H
                             clear H
                             have H := H1
                             clear H1
                             have H' := Aside0.mk H
                             clear H
                             have p425 : 0 ≤ (x421_7 : Int) := of_decide_eq_true (by first | (with_reducible assumption) | assumption)
                             have q425 : x421_7 < (t405.length : Int) := of_decide_eq_true (by first | (with_reducible assumption) | assumption)
                             obtain ⟨ad425, A425_0, c425_0, e425, hx425_0, hl425_0, hi425_0⟩ := at_L1 (Kd.S_reads' HO_419.out).2.2 x421_7 p425 q425
                             obtain rfl : ad418 = ad425 := (by injection e425)
                             obtain ⟨ce425, hce425, hMe425, hcc425⟩ := Kd.S_get HO_419.out [] x421_7 p425 (by first | exact q425 | exact of_decide_eq_true (by first | (with_reducible assumption) | assumption) | (have e_ := (Kd.S_reads' HO_419.out).1; omega))
                             obtain ⟨ve425_0, rfl, ge425_0⟩ := hMe425
                             have hv425_0 := hcc425 0 _ rfl
                             rw [Nat.add_zero, show ((Kd.slice 3 (Kd.int .i64))).sz = 1 from rfl, Nat.mul_one] at hv425_0
                             replace hv425_0 := Option.some.inj (hv425_0.symm.trans hx425_0)
                             rw [hv425_0] at ge425_0
                             have HL425_0 := Aside0.mk (show Kd.R (Kd.int .i64) 3 _ _ _ _ (rd_L1 t405 x421_7) from ge425_0)
                             clear hv425_0 ge425_0
                             clear hcc425 hce425
                             have HR425_0 := Aside0.mk hi425_0
                             have HC425_0 := Aside0.mk hl425_0
                             clear hi425_0 hl425_0
                             replace p425 := eq_true p425
                             replace q425 := eq_true q425
                             go_wp2
                             go_roundg k7
                             case measure => have := HJ11.out; have := HJ50.out; have := HJ102.out; have := HJ111.out; have := HJ148.out; have := HK6.out; have := HK7.out; omega
                             case rel => exact ⟨(true), (wrap64 (x421_7 + 1)), (by first | rfl | (simp; done) | (simp [*]; done)), (by first | rfl | (simp; done) | (simp [*]; done)), H', ⟨by have := HJ11.out; have := HJ50.out; have := HJ102.out; have := HJ111.out; have := HJ148.out; have := HK6.out; have := HK7.out; omega⟩, ⟨by (with_reducible repeat (first | apply Kd.S_alloc | apply Kd.S_drewN | apply Kd.S_drew)); exact HO_44.out⟩, ⟨by (with_reducible repeat (first | apply Kd.R_alloc | apply Kd.R_drewN | apply Kd.R_drew)); exact HO_56.out⟩, ⟨by (with_reducible repeat (first | apply Kd.S_alloc | apply Kd.S_drewN | apply Kd.S_drew)); exact HO_403.out⟩, ⟨by (with_reducible repeat (first | apply Kd.S_alloc | apply Kd.S_drewN | apply Kd.S_drew)); exact HO_419.out⟩, ⟨by repeat (first | (with_reducible exact HR418_0.out) | (with_reducible refine Kd.C_alloc ?_ _) | (with_reducible refine Kd.C_drewN ?_ _) | (with_reducible refine Kd.C_drew ?_) | exact HR418_0.out)⟩, ⟨by repeat (first | (with_reducible first | exact HB.out | apply below_alloc | apply pw_below_drewN | apply below_drew1))⟩⟩
                            ·
                             replace c185 := Bool.eq_false_iff.mpr c185
                             subst c185
                             have H1 : ((laws_tSame.f k7 (rd_L1 t405 x421_7) t421).bind fun t426 => (laws_FnPatternsOpen.l4 k7 l1 t403 t404 t405 t413 (rd_L1 t405 x405_6) t419 t420 t421 t422 t426 t405 (t405.length : Int) x405_6 t405 (t405.length : Int) (wrap64 (x421_7 + 1)))) = some r := by rw [if_neg (show ¬ (false = true) by decide)] at H; exact H
                             clear H
                             have H := H1
                             clear H1
                             replace H := Option.bind_eq_some_iff.mp H
                             obtain ⟨t426, A1860, H⟩ := H
                             replace H : (laws_FnPatternsOpen.l4 k7 l1 t403 t404 t405 t413 (rd_L1 t405 x405_6) t419 t420 t421 t422 t426 t405 (t405.length : Int) x405_6 t405 (t405.length : Int) (wrap64 (x421_7 + 1))) = some r := H
                             have A186 := Aside0.mk A1860
                             clear A1860
                             have H' := Aside0.mk H
                             clear H
                             have p425 : 0 ≤ (x421_7 : Int) := of_decide_eq_true (by first | (with_reducible assumption) | assumption)
                             have q425 : x421_7 < (t405.length : Int) := of_decide_eq_true (by first | (with_reducible assumption) | assumption)
                             obtain ⟨ad425, A425_0, c425_0, e425, hx425_0, hl425_0, hi425_0⟩ := at_L1 (Kd.S_reads' HO_419.out).2.2 x421_7 p425 q425
                             obtain rfl : ad418 = ad425 := (by injection e425)
                             obtain ⟨ce425, hce425, hMe425, hcc425⟩ := Kd.S_get HO_419.out [] x421_7 p425 (by first | exact q425 | exact of_decide_eq_true (by first | (with_reducible assumption) | assumption) | (have e_ := (Kd.S_reads' HO_419.out).1; omega))
                             obtain ⟨ve425_0, rfl, ge425_0⟩ := hMe425
                             have hv425_0 := hcc425 0 _ rfl
                             rw [Nat.add_zero, show ((Kd.slice 3 (Kd.int .i64))).sz = 1 from rfl, Nat.mul_one] at hv425_0
                             replace hv425_0 := Option.some.inj (hv425_0.symm.trans hx425_0)
                             rw [hv425_0] at ge425_0
                             have HL425_0 := Aside0.mk (show Kd.R (Kd.int .i64) 3 _ _ _ _ (rd_L1 t405 x421_7) from ge425_0)
                             clear hv425_0 ge425_0
                             clear hcc425 hce425
                             have HR425_0 := Aside0.mk hi425_0
                             have HC425_0 := Aside0.mk hl425_0
                             clear hi425_0 hl425_0
                             replace p425 := eq_true p425
                             replace q425 := eq_true q425
                             obtain ⟨Ao187, co187, eo187⟩ := Kd.R_slice HO_56.out
                             subst eo187
                             go_wp2_with (first | (go_at_call 11; (with_reducible refine (laws_tSame.calls k7 _ _ (rd_L1 t405 x421_7) _ _ t421 t426 _ ?side1 ?side2 ?side3 ?side4 A186.out).mono ?_); (case side1 => repeat (first | exact (by repeat (first | (with_reducible exact HR425_0.out) | (with_reducible refine Kd.C_alloc ?_ _) | (with_reducible refine Kd.C_drewN ?_ _) | (with_reducible refine Kd.C_drew ?_) | exact HR425_0.out)) | (with_reducible refine Kd.C_alloc ?_ _) | (with_reducible refine Kd.C_drewN ?_ _) | (with_reducible refine Kd.C_drew ?_))); (case side2 => exact HC425_0.out); (case side3 => repeat (first | exact (Kd.R_reads' HO_56.out).2.2 | (with_reducible refine Kd.C_alloc ?_ _) | (with_reducible refine Kd.C_drewN ?_ _) | (with_reducible refine Kd.C_drew ?_))); (case side4 => exact (Kd.R_reads' HO_56.out).2.1); rintro e w' ⟨rfl, ⟨nd, rfl⟩⟩))
                             go_roundg k7
                             case measure => have := HJ11.out; have := HJ50.out; have := HJ102.out; have := HJ111.out; have := HJ148.out; have := HK6.out; have := HK7.out; omega
                             case rel => exact ⟨(t426), (wrap64 (x421_7 + 1)), (by first | rfl | (simp; done) | (simp [*]; done)), (by first | rfl | (simp; done) | (simp [*]; done)), H', ⟨by have := HJ11.out; have := HJ50.out; have := HJ102.out; have := HJ111.out; have := HJ148.out; have := HK6.out; have := HK7.out; omega⟩, ⟨by (with_reducible repeat (first | apply Kd.S_alloc | apply Kd.S_drewN | apply Kd.S_drew)); exact HO_44.out⟩, ⟨by (with_reducible repeat (first | apply Kd.R_alloc | apply Kd.R_drewN | apply Kd.R_drew)); exact HO_56.out⟩, ⟨by (with_reducible repeat (first | apply Kd.S_alloc | apply Kd.S_drewN | apply Kd.S_drew)); exact HO_403.out⟩, ⟨by (with_reducible repeat (first | apply Kd.S_alloc | apply Kd.S_drewN | apply Kd.S_drew)); exact HO_419.out⟩, ⟨by repeat (first | (with_reducible exact HR418_0.out) | (with_reducible refine Kd.C_alloc ?_ _) | (with_reducible refine Kd.C_drewN ?_ _) | (with_reducible refine Kd.C_drew ?_) | exact HR418_0.out)⟩, ⟨by repeat (first | (with_reducible first | exact HB.out | apply below_alloc | apply pw_below_drewN | apply below_drew1))⟩⟩
                           ·
                            rw [if_neg c184] at H
                            exact absurd H (by simp)
                          ·
                           rw [if_neg c183] at H
                           exact absurd H (by simp)
                         ·
                          rw [if_neg c182] at H
                          have c182b0 : decide (x421_7 < (t405.length : Int)) = false := decide_eq_false c182
                          clear c182
                          by_cases c188 : t420 = true
                          ·
                           subst c188
                           have H1 : (if t419 = true then (if ((rd_L1 t405 x405_6).length : Int) = t403 then (if 0 ≤ (wrap64 (t403 - 1)) then (if (wrap64 (t403 - 1)) < ((rd_L1 t405 x405_6).length : Int) then (if (rd (rd_L1 t405 x405_6) (wrap64 (t403 - 1))) = t404 then (if t422 = true then (if x58_7 = true then (laws_FnPatternsOpen.l3 k7 l1 t403 t404 t405 t413 t405 (t405.length : Int) (wrap64 (x405_6 + 1))) else (some false)) else (some false)) else (some false)) else (none)) else (none)) else (some false)) else (some false)) = some r := by rw [if_pos rfl] at H; exact H
                           clear H
                           have H := H1
                           clear H1
                           by_cases c189 : t419 = true
                           ·
                            subst c189
                            have H1 : (if ((rd_L1 t405 x405_6).length : Int) = t403 then (if 0 ≤ (wrap64 (t403 - 1)) then (if (wrap64 (t403 - 1)) < ((rd_L1 t405 x405_6).length : Int) then (if (rd (rd_L1 t405 x405_6) (wrap64 (t403 - 1))) = t404 then (if t422 = true then (if x58_7 = true then (laws_FnPatternsOpen.l3 k7 l1 t403 t404 t405 t413 t405 (t405.length : Int) (wrap64 (x405_6 + 1))) else (some false)) else (some false)) else (some false)) else (none)) else (none)) else (some false)) = some r := by rw [if_pos rfl] at H; exact H
                            clear H
                            have H := H1
                            clear H1
                            by_cases c190 : ((rd_L1 t405 x405_6).length : Int) = t403
                            ·
                             rw [if_pos c190] at H
                             have c190b0 : (((rd_L1 t405 x405_6).length : Int) == t403) = true := beq_iff_eq.mpr c190
                             have c190b1 : (((rd_L1 t405 x405_6).length : Int) != t403) = false := bne_eq_false_iff_eq.mpr c190
                             clear c190
                             obtain ⟨ji191, hji191⟩ : ∃ j_ : Int, (wrap64 (t403 - 1)) = j_ := ⟨_, rfl⟩
                             replace H : (if 0 ≤ (ji191) then (if (ji191) < ((rd_L1 t405 x405_6).length : Int) then (if (rd (rd_L1 t405 x405_6) (ji191)) = t404 then (if t422 = true then (if x58_7 = true then (laws_FnPatternsOpen.l3 k7 l1 t403 t404 t405 t413 t405 (t405.length : Int) (wrap64 (x405_6 + 1))) else (some false)) else (some false)) else (some false)) else (none)) else (none)) = some r := by first | (rw [hji191] at H; exact H) | (simp only [hji191] at H ⊢; exact H)
                             have hji191w : (IntKind.i64.wrap (t403 - 1)) = ji191 := (i64_w _).trans hji191
                             by_cases c192 : 0 ≤ (ji191)
                             ·
                              rw [if_pos c192] at H
                              have c192b0 : decide (0 ≤ (ji191)) = true := decide_eq_true c192
                              clear c192
                              by_cases c193 : (ji191) < ((rd_L1 t405 x405_6).length : Int)
                              ·
                               rw [if_pos c193] at H
                               have c193b0 : decide ((ji191) < ((rd_L1 t405 x405_6).length : Int)) = true := decide_eq_true c193
                               clear c193
                               by_cases c194 : (rd (rd_L1 t405 x405_6) (ji191)) = t404
                               ·
                                rw [if_pos c194] at H
                                have c194b0 : ((rd (rd_L1 t405 x405_6) (ji191)) == t404) = true := beq_iff_eq.mpr c194
                                have c194b1 : ((rd (rd_L1 t405 x405_6) (ji191)) != t404) = false := bne_eq_false_iff_eq.mpr c194
                                clear c194
                                by_cases c195 : t422 = true
                                ·
                                 subst c195
                                 have H1 : (if x58_7 = true then (laws_FnPatternsOpen.l3 k7 l1 t403 t404 t405 t413 t405 (t405.length : Int) (wrap64 (x405_6 + 1))) else (some false)) = some r := by rw [if_pos rfl] at H; exact H
                                 clear H
                                 have H := H1
                                 clear H1
                                 by_cases c196 : x58_7 = true
                                 ·
                                  subst c196
                                  have H1 : (laws_FnPatternsOpen.l3 k7 l1 t403 t404 t405 t413 t405 (t405.length : Int) (wrap64 (x405_6 + 1))) = some r := by rw [if_pos rfl] at H; exact H
                                  clear H
                                  have H := H1
                                  clear H1
                                  have H' := Aside0.mk H
                                  clear H
                                  have p427 : 0 ≤ ((ji191) : Int) := of_decide_eq_true (by first | (with_reducible assumption) | assumption)
                                  have q427 : (ji191) < ((rd_L1 t405 x405_6).length : Int) := of_decide_eq_true (by first | (with_reducible assumption) | assumption)
                                  obtain ⟨ad427, e427, hx427_0⟩ := Kd.at_int HR418_0.out (ji191) p427 q427
                                  cases e427
                                  (try replace hx427_0 := (HB.out.cell (World.block_lt_of_cell? w _ hx427_0)).trans hx427_0)
                                  replace p427 := eq_true p427
                                  replace q427 := eq_true q427
                                  go_wp2
                                  go_roundg k7
                                  case measure => have := HJ11.out; have := HJ50.out; have := HJ102.out; have := HJ111.out; have := HJ148.out; have := HK6.out; have := HK7.out; omega
                                  case rel => exact ⟨(wrap64 (x405_6 + 1)), (by first | rfl | (simp; done) | (simp [*]; done)), H', ⟨by have := HJ11.out; have := HJ50.out; have := HJ102.out; have := HJ111.out; have := HJ148.out; have := HK6.out; have := HK7.out; omega⟩, ⟨by (with_reducible repeat (first | apply Kd.S_alloc | apply Kd.S_drewN | apply Kd.S_drew)); exact Kd.S_mono HO_44.out (fun _ hk => trivial)⟩, ⟨by (with_reducible repeat (first | apply Kd.S_alloc | apply Kd.S_drewN | apply Kd.S_drew)); exact Kd.S_mono HO_403.out (fun _ hk => trivial)⟩, ⟨by repeat (first | (with_reducible first | exact HB.out | apply below_alloc | apply pw_below_drewN | apply below_drew1))⟩⟩
                                 ·
                                  replace c196 := Bool.eq_false_iff.mpr c196
                                  subst c196
                                  have H1 : (some false) = some r := by rw [if_neg (show ¬ (false = true) by decide)] at H; exact H
                                  clear H
                                  have H := H1
                                  clear H1
                                  exact absurd (Option.some.inj (H.trans (congrArg some HRT.out))) Bool.false_ne_true
                                ·
                                 replace c195 := Bool.eq_false_iff.mpr c195
                                 subst c195
                                 have H1 : (some false) = some r := by rw [if_neg (show ¬ (false = true) by decide)] at H; exact H
                                 clear H
                                 have H := H1
                                 clear H1
                                 exact absurd (Option.some.inj (H.trans (congrArg some HRT.out))) Bool.false_ne_true
                               ·
                                rw [if_neg c194] at H
                                have c194b0 : ((rd (rd_L1 t405 x405_6) (ji191)) == t404) = false := beq_eq_false_iff_ne.mpr c194
                                have c194b1 : ((rd (rd_L1 t405 x405_6) (ji191)) != t404) = true := bne_iff_ne.mpr c194
                                exact absurd (Option.some.inj (H.trans (congrArg some HRT.out))) Bool.false_ne_true
                              ·
                               rw [if_neg c193] at H
                               exact absurd H (by simp)
                             ·
                              rw [if_neg c192] at H
                              exact absurd H (by simp)
                            ·
                             rw [if_neg c190] at H
                             have c190b0 : (((rd_L1 t405 x405_6).length : Int) == t403) = false := beq_eq_false_iff_ne.mpr c190
                             have c190b1 : (((rd_L1 t405 x405_6).length : Int) != t403) = true := bne_iff_ne.mpr c190
                             exact absurd (Option.some.inj (H.trans (congrArg some HRT.out))) Bool.false_ne_true
                           ·
                            replace c189 := Bool.eq_false_iff.mpr c189
                            subst c189
                            have H1 : (some false) = some r := by rw [if_neg (show ¬ (false = true) by decide)] at H; exact H
                            clear H
                            have H := H1
                            clear H1
                            exact absurd (Option.some.inj (H.trans (congrArg some HRT.out))) Bool.false_ne_true
                          ·
                           replace c188 := Bool.eq_false_iff.mpr c188
                           subst c188
                           have H1 : (some false) = some r := by rw [if_neg (show ¬ (false = true) by decide)] at H; exact H
                           clear H
                           have H := H1
                           clear H1
                           exact absurd (Option.some.inj (H.trans (congrArg some HRT.out))) Bool.false_ne_true
                      ·
                       rw [if_neg c177] at H
                       exact absurd H (by simp)
                     ·
                      rw [if_neg c176] at H
                      exact absurd H (by simp)
                    ·
                     rw [if_neg c175] at H
                     have c175b0 : decide (x405_6 < (t405.length : Int)) = false := decide_eq_false c175
                     clear c175
                     (first | rw [c175b0] | (simp only [i64_w, i32_w]; rw [c175b0]) | skip)
                     by_cases c197 : (t405.length : Int) = t413
                     ·
                      rw [if_pos c197] at H
                      have c197b0 : ((t405.length : Int) == t413) = true := beq_iff_eq.mpr c197
                      have c197b1 : ((t405.length : Int) != t413) = false := bne_eq_false_iff_eq.mpr c197
                      clear c197
                      have H' := Aside0.mk H
                      clear H
                      go_wp2
                      refine cutMeet hJ_ ?_ (by kernel_rfl)
                      exact ⟨_, H', ⟨by have := HJ11.out; have := HJ50.out; have := HJ102.out; have := HJ111.out; have := HJ148.out; have := HK6.out; first | omega | exact Nat.le_refl _⟩, ⟨by repeat (first | (with_reducible first | exact HB.out | apply below_alloc | apply pw_below_drewN | apply below_drew1))⟩⟩
                     ·
                      rw [if_neg c197] at H
                      have c197b0 : ((t405.length : Int) == t413) = false := beq_eq_false_iff_ne.mpr c197
                      have c197b1 : ((t405.length : Int) != t413) = true := bne_iff_ne.mpr c197
                      first
                      | exact absurd (Option.some.inj (H.trans (congrArg some HRT.out))) Bool.false_ne_true
                      |
                       obtain rfl := Option.some.inj H
                       go_wp2
                       go_ret
                       exact ⟨by first | rfl | (simp [errW_none, errW_some] <;> rfl) | (simp [*, errW_none, errW_some] <;> rfl), by repeat (first | (with_reducible first | exact HB.out | apply below_alloc | apply pw_below_drewN | apply below_drew1))⟩
                 ·
                  replace c173 := Bool.eq_false_iff.mpr c173
                  subst c173
                  have H1 : (laws_FnPatternsOpen.j14 kj148 l1) = some r := by rw [if_neg (show ¬ (false = true) by decide)] at H; exact H
                  clear H
                  have H := H1
                  clear H1
                  have H' := Aside0.mk H
                  clear H
                  go_wp2
                  refine cutMeet hJ_ ?_ (by kernel_rfl)
                  exact ⟨_, H', ⟨by have := HJ11.out; have := HJ50.out; have := HJ102.out; have := HJ111.out; have := HJ148.out; first | omega | exact Nat.le_refl _⟩, ⟨by repeat (first | (with_reducible first | exact HB.out | apply below_alloc | apply pw_below_drewN | apply below_drew1))⟩⟩
               ·
                as_aux_lemma =>
                 intro u_ wc hcut
                 clear HC172
                 obtain ⟨kq, HA, HJ171, HB⟩ := hcut
                 dsimp only [cutFgt, mk0]
                 cases kq with
                 | zero => exact absurd HA.out (by simp [laws_FnPatternsOpen.j14])
                 | succ kj171 =>
                  have H := HA.out
                  clear HA
                  simp only [laws_FnPatternsOpen.j14] at H
                  replace H := Option.bind_eq_some_iff.mp H
                  obtain ⟨⟨t428, t429⟩, A1980, H⟩ := H
                  replace H : ((impl_AddOffsets.f kj171 t428 t429).bind fun bt432 => ((spec_AddOffsets.f kj171 t428 t429).bind fun bt436 => ((spec_DrawRestsOf.f kj171 l1).bind fun bt440 => ((impl_RestsOf.f kj171 bt440.1 bt440.2).bind fun bt444 => ((spec_RestsOf.f kj171 bt440.1 bt440.2).bind fun bt448 => (if (bt432.2 == bt436.2) = true then ((laws_tSame.f kj171 bt432.1 bt436.1).bind fun t452 => (if t452 = true then (if (bt444.2 == bt448.2) = true then ((laws_tSame.f kj171 bt444.1 bt448.1).bind fun t453 => (if t453 = true then (if bt432.2 = true then ((laws_tRises.f kj171 bt432.1 1 t429).bind fun t454 => (some t454)) else (some true)) else (some false))) else (some false)) else (some false))) else (some false))))))) = some r := H
                  have A198 := Aside0.mk A1980
                  clear A1980
                  replace H := Option.bind_eq_some_iff.mp H
                  obtain ⟨⟨t432, t433⟩, A1990, H⟩ := H
                  replace H : ((spec_AddOffsets.f kj171 t428 t429).bind fun bt436 => ((spec_DrawRestsOf.f kj171 l1).bind fun bt440 => ((impl_RestsOf.f kj171 bt440.1 bt440.2).bind fun bt444 => ((spec_RestsOf.f kj171 bt440.1 bt440.2).bind fun bt448 => (if (t433 == bt436.2) = true then ((laws_tSame.f kj171 t432 bt436.1).bind fun t452 => (if t452 = true then (if (bt444.2 == bt448.2) = true then ((laws_tSame.f kj171 bt444.1 bt448.1).bind fun t453 => (if t453 = true then (if t433 = true then ((laws_tRises.f kj171 t432 1 t429).bind fun t454 => (some t454)) else (some true)) else (some false))) else (some false)) else (some false))) else (some false)))))) = some r := H
                  have A199 := Aside0.mk A1990
                  clear A1990
                  replace H := Option.bind_eq_some_iff.mp H
                  obtain ⟨⟨t436, t437⟩, A2000, H⟩ := H
                  replace H : ((spec_DrawRestsOf.f kj171 l1).bind fun bt440 => ((impl_RestsOf.f kj171 bt440.1 bt440.2).bind fun bt444 => ((spec_RestsOf.f kj171 bt440.1 bt440.2).bind fun bt448 => (if (t433 == t437) = true then ((laws_tSame.f kj171 t432 t436).bind fun t452 => (if t452 = true then (if (bt444.2 == bt448.2) = true then ((laws_tSame.f kj171 bt444.1 bt448.1).bind fun t453 => (if t453 = true then (if t433 = true then ((laws_tRises.f kj171 t432 1 t429).bind fun t454 => (some t454)) else (some true)) else (some false))) else (some false)) else (some false))) else (some false))))) = some r := H
                  have A200 := Aside0.mk A2000
                  clear A2000
                  replace H := Option.bind_eq_some_iff.mp H
                  obtain ⟨⟨t440, t441⟩, A2010, H⟩ := H
                  replace H : ((impl_RestsOf.f kj171 t440 t441).bind fun bt444 => ((spec_RestsOf.f kj171 t440 t441).bind fun bt448 => (if (t433 == t437) = true then ((laws_tSame.f kj171 t432 t436).bind fun t452 => (if t452 = true then (if (bt444.2 == bt448.2) = true then ((laws_tSame.f kj171 bt444.1 bt448.1).bind fun t453 => (if t453 = true then (if t433 = true then ((laws_tRises.f kj171 t432 1 t429).bind fun t454 => (some t454)) else (some true)) else (some false))) else (some false)) else (some false))) else (some false)))) = some r := H
                  have A201 := Aside0.mk A2010
                  clear A2010
                  replace H := Option.bind_eq_some_iff.mp H
                  obtain ⟨⟨t444, t445⟩, A2020, H⟩ := H
                  replace H : ((spec_RestsOf.f kj171 t440 t441).bind fun bt448 => (if (t433 == t437) = true then ((laws_tSame.f kj171 t432 t436).bind fun t452 => (if t452 = true then (if (t445 == bt448.2) = true then ((laws_tSame.f kj171 t444 bt448.1).bind fun t453 => (if t453 = true then (if t433 = true then ((laws_tRises.f kj171 t432 1 t429).bind fun t454 => (some t454)) else (some true)) else (some false))) else (some false)) else (some false))) else (some false))) = some r := H
                  have A202 := Aside0.mk A2020
                  clear A2020
                  replace H := Option.bind_eq_some_iff.mp H
                  obtain ⟨⟨t448, t449⟩, A2030, H⟩ := H
                  replace H : (if (t433 == t437) = true then ((laws_tSame.f kj171 t432 t436).bind fun t452 => (if t452 = true then (if (t445 == t449) = true then ((laws_tSame.f kj171 t444 t448).bind fun t453 => (if t453 = true then (if t433 = true then ((laws_tRises.f kj171 t432 1 t429).bind fun t454 => (some t454)) else (some true)) else (some false))) else (some false)) else (some false))) else (some false)) = some r := H
                  have A203 := Aside0.mk A2030
                  clear A2030
                  by_cases c204 : (t433 == t437) = true
                  ·
                   rw [if_pos c204] at H
                   have c204b0 : (t433 == t437) = true := c204
                   (try (have c204b1 : decide (t433 = t437) = true := by simpa using c204))
                   (try (have c204b2 : (t433 == t437) = true := by simpa using c204))
                   clear c204
                   replace H := Option.bind_eq_some_iff.mp H
                   obtain ⟨t452, A2050, H⟩ := H
                   replace H : (if t452 = true then (if (t445 == t449) = true then ((laws_tSame.f kj171 t444 t448).bind fun t453 => (if t453 = true then (if t433 = true then ((laws_tRises.f kj171 t432 1 t429).bind fun t454 => (some t454)) else (some true)) else (some false))) else (some false)) else (some false)) = some r := H
                   have A205 := Aside0.mk A2050
                   clear A2050
                   by_cases c206 : t452 = true
                   ·
                    subst c206
                    have H1 : (if (t445 == t449) = true then ((laws_tSame.f kj171 t444 t448).bind fun t453 => (if t453 = true then (if t433 = true then ((laws_tRises.f kj171 t432 1 t429).bind fun t454 => (some t454)) else (some true)) else (some false))) else (some false)) = some r := by rw [if_pos rfl] at H; exact H
                    clear H
                    have H := H1
                    clear H1
                    by_cases c207 : (t445 == t449) = true
                    ·
                     rw [if_pos c207] at H
                     have c207b0 : (t445 == t449) = true := c207
                     (try (have c207b1 : decide (t445 = t449) = true := by simpa using c207))
                     (try (have c207b2 : (t445 == t449) = true := by simpa using c207))
                     clear c207
                     replace H := Option.bind_eq_some_iff.mp H
                     obtain ⟨t453, A2080, H⟩ := H
                     replace H : (if t453 = true then (if t433 = true then ((laws_tRises.f kj171 t432 1 t429).bind fun t454 => (some t454)) else (some true)) else (some false)) = some r := H
                     have A208 := Aside0.mk A2080
                     clear A2080
                     by_cases c209 : t453 = true
                     ·
                      subst c209
                      have H1 : (if t433 = true then ((laws_tRises.f kj171 t432 1 t429).bind fun t454 => (some t454)) else (some true)) = some r := by rw [if_pos rfl] at H; exact H
                      clear H
                      have H := H1
                      clear H1
                      by_cases c210 : t433 = true
                      ·
                       subst c210
                       have H1 : ((laws_tRises.f kj171 t432 1 t429).bind fun t454 => (some t454)) = some r := by rw [if_pos rfl] at H; exact H
                       clear H
                       have H := H1
                       clear H1
                       replace H := Option.bind_eq_some_iff.mp H
                       obtain ⟨t454, A2110, H⟩ := H
                       replace H : (some t454) = some r := H
                       have A211 := Aside0.mk A2110
                       clear A2110
                       first
                       | exact absurd (Option.some.inj (H.trans (congrArg some HRT.out))) Bool.false_ne_true
                       |
                        obtain rfl := Option.some.inj H
                        go_wp2_with (first | ((with_reducible refine gate_callee (f := 31) rfl ?_); refine goesL_ (some 468) rfl rfl Try.func31 (by kernel_rfl) rfl #[.slice A1 l1.length c1] rfl (by (try simp only [List.map_toArray, List.map_cons, List.map_nil]); first | done | rfl | (simp only [List.length_drop, List.length_take]; rfl)) ?_; (with_reducible refine (spec_DrawAddOffsets.calls kj171 _ _ l1 t428 t429 _ ?side1 ?side2 A198.out).mono ?_); (case side1 => repeat (first | exact (Kd.C_below HR1.out HB.out) | (with_reducible refine Kd.C_alloc ?_ _) | (with_reducible refine Kd.C_drewN ?_ _) | (with_reducible refine Kd.C_drew ?_))); (case side2 => exact HC1.out); rintro e w212 ⟨v430, rfl, ho0, hb⟩; refine ⟨_, rfl, ?_⟩; have n0_ := Aside0.mk (Kd.R_lower ho0 (below_size (by repeat (first | (with_reducible first | exact HB.out | apply below_alloc | apply pw_below_drewN | apply below_drew1))))); have n1_ := Aside0.mk (below_step (by repeat (first | (with_reducible first | exact HB.out | apply below_alloc | apply pw_below_drewN | apply below_drew1))) hb); clear HB; have HO431 := n0_; have HB := n1_; clear n0_ n1_; (try clear hb); (try clear ho0); obtain ⟨Ao213, co213, eo213⟩ := Kd.R_slice HO431.out; subst eo213) | ((with_reducible refine gate_callee (f := 24) rfl ?_); refine goesL_ (some 474) rfl rfl Try.func24 (by kernel_rfl) rfl #[.slice Ao213 t428.length co213, .int .i64 t429] rfl (by (try simp only [List.map_toArray, List.map_cons, List.map_nil]); first | done | rfl | (simp only [List.length_drop, List.length_take]; rfl)) ?_; (with_reducible refine (impl_AddOffsets.calls kj171 _ _ t428 t429 t432 true _ ?side1 ?side2 A199.out).mono ?_); (case side1 => repeat (first | exact (Kd.R_reads' HO431.out).2.2 | (with_reducible refine Kd.C_alloc ?_ _) | (with_reducible refine Kd.C_drewN ?_ _) | (with_reducible refine Kd.C_drew ?_))); (case side2 => exact (Kd.R_reads' HO431.out).2.1); rintro e w214 ⟨v434, rfl, ho0, hb⟩; refine ⟨_, rfl, ?_⟩; have n0_ := Aside0.mk (Kd.R_elder' (by (with_reducible repeat (first | apply Kd.R_alloc | apply Kd.R_drewN | apply Kd.R_drew)); exact HO431.out) (Kd.R_base ho0) hb); have n1_ := Aside0.mk (Kd.R_lower (Kd.R_new' ho0 (Kd.R_lt (by (with_reducible repeat (first | apply Kd.R_alloc | apply Kd.R_drewN | apply Kd.R_drew)); exact HO431.out))) (below_size (by repeat (first | (with_reducible first | exact HB.out | apply below_alloc | apply pw_below_drewN | apply below_drew1))))); have n2_ := Aside0.mk (below_step (by repeat (first | (with_reducible first | exact HB.out | apply below_alloc | apply pw_below_drewN | apply below_drew1))) hb); clear HO431; clear HB; have HO431 := n0_; have HO435 := n1_; have HB := n2_; clear n0_ n1_ n2_; (try clear hb); (try clear ho0)) | ((with_reducible refine gate_callee (f := 25) rfl ?_); refine goesL_ (some 480) rfl rfl Try.func25 (by kernel_rfl) rfl #[.slice Ao213 t428.length co213, .int .i64 t429] rfl (by (try simp only [List.map_toArray, List.map_cons, List.map_nil]); first | done | rfl | (simp only [List.length_drop, List.length_take]; rfl)) ?_; (with_reducible refine (spec_AddOffsets.calls kj171 _ _ t428 t429 t436 t437 _ ?side1 ?side2 A200.out).mono ?_); (case side1 => repeat (first | exact (Kd.R_reads' HO431.out).2.2 | (with_reducible refine Kd.C_alloc ?_ _) | (with_reducible refine Kd.C_drewN ?_ _) | (with_reducible refine Kd.C_drew ?_))); (case side2 => exact (Kd.R_reads' HO431.out).2.1); rintro e w215 ⟨v438, rfl, ho0, hb⟩; refine ⟨_, rfl, ?_⟩; have n0_ := Aside0.mk (Kd.R_elder' (by (with_reducible repeat (first | apply Kd.R_alloc | apply Kd.R_drewN | apply Kd.R_drew)); exact HO431.out) (Kd.R_base ho0) hb); have n1_ := Aside0.mk (Kd.R_elder' (by (with_reducible repeat (first | apply Kd.R_alloc | apply Kd.R_drewN | apply Kd.R_drew)); exact HO435.out) (Kd.R_base ho0) hb); have n2_ := Aside0.mk (Kd.R_lower (Kd.R_new' (Kd.R_new' ho0 (Kd.R_lt (by (with_reducible repeat (first | apply Kd.R_alloc | apply Kd.R_drewN | apply Kd.R_drew)); exact HO431.out))) (Kd.R_lt (by (with_reducible repeat (first | apply Kd.R_alloc | apply Kd.R_drewN | apply Kd.R_drew)); exact HO435.out))) (below_size (by repeat (first | (with_reducible first | exact HB.out | apply below_alloc | apply pw_below_drewN | apply below_drew1))))); have n3_ := Aside0.mk (below_step (by repeat (first | (with_reducible first | exact HB.out | apply below_alloc | apply pw_below_drewN | apply below_drew1))) hb); clear HO431; clear HO435; clear HB; have HO431 := n0_; have HO435 := n1_; have HO439 := n2_; have HB := n3_; clear n0_ n1_ n2_ n3_; (try clear hb); (try clear ho0)) | ((with_reducible refine gate_callee (f := 32) rfl ?_); refine goesL_ (some 485) rfl rfl Try.func32 (by kernel_rfl) rfl #[.slice A1 l1.length c1] rfl (by (try simp only [List.map_toArray, List.map_cons, List.map_nil]); first | done | rfl | (simp only [List.length_drop, List.length_take]; rfl)) ?_; (with_reducible refine (spec_DrawRestsOf.calls kj171 _ _ l1 t440 t441 _ ?side1 ?side2 A201.out).mono ?_); (case side1 => repeat (first | exact (Kd.C_below HR1.out HB.out) | (with_reducible refine Kd.C_alloc ?_ _) | (with_reducible refine Kd.C_drewN ?_ _) | (with_reducible refine Kd.C_drew ?_))); (case side2 => exact HC1.out); rintro e w216 ⟨v442, rfl, ho0, hb⟩; refine ⟨_, rfl, ?_⟩; have n0_ := Aside0.mk (Kd.R_elder' (by (with_reducible repeat (first | apply Kd.R_alloc | apply Kd.R_drewN | apply Kd.R_drew)); exact HO431.out) (Kd.R_base ho0) hb); have n1_ := Aside0.mk (Kd.R_elder' (by (with_reducible repeat (first | apply Kd.R_alloc | apply Kd.R_drewN | apply Kd.R_drew)); exact HO435.out) (Kd.R_base ho0) hb); have n2_ := Aside0.mk (Kd.R_elder' (by (with_reducible repeat (first | apply Kd.R_alloc | apply Kd.R_drewN | apply Kd.R_drew)); exact HO439.out) (Kd.R_base ho0) hb); have n3_ := Aside0.mk (Kd.R_lower (Kd.R_new' (Kd.R_new' (Kd.R_new' ho0 (Kd.R_lt (by (with_reducible repeat (first | apply Kd.R_alloc | apply Kd.R_drewN | apply Kd.R_drew)); exact HO431.out))) (Kd.R_lt (by (with_reducible repeat (first | apply Kd.R_alloc | apply Kd.R_drewN | apply Kd.R_drew)); exact HO435.out))) (Kd.R_lt (by (with_reducible repeat (first | apply Kd.R_alloc | apply Kd.R_drewN | apply Kd.R_drew)); exact HO439.out))) (below_size (by repeat (first | (with_reducible first | exact HB.out | apply below_alloc | apply pw_below_drewN | apply below_drew1))))); have n4_ := Aside0.mk (below_step (by repeat (first | (with_reducible first | exact HB.out | apply below_alloc | apply pw_below_drewN | apply below_drew1))) hb); clear HO431; clear HO435; clear HO439; clear HB; have HO431 := n0_; have HO435 := n1_; have HO439 := n2_; have HO443 := n3_; have HB := n4_; clear n0_ n1_ n2_ n3_ n4_; (try clear hb); (try clear ho0); obtain ⟨Ao217, co217, eo217⟩ := Kd.R_slice HO443.out; subst eo217) | ((with_reducible refine gate_callee (f := 14) rfl ?_); refine goesL_ (some 491) rfl rfl Try.func14 (by kernel_rfl) rfl #[.slice Ao217 t440.length co217, .int .i64 t441] rfl (by (try simp only [List.map_toArray, List.map_cons, List.map_nil]); first | done | rfl | (simp only [List.length_drop, List.length_take]; rfl)) ?_; (with_reducible refine (impl_RestsOf.calls kj171 _ _ t440 t441 t444 t445 _ ?side1 ?side2 A202.out).mono ?_); (case side1 => repeat (first | exact (Kd.R_reads' HO443.out).2.2 | (with_reducible refine Kd.C_alloc ?_ _) | (with_reducible refine Kd.C_drewN ?_ _) | (with_reducible refine Kd.C_drew ?_))); (case side2 => exact (Kd.R_reads' HO443.out).2.1); rintro e w218 ⟨v446, rfl, ho0, hb⟩; refine ⟨_, rfl, ?_⟩; have n0_ := Aside0.mk (Kd.R_elder' (by (with_reducible repeat (first | apply Kd.R_alloc | apply Kd.R_drewN | apply Kd.R_drew)); exact HO431.out) (Kd.R_base ho0) hb); have n1_ := Aside0.mk (Kd.R_elder' (by (with_reducible repeat (first | apply Kd.R_alloc | apply Kd.R_drewN | apply Kd.R_drew)); exact HO435.out) (Kd.R_base ho0) hb); have n2_ := Aside0.mk (Kd.R_elder' (by (with_reducible repeat (first | apply Kd.R_alloc | apply Kd.R_drewN | apply Kd.R_drew)); exact HO439.out) (Kd.R_base ho0) hb); have n3_ := Aside0.mk (Kd.R_elder' (by (with_reducible repeat (first | apply Kd.R_alloc | apply Kd.R_drewN | apply Kd.R_drew)); exact HO443.out) (Kd.R_base ho0) hb); have n4_ := Aside0.mk (Kd.R_lower (Kd.R_new' (Kd.R_new' (Kd.R_new' (Kd.R_new' ho0 (Kd.R_lt (by (with_reducible repeat (first | apply Kd.R_alloc | apply Kd.R_drewN | apply Kd.R_drew)); exact HO431.out))) (Kd.R_lt (by (with_reducible repeat (first | apply Kd.R_alloc | apply Kd.R_drewN | apply Kd.R_drew)); exact HO435.out))) (Kd.R_lt (by (with_reducible repeat (first | apply Kd.R_alloc | apply Kd.R_drewN | apply Kd.R_drew)); exact HO439.out))) (Kd.R_lt (by (with_reducible repeat (first | apply Kd.R_alloc | apply Kd.R_drewN | apply Kd.R_drew)); exact HO443.out))) (below_size (by repeat (first | (with_reducible first | exact HB.out | apply below_alloc | apply pw_below_drewN | apply below_drew1))))); have n5_ := Aside0.mk (below_step (by repeat (first | (with_reducible first | exact HB.out | apply below_alloc | apply pw_below_drewN | apply below_drew1))) hb); clear HO431; clear HO435; clear HO439; clear HO443; clear HB; have HO431 := n0_; have HO435 := n1_; have HO439 := n2_; have HO443 := n3_; have HO447 := n4_; have HB := n5_; clear n0_ n1_ n2_ n3_ n4_ n5_; (try clear hb); (try clear ho0)) | ((with_reducible refine gate_callee (f := 26) rfl ?_); refine goesL_ (some 497) rfl rfl Try.func26 (by kernel_rfl) rfl #[.slice Ao217 t440.length co217, .int .i64 t441] rfl (by (try simp only [List.map_toArray, List.map_cons, List.map_nil]); first | done | rfl | (simp only [List.length_drop, List.length_take]; rfl)) ?_; (with_reducible refine (spec_RestsOf.calls kj171 _ _ t440 t441 t448 t449 _ ?side1 ?side2 A203.out).mono ?_); (case side1 => repeat (first | exact (Kd.R_reads' HO443.out).2.2 | (with_reducible refine Kd.C_alloc ?_ _) | (with_reducible refine Kd.C_drewN ?_ _) | (with_reducible refine Kd.C_drew ?_))); (case side2 => exact (Kd.R_reads' HO443.out).2.1); rintro e w219 ⟨v450, rfl, ho0, hb⟩; refine ⟨_, rfl, ?_⟩; have n0_ := Aside0.mk (Kd.R_elder' (by (with_reducible repeat (first | apply Kd.R_alloc | apply Kd.R_drewN | apply Kd.R_drew)); exact HO431.out) (Kd.R_base ho0) hb); have n1_ := Aside0.mk (Kd.R_elder' (by (with_reducible repeat (first | apply Kd.R_alloc | apply Kd.R_drewN | apply Kd.R_drew)); exact HO435.out) (Kd.R_base ho0) hb); have n2_ := Aside0.mk (Kd.R_elder' (by (with_reducible repeat (first | apply Kd.R_alloc | apply Kd.R_drewN | apply Kd.R_drew)); exact HO439.out) (Kd.R_base ho0) hb); have n3_ := Aside0.mk (Kd.R_elder' (by (with_reducible repeat (first | apply Kd.R_alloc | apply Kd.R_drewN | apply Kd.R_drew)); exact HO443.out) (Kd.R_base ho0) hb); have n4_ := Aside0.mk (Kd.R_elder' (by (with_reducible repeat (first | apply Kd.R_alloc | apply Kd.R_drewN | apply Kd.R_drew)); exact HO447.out) (Kd.R_base ho0) hb); have n5_ := Aside0.mk (Kd.R_lower (Kd.R_new' (Kd.R_new' (Kd.R_new' (Kd.R_new' (Kd.R_new' ho0 (Kd.R_lt (by (with_reducible repeat (first | apply Kd.R_alloc | apply Kd.R_drewN | apply Kd.R_drew)); exact HO431.out))) (Kd.R_lt (by (with_reducible repeat (first | apply Kd.R_alloc | apply Kd.R_drewN | apply Kd.R_drew)); exact HO435.out))) (Kd.R_lt (by (with_reducible repeat (first | apply Kd.R_alloc | apply Kd.R_drewN | apply Kd.R_drew)); exact HO439.out))) (Kd.R_lt (by (with_reducible repeat (first | apply Kd.R_alloc | apply Kd.R_drewN | apply Kd.R_drew)); exact HO443.out))) (Kd.R_lt (by (with_reducible repeat (first | apply Kd.R_alloc | apply Kd.R_drewN | apply Kd.R_drew)); exact HO447.out))) (below_size (by repeat (first | (with_reducible first | exact HB.out | apply below_alloc | apply pw_below_drewN | apply below_drew1))))); have n6_ := Aside0.mk (below_step (by repeat (first | (with_reducible first | exact HB.out | apply below_alloc | apply pw_below_drewN | apply below_drew1))) hb); clear HO431; clear HO435; clear HO439; clear HO443; clear HO447; clear HB; have HO431 := n0_; have HO435 := n1_; have HO439 := n2_; have HO443 := n3_; have HO447 := n4_; have HO451 := n5_; have HB := n6_; clear n0_ n1_ n2_ n3_ n4_ n5_ n6_; (try clear hb); (try clear ho0); obtain ⟨Ao220, co220, eo220⟩ := Kd.R_slice HO435.out; subst eo220; obtain ⟨Ao221, co221, eo221⟩ := Kd.R_slice HO439.out; subst eo221) | (go_at_call 11; (with_reducible refine (laws_tSame.calls kj171 _ _ t432 _ _ t436 true _ ?side1 ?side2 ?side3 ?side4 A205.out).mono ?_); (case side1 => repeat (first | exact (Kd.R_reads' HO435.out).2.2 | (with_reducible refine Kd.C_alloc ?_ _) | (with_reducible refine Kd.C_drewN ?_ _) | (with_reducible refine Kd.C_drew ?_))); (case side2 => exact (Kd.R_reads' HO435.out).2.1); (case side3 => repeat (first | exact (Kd.R_reads' HO439.out).2.2 | (with_reducible refine Kd.C_alloc ?_ _) | (with_reducible refine Kd.C_drewN ?_ _) | (with_reducible refine Kd.C_drew ?_))); (case side4 => exact (Kd.R_reads' HO439.out).2.1); rintro e w' ⟨rfl, ⟨nd, rfl⟩⟩; obtain ⟨Ao222, co222, eo222⟩ := Kd.R_slice HO447.out; subst eo222; obtain ⟨Ao223, co223, eo223⟩ := Kd.R_slice HO451.out; subst eo223) | (go_at_call 11; (with_reducible refine (laws_tSame.calls kj171 _ _ t444 _ _ t448 true _ ?side1 ?side2 ?side3 ?side4 A208.out).mono ?_); (case side1 => repeat (first | exact (Kd.R_reads' HO447.out).2.2 | (with_reducible refine Kd.C_alloc ?_ _) | (with_reducible refine Kd.C_drewN ?_ _) | (with_reducible refine Kd.C_drew ?_))); (case side2 => exact (Kd.R_reads' HO447.out).2.1); (case side3 => repeat (first | exact (Kd.R_reads' HO451.out).2.2 | (with_reducible refine Kd.C_alloc ?_ _) | (with_reducible refine Kd.C_drewN ?_ _) | (with_reducible refine Kd.C_drew ?_))); (case side4 => exact (Kd.R_reads' HO451.out).2.1); rintro e w' ⟨rfl, ⟨nd, rfl⟩⟩) | (go_at_call 15; (with_reducible refine (laws_tRises.calls kj171 _ _ t432 1 t429 t454 _ ?side1 ?side2 A211.out).mono ?_); (case side1 => repeat (first | exact (Kd.R_reads' HO435.out).2.2 | (with_reducible refine Kd.C_alloc ?_ _) | (with_reducible refine Kd.C_drewN ?_ _) | (with_reducible refine Kd.C_drew ?_))); (case side2 => exact (Kd.R_reads' HO435.out).2.1); rintro e w' ⟨rfl, ⟨nd, rfl⟩⟩))
                        go_ret
                        exact ⟨by first | rfl | (simp [errW_none, errW_some] <;> rfl) | (simp [*, errW_none, errW_some] <;> rfl), by repeat (first | (with_reducible first | exact HB.out | apply below_alloc | apply pw_below_drewN | apply below_drew1))⟩
                      ·
                       replace c210 := Bool.eq_false_iff.mpr c210
                       subst c210
                       have H1 : (some true) = some r := by rw [if_neg (show ¬ (false = true) by decide)] at H; exact H
                       clear H
                       have H := H1
                       clear H1
                       first
                       | exact absurd (Option.some.inj (H.trans (congrArg some HRT.out))) Bool.false_ne_true
                       |
                        obtain rfl := Option.some.inj H
                        go_wp2_with (first | ((with_reducible refine gate_callee (f := 31) rfl ?_); refine goesL_ (some 468) rfl rfl Try.func31 (by kernel_rfl) rfl #[.slice A1 l1.length c1] rfl (by (try simp only [List.map_toArray, List.map_cons, List.map_nil]); first | done | rfl | (simp only [List.length_drop, List.length_take]; rfl)) ?_; (with_reducible refine (spec_DrawAddOffsets.calls kj171 _ _ l1 t428 t429 _ ?side1 ?side2 A198.out).mono ?_); (case side1 => repeat (first | exact (Kd.C_below HR1.out HB.out) | (with_reducible refine Kd.C_alloc ?_ _) | (with_reducible refine Kd.C_drewN ?_ _) | (with_reducible refine Kd.C_drew ?_))); (case side2 => exact HC1.out); rintro e w224 ⟨v430, rfl, ho0, hb⟩; refine ⟨_, rfl, ?_⟩; have n0_ := Aside0.mk (Kd.R_lower ho0 (below_size (by repeat (first | (with_reducible first | exact HB.out | apply below_alloc | apply pw_below_drewN | apply below_drew1))))); have n1_ := Aside0.mk (below_step (by repeat (first | (with_reducible first | exact HB.out | apply below_alloc | apply pw_below_drewN | apply below_drew1))) hb); clear HB; have HO431 := n0_; have HB := n1_; clear n0_ n1_; (try clear hb); (try clear ho0); obtain ⟨Ao225, co225, eo225⟩ := Kd.R_slice HO431.out; subst eo225) | ((with_reducible refine gate_callee (f := 24) rfl ?_); refine goesL_ (some 474) rfl rfl Try.func24 (by kernel_rfl) rfl #[.slice Ao225 t428.length co225, .int .i64 t429] rfl (by (try simp only [List.map_toArray, List.map_cons, List.map_nil]); first | done | rfl | (simp only [List.length_drop, List.length_take]; rfl)) ?_; (with_reducible refine (impl_AddOffsets.calls kj171 _ _ t428 t429 t432 false _ ?side1 ?side2 A199.out).mono ?_); (case side1 => repeat (first | exact (Kd.R_reads' HO431.out).2.2 | (with_reducible refine Kd.C_alloc ?_ _) | (with_reducible refine Kd.C_drewN ?_ _) | (with_reducible refine Kd.C_drew ?_))); (case side2 => exact (Kd.R_reads' HO431.out).2.1); rintro e w226 ⟨v434, rfl, ho0, hb⟩; refine ⟨_, rfl, ?_⟩; have n0_ := Aside0.mk (Kd.R_elder' (by (with_reducible repeat (first | apply Kd.R_alloc | apply Kd.R_drewN | apply Kd.R_drew)); exact HO431.out) (Kd.R_base ho0) hb); have n1_ := Aside0.mk (Kd.R_lower (Kd.R_new' ho0 (Kd.R_lt (by (with_reducible repeat (first | apply Kd.R_alloc | apply Kd.R_drewN | apply Kd.R_drew)); exact HO431.out))) (below_size (by repeat (first | (with_reducible first | exact HB.out | apply below_alloc | apply pw_below_drewN | apply below_drew1))))); have n2_ := Aside0.mk (below_step (by repeat (first | (with_reducible first | exact HB.out | apply below_alloc | apply pw_below_drewN | apply below_drew1))) hb); clear HO431; clear HB; have HO431 := n0_; have HO435 := n1_; have HB := n2_; clear n0_ n1_ n2_; (try clear hb); (try clear ho0)) | ((with_reducible refine gate_callee (f := 25) rfl ?_); refine goesL_ (some 480) rfl rfl Try.func25 (by kernel_rfl) rfl #[.slice Ao225 t428.length co225, .int .i64 t429] rfl (by (try simp only [List.map_toArray, List.map_cons, List.map_nil]); first | done | rfl | (simp only [List.length_drop, List.length_take]; rfl)) ?_; (with_reducible refine (spec_AddOffsets.calls kj171 _ _ t428 t429 t436 t437 _ ?side1 ?side2 A200.out).mono ?_); (case side1 => repeat (first | exact (Kd.R_reads' HO431.out).2.2 | (with_reducible refine Kd.C_alloc ?_ _) | (with_reducible refine Kd.C_drewN ?_ _) | (with_reducible refine Kd.C_drew ?_))); (case side2 => exact (Kd.R_reads' HO431.out).2.1); rintro e w227 ⟨v438, rfl, ho0, hb⟩; refine ⟨_, rfl, ?_⟩; have n0_ := Aside0.mk (Kd.R_elder' (by (with_reducible repeat (first | apply Kd.R_alloc | apply Kd.R_drewN | apply Kd.R_drew)); exact HO431.out) (Kd.R_base ho0) hb); have n1_ := Aside0.mk (Kd.R_elder' (by (with_reducible repeat (first | apply Kd.R_alloc | apply Kd.R_drewN | apply Kd.R_drew)); exact HO435.out) (Kd.R_base ho0) hb); have n2_ := Aside0.mk (Kd.R_lower (Kd.R_new' (Kd.R_new' ho0 (Kd.R_lt (by (with_reducible repeat (first | apply Kd.R_alloc | apply Kd.R_drewN | apply Kd.R_drew)); exact HO431.out))) (Kd.R_lt (by (with_reducible repeat (first | apply Kd.R_alloc | apply Kd.R_drewN | apply Kd.R_drew)); exact HO435.out))) (below_size (by repeat (first | (with_reducible first | exact HB.out | apply below_alloc | apply pw_below_drewN | apply below_drew1))))); have n3_ := Aside0.mk (below_step (by repeat (first | (with_reducible first | exact HB.out | apply below_alloc | apply pw_below_drewN | apply below_drew1))) hb); clear HO431; clear HO435; clear HB; have HO431 := n0_; have HO435 := n1_; have HO439 := n2_; have HB := n3_; clear n0_ n1_ n2_ n3_; (try clear hb); (try clear ho0)) | ((with_reducible refine gate_callee (f := 32) rfl ?_); refine goesL_ (some 485) rfl rfl Try.func32 (by kernel_rfl) rfl #[.slice A1 l1.length c1] rfl (by (try simp only [List.map_toArray, List.map_cons, List.map_nil]); first | done | rfl | (simp only [List.length_drop, List.length_take]; rfl)) ?_; (with_reducible refine (spec_DrawRestsOf.calls kj171 _ _ l1 t440 t441 _ ?side1 ?side2 A201.out).mono ?_); (case side1 => repeat (first | exact (Kd.C_below HR1.out HB.out) | (with_reducible refine Kd.C_alloc ?_ _) | (with_reducible refine Kd.C_drewN ?_ _) | (with_reducible refine Kd.C_drew ?_))); (case side2 => exact HC1.out); rintro e w228 ⟨v442, rfl, ho0, hb⟩; refine ⟨_, rfl, ?_⟩; have n0_ := Aside0.mk (Kd.R_elder' (by (with_reducible repeat (first | apply Kd.R_alloc | apply Kd.R_drewN | apply Kd.R_drew)); exact HO431.out) (Kd.R_base ho0) hb); have n1_ := Aside0.mk (Kd.R_elder' (by (with_reducible repeat (first | apply Kd.R_alloc | apply Kd.R_drewN | apply Kd.R_drew)); exact HO435.out) (Kd.R_base ho0) hb); have n2_ := Aside0.mk (Kd.R_elder' (by (with_reducible repeat (first | apply Kd.R_alloc | apply Kd.R_drewN | apply Kd.R_drew)); exact HO439.out) (Kd.R_base ho0) hb); have n3_ := Aside0.mk (Kd.R_lower (Kd.R_new' (Kd.R_new' (Kd.R_new' ho0 (Kd.R_lt (by (with_reducible repeat (first | apply Kd.R_alloc | apply Kd.R_drewN | apply Kd.R_drew)); exact HO431.out))) (Kd.R_lt (by (with_reducible repeat (first | apply Kd.R_alloc | apply Kd.R_drewN | apply Kd.R_drew)); exact HO435.out))) (Kd.R_lt (by (with_reducible repeat (first | apply Kd.R_alloc | apply Kd.R_drewN | apply Kd.R_drew)); exact HO439.out))) (below_size (by repeat (first | (with_reducible first | exact HB.out | apply below_alloc | apply pw_below_drewN | apply below_drew1))))); have n4_ := Aside0.mk (below_step (by repeat (first | (with_reducible first | exact HB.out | apply below_alloc | apply pw_below_drewN | apply below_drew1))) hb); clear HO431; clear HO435; clear HO439; clear HB; have HO431 := n0_; have HO435 := n1_; have HO439 := n2_; have HO443 := n3_; have HB := n4_; clear n0_ n1_ n2_ n3_ n4_; (try clear hb); (try clear ho0); obtain ⟨Ao229, co229, eo229⟩ := Kd.R_slice HO443.out; subst eo229) | ((with_reducible refine gate_callee (f := 14) rfl ?_); refine goesL_ (some 491) rfl rfl Try.func14 (by kernel_rfl) rfl #[.slice Ao229 t440.length co229, .int .i64 t441] rfl (by (try simp only [List.map_toArray, List.map_cons, List.map_nil]); first | done | rfl | (simp only [List.length_drop, List.length_take]; rfl)) ?_; (with_reducible refine (impl_RestsOf.calls kj171 _ _ t440 t441 t444 t445 _ ?side1 ?side2 A202.out).mono ?_); (case side1 => repeat (first | exact (Kd.R_reads' HO443.out).2.2 | (with_reducible refine Kd.C_alloc ?_ _) | (with_reducible refine Kd.C_drewN ?_ _) | (with_reducible refine Kd.C_drew ?_))); (case side2 => exact (Kd.R_reads' HO443.out).2.1); rintro e w230 ⟨v446, rfl, ho0, hb⟩; refine ⟨_, rfl, ?_⟩; have n0_ := Aside0.mk (Kd.R_elder' (by (with_reducible repeat (first | apply Kd.R_alloc | apply Kd.R_drewN | apply Kd.R_drew)); exact HO431.out) (Kd.R_base ho0) hb); have n1_ := Aside0.mk (Kd.R_elder' (by (with_reducible repeat (first | apply Kd.R_alloc | apply Kd.R_drewN | apply Kd.R_drew)); exact HO435.out) (Kd.R_base ho0) hb); have n2_ := Aside0.mk (Kd.R_elder' (by (with_reducible repeat (first | apply Kd.R_alloc | apply Kd.R_drewN | apply Kd.R_drew)); exact HO439.out) (Kd.R_base ho0) hb); have n3_ := Aside0.mk (Kd.R_elder' (by (with_reducible repeat (first | apply Kd.R_alloc | apply Kd.R_drewN | apply Kd.R_drew)); exact HO443.out) (Kd.R_base ho0) hb); have n4_ := Aside0.mk (Kd.R_lower (Kd.R_new' (Kd.R_new' (Kd.R_new' (Kd.R_new' ho0 (Kd.R_lt (by (with_reducible repeat (first | apply Kd.R_alloc | apply Kd.R_drewN | apply Kd.R_drew)); exact HO431.out))) (Kd.R_lt (by (with_reducible repeat (first | apply Kd.R_alloc | apply Kd.R_drewN | apply Kd.R_drew)); exact HO435.out))) (Kd.R_lt (by (with_reducible repeat (first | apply Kd.R_alloc | apply Kd.R_drewN | apply Kd.R_drew)); exact HO439.out))) (Kd.R_lt (by (with_reducible repeat (first | apply Kd.R_alloc | apply Kd.R_drewN | apply Kd.R_drew)); exact HO443.out))) (below_size (by repeat (first | (with_reducible first | exact HB.out | apply below_alloc | apply pw_below_drewN | apply below_drew1))))); have n5_ := Aside0.mk (below_step (by repeat (first | (with_reducible first | exact HB.out | apply below_alloc | apply pw_below_drewN | apply below_drew1))) hb); clear HO431; clear HO435; clear HO439; clear HO443; clear HB; have HO431 := n0_; have HO435 := n1_; have HO439 := n2_; have HO443 := n3_; have HO447 := n4_; have HB := n5_; clear n0_ n1_ n2_ n3_ n4_ n5_; (try clear hb); (try clear ho0)) | ((with_reducible refine gate_callee (f := 26) rfl ?_); refine goesL_ (some 497) rfl rfl Try.func26 (by kernel_rfl) rfl #[.slice Ao229 t440.length co229, .int .i64 t441] rfl (by (try simp only [List.map_toArray, List.map_cons, List.map_nil]); first | done | rfl | (simp only [List.length_drop, List.length_take]; rfl)) ?_; (with_reducible refine (spec_RestsOf.calls kj171 _ _ t440 t441 t448 t449 _ ?side1 ?side2 A203.out).mono ?_); (case side1 => repeat (first | exact (Kd.R_reads' HO443.out).2.2 | (with_reducible refine Kd.C_alloc ?_ _) | (with_reducible refine Kd.C_drewN ?_ _) | (with_reducible refine Kd.C_drew ?_))); (case side2 => exact (Kd.R_reads' HO443.out).2.1); rintro e w231 ⟨v450, rfl, ho0, hb⟩; refine ⟨_, rfl, ?_⟩; have n0_ := Aside0.mk (Kd.R_elder' (by (with_reducible repeat (first | apply Kd.R_alloc | apply Kd.R_drewN | apply Kd.R_drew)); exact HO431.out) (Kd.R_base ho0) hb); have n1_ := Aside0.mk (Kd.R_elder' (by (with_reducible repeat (first | apply Kd.R_alloc | apply Kd.R_drewN | apply Kd.R_drew)); exact HO435.out) (Kd.R_base ho0) hb); have n2_ := Aside0.mk (Kd.R_elder' (by (with_reducible repeat (first | apply Kd.R_alloc | apply Kd.R_drewN | apply Kd.R_drew)); exact HO439.out) (Kd.R_base ho0) hb); have n3_ := Aside0.mk (Kd.R_elder' (by (with_reducible repeat (first | apply Kd.R_alloc | apply Kd.R_drewN | apply Kd.R_drew)); exact HO443.out) (Kd.R_base ho0) hb); have n4_ := Aside0.mk (Kd.R_elder' (by (with_reducible repeat (first | apply Kd.R_alloc | apply Kd.R_drewN | apply Kd.R_drew)); exact HO447.out) (Kd.R_base ho0) hb); have n5_ := Aside0.mk (Kd.R_lower (Kd.R_new' (Kd.R_new' (Kd.R_new' (Kd.R_new' (Kd.R_new' ho0 (Kd.R_lt (by (with_reducible repeat (first | apply Kd.R_alloc | apply Kd.R_drewN | apply Kd.R_drew)); exact HO431.out))) (Kd.R_lt (by (with_reducible repeat (first | apply Kd.R_alloc | apply Kd.R_drewN | apply Kd.R_drew)); exact HO435.out))) (Kd.R_lt (by (with_reducible repeat (first | apply Kd.R_alloc | apply Kd.R_drewN | apply Kd.R_drew)); exact HO439.out))) (Kd.R_lt (by (with_reducible repeat (first | apply Kd.R_alloc | apply Kd.R_drewN | apply Kd.R_drew)); exact HO443.out))) (Kd.R_lt (by (with_reducible repeat (first | apply Kd.R_alloc | apply Kd.R_drewN | apply Kd.R_drew)); exact HO447.out))) (below_size (by repeat (first | (with_reducible first | exact HB.out | apply below_alloc | apply pw_below_drewN | apply below_drew1))))); have n6_ := Aside0.mk (below_step (by repeat (first | (with_reducible first | exact HB.out | apply below_alloc | apply pw_below_drewN | apply below_drew1))) hb); clear HO431; clear HO435; clear HO439; clear HO443; clear HO447; clear HB; have HO431 := n0_; have HO435 := n1_; have HO439 := n2_; have HO443 := n3_; have HO447 := n4_; have HO451 := n5_; have HB := n6_; clear n0_ n1_ n2_ n3_ n4_ n5_ n6_; (try clear hb); (try clear ho0); obtain ⟨Ao232, co232, eo232⟩ := Kd.R_slice HO435.out; subst eo232; obtain ⟨Ao233, co233, eo233⟩ := Kd.R_slice HO439.out; subst eo233) | (go_at_call 11; (with_reducible refine (laws_tSame.calls kj171 _ _ t432 _ _ t436 true _ ?side1 ?side2 ?side3 ?side4 A205.out).mono ?_); (case side1 => repeat (first | exact (Kd.R_reads' HO435.out).2.2 | (with_reducible refine Kd.C_alloc ?_ _) | (with_reducible refine Kd.C_drewN ?_ _) | (with_reducible refine Kd.C_drew ?_))); (case side2 => exact (Kd.R_reads' HO435.out).2.1); (case side3 => repeat (first | exact (Kd.R_reads' HO439.out).2.2 | (with_reducible refine Kd.C_alloc ?_ _) | (with_reducible refine Kd.C_drewN ?_ _) | (with_reducible refine Kd.C_drew ?_))); (case side4 => exact (Kd.R_reads' HO439.out).2.1); rintro e w' ⟨rfl, ⟨nd, rfl⟩⟩; obtain ⟨Ao234, co234, eo234⟩ := Kd.R_slice HO447.out; subst eo234; obtain ⟨Ao235, co235, eo235⟩ := Kd.R_slice HO451.out; subst eo235) | (go_at_call 11; (with_reducible refine (laws_tSame.calls kj171 _ _ t444 _ _ t448 true _ ?side1 ?side2 ?side3 ?side4 A208.out).mono ?_); (case side1 => repeat (first | exact (Kd.R_reads' HO447.out).2.2 | (with_reducible refine Kd.C_alloc ?_ _) | (with_reducible refine Kd.C_drewN ?_ _) | (with_reducible refine Kd.C_drew ?_))); (case side2 => exact (Kd.R_reads' HO447.out).2.1); (case side3 => repeat (first | exact (Kd.R_reads' HO451.out).2.2 | (with_reducible refine Kd.C_alloc ?_ _) | (with_reducible refine Kd.C_drewN ?_ _) | (with_reducible refine Kd.C_drew ?_))); (case side4 => exact (Kd.R_reads' HO451.out).2.1); rintro e w' ⟨rfl, ⟨nd, rfl⟩⟩))
                        go_ret
                        exact ⟨by first | rfl | (simp [errW_none, errW_some] <;> rfl) | (simp [*, errW_none, errW_some] <;> rfl), by repeat (first | (with_reducible first | exact HB.out | apply below_alloc | apply pw_below_drewN | apply below_drew1))⟩
                     ·
                      replace c209 := Bool.eq_false_iff.mpr c209
                      subst c209
                      have H1 : (some false) = some r := by rw [if_neg (show ¬ (false = true) by decide)] at H; exact H
                      clear H
                      have H := H1
                      clear H1
                      exact absurd (Option.some.inj (H.trans (congrArg some HRT.out))) Bool.false_ne_true
                    ·
                     rw [if_neg c207] at H
                     have c207b0 : (t445 == t449) = false := by simpa using c207
                     (try (have c207b1 : decide (t445 = t449) = false := by simpa using c207))
                     (try (have c207b2 : (t445 == t449) = false := by simpa using c207))
                     (try (have c207b3 : ¬ (t445 = t449) := by simpa using c207))
                     clear c207
                     exact absurd (Option.some.inj (H.trans (congrArg some HRT.out))) Bool.false_ne_true
                   ·
                    replace c206 := Bool.eq_false_iff.mpr c206
                    subst c206
                    have H1 : (some false) = some r := by rw [if_neg (show ¬ (false = true) by decide)] at H; exact H
                    clear H
                    have H := H1
                    clear H1
                    exact absurd (Option.some.inj (H.trans (congrArg some HRT.out))) Bool.false_ne_true
                  ·
                   rw [if_neg c204] at H
                   have c204b0 : (t433 == t437) = false := by simpa using c204
                   (try (have c204b1 : decide (t433 = t437) = false := by simpa using c204))
                   (try (have c204b2 : (t433 == t437) = false := by simpa using c204))
                   (try (have c204b3 : ¬ (t433 = t437) := by simpa using c204))
                   clear c204
                   exact absurd (Option.some.inj (H.trans (congrArg some HRT.out))) Bool.false_ne_true
 
/-- THE ONE PURE STATEMENT of laws_FnPatternsOpen: yours. -/
def laws_FnPatternsOpen.Pure : Prop := ∀ (l0 : List Int) (l1 : List Int), l0.length ≤ maxLen → l0.length * 1 ≤ 140737488351232 → (∀ x ∈ l0, (Lit.int .u8 x).wf = true) → l1.length ≤ maxLen → l1.length * 1 ≤ 140737488351232 → (∀ x ∈ l1, (Lit.int .u8 x).wf = true) → ∃ k, laws_FnPatternsOpen.f k l0 l1 = some true
theorem laws_FnPatternsOpen.walk (P : laws_FnPatternsOpen.Pure) (a0 : Option Addr) (len0 cap0 : Nat) (z0 : List Int) (a1 : Option Addr) (len1 cap1 : Nat) (z1 : List Int) (w : World) (w0 : (a0 = none ∧ len0 = 0 ∧ cap0 = 0 ∧ z0 = []) ∨ ∃ x, a0 = some x ∧ len0 ≤ cap0 ∧ cap0 ≤ maxLen ∧ z0.length = cap0 ∧ (∀ i, i < z0.length → w.cell? (x.add i) = some (.int .u8 (z0.getD i 0))) ∧ ∀ n ∈ z0, (Lit.int .u8 n).wf = true) (y0 : len0 * 1 ≤ 140737488351232) (w1 : (a1 = none ∧ len1 = 0 ∧ cap1 = 0 ∧ z1 = []) ∨ ∃ x, a1 = some x ∧ len1 ≤ cap1 ∧ cap1 ≤ maxLen ∧ z1.length = cap1 ∧ (∀ i, i < z1.length → w.cell? (x.add i) = some (.int .u8 (z1.getD i 0))) ∧ ∀ n ∈ z1, (Lit.int .u8 n).wf = true) (y1 : len1 * 1 ≤ 140737488351232) :
  Calls Try.prog 4 #[.slice a0 len0 cap0, .slice a1 len1 cap1] w fun e w' => e = .returned (.bool true) ∧ Below w.heap.size w w' := by
 obtain ⟨l0, rfl, hr0, hm0, hw0, hc0⟩ := ReadsInt.ofRowC w0
 obtain ⟨l1, rfl, hr1, hm1, hw1, hc1⟩ := ReadsInt.ofRowC w1
 obtain ⟨k, h⟩ := P l0 l1 hm0 y0 hw0 hm1 y1 hw1
 refine (laws_FnPatternsOpen.calls k _ _ l0 _ _ l1 true w (Kd.C_of_reads (d := (0 : Int)) (h1 := fun _ => rfl) hr0) hc0 (Kd.C_of_reads (d := (0 : Int)) (h1 := fun _ => rfl) hr1) hc1 h rfl).mono ?_
 rintro e w' ⟨rfl, hd⟩
 exact ⟨rfl, hd⟩

end Go.Proofs.Ytbdapgjgjllojaa.PFnPatternsOpen
