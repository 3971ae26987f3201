-- Written for this claim by a program of this session, out of the translation and given contracts.
import Derived.Test.YtfhfbicejddoiaaPFnDivisorsToldOfAllx0
import Derived.Test.YtfhfbicejddoiaaPFnDivisorsToldOfAllx2
import Derived.Test.YtfhfbicejddoiaaPFnDivisorsToldOfAllx3
import Derived.Test.YtfhfbicejddoiaaPFnDivisorsToldOfAllx4
import Derived.Test.YtfhfbicejddoiaaPFnDivisorsToldOfAllx5
namespace Go.Proofs.Ytfhfbicejddoiaa.PFnDivisorsToldOfAll
open Go.RowKit Go.Proofs.YtfhfbicejddoiaaW.PrintWords Go.Proofs.YtfhfbicejddoiaaW.PrintLast Go.Proofs.YtfhfbicejddoiaaW.PrintMore
attribute [local go_sem] max2_int min2_int max_two min_two max_three min_three max_four min_four   -- for this text's walks alone
set_option linter.unusedVariables false
set_option linter.unusedSimpArgs false

/-! ### laws_FnDivisorsToldOfAll: function 5 -/
mutual
def laws_FnDivisorsToldOfAll.j0 : Nat → Int → Int → Int → Int → List Int → Bool → Int → Int → Int → Int → Bool → Option (Bool)
 | 0, _, _, _, _, _, _, _, _, _, _, _ => none
 | k + 1, x0, x1, x2, x3, x9, x10, x13, x17, x21, x29, x200 => if x200 = true then (some false) else (if x10 = true then (if (x9.length : Int) = x13 then ((laws_gSum.f k x9).bind fun t271 => (if t271 = x17 then (if x29 = (wrap64 (x17 - x0)) then (if 0 < (x9.length : Int) then (if (rd x9 0) = 1 then (if 0 ≤ (wrap64 (x13 - 1)) then (if (wrap64 (x13 - 1)) < (x9.length : Int) then (laws_FnDivisorsToldOfAll.j1 k x0 x1 x2 x3 x9 x13 x21 ((rd x9 (wrap64 (x13 - 1))) != x0)) else (none)) else (none)) else (laws_FnDivisorsToldOfAll.j1 k x0 x1 x2 x3 x9 x13 x21 true)) else (none)) else (laws_FnDivisorsToldOfAll.j1 k x0 x1 x2 x3 x9 x13 x21 true)) else (laws_FnDivisorsToldOfAll.j1 k x0 x1 x2 x3 x9 x13 x21 true))) else (laws_FnDivisorsToldOfAll.j1 k x0 x1 x2 x3 x9 x13 x21 true)) else (laws_FnDivisorsToldOfAll.j6 k x1 x2 x3))
def laws_FnDivisorsToldOfAll.j6 : Nat → Int → Int → Int → Option (Bool)
 | 0, _, _, _ => none
 | k + 1, x1, x2, x3 => (impl_SumWay.f k x1 x2).bind fun bt283 => ((spec_SumWay.f k x1 x2).bind fun bt287 => ((impl_AmicableOf.f k x3).bind fun bt291 => ((spec_AmicableOf.f k x3).bind fun bt293 => (if (bt283.2 != bt287.2) = true then (laws_FnDivisorsToldOfAll.j7 k x1 x2 x3 bt283.1 bt283.2 bt291.1 bt291.2 true) else ((laws_gSame.f k bt283.1 bt287.1).bind fun t295 => (if t295 = true then (if (bt291.2 != bt293.2) = true then (laws_FnDivisorsToldOfAll.j7 k x1 x2 x3 bt283.1 bt283.2 bt291.1 bt291.2 true) else (laws_FnDivisorsToldOfAll.j7 k x1 x2 x3 bt283.1 bt283.2 bt291.1 bt291.2 (bt291.1 != bt293.1))) else (laws_FnDivisorsToldOfAll.j7 k x1 x2 x3 bt283.1 bt283.2 bt291.1 bt291.2 true)))))))
def laws_FnDivisorsToldOfAll.j7 : Nat → Int → Int → Int → List Int → Bool → Int → Bool → Bool → Option (Bool)
 | 0, _, _, _, _, _, _, _, _ => none
 | k + 1, x1, x2, x3, x43, x44, x47, x48, x366 => if x366 = true then (some false) else (if x44 = true then (if 0 < (x43.length : Int) then (if (rd x43 0) = x1 then (laws_FnDivisorsToldOfAll.j8 k x2 x3 x43 x47 x48 (decide ((x43.length : Int) > (wrap64 (x2 + 1))))) else (laws_FnDivisorsToldOfAll.j8 k x2 x3 x43 x47 x48 true)) else (none)) else (if x48 = true then (if x47 ≤ 1000000 then ((impl_AmicableOf.f k x47).bind fun bt304 => (if bt304.2 = true then (if bt304.1 = x3 then (some (x47 != x3)) else (some false)) else (some false))) else (some true)) else (some true)))
def laws_FnDivisorsToldOfAll.j8 : Nat → Int → Int → List Int → Int → Bool → Bool → Option (Bool)
 | 0, _, _, _, _, _, _ => none
 | k + 1, x2, x3, x43, x47, x48, x379 => if x379 = true then (some false) else (laws_FnDivisorsToldOfAll.l2 k x2 x3 x43 x47 x48 1)
def laws_FnDivisorsToldOfAll.l2 : Nat → Int → Int → List Int → Int → Bool → Int → Option (Bool)
 | 0, _, _, _, _, _, _ => none
 | k + 1, x2, x3, x43, x47, x48, x51 => if x51 < (x43.length : Int) then (if 0 ≤ (wrap64 (x51 - 1)) then (if (wrap64 (x51 - 1)) < (x43.length : Int) then ((impl_SumStep.f k (rd x43 (wrap64 (x51 - 1)))).bind fun bt298 => (if bt298.2 = true then (if 0 ≤ x51 then (if bt298.1 = (rd x43 x51) then (laws_FnDivisorsToldOfAll.l2 k x2 x3 x43 x47 x48 (wrap64 (x51 + 1))) else (some false)) else (none)) else (some false))) else (none)) else (none)) else (if 0 ≤ (wrap64 ((x43.length : Int) - 1)) then (if (wrap64 ((x43.length : Int) - 1)) < (x43.length : Int) then (if (x43.length : Int) < (wrap64 (x2 + 1)) then (if (rd x43 (wrap64 ((x43.length : Int) - 1))) = 0 then (laws_FnDivisorsToldOfAll.j10 k x3 x47 x48 false) else (laws_FnDivisorsToldOfAll.j10 k x3 x47 x48 (decide ((rd x43 (wrap64 ((x43.length : Int) - 1))) ≤ 1000000)))) else (laws_FnDivisorsToldOfAll.j10 k x3 x47 x48 false)) else (none)) else (none))
def laws_FnDivisorsToldOfAll.j10 : Nat → Int → Int → Bool → Bool → Option (Bool)
 | 0, _, _, _, _ => none
 | k + 1, x3, x47, x48, x423 => if x423 = true then (some false) else (if x48 = true then (if x47 ≤ 1000000 then ((impl_AmicableOf.f k x47).bind fun bt302 => (if bt302.2 = true then (if bt302.1 = x3 then (some (x47 != x3)) else (some false)) else (some false))) else (some true)) else (some true))
def laws_FnDivisorsToldOfAll.j1 : Nat → Int → Int → Int → Int → List Int → Int → Int → Bool → Option (Bool)
 | 0, _, _, _, _, _, _, _, _ => none
 | k + 1, x0, x1, x2, x3, x9, x13, x21, x233 => if x233 = true then (some false) else (laws_FnDivisorsToldOfAll.l0 k x0 x1 x2 x3 x9 x13 x21 0 0 x9 (x9.length : Int) 0)
def laws_FnDivisorsToldOfAll.l0 : Nat → Int → Int → Int → Int → List Int → Int → Int → Int → Int → List Int → Int → Int → Option (Bool)
 | 0, _, _, _, _, _, _, _, _, _, _, _, _ => none
 | k + 1, x0, x1, x2, x3, x9, x13, x21, x33, x34, x234, x235, x236 => if x236 < x235 then (if 0 ≤ x236 then (if x236 < (x234.length : Int) then (if x236 < (x9.length : Int) then (if 0 ≤ (wrap64 ((wrap64 (x13 - 1)) - x236)) then (if (wrap64 ((wrap64 (x13 - 1)) - x236)) < (x9.length : Int) then (if (wrap64 ((rd x9 x236) * (rd x9 (wrap64 ((wrap64 (x13 - 1)) - x236))))) = x0 then (if x236 > 0 then (if 0 ≤ (wrap64 (x236 - 1)) then (if (wrap64 (x236 - 1)) < (x9.length : Int) then (laws_FnDivisorsToldOfAll.j3 k x0 x1 x2 x3 x9 x13 x21 x33 x34 (rd x234 x236) x234 x235 x236 (decide ((rd x9 (wrap64 (x236 - 1))) ≥ (rd x234 x236)))) else (none)) else (none)) else (laws_FnDivisorsToldOfAll.j3 k x0 x1 x2 x3 x9 x13 x21 x33 x34 (rd x234 x236) x234 x235 x236 false)) else (laws_FnDivisorsToldOfAll.j3 k x0 x1 x2 x3 x9 x13 x21 x33 x34 (rd x234 x236) x234 x235 x236 true)) else (none)) else (none)) else (none)) else (none)) else (none)) else (if x33 = x0 then (if x0 > 1 then (if x34 = 0 then (if x0 = 1 then (laws_FnDivisorsToldOfAll.j4 k x0 x1 x2 x3 x21 (x34 != 1)) else (laws_FnDivisorsToldOfAll.j4 k x0 x1 x2 x3 x21 false)) else (laws_FnDivisorsToldOfAll.j4 k x0 x1 x2 x3 x21 true)) else (if x0 = 1 then (laws_FnDivisorsToldOfAll.j4 k x0 x1 x2 x3 x21 (x34 != 1)) else (laws_FnDivisorsToldOfAll.j4 k x0 x1 x2 x3 x21 false))) else (laws_FnDivisorsToldOfAll.j4 k x0 x1 x2 x3 x21 true))
def laws_FnDivisorsToldOfAll.j3 : Nat → Int → Int → Int → Int → List Int → Int → Int → Int → Int → Int → List Int → Int → Int → Bool → Option (Bool)
 | 0, _, _, _, _, _, _, _, _, _, _, _, _, _, _ => none
 | k + 1, x0, x1, x2, x3, x9, x13, x21, x33, x34, x36, x234, x235, x236, x267 => if x267 = true then (some false) else ((impl_TotientOf.f k x36).bind fun bt278 => ((impl_MoebiusOf.f k x36).bind fun bt280 => (if bt278.2 = true then (if bt280.2 = true then (laws_FnDivisorsToldOfAll.l0 k x0 x1 x2 x3 x9 x13 x21 (wrap64 (x33 + bt278.1)) (wrap64 (x34 + bt280.1)) x234 x235 (wrap64 (x236 + 1))) else (some false)) else (some false))))
def laws_FnDivisorsToldOfAll.j4 : Nat → Int → Int → Int → Int → Int → Bool → Option (Bool)
 | 0, _, _, _, _, _, _ => none
 | k + 1, x0, x1, x2, x3, x21, x309 => if x309 = true then (some false) else (if x0 ≤ 600 then (laws_FnDivisorsToldOfAll.l1 k x0 x1 x2 x3 x21 0 1) else (laws_FnDivisorsToldOfAll.j6 k x1 x2 x3))
def laws_FnDivisorsToldOfAll.l1 : Nat → Int → Int → Int → Int → Int → Int → Int → Option (Bool)
 | 0, _, _, _, _, _, _, _ => none
 | k + 1, x0, x1, x2, x3, x21, x41, x42 => if x42 ≤ x0 then ((laws_gCommon.f k x0 x42).bind fun t282 => (if t282 = 1 then (laws_FnDivisorsToldOfAll.l1 k x0 x1 x2 x3 x21 (wrap64 (x41 + 1)) (wrap64 (x42 + 1))) else (laws_FnDivisorsToldOfAll.l1 k x0 x1 x2 x3 x21 x41 (wrap64 (x42 + 1))))) else (if x41 = x21 then (laws_FnDivisorsToldOfAll.j6 k x1 x2 x3) else (some false))
end
def laws_FnDivisorsToldOfAll.f (k : Nat) (a0 : Int) (a1 : Int) (a2 : Int) (a3 : Int) : Option (Bool) := (impl_DivisorsOf.f k a0).bind fun bt242 => ((spec_DivisorsOf.f k a0).bind fun bt246 => ((impl_CountDivisors.f k a0).bind fun bt250 => ((spec_CountDivisors.f k a0).bind fun bt252 => ((impl_SumDivisors.f k a0).bind fun bt254 => ((spec_SumDivisors.f k a0).bind fun bt256 => ((impl_TotientOf.f k a0).bind fun bt258 => ((spec_TotientOf.f k a0).bind fun bt260 => ((impl_MoebiusOf.f k a0).bind fun bt262 => ((spec_MoebiusOf.f k a0).bind fun bt264 => ((impl_SumStep.f k a0).bind fun bt266 => ((spec_SumStep.f k a0).bind fun bt268 => (if (bt242.2 != bt246.2) = true then (laws_FnDivisorsToldOfAll.j0 k a0 a1 a2 a3 bt242.1 bt242.2 bt250.1 bt254.1 bt258.1 bt266.1 true) else ((laws_gSame.f k bt242.1 bt246.1).bind fun t270 => (if t270 = true then (if (bt250.2 != bt252.2) = true then (laws_FnDivisorsToldOfAll.j0 k a0 a1 a2 a3 bt242.1 bt242.2 bt250.1 bt254.1 bt258.1 bt266.1 true) else (if bt250.1 = bt252.1 then (if (bt254.2 != bt256.2) = true then (laws_FnDivisorsToldOfAll.j0 k a0 a1 a2 a3 bt242.1 bt242.2 bt250.1 bt254.1 bt258.1 bt266.1 true) else (if bt254.1 = bt256.1 then (if (bt258.2 != bt260.2) = true then (laws_FnDivisorsToldOfAll.j0 k a0 a1 a2 a3 bt242.1 bt242.2 bt250.1 bt254.1 bt258.1 bt266.1 true) else (if bt258.1 = bt260.1 then (if (bt262.2 != bt264.2) = true then (laws_FnDivisorsToldOfAll.j0 k a0 a1 a2 a3 bt242.1 bt242.2 bt250.1 bt254.1 bt258.1 bt266.1 true) else (if bt262.1 = bt264.1 then (if (bt266.2 != bt268.2) = true then (laws_FnDivisorsToldOfAll.j0 k a0 a1 a2 a3 bt242.1 bt242.2 bt250.1 bt254.1 bt258.1 bt266.1 true) else (if bt266.1 = bt268.1 then (if (bt250.2 != bt242.2) = true then (laws_FnDivisorsToldOfAll.j0 k a0 a1 a2 a3 bt242.1 bt242.2 bt250.1 bt254.1 bt258.1 bt266.1 true) else (if (bt254.2 != bt242.2) = true then (laws_FnDivisorsToldOfAll.j0 k a0 a1 a2 a3 bt242.1 bt242.2 bt250.1 bt254.1 bt258.1 bt266.1 true) else (if (bt258.2 != bt242.2) = true then (laws_FnDivisorsToldOfAll.j0 k a0 a1 a2 a3 bt242.1 bt242.2 bt250.1 bt254.1 bt258.1 bt266.1 true) else (if (bt262.2 != bt242.2) = true then (laws_FnDivisorsToldOfAll.j0 k a0 a1 a2 a3 bt242.1 bt242.2 bt250.1 bt254.1 bt258.1 bt266.1 true) else (laws_FnDivisorsToldOfAll.j0 k a0 a1 a2 a3 bt242.1 bt242.2 bt250.1 bt254.1 bt258.1 bt266.1 (bt266.2 != bt242.2)))))) else (laws_FnDivisorsToldOfAll.j0 k a0 a1 a2 a3 bt242.1 bt242.2 bt250.1 bt254.1 bt258.1 bt266.1 true))) else (laws_FnDivisorsToldOfAll.j0 k a0 a1 a2 a3 bt242.1 bt242.2 bt250.1 bt254.1 bt258.1 bt266.1 true))) else (laws_FnDivisorsToldOfAll.j0 k a0 a1 a2 a3 bt242.1 bt242.2 bt250.1 bt254.1 bt258.1 bt266.1 true))) else (laws_FnDivisorsToldOfAll.j0 k a0 a1 a2 a3 bt242.1 bt242.2 bt250.1 bt254.1 bt258.1 bt266.1 true))) else (laws_FnDivisorsToldOfAll.j0 k a0 a1 a2 a3 bt242.1 bt242.2 bt250.1 bt254.1 bt258.1 bt266.1 true))) else (laws_FnDivisorsToldOfAll.j0 k a0 a1 a2 a3 bt242.1 bt242.2 bt250.1 bt254.1 bt258.1 bt266.1 true)))))))))))))))
theorem laws_FnDivisorsToldOfAll.mono_l : ∀ k, (∀ y0 y1 y2 y3 y4 y5 y6 y7 y8 y9 y10, LeO (laws_FnDivisorsToldOfAll.j0 k y0 y1 y2 y3 y4 y5 y6 y7 y8 y9 y10) (laws_FnDivisorsToldOfAll.j0 (k + 1) y0 y1 y2 y3 y4 y5 y6 y7 y8 y9 y10)) ∧ (∀ y0 y1 y2, LeO (laws_FnDivisorsToldOfAll.j6 k y0 y1 y2) (laws_FnDivisorsToldOfAll.j6 (k + 1) y0 y1 y2)) ∧ (∀ y0 y1 y2 y3 y4 y5 y6 y7, LeO (laws_FnDivisorsToldOfAll.j7 k y0 y1 y2 y3 y4 y5 y6 y7) (laws_FnDivisorsToldOfAll.j7 (k + 1) y0 y1 y2 y3 y4 y5 y6 y7)) ∧ (∀ y0 y1 y2 y3 y4 y5, LeO (laws_FnDivisorsToldOfAll.j8 k y0 y1 y2 y3 y4 y5) (laws_FnDivisorsToldOfAll.j8 (k + 1) y0 y1 y2 y3 y4 y5)) ∧ (∀ y0 y1 y2 y3 y4 y5, LeO (laws_FnDivisorsToldOfAll.l2 k y0 y1 y2 y3 y4 y5) (laws_FnDivisorsToldOfAll.l2 (k + 1) y0 y1 y2 y3 y4 y5)) ∧ (∀ y0 y1 y2 y3, LeO (laws_FnDivisorsToldOfAll.j10 k y0 y1 y2 y3) (laws_FnDivisorsToldOfAll.j10 (k + 1) y0 y1 y2 y3)) ∧ (∀ y0 y1 y2 y3 y4 y5 y6 y7, LeO (laws_FnDivisorsToldOfAll.j1 k y0 y1 y2 y3 y4 y5 y6 y7) (laws_FnDivisorsToldOfAll.j1 (k + 1) y0 y1 y2 y3 y4 y5 y6 y7)) ∧ (∀ y0 y1 y2 y3 y4 y5 y6 y7 y8 y9 y10 y11, LeO (laws_FnDivisorsToldOfAll.l0 k y0 y1 y2 y3 y4 y5 y6 y7 y8 y9 y10 y11) (laws_FnDivisorsToldOfAll.l0 (k + 1) y0 y1 y2 y3 y4 y5 y6 y7 y8 y9 y10 y11)) ∧ (∀ y0 y1 y2 y3 y4 y5 y6 y7 y8 y9 y10 y11 y12 y13, LeO (laws_FnDivisorsToldOfAll.j3 k y0 y1 y2 y3 y4 y5 y6 y7 y8 y9 y10 y11 y12 y13) (laws_FnDivisorsToldOfAll.j3 (k + 1) y0 y1 y2 y3 y4 y5 y6 y7 y8 y9 y10 y11 y12 y13)) ∧ (∀ y0 y1 y2 y3 y4 y5, LeO (laws_FnDivisorsToldOfAll.j4 k y0 y1 y2 y3 y4 y5) (laws_FnDivisorsToldOfAll.j4 (k + 1) y0 y1 y2 y3 y4 y5)) ∧ (∀ y0 y1 y2 y3 y4 y5 y6, LeO (laws_FnDivisorsToldOfAll.l1 k y0 y1 y2 y3 y4 y5 y6) (laws_FnDivisorsToldOfAll.l1 (k + 1) y0 y1 y2 y3 y4 y5 y6))
 | 0 => ⟨fun _ _ _ _ _ _ _ _ _ _ _ r h => by simp [laws_FnDivisorsToldOfAll.j0] at h, fun _ _ _ r h => by simp [laws_FnDivisorsToldOfAll.j6] at h, fun _ _ _ _ _ _ _ _ r h => by simp [laws_FnDivisorsToldOfAll.j7] at h, fun _ _ _ _ _ _ r h => by simp [laws_FnDivisorsToldOfAll.j8] at h, fun _ _ _ _ _ _ r h => by simp [laws_FnDivisorsToldOfAll.l2] at h, fun _ _ _ _ r h => by simp [laws_FnDivisorsToldOfAll.j10] at h, fun _ _ _ _ _ _ _ _ r h => by simp [laws_FnDivisorsToldOfAll.j1] at h, fun _ _ _ _ _ _ _ _ _ _ _ _ r h => by simp [laws_FnDivisorsToldOfAll.l0] at h, fun _ _ _ _ _ _ _ _ _ _ _ _ _ _ r h => by simp [laws_FnDivisorsToldOfAll.j3] at h, fun _ _ _ _ _ _ r h => by simp [laws_FnDivisorsToldOfAll.j4] at h, fun _ _ _ _ _ _ _ r h => by simp [laws_FnDivisorsToldOfAll.l1] at h⟩
 | k + 1 => by
  obtain ⟨ih0, ih1, ih2, ih3, ih4, ih5, ih6, ih7, ih8, ih9, ih10⟩ := laws_FnDivisorsToldOfAll.mono_l k
  refine ⟨?_, ?_, ?_, ?_, ?_, ?_, ?_, ?_, ?_, ?_, ?_⟩
  ·
   intro y0 y1 y2 y3 y4 y5 y6 y7 y8 y9 y10
   unfold laws_FnDivisorsToldOfAll.j0
   repeat' first
   | (with_reducible first | exact ih0 _ _ _ _ _ _ _ _ _ _ _ | exact ih1 _ _ _ | exact ih2 _ _ _ _ _ _ _ _ | exact ih3 _ _ _ _ _ _ | exact ih4 _ _ _ _ _ _ | exact ih5 _ _ _ _ | exact ih6 _ _ _ _ _ _ _ _ | exact ih7 _ _ _ _ _ _ _ _ _ _ _ _ | exact ih8 _ _ _ _ _ _ _ _ _ _ _ _ _ _ | exact ih9 _ _ _ _ _ _ | exact ih10 _ _ _ _ _ _ _ | exact impl_AmicableOf.mono _ _ | exact impl_CountDivisors.mono _ _ | exact impl_DivisorsOf.mono _ _ | exact impl_MoebiusOf.mono _ _ | exact impl_SumDivisors.mono _ _ | exact impl_SumStep.mono _ _ | exact impl_SumWay.mono _ _ _ | exact impl_TotientOf.mono _ _ | exact laws_gCommon.mono _ _ _ | exact laws_gSame.mono _ _ _ | exact laws_gSum.mono _ _ | exact spec_AmicableOf.mono _ _ | exact spec_CountDivisors.mono _ _ | exact spec_DivisorsOf.mono _ _ | exact spec_MoebiusOf.mono _ _ | exact spec_SumDivisors.mono _ _ | exact spec_SumStep.mono _ _ | exact spec_SumWay.mono _ _ _ | exact spec_TotientOf.mono _ _ | exact LeO.refl _ | exact LeO.none _ | refine LeO.ite ?_ ?_ | refine LeO.bind ?_ (fun _ => ?_))
  ·
   intro y0 y1 y2
   unfold laws_FnDivisorsToldOfAll.j6
   repeat' first
   | (with_reducible first | exact ih0 _ _ _ _ _ _ _ _ _ _ _ | exact ih1 _ _ _ | exact ih2 _ _ _ _ _ _ _ _ | exact ih3 _ _ _ _ _ _ | exact ih4 _ _ _ _ _ _ | exact ih5 _ _ _ _ | exact ih6 _ _ _ _ _ _ _ _ | exact ih7 _ _ _ _ _ _ _ _ _ _ _ _ | exact ih8 _ _ _ _ _ _ _ _ _ _ _ _ _ _ | exact ih9 _ _ _ _ _ _ | exact ih10 _ _ _ _ _ _ _ | exact impl_AmicableOf.mono _ _ | exact impl_CountDivisors.mono _ _ | exact impl_DivisorsOf.mono _ _ | exact impl_MoebiusOf.mono _ _ | exact impl_SumDivisors.mono _ _ | exact impl_SumStep.mono _ _ | exact impl_SumWay.mono _ _ _ | exact impl_TotientOf.mono _ _ | exact laws_gCommon.mono _ _ _ | exact laws_gSame.mono _ _ _ | exact laws_gSum.mono _ _ | exact spec_AmicableOf.mono _ _ | exact spec_CountDivisors.mono _ _ | exact spec_DivisorsOf.mono _ _ | exact spec_MoebiusOf.mono _ _ | exact spec_SumDivisors.mono _ _ | exact spec_SumStep.mono _ _ | exact spec_SumWay.mono _ _ _ | exact spec_TotientOf.mono _ _ | exact LeO.refl _ | exact LeO.none _ | refine LeO.ite ?_ ?_ | refine LeO.bind ?_ (fun _ => ?_))
  ·
   intro y0 y1 y2 y3 y4 y5 y6 y7
   unfold laws_FnDivisorsToldOfAll.j7
   repeat' first
   | (with_reducible first | exact ih0 _ _ _ _ _ _ _ _ _ _ _ | exact ih1 _ _ _ | exact ih2 _ _ _ _ _ _ _ _ | exact ih3 _ _ _ _ _ _ | exact ih4 _ _ _ _ _ _ | exact ih5 _ _ _ _ | exact ih6 _ _ _ _ _ _ _ _ | exact ih7 _ _ _ _ _ _ _ _ _ _ _ _ | exact ih8 _ _ _ _ _ _ _ _ _ _ _ _ _ _ | exact ih9 _ _ _ _ _ _ | exact ih10 _ _ _ _ _ _ _ | exact impl_AmicableOf.mono _ _ | exact impl_CountDivisors.mono _ _ | exact impl_DivisorsOf.mono _ _ | exact impl_MoebiusOf.mono _ _ | exact impl_SumDivisors.mono _ _ | exact impl_SumStep.mono _ _ | exact impl_SumWay.mono _ _ _ | exact impl_TotientOf.mono _ _ | exact laws_gCommon.mono _ _ _ | exact laws_gSame.mono _ _ _ | exact laws_gSum.mono _ _ | exact spec_AmicableOf.mono _ _ | exact spec_CountDivisors.mono _ _ | exact spec_DivisorsOf.mono _ _ | exact spec_MoebiusOf.mono _ _ | exact spec_SumDivisors.mono _ _ | exact spec_SumStep.mono _ _ | exact spec_SumWay.mono _ _ _ | exact spec_TotientOf.mono _ _ | exact LeO.refl _ | exact LeO.none _ | refine LeO.ite ?_ ?_ | refine LeO.bind ?_ (fun _ => ?_))
  ·
   intro y0 y1 y2 y3 y4 y5
   unfold laws_FnDivisorsToldOfAll.j8
   repeat' first
   | (with_reducible first | exact ih0 _ _ _ _ _ _ _ _ _ _ _ | exact ih1 _ _ _ | exact ih2 _ _ _ _ _ _ _ _ | exact ih3 _ _ _ _ _ _ | exact ih4 _ _ _ _ _ _ | exact ih5 _ _ _ _ | exact ih6 _ _ _ _ _ _ _ _ | exact ih7 _ _ _ _ _ _ _ _ _ _ _ _ | exact ih8 _ _ _ _ _ _ _ _ _ _ _ _ _ _ | exact ih9 _ _ _ _ _ _ | exact ih10 _ _ _ _ _ _ _ | exact impl_AmicableOf.mono _ _ | exact impl_CountDivisors.mono _ _ | exact impl_DivisorsOf.mono _ _ | exact impl_MoebiusOf.mono _ _ | exact impl_SumDivisors.mono _ _ | exact impl_SumStep.mono _ _ | exact impl_SumWay.mono _ _ _ | exact impl_TotientOf.mono _ _ | exact laws_gCommon.mono _ _ _ | exact laws_gSame.mono _ _ _ | exact laws_gSum.mono _ _ | exact spec_AmicableOf.mono _ _ | exact spec_CountDivisors.mono _ _ | exact spec_DivisorsOf.mono _ _ | exact spec_MoebiusOf.mono _ _ | exact spec_SumDivisors.mono _ _ | exact spec_SumStep.mono _ _ | exact spec_SumWay.mono _ _ _ | exact spec_TotientOf.mono _ _ | exact LeO.refl _ | exact LeO.none _ | refine LeO.ite ?_ ?_ | refine LeO.bind ?_ (fun _ => ?_))
  ·
   intro y0 y1 y2 y3 y4 y5
   unfold laws_FnDivisorsToldOfAll.l2
   repeat' first
   | (with_reducible first | exact ih0 _ _ _ _ _ _ _ _ _ _ _ | exact ih1 _ _ _ | exact ih2 _ _ _ _ _ _ _ _ | exact ih3 _ _ _ _ _ _ | exact ih4 _ _ _ _ _ _ | exact ih5 _ _ _ _ | exact ih6 _ _ _ _ _ _ _ _ | exact ih7 _ _ _ _ _ _ _ _ _ _ _ _ | exact ih8 _ _ _ _ _ _ _ _ _ _ _ _ _ _ | exact ih9 _ _ _ _ _ _ | exact ih10 _ _ _ _ _ _ _ | exact impl_AmicableOf.mono _ _ | exact impl_CountDivisors.mono _ _ | exact impl_DivisorsOf.mono _ _ | exact impl_MoebiusOf.mono _ _ | exact impl_SumDivisors.mono _ _ | exact impl_SumStep.mono _ _ | exact impl_SumWay.mono _ _ _ | exact impl_TotientOf.mono _ _ | exact laws_gCommon.mono _ _ _ | exact laws_gSame.mono _ _ _ | exact laws_gSum.mono _ _ | exact spec_AmicableOf.mono _ _ | exact spec_CountDivisors.mono _ _ | exact spec_DivisorsOf.mono _ _ | exact spec_MoebiusOf.mono _ _ | exact spec_SumDivisors.mono _ _ | exact spec_SumStep.mono _ _ | exact spec_SumWay.mono _ _ _ | exact spec_TotientOf.mono _ _ | exact LeO.refl _ | exact LeO.none _ | refine LeO.ite ?_ ?_ | refine LeO.bind ?_ (fun _ => ?_))
  ·
   intro y0 y1 y2 y3
   unfold laws_FnDivisorsToldOfAll.j10
   repeat' first
   | (with_reducible first | exact ih0 _ _ _ _ _ _ _ _ _ _ _ | exact ih1 _ _ _ | exact ih2 _ _ _ _ _ _ _ _ | exact ih3 _ _ _ _ _ _ | exact ih4 _ _ _ _ _ _ | exact ih5 _ _ _ _ | exact ih6 _ _ _ _ _ _ _ _ | exact ih7 _ _ _ _ _ _ _ _ _ _ _ _ | exact ih8 _ _ _ _ _ _ _ _ _ _ _ _ _ _ | exact ih9 _ _ _ _ _ _ | exact ih10 _ _ _ _ _ _ _ | exact impl_AmicableOf.mono _ _ | exact impl_CountDivisors.mono _ _ | exact impl_DivisorsOf.mono _ _ | exact impl_MoebiusOf.mono _ _ | exact impl_SumDivisors.mono _ _ | exact impl_SumStep.mono _ _ | exact impl_SumWay.mono _ _ _ | exact impl_TotientOf.mono _ _ | exact laws_gCommon.mono _ _ _ | exact laws_gSame.mono _ _ _ | exact laws_gSum.mono _ _ | exact spec_AmicableOf.mono _ _ | exact spec_CountDivisors.mono _ _ | exact spec_DivisorsOf.mono _ _ | exact spec_MoebiusOf.mono _ _ | exact spec_SumDivisors.mono _ _ | exact spec_SumStep.mono _ _ | exact spec_SumWay.mono _ _ _ | exact spec_TotientOf.mono _ _ | exact LeO.refl _ | exact LeO.none _ | refine LeO.ite ?_ ?_ | refine LeO.bind ?_ (fun _ => ?_))
  ·
   intro y0 y1 y2 y3 y4 y5 y6 y7
   unfold laws_FnDivisorsToldOfAll.j1
   repeat' first
   | (with_reducible first | exact ih0 _ _ _ _ _ _ _ _ _ _ _ | exact ih1 _ _ _ | exact ih2 _ _ _ _ _ _ _ _ | exact ih3 _ _ _ _ _ _ | exact ih4 _ _ _ _ _ _ | exact ih5 _ _ _ _ | exact ih6 _ _ _ _ _ _ _ _ | exact ih7 _ _ _ _ _ _ _ _ _ _ _ _ | exact ih8 _ _ _ _ _ _ _ _ _ _ _ _ _ _ | exact ih9 _ _ _ _ _ _ | exact ih10 _ _ _ _ _ _ _ | exact impl_AmicableOf.mono _ _ | exact impl_CountDivisors.mono _ _ | exact impl_DivisorsOf.mono _ _ | exact impl_MoebiusOf.mono _ _ | exact impl_SumDivisors.mono _ _ | exact impl_SumStep.mono _ _ | exact impl_SumWay.mono _ _ _ | exact impl_TotientOf.mono _ _ | exact laws_gCommon.mono _ _ _ | exact laws_gSame.mono _ _ _ | exact laws_gSum.mono _ _ | exact spec_AmicableOf.mono _ _ | exact spec_CountDivisors.mono _ _ | exact spec_DivisorsOf.mono _ _ | exact spec_MoebiusOf.mono _ _ | exact spec_SumDivisors.mono _ _ | exact spec_SumStep.mono _ _ | exact spec_SumWay.mono _ _ _ | exact spec_TotientOf.mono _ _ | exact LeO.refl _ | exact LeO.none _ | refine LeO.ite ?_ ?_ | refine LeO.bind ?_ (fun _ => ?_))
  ·
   intro y0 y1 y2 y3 y4 y5 y6 y7 y8 y9 y10 y11
   unfold laws_FnDivisorsToldOfAll.l0
   repeat' first
   | (with_reducible first | exact ih0 _ _ _ _ _ _ _ _ _ _ _ | exact ih1 _ _ _ | exact ih2 _ _ _ _ _ _ _ _ | exact ih3 _ _ _ _ _ _ | exact ih4 _ _ _ _ _ _ | exact ih5 _ _ _ _ | exact ih6 _ _ _ _ _ _ _ _ | exact ih7 _ _ _ _ _ _ _ _ _ _ _ _ | exact ih8 _ _ _ _ _ _ _ _ _ _ _ _ _ _ | exact ih9 _ _ _ _ _ _ | exact ih10 _ _ _ _ _ _ _ | exact impl_AmicableOf.mono _ _ | exact impl_CountDivisors.mono _ _ | exact impl_DivisorsOf.mono _ _ | exact impl_MoebiusOf.mono _ _ | exact impl_SumDivisors.mono _ _ | exact impl_SumStep.mono _ _ | exact impl_SumWay.mono _ _ _ | exact impl_TotientOf.mono _ _ | exact laws_gCommon.mono _ _ _ | exact laws_gSame.mono _ _ _ | exact laws_gSum.mono _ _ | exact spec_AmicableOf.mono _ _ | exact spec_CountDivisors.mono _ _ | exact spec_DivisorsOf.mono _ _ | exact spec_MoebiusOf.mono _ _ | exact spec_SumDivisors.mono _ _ | exact spec_SumStep.mono _ _ | exact spec_SumWay.mono _ _ _ | exact spec_TotientOf.mono _ _ | exact LeO.refl _ | exact LeO.none _ | refine LeO.ite ?_ ?_ | refine LeO.bind ?_ (fun _ => ?_))
  ·
   intro y0 y1 y2 y3 y4 y5 y6 y7 y8 y9 y10 y11 y12 y13
   unfold laws_FnDivisorsToldOfAll.j3
   repeat' first
   | (with_reducible first | exact ih0 _ _ _ _ _ _ _ _ _ _ _ | exact ih1 _ _ _ | exact ih2 _ _ _ _ _ _ _ _ | exact ih3 _ _ _ _ _ _ | exact ih4 _ _ _ _ _ _ | exact ih5 _ _ _ _ | exact ih6 _ _ _ _ _ _ _ _ | exact ih7 _ _ _ _ _ _ _ _ _ _ _ _ | exact ih8 _ _ _ _ _ _ _ _ _ _ _ _ _ _ | exact ih9 _ _ _ _ _ _ | exact ih10 _ _ _ _ _ _ _ | exact impl_AmicableOf.mono _ _ | exact impl_CountDivisors.mono _ _ | exact impl_DivisorsOf.mono _ _ | exact impl_MoebiusOf.mono _ _ | exact impl_SumDivisors.mono _ _ | exact impl_SumStep.mono _ _ | exact impl_SumWay.mono _ _ _ | exact impl_TotientOf.mono _ _ | exact laws_gCommon.mono _ _ _ | exact laws_gSame.mono _ _ _ | exact laws_gSum.mono _ _ | exact spec_AmicableOf.mono _ _ | exact spec_CountDivisors.mono _ _ | exact spec_DivisorsOf.mono _ _ | exact spec_MoebiusOf.mono _ _ | exact spec_SumDivisors.mono _ _ | exact spec_SumStep.mono _ _ | exact spec_SumWay.mono _ _ _ | exact spec_TotientOf.mono _ _ | exact LeO.refl _ | exact LeO.none _ | refine LeO.ite ?_ ?_ | refine LeO.bind ?_ (fun _ => ?_))
  ·
   intro y0 y1 y2 y3 y4 y5
   unfold laws_FnDivisorsToldOfAll.j4
   repeat' first
   | (with_reducible first | exact ih0 _ _ _ _ _ _ _ _ _ _ _ | exact ih1 _ _ _ | exact ih2 _ _ _ _ _ _ _ _ | exact ih3 _ _ _ _ _ _ | exact ih4 _ _ _ _ _ _ | exact ih5 _ _ _ _ | exact ih6 _ _ _ _ _ _ _ _ | exact ih7 _ _ _ _ _ _ _ _ _ _ _ _ | exact ih8 _ _ _ _ _ _ _ _ _ _ _ _ _ _ | exact ih9 _ _ _ _ _ _ | exact ih10 _ _ _ _ _ _ _ | exact impl_AmicableOf.mono _ _ | exact impl_CountDivisors.mono _ _ | exact impl_DivisorsOf.mono _ _ | exact impl_MoebiusOf.mono _ _ | exact impl_SumDivisors.mono _ _ | exact impl_SumStep.mono _ _ | exact impl_SumWay.mono _ _ _ | exact impl_TotientOf.mono _ _ | exact laws_gCommon.mono _ _ _ | exact laws_gSame.mono _ _ _ | exact laws_gSum.mono _ _ | exact spec_AmicableOf.mono _ _ | exact spec_CountDivisors.mono _ _ | exact spec_DivisorsOf.mono _ _ | exact spec_MoebiusOf.mono _ _ | exact spec_SumDivisors.mono _ _ | exact spec_SumStep.mono _ _ | exact spec_SumWay.mono _ _ _ | exact spec_TotientOf.mono _ _ | exact LeO.refl _ | exact LeO.none _ | refine LeO.ite ?_ ?_ | refine LeO.bind ?_ (fun _ => ?_))
  ·
   intro y0 y1 y2 y3 y4 y5 y6
   unfold laws_FnDivisorsToldOfAll.l1
   repeat' first
   | (with_reducible first | exact ih0 _ _ _ _ _ _ _ _ _ _ _ | exact ih1 _ _ _ | exact ih2 _ _ _ _ _ _ _ _ | exact ih3 _ _ _ _ _ _ | exact ih4 _ _ _ _ _ _ | exact ih5 _ _ _ _ | exact ih6 _ _ _ _ _ _ _ _ | exact ih7 _ _ _ _ _ _ _ _ _ _ _ _ | exact ih8 _ _ _ _ _ _ _ _ _ _ _ _ _ _ | exact ih9 _ _ _ _ _ _ | exact ih10 _ _ _ _ _ _ _ | exact impl_AmicableOf.mono _ _ | exact impl_CountDivisors.mono _ _ | exact impl_DivisorsOf.mono _ _ | exact impl_MoebiusOf.mono _ _ | exact impl_SumDivisors.mono _ _ | exact impl_SumStep.mono _ _ | exact impl_SumWay.mono _ _ _ | exact impl_TotientOf.mono _ _ | exact laws_gCommon.mono _ _ _ | exact laws_gSame.mono _ _ _ | exact laws_gSum.mono _ _ | exact spec_AmicableOf.mono _ _ | exact spec_CountDivisors.mono _ _ | exact spec_DivisorsOf.mono _ _ | exact spec_MoebiusOf.mono _ _ | exact spec_SumDivisors.mono _ _ | exact spec_SumStep.mono _ _ | exact spec_SumWay.mono _ _ _ | exact spec_TotientOf.mono _ _ | exact LeO.refl _ | exact LeO.none _ | refine LeO.ite ?_ ?_ | refine LeO.bind ?_ (fun _ => ?_))
theorem laws_FnDivisorsToldOfAll.mono : ∀ a0 a1 a2 a3 k, LeO (laws_FnDivisorsToldOfAll.f k a0 a1 a2 a3) (laws_FnDivisorsToldOfAll.f (k + 1) a0 a1 a2 a3) := by
 intro a0 a1 a2 a3 k
 obtain ⟨ih0, ih1, ih2, ih3, ih4, ih5, ih6, ih7, ih8, ih9, ih10⟩ := laws_FnDivisorsToldOfAll.mono_l k
 unfold laws_FnDivisorsToldOfAll.f
 repeat' first
   | (with_reducible first | exact ih0 _ _ _ _ _ _ _ _ _ _ _ | exact ih1 _ _ _ | exact ih2 _ _ _ _ _ _ _ _ | exact ih3 _ _ _ _ _ _ | exact ih4 _ _ _ _ _ _ | exact ih5 _ _ _ _ | exact ih6 _ _ _ _ _ _ _ _ | exact ih7 _ _ _ _ _ _ _ _ _ _ _ _ | exact ih8 _ _ _ _ _ _ _ _ _ _ _ _ _ _ | exact ih9 _ _ _ _ _ _ | exact ih10 _ _ _ _ _ _ _ | exact impl_AmicableOf.mono _ _ | exact impl_CountDivisors.mono _ _ | exact impl_DivisorsOf.mono _ _ | exact impl_MoebiusOf.mono _ _ | exact impl_SumDivisors.mono _ _ | exact impl_SumStep.mono _ _ | exact impl_SumWay.mono _ _ _ | exact impl_TotientOf.mono _ _ | exact laws_gCommon.mono _ _ _ | exact laws_gSame.mono _ _ _ | exact laws_gSum.mono _ _ | exact spec_AmicableOf.mono _ _ | exact spec_CountDivisors.mono _ _ | exact spec_DivisorsOf.mono _ _ | exact spec_MoebiusOf.mono _ _ | exact spec_SumDivisors.mono _ _ | exact spec_SumStep.mono _ _ | exact spec_SumWay.mono _ _ _ | exact spec_TotientOf.mono _ _ | exact LeO.refl _ | exact LeO.none _ | refine LeO.ite ?_ ?_ | refine LeO.bind ?_ (fun _ => ?_))
theorem laws_FnDivisorsToldOfAll.j0_no : ∀ k y0 y1 y2 y3 y4 y5 y6 y7 y8 y9, laws_FnDivisorsToldOfAll.j0 k y0 y1 y2 y3 y4 y5 y6 y7 y8 y9 true = some true → False := by
 intro k y0 y1 y2 y3 y4 y5 y6 y7 y8 y9 h
 cases k with
 | zero => simp [laws_FnDivisorsToldOfAll.j0] at h
 | succ k => simp [laws_FnDivisorsToldOfAll.j0] at h
theorem laws_FnDivisorsToldOfAll.j7_no : ∀ k y0 y1 y2 y3 y4 y5 y6, laws_FnDivisorsToldOfAll.j7 k y0 y1 y2 y3 y4 y5 y6 true = some true → False := by
 intro k y0 y1 y2 y3 y4 y5 y6 h
 cases k with
 | zero => simp [laws_FnDivisorsToldOfAll.j7] at h
 | succ k => simp [laws_FnDivisorsToldOfAll.j7] at h
theorem laws_FnDivisorsToldOfAll.j8_no : ∀ k y0 y1 y2 y3 y4, laws_FnDivisorsToldOfAll.j8 k y0 y1 y2 y3 y4 true = some true → False := by
 intro k y0 y1 y2 y3 y4 h
 cases k with
 | zero => simp [laws_FnDivisorsToldOfAll.j8] at h
 | succ k => simp [laws_FnDivisorsToldOfAll.j8] at h
theorem laws_FnDivisorsToldOfAll.j10_no : ∀ k y0 y1 y2, laws_FnDivisorsToldOfAll.j10 k y0 y1 y2 true = some true → False := by
 intro k y0 y1 y2 h
 cases k with
 | zero => simp [laws_FnDivisorsToldOfAll.j10] at h
 | succ k => simp [laws_FnDivisorsToldOfAll.j10] at h
theorem laws_FnDivisorsToldOfAll.j1_no : ∀ k y0 y1 y2 y3 y4 y5 y6, laws_FnDivisorsToldOfAll.j1 k y0 y1 y2 y3 y4 y5 y6 true = some true → False := by
 intro k y0 y1 y2 y3 y4 y5 y6 h
 cases k with
 | zero => simp [laws_FnDivisorsToldOfAll.j1] at h
 | succ k => simp [laws_FnDivisorsToldOfAll.j1] at h
theorem laws_FnDivisorsToldOfAll.j3_no : ∀ k y0 y1 y2 y3 y4 y5 y6 y7 y8 y9 y10 y11 y12, laws_FnDivisorsToldOfAll.j3 k y0 y1 y2 y3 y4 y5 y6 y7 y8 y9 y10 y11 y12 true = some true → False := by
 intro k y0 y1 y2 y3 y4 y5 y6 y7 y8 y9 y10 y11 y12 h
 cases k with
 | zero => simp [laws_FnDivisorsToldOfAll.j3] at h
 | succ k => simp [laws_FnDivisorsToldOfAll.j3] at h
theorem laws_FnDivisorsToldOfAll.j4_no : ∀ k y0 y1 y2 y3 y4, laws_FnDivisorsToldOfAll.j4 k y0 y1 y2 y3 y4 true = some true → False := by
 intro k y0 y1 y2 y3 y4 h
 cases k with
 | zero => simp [laws_FnDivisorsToldOfAll.j4] at h
 | succ k => simp [laws_FnDivisorsToldOfAll.j4] at h
/-- A frame of which some slots (by two masks) hold whatever u says. -/
def cutFgt (u : Nat → Value) : List (Option Nat) → List Value → List Value
 | some n :: m, _ :: l => u n :: cutFgt u m l
 | none :: m, v :: l => v :: cutFgt u m l
 | _, l => l
theorem cutF {P : Program} {s : Code} {K : Act → World → Prop} {Q' : Exit → Act → World → Prop} {w : World} {L : List Value} {fr} (m m2 : List (Option Nat)) (R : (Nat → Value) → World → Prop)
  (first : ∀ (J K' : Act → World → Prop), (∀ u w', R u w' → J ⟨(cutFgt u m2 (cutFgt u m L)).toArray, fr⟩ w') → (∀ a' w', Met J a' w' → K' a' w') → s.wp P (Exit.then K' Q') ⟨L.toArray, fr⟩ w)
  (rest : ∀ u w', R u w' → K ⟨(cutFgt u m2 (cutFgt u m L)).toArray, fr⟩ w') : s.wp P (Exit.then K Q') ⟨L.toArray, fr⟩ w := by
 refine wp_cut (fun a' w' => ∃ u, R u w' ∧ a' = ⟨(cutFgt u m2 (cutFgt u m L)).toArray, fr⟩) ?_ ?_
 ·
  rintro _ w' ⟨u, h, rfl⟩
  exact rest u w' h
 ·
  intro J K' h1 h2
  exact first J K' (fun u w' h => h1 _ _ ⟨u, h, rfl⟩) h2
theorem cutMeet {J : Act → World → Prop} {R : (Nat → Value) → World → Prop} {m m2 : List (Option Nat)} {L0 L : List Value} {fr} {w' : World} (h : ∀ u w', R u w' → J ⟨(cutFgt u m2 (cutFgt u m L0)).toArray, fr⟩ w') (hr : R (fun n => L.getD n (.bool false)) w') (he : cutFgt (fun n => L.getD n (.bool false)) m2 (cutFgt (fun n => L.getD n (.bool false)) m L0) = L) : Met J ⟨L.toArray, fr⟩ w' := by
 have := h _ _ hr
 rw [he] at this
 exact this
def mk0 : List (Option Nat) := [none, none, none, none, none, none, none, none, none, none, none, none, none, none, none, none, none, none, none, none, none, none, none, none, none, none, none, none, none, none, none, none, none, none, none, none, none, none, none, none, none, none, none, none, none, none, none, none, none, none, none, none, none, none, none, none, none, some 57, some 58, some 59, some 60, some 61, some 62, some 63, some 64, some 65, some 66, some 67, some 68, some 69, some 70, some 71, some 72, some 73, some 74, some 75, some 76, some 77, some 78, some 79, some 80, some 81, some 82, some 83, some 84, some 85, some 86, some 87, some 88, some 89, some 90, some 91, some 92, some 93, some 94, some 95, some 96, some 97, some 98, some 99, some 100, some 101, some 102, some 103, some 104, some 105, some 106, some 107, some 108, some 109, some 110, some 111, some 112, some 113, some 114, some 115, some 116, some 117, some 118, some 119, some 120, some 121, some 122, some 123, some 124, some 125, some 126, some 127, some 128, some 129, some 130, some 131, some 132, some 133, some 134, some 135, some 136, some 137, some 138, some 139, some 140, some 141, some 142, some 143, some 144, some 145, some 146, some 147, some 148, some 149, some 150, some 151, some 152, some 153, some 154, some 155, some 156, some 157, some 158, some 159, some 160, some 161, some 162, some 163, some 164, some 165, some 166, some 167, some 168, some 169, some 170, some 171, some 172, some 173, some 174, some 175, some 176, some 177, some 178, some 179, some 180, some 181, some 182, some 183, some 184, some 185, some 186, some 187, some 188, some 189, some 190, some 191, some 192, some 193, some 194, some 195, some 196, some 197, some 198, some 199, some 200, some 201, some 202, some 203, some 204, some 205, some 206, some 207, some 208, some 209, some 210, some 211, some 212, some 213, some 214, some 215, some 216, some 217, some 218, some 219, some 220, some 221, some 222, some 223, some 224, some 225, some 226, some 227, some 228, some 229, some 230, some 231, some 232, some 233, none, none, none, some 237, some 238, some 239, some 240, some 241, some 242, some 243, some 244, some 245, some 246, some 247, some 248, some 249, some 250, some 251, some 252, some 253, some 254, some 255, some 256, some 257, some 258, some 259, some 260, some 261, some 262, some 263, some 264, some 265, some 266, some 267, some 268, some 269, some 270, some 271, some 272, some 273, some 274, some 275, some 276, some 277, some 278, some 279, some 280, some 281, some 282, some 283, some 284, some 285, some 286, some 287, some 288, some 289, some 290, some 291, some 292, some 293, some 294, some 295, some 296, some 297, some 298, some 299, some 300, some 301, some 302, some 303, some 304, some 305, some 306, some 307, some 308, some 309, some 310, some 311, some 312, some 313, some 314, some 315, some 316, some 317, some 318, some 319, some 320, some 321, some 322, some 323, some 324, some 325, some 326, some 327, some 328, some 329, some 330, some 331, some 332, some 333, some 334, some 335, some 336, some 337, some 338, some 339, some 340, some 341, some 342, some 343, some 344, some 345, some 346, some 347, some 348, some 349, some 350, some 351, some 352, some 353, some 354, some 355, some 356, some 357, some 358, some 359, some 360, some 361, some 362, some 363, some 364, some 365, some 366, some 367, some 368, some 369, some 370, some 371, some 372, some 373, some 374, some 375, some 376, some 377, some 378, some 379, some 380, some 381, some 382, some 383, some 384, some 385, some 386, some 387, some 388, some 389, some 390, some 391, some 392, some 393, some 394, some 395, some 396, some 397, some 398, some 399, some 400, some 401, some 402, some 403, some 404, some 405, some 406, some 407, some 408, some 409, some 410, some 411, some 412, some 413, some 414, some 415, some 416, some 417, some 418, some 419, some 420, some 421, some 422, some 423, some 424, some 425, some 426, some 427, some 428, some 429, some 430, some 431, some 432, some 433, some 434, some 435, some 436, some 437, some 438, some 439, some 440, some 441, some 442, some 443, some 444]
def mk1 : List (Option Nat) := [none, none, none, none, none, none, none, none, none, none, none, none, none, none, none, none, none, none, none, none, none, none, none, none, none, none, none, none, none, none, none, none, none, none, none, none, none, none, none, none, none, none, none, none, none, none, none, none, none, none, none, none, none, none, none, none, none, none, none, none, none, none, none, none, none, none, none, none, none, none, none, none, none, none, none, none, none, none, none, none, none, none, none, none, none, none, none, none, none, none, none, none, none, none, none, none, none, none, none, none, none, none, none, none, none, none, none, none, none, none, none, none, none, none, none, none, none, none, none, none, none, none, none, none, none, none, none, none, none, none, none, none, none, none, none, none, none, none, none, none, none, none, none, none, none, none, none, none, none, none, none, none, none, none, none, none, none, none, none, none, none, none, none, none, none, none, none, none, none, none, none, none, none, none, none, none, none, none, none, none, none, none, none, none, none, none, none, none, none, none, none, none, none, none, none, none, none, none, none, none, none, none, none, none, none, none, none, none, none, none, none, none, none, none, none, none, none, none, none, none, none, none, none, none, none, none, none, none, none, none, none, none, none, none, none, none, none, some 237, some 238, some 239, some 240, some 241, some 242, some 243, some 244, some 245, some 246, some 247, some 248, some 249, some 250, some 251, some 252, some 253, some 254, some 255, some 256, some 257, some 258, some 259, some 260, some 261, some 262, some 263, some 264, some 265, some 266, some 267, some 268, some 269, some 270, some 271, some 272, some 273, some 274, some 275, some 276, some 277, some 278, some 279, some 280, some 281, some 282, some 283, some 284, some 285, some 286, some 287, some 288, some 289, some 290, none, none, none, none, none, none, none, none, none, none, none, none, none, none, none, none, none, none, none, none, none, none, none, none, none, none, none, none, none, none, none, none, none, none, none, none, none, none, none, none, none, none, none, none, none, none, none, none, none, none, none, none, none, none, none, none, none, none, none, none, none, none, none, none, none, none, none, none, none, none, none, none, none, none, none, none, none, none, none, none, none, none, none, none, none, none, none, none, none, none, none, none, none, none, none, none, none, none, none, none, none, none, none, none, none, none, none, none, none, none, none, none, none, none, none, none, none, none, none, none, none, none, none, none, none, none, none, none, none, none, none, none, none, none, none, none, none, none, none, none, none, none, none, none, none, none, none, none, none, none, none, none, none, none]
set_option maxHeartbeats 200000000 in
set_option maxRecDepth 100000 in
theorem laws_FnDivisorsToldOfAll.calls (k : Nat) (a0 : Int) (a1 : Int) (a2 : Int) (a3 : Int) (r : Bool) (w : World) (h : laws_FnDivisorsToldOfAll.f k a0 a1 a2 a3 = some r) (hr_ : r = true) :
  Calls Try.prog 5 #[.int .i64 a0, .int .i64 a1, .int .i64 a2, .int .i64 a3] w fun e w' => e = .returned (.bool r) ∧ Below w.heap.size w w' := by
 have HRT := Aside0.mk hr_
 clear hr_
 have HB := Aside0.mk (Below.refl w.heap.size w)
 have H : ((impl_DivisorsOf.f k a0).bind fun bt242 => ((spec_DivisorsOf.f k a0).bind fun bt246 => ((impl_CountDivisors.f k a0).bind fun bt250 => ((spec_CountDivisors.f k a0).bind fun bt252 => ((impl_SumDivisors.f k a0).bind fun bt254 => ((spec_SumDivisors.f k a0).bind fun bt256 => ((impl_TotientOf.f k a0).bind fun bt258 => ((spec_TotientOf.f k a0).bind fun bt260 => ((impl_MoebiusOf.f k a0).bind fun bt262 => ((spec_MoebiusOf.f k a0).bind fun bt264 => ((impl_SumStep.f k a0).bind fun bt266 => ((spec_SumStep.f k a0).bind fun bt268 => (if (bt242.2 != bt246.2) = true then (laws_FnDivisorsToldOfAll.j0 k a0 a1 a2 a3 bt242.1 bt242.2 bt250.1 bt254.1 bt258.1 bt266.1 true) else ((laws_gSame.f k bt242.1 bt246.1).bind fun t270 => (if t270 = true then (if (bt250.2 != bt252.2) = true then (laws_FnDivisorsToldOfAll.j0 k a0 a1 a2 a3 bt242.1 bt242.2 bt250.1 bt254.1 bt258.1 bt266.1 true) else (if bt250.1 = bt252.1 then (if (bt254.2 != bt256.2) = true then (laws_FnDivisorsToldOfAll.j0 k a0 a1 a2 a3 bt242.1 bt242.2 bt250.1 bt254.1 bt258.1 bt266.1 true) else (if bt254.1 = bt256.1 then (if (bt258.2 != bt260.2) = true then (laws_FnDivisorsToldOfAll.j0 k a0 a1 a2 a3 bt242.1 bt242.2 bt250.1 bt254.1 bt258.1 bt266.1 true) else (if bt258.1 = bt260.1 then (if (bt262.2 != bt264.2) = true then (laws_FnDivisorsToldOfAll.j0 k a0 a1 a2 a3 bt242.1 bt242.2 bt250.1 bt254.1 bt258.1 bt266.1 true) else (if bt262.1 = bt264.1 then (if (bt266.2 != bt268.2) = true then (laws_FnDivisorsToldOfAll.j0 k a0 a1 a2 a3 bt242.1 bt242.2 bt250.1 bt254.1 bt258.1 bt266.1 true) else (if bt266.1 = bt268.1 then (if (bt250.2 != bt242.2) = true then (laws_FnDivisorsToldOfAll.j0 k a0 a1 a2 a3 bt242.1 bt242.2 bt250.1 bt254.1 bt258.1 bt266.1 true) else (if (bt254.2 != bt242.2) = true then (laws_FnDivisorsToldOfAll.j0 k a0 a1 a2 a3 bt242.1 bt242.2 bt250.1 bt254.1 bt258.1 bt266.1 true) else (if (bt258.2 != bt242.2) = true then (laws_FnDivisorsToldOfAll.j0 k a0 a1 a2 a3 bt242.1 bt242.2 bt250.1 bt254.1 bt258.1 bt266.1 true) else (if (bt262.2 != bt242.2) = true then (laws_FnDivisorsToldOfAll.j0 k a0 a1 a2 a3 bt242.1 bt242.2 bt250.1 bt254.1 bt258.1 bt266.1 true) else (laws_FnDivisorsToldOfAll.j0 k a0 a1 a2 a3 bt242.1 bt242.2 bt250.1 bt254.1 bt258.1 bt266.1 (bt266.2 != bt242.2)))))) else (laws_FnDivisorsToldOfAll.j0 k a0 a1 a2 a3 bt242.1 bt242.2 bt250.1 bt254.1 bt258.1 bt266.1 true))) else (laws_FnDivisorsToldOfAll.j0 k a0 a1 a2 a3 bt242.1 bt242.2 bt250.1 bt254.1 bt258.1 bt266.1 true))) else (laws_FnDivisorsToldOfAll.j0 k a0 a1 a2 a3 bt242.1 bt242.2 bt250.1 bt254.1 bt258.1 bt266.1 true))) else (laws_FnDivisorsToldOfAll.j0 k a0 a1 a2 a3 bt242.1 bt242.2 bt250.1 bt254.1 bt258.1 bt266.1 true))) else (laws_FnDivisorsToldOfAll.j0 k a0 a1 a2 a3 bt242.1 bt242.2 bt250.1 bt254.1 bt258.1 bt266.1 true))) else (laws_FnDivisorsToldOfAll.j0 k a0 a1 a2 a3 bt242.1 bt242.2 bt250.1 bt254.1 bt258.1 bt266.1 true)))))))))))))))) = some r := h
 clear h
 replace H := Option.bind_eq_some_iff.mp H
 obtain ⟨⟨t242, t243⟩, A50, H⟩ := H
 replace H : ((spec_DivisorsOf.f k a0).bind fun bt246 => ((impl_CountDivisors.f k a0).bind fun bt250 => ((spec_CountDivisors.f k a0).bind fun bt252 => ((impl_SumDivisors.f k a0).bind fun bt254 => ((spec_SumDivisors.f k a0).bind fun bt256 => ((impl_TotientOf.f k a0).bind fun bt258 => ((spec_TotientOf.f k a0).bind fun bt260 => ((impl_MoebiusOf.f k a0).bind fun bt262 => ((spec_MoebiusOf.f k a0).bind fun bt264 => ((impl_SumStep.f k a0).bind fun bt266 => ((spec_SumStep.f k a0).bind fun bt268 => (if (t243 != bt246.2) = true then (laws_FnDivisorsToldOfAll.j0 k a0 a1 a2 a3 t242 t243 bt250.1 bt254.1 bt258.1 bt266.1 true) else ((laws_gSame.f k t242 bt246.1).bind fun t270 => (if t270 = true then (if (bt250.2 != bt252.2) = true then (laws_FnDivisorsToldOfAll.j0 k a0 a1 a2 a3 t242 t243 bt250.1 bt254.1 bt258.1 bt266.1 true) else (if bt250.1 = bt252.1 then (if (bt254.2 != bt256.2) = true then (laws_FnDivisorsToldOfAll.j0 k a0 a1 a2 a3 t242 t243 bt250.1 bt254.1 bt258.1 bt266.1 true) else (if bt254.1 = bt256.1 then (if (bt258.2 != bt260.2) = true then (laws_FnDivisorsToldOfAll.j0 k a0 a1 a2 a3 t242 t243 bt250.1 bt254.1 bt258.1 bt266.1 true) else (if bt258.1 = bt260.1 then (if (bt262.2 != bt264.2) = true then (laws_FnDivisorsToldOfAll.j0 k a0 a1 a2 a3 t242 t243 bt250.1 bt254.1 bt258.1 bt266.1 true) else (if bt262.1 = bt264.1 then (if (bt266.2 != bt268.2) = true then (laws_FnDivisorsToldOfAll.j0 k a0 a1 a2 a3 t242 t243 bt250.1 bt254.1 bt258.1 bt266.1 true) else (if bt266.1 = bt268.1 then (if (bt250.2 != t243) = true then (laws_FnDivisorsToldOfAll.j0 k a0 a1 a2 a3 t242 t243 bt250.1 bt254.1 bt258.1 bt266.1 true) else (if (bt254.2 != t243) = true then (laws_FnDivisorsToldOfAll.j0 k a0 a1 a2 a3 t242 t243 bt250.1 bt254.1 bt258.1 bt266.1 true) else (if (bt258.2 != t243) = true then (laws_FnDivisorsToldOfAll.j0 k a0 a1 a2 a3 t242 t243 bt250.1 bt254.1 bt258.1 bt266.1 true) else (if (bt262.2 != t243) = true then (laws_FnDivisorsToldOfAll.j0 k a0 a1 a2 a3 t242 t243 bt250.1 bt254.1 bt258.1 bt266.1 true) else (laws_FnDivisorsToldOfAll.j0 k a0 a1 a2 a3 t242 t243 bt250.1 bt254.1 bt258.1 bt266.1 (bt266.2 != t243)))))) else (laws_FnDivisorsToldOfAll.j0 k a0 a1 a2 a3 t242 t243 bt250.1 bt254.1 bt258.1 bt266.1 true))) else (laws_FnDivisorsToldOfAll.j0 k a0 a1 a2 a3 t242 t243 bt250.1 bt254.1 bt258.1 bt266.1 true))) else (laws_FnDivisorsToldOfAll.j0 k a0 a1 a2 a3 t242 t243 bt250.1 bt254.1 bt258.1 bt266.1 true))) else (laws_FnDivisorsToldOfAll.j0 k a0 a1 a2 a3 t242 t243 bt250.1 bt254.1 bt258.1 bt266.1 true))) else (laws_FnDivisorsToldOfAll.j0 k a0 a1 a2 a3 t242 t243 bt250.1 bt254.1 bt258.1 bt266.1 true))) else (laws_FnDivisorsToldOfAll.j0 k a0 a1 a2 a3 t242 t243 bt250.1 bt254.1 bt258.1 bt266.1 true))))))))))))))) = some r := H
 have A5 := Aside0.mk A50
 clear A50
 replace H := Option.bind_eq_some_iff.mp H
 obtain ⟨⟨t246, t247⟩, A60, H⟩ := H
 replace H : ((impl_CountDivisors.f k a0).bind fun bt250 => ((spec_CountDivisors.f k a0).bind fun bt252 => ((impl_SumDivisors.f k a0).bind fun bt254 => ((spec_SumDivisors.f k a0).bind fun bt256 => ((impl_TotientOf.f k a0).bind fun bt258 => ((spec_TotientOf.f k a0).bind fun bt260 => ((impl_MoebiusOf.f k a0).bind fun bt262 => ((spec_MoebiusOf.f k a0).bind fun bt264 => ((impl_SumStep.f k a0).bind fun bt266 => ((spec_SumStep.f k a0).bind fun bt268 => (if (t243 != t247) = true then (laws_FnDivisorsToldOfAll.j0 k a0 a1 a2 a3 t242 t243 bt250.1 bt254.1 bt258.1 bt266.1 true) else ((laws_gSame.f k t242 t246).bind fun t270 => (if t270 = true then (if (bt250.2 != bt252.2) = true then (laws_FnDivisorsToldOfAll.j0 k a0 a1 a2 a3 t242 t243 bt250.1 bt254.1 bt258.1 bt266.1 true) else (if bt250.1 = bt252.1 then (if (bt254.2 != bt256.2) = true then (laws_FnDivisorsToldOfAll.j0 k a0 a1 a2 a3 t242 t243 bt250.1 bt254.1 bt258.1 bt266.1 true) else (if bt254.1 = bt256.1 then (if (bt258.2 != bt260.2) = true then (laws_FnDivisorsToldOfAll.j0 k a0 a1 a2 a3 t242 t243 bt250.1 bt254.1 bt258.1 bt266.1 true) else (if bt258.1 = bt260.1 then (if (bt262.2 != bt264.2) = true then (laws_FnDivisorsToldOfAll.j0 k a0 a1 a2 a3 t242 t243 bt250.1 bt254.1 bt258.1 bt266.1 true) else (if bt262.1 = bt264.1 then (if (bt266.2 != bt268.2) = true then (laws_FnDivisorsToldOfAll.j0 k a0 a1 a2 a3 t242 t243 bt250.1 bt254.1 bt258.1 bt266.1 true) else (if bt266.1 = bt268.1 then (if (bt250.2 != t243) = true then (laws_FnDivisorsToldOfAll.j0 k a0 a1 a2 a3 t242 t243 bt250.1 bt254.1 bt258.1 bt266.1 true) else (if (bt254.2 != t243) = true then (laws_FnDivisorsToldOfAll.j0 k a0 a1 a2 a3 t242 t243 bt250.1 bt254.1 bt258.1 bt266.1 true) else (if (bt258.2 != t243) = true then (laws_FnDivisorsToldOfAll.j0 k a0 a1 a2 a3 t242 t243 bt250.1 bt254.1 bt258.1 bt266.1 true) else (if (bt262.2 != t243) = true then (laws_FnDivisorsToldOfAll.j0 k a0 a1 a2 a3 t242 t243 bt250.1 bt254.1 bt258.1 bt266.1 true) else (laws_FnDivisorsToldOfAll.j0 k a0 a1 a2 a3 t242 t243 bt250.1 bt254.1 bt258.1 bt266.1 (bt266.2 != t243)))))) else (laws_FnDivisorsToldOfAll.j0 k a0 a1 a2 a3 t242 t243 bt250.1 bt254.1 bt258.1 bt266.1 true))) else (laws_FnDivisorsToldOfAll.j0 k a0 a1 a2 a3 t242 t243 bt250.1 bt254.1 bt258.1 bt266.1 true))) else (laws_FnDivisorsToldOfAll.j0 k a0 a1 a2 a3 t242 t243 bt250.1 bt254.1 bt258.1 bt266.1 true))) else (laws_FnDivisorsToldOfAll.j0 k a0 a1 a2 a3 t242 t243 bt250.1 bt254.1 bt258.1 bt266.1 true))) else (laws_FnDivisorsToldOfAll.j0 k a0 a1 a2 a3 t242 t243 bt250.1 bt254.1 bt258.1 bt266.1 true))) else (laws_FnDivisorsToldOfAll.j0 k a0 a1 a2 a3 t242 t243 bt250.1 bt254.1 bt258.1 bt266.1 true)))))))))))))) = some r := H
 have A6 := Aside0.mk A60
 clear A60
 replace H := Option.bind_eq_some_iff.mp H
 obtain ⟨⟨t250, t251⟩, A70, H⟩ := H
 replace H : ((spec_CountDivisors.f k a0).bind fun bt252 => ((impl_SumDivisors.f k a0).bind fun bt254 => ((spec_SumDivisors.f k a0).bind fun bt256 => ((impl_TotientOf.f k a0).bind fun bt258 => ((spec_TotientOf.f k a0).bind fun bt260 => ((impl_MoebiusOf.f k a0).bind fun bt262 => ((spec_MoebiusOf.f k a0).bind fun bt264 => ((impl_SumStep.f k a0).bind fun bt266 => ((spec_SumStep.f k a0).bind fun bt268 => (if (t243 != t247) = true then (laws_FnDivisorsToldOfAll.j0 k a0 a1 a2 a3 t242 t243 t250 bt254.1 bt258.1 bt266.1 true) else ((laws_gSame.f k t242 t246).bind fun t270 => (if t270 = true then (if (t251 != bt252.2) = true then (laws_FnDivisorsToldOfAll.j0 k a0 a1 a2 a3 t242 t243 t250 bt254.1 bt258.1 bt266.1 true) else (if t250 = bt252.1 then (if (bt254.2 != bt256.2) = true then (laws_FnDivisorsToldOfAll.j0 k a0 a1 a2 a3 t242 t243 t250 bt254.1 bt258.1 bt266.1 true) else (if bt254.1 = bt256.1 then (if (bt258.2 != bt260.2) = true then (laws_FnDivisorsToldOfAll.j0 k a0 a1 a2 a3 t242 t243 t250 bt254.1 bt258.1 bt266.1 true) else (if bt258.1 = bt260.1 then (if (bt262.2 != bt264.2) = true then (laws_FnDivisorsToldOfAll.j0 k a0 a1 a2 a3 t242 t243 t250 bt254.1 bt258.1 bt266.1 true) else (if bt262.1 = bt264.1 then (if (bt266.2 != bt268.2) = true then (laws_FnDivisorsToldOfAll.j0 k a0 a1 a2 a3 t242 t243 t250 bt254.1 bt258.1 bt266.1 true) else (if bt266.1 = bt268.1 then (if (t251 != t243) = true then (laws_FnDivisorsToldOfAll.j0 k a0 a1 a2 a3 t242 t243 t250 bt254.1 bt258.1 bt266.1 true) else (if (bt254.2 != t243) = true then (laws_FnDivisorsToldOfAll.j0 k a0 a1 a2 a3 t242 t243 t250 bt254.1 bt258.1 bt266.1 true) else (if (bt258.2 != t243) = true then (laws_FnDivisorsToldOfAll.j0 k a0 a1 a2 a3 t242 t243 t250 bt254.1 bt258.1 bt266.1 true) else (if (bt262.2 != t243) = true then (laws_FnDivisorsToldOfAll.j0 k a0 a1 a2 a3 t242 t243 t250 bt254.1 bt258.1 bt266.1 true) else (laws_FnDivisorsToldOfAll.j0 k a0 a1 a2 a3 t242 t243 t250 bt254.1 bt258.1 bt266.1 (bt266.2 != t243)))))) else (laws_FnDivisorsToldOfAll.j0 k a0 a1 a2 a3 t242 t243 t250 bt254.1 bt258.1 bt266.1 true))) else (laws_FnDivisorsToldOfAll.j0 k a0 a1 a2 a3 t242 t243 t250 bt254.1 bt258.1 bt266.1 true))) else (laws_FnDivisorsToldOfAll.j0 k a0 a1 a2 a3 t242 t243 t250 bt254.1 bt258.1 bt266.1 true))) else (laws_FnDivisorsToldOfAll.j0 k a0 a1 a2 a3 t242 t243 t250 bt254.1 bt258.1 bt266.1 true))) else (laws_FnDivisorsToldOfAll.j0 k a0 a1 a2 a3 t242 t243 t250 bt254.1 bt258.1 bt266.1 true))) else (laws_FnDivisorsToldOfAll.j0 k a0 a1 a2 a3 t242 t243 t250 bt254.1 bt258.1 bt266.1 true))))))))))))) = some r := H
 have A7 := Aside0.mk A70
 clear A70
 replace H := Option.bind_eq_some_iff.mp H
 obtain ⟨⟨t252, t253⟩, A80, H⟩ := H
 replace H : ((impl_SumDivisors.f k a0).bind fun bt254 => ((spec_SumDivisors.f k a0).bind fun bt256 => ((impl_TotientOf.f k a0).bind fun bt258 => ((spec_TotientOf.f k a0).bind fun bt260 => ((impl_MoebiusOf.f k a0).bind fun bt262 => ((spec_MoebiusOf.f k a0).bind fun bt264 => ((impl_SumStep.f k a0).bind fun bt266 => ((spec_SumStep.f k a0).bind fun bt268 => (if (t243 != t247) = true then (laws_FnDivisorsToldOfAll.j0 k a0 a1 a2 a3 t242 t243 t250 bt254.1 bt258.1 bt266.1 true) else ((laws_gSame.f k t242 t246).bind fun t270 => (if t270 = true then (if (t251 != t253) = true then (laws_FnDivisorsToldOfAll.j0 k a0 a1 a2 a3 t242 t243 t250 bt254.1 bt258.1 bt266.1 true) else (if t250 = t252 then (if (bt254.2 != bt256.2) = true then (laws_FnDivisorsToldOfAll.j0 k a0 a1 a2 a3 t242 t243 t250 bt254.1 bt258.1 bt266.1 true) else (if bt254.1 = bt256.1 then (if (bt258.2 != bt260.2) = true then (laws_FnDivisorsToldOfAll.j0 k a0 a1 a2 a3 t242 t243 t250 bt254.1 bt258.1 bt266.1 true) else (if bt258.1 = bt260.1 then (if (bt262.2 != bt264.2) = true then (laws_FnDivisorsToldOfAll.j0 k a0 a1 a2 a3 t242 t243 t250 bt254.1 bt258.1 bt266.1 true) else (if bt262.1 = bt264.1 then (if (bt266.2 != bt268.2) = true then (laws_FnDivisorsToldOfAll.j0 k a0 a1 a2 a3 t242 t243 t250 bt254.1 bt258.1 bt266.1 true) else (if bt266.1 = bt268.1 then (if (t251 != t243) = true then (laws_FnDivisorsToldOfAll.j0 k a0 a1 a2 a3 t242 t243 t250 bt254.1 bt258.1 bt266.1 true) else (if (bt254.2 != t243) = true then (laws_FnDivisorsToldOfAll.j0 k a0 a1 a2 a3 t242 t243 t250 bt254.1 bt258.1 bt266.1 true) else (if (bt258.2 != t243) = true then (laws_FnDivisorsToldOfAll.j0 k a0 a1 a2 a3 t242 t243 t250 bt254.1 bt258.1 bt266.1 true) else (if (bt262.2 != t243) = true then (laws_FnDivisorsToldOfAll.j0 k a0 a1 a2 a3 t242 t243 t250 bt254.1 bt258.1 bt266.1 true) else (laws_FnDivisorsToldOfAll.j0 k a0 a1 a2 a3 t242 t243 t250 bt254.1 bt258.1 bt266.1 (bt266.2 != t243)))))) else (laws_FnDivisorsToldOfAll.j0 k a0 a1 a2 a3 t242 t243 t250 bt254.1 bt258.1 bt266.1 true))) else (laws_FnDivisorsToldOfAll.j0 k a0 a1 a2 a3 t242 t243 t250 bt254.1 bt258.1 bt266.1 true))) else (laws_FnDivisorsToldOfAll.j0 k a0 a1 a2 a3 t242 t243 t250 bt254.1 bt258.1 bt266.1 true))) else (laws_FnDivisorsToldOfAll.j0 k a0 a1 a2 a3 t242 t243 t250 bt254.1 bt258.1 bt266.1 true))) else (laws_FnDivisorsToldOfAll.j0 k a0 a1 a2 a3 t242 t243 t250 bt254.1 bt258.1 bt266.1 true))) else (laws_FnDivisorsToldOfAll.j0 k a0 a1 a2 a3 t242 t243 t250 bt254.1 bt258.1 bt266.1 true)))))))))))) = some r := H
 have A8 := Aside0.mk A80
 clear A80
 replace H := Option.bind_eq_some_iff.mp H
 obtain ⟨⟨t254, t255⟩, A90, H⟩ := H
 replace H : ((spec_SumDivisors.f k a0).bind fun bt256 => ((impl_TotientOf.f k a0).bind fun bt258 => ((spec_TotientOf.f k a0).bind fun bt260 => ((impl_MoebiusOf.f k a0).bind fun bt262 => ((spec_MoebiusOf.f k a0).bind fun bt264 => ((impl_SumStep.f k a0).bind fun bt266 => ((spec_SumStep.f k a0).bind fun bt268 => (if (t243 != t247) = true then (laws_FnDivisorsToldOfAll.j0 k a0 a1 a2 a3 t242 t243 t250 t254 bt258.1 bt266.1 true) else ((laws_gSame.f k t242 t246).bind fun t270 => (if t270 = true then (if (t251 != t253) = true then (laws_FnDivisorsToldOfAll.j0 k a0 a1 a2 a3 t242 t243 t250 t254 bt258.1 bt266.1 true) else (if t250 = t252 then (if (t255 != bt256.2) = true then (laws_FnDivisorsToldOfAll.j0 k a0 a1 a2 a3 t242 t243 t250 t254 bt258.1 bt266.1 true) else (if t254 = bt256.1 then (if (bt258.2 != bt260.2) = true then (laws_FnDivisorsToldOfAll.j0 k a0 a1 a2 a3 t242 t243 t250 t254 bt258.1 bt266.1 true) else (if bt258.1 = bt260.1 then (if (bt262.2 != bt264.2) = true then (laws_FnDivisorsToldOfAll.j0 k a0 a1 a2 a3 t242 t243 t250 t254 bt258.1 bt266.1 true) else (if bt262.1 = bt264.1 then (if (bt266.2 != bt268.2) = true then (laws_FnDivisorsToldOfAll.j0 k a0 a1 a2 a3 t242 t243 t250 t254 bt258.1 bt266.1 true) else (if bt266.1 = bt268.1 then (if (t251 != t243) = true then (laws_FnDivisorsToldOfAll.j0 k a0 a1 a2 a3 t242 t243 t250 t254 bt258.1 bt266.1 true) else (if (t255 != t243) = true then (laws_FnDivisorsToldOfAll.j0 k a0 a1 a2 a3 t242 t243 t250 t254 bt258.1 bt266.1 true) else (if (bt258.2 != t243) = true then (laws_FnDivisorsToldOfAll.j0 k a0 a1 a2 a3 t242 t243 t250 t254 bt258.1 bt266.1 true) else (if (bt262.2 != t243) = true then (laws_FnDivisorsToldOfAll.j0 k a0 a1 a2 a3 t242 t243 t250 t254 bt258.1 bt266.1 true) else (laws_FnDivisorsToldOfAll.j0 k a0 a1 a2 a3 t242 t243 t250 t254 bt258.1 bt266.1 (bt266.2 != t243)))))) else (laws_FnDivisorsToldOfAll.j0 k a0 a1 a2 a3 t242 t243 t250 t254 bt258.1 bt266.1 true))) else (laws_FnDivisorsToldOfAll.j0 k a0 a1 a2 a3 t242 t243 t250 t254 bt258.1 bt266.1 true))) else (laws_FnDivisorsToldOfAll.j0 k a0 a1 a2 a3 t242 t243 t250 t254 bt258.1 bt266.1 true))) else (laws_FnDivisorsToldOfAll.j0 k a0 a1 a2 a3 t242 t243 t250 t254 bt258.1 bt266.1 true))) else (laws_FnDivisorsToldOfAll.j0 k a0 a1 a2 a3 t242 t243 t250 t254 bt258.1 bt266.1 true))) else (laws_FnDivisorsToldOfAll.j0 k a0 a1 a2 a3 t242 t243 t250 t254 bt258.1 bt266.1 true))))))))))) = some r := H
 have A9 := Aside0.mk A90
 clear A90
 replace H := Option.bind_eq_some_iff.mp H
 obtain ⟨⟨t256, t257⟩, A100, H⟩ := H
 replace H : ((impl_TotientOf.f k a0).bind fun bt258 => ((spec_TotientOf.f k a0).bind fun bt260 => ((impl_MoebiusOf.f k a0).bind fun bt262 => ((spec_MoebiusOf.f k a0).bind fun bt264 => ((impl_SumStep.f k a0).bind fun bt266 => ((spec_SumStep.f k a0).bind fun bt268 => (if (t243 != t247) = true then (laws_FnDivisorsToldOfAll.j0 k a0 a1 a2 a3 t242 t243 t250 t254 bt258.1 bt266.1 true) else ((laws_gSame.f k t242 t246).bind fun t270 => (if t270 = true then (if (t251 != t253) = true then (laws_FnDivisorsToldOfAll.j0 k a0 a1 a2 a3 t242 t243 t250 t254 bt258.1 bt266.1 true) else (if t250 = t252 then (if (t255 != t257) = true then (laws_FnDivisorsToldOfAll.j0 k a0 a1 a2 a3 t242 t243 t250 t254 bt258.1 bt266.1 true) else (if t254 = t256 then (if (bt258.2 != bt260.2) = true then (laws_FnDivisorsToldOfAll.j0 k a0 a1 a2 a3 t242 t243 t250 t254 bt258.1 bt266.1 true) else (if bt258.1 = bt260.1 then (if (bt262.2 != bt264.2) = true then (laws_FnDivisorsToldOfAll.j0 k a0 a1 a2 a3 t242 t243 t250 t254 bt258.1 bt266.1 true) else (if bt262.1 = bt264.1 then (if (bt266.2 != bt268.2) = true then (laws_FnDivisorsToldOfAll.j0 k a0 a1 a2 a3 t242 t243 t250 t254 bt258.1 bt266.1 true) else (if bt266.1 = bt268.1 then (if (t251 != t243) = true then (laws_FnDivisorsToldOfAll.j0 k a0 a1 a2 a3 t242 t243 t250 t254 bt258.1 bt266.1 true) else (if (t255 != t243) = true then (laws_FnDivisorsToldOfAll.j0 k a0 a1 a2 a3 t242 t243 t250 t254 bt258.1 bt266.1 true) else (if (bt258.2 != t243) = true then (laws_FnDivisorsToldOfAll.j0 k a0 a1 a2 a3 t242 t243 t250 t254 bt258.1 bt266.1 true) else (if (bt262.2 != t243) = true then (laws_FnDivisorsToldOfAll.j0 k a0 a1 a2 a3 t242 t243 t250 t254 bt258.1 bt266.1 true) else (laws_FnDivisorsToldOfAll.j0 k a0 a1 a2 a3 t242 t243 t250 t254 bt258.1 bt266.1 (bt266.2 != t243)))))) else (laws_FnDivisorsToldOfAll.j0 k a0 a1 a2 a3 t242 t243 t250 t254 bt258.1 bt266.1 true))) else (laws_FnDivisorsToldOfAll.j0 k a0 a1 a2 a3 t242 t243 t250 t254 bt258.1 bt266.1 true))) else (laws_FnDivisorsToldOfAll.j0 k a0 a1 a2 a3 t242 t243 t250 t254 bt258.1 bt266.1 true))) else (laws_FnDivisorsToldOfAll.j0 k a0 a1 a2 a3 t242 t243 t250 t254 bt258.1 bt266.1 true))) else (laws_FnDivisorsToldOfAll.j0 k a0 a1 a2 a3 t242 t243 t250 t254 bt258.1 bt266.1 true))) else (laws_FnDivisorsToldOfAll.j0 k a0 a1 a2 a3 t242 t243 t250 t254 bt258.1 bt266.1 true)))))))))) = some r := H
 have A10 := Aside0.mk A100
 clear A100
 replace H := Option.bind_eq_some_iff.mp H
 obtain ⟨⟨t258, t259⟩, A110, H⟩ := H
 replace H : ((spec_TotientOf.f k a0).bind fun bt260 => ((impl_MoebiusOf.f k a0).bind fun bt262 => ((spec_MoebiusOf.f k a0).bind fun bt264 => ((impl_SumStep.f k a0).bind fun bt266 => ((spec_SumStep.f k a0).bind fun bt268 => (if (t243 != t247) = true then (laws_FnDivisorsToldOfAll.j0 k a0 a1 a2 a3 t242 t243 t250 t254 t258 bt266.1 true) else ((laws_gSame.f k t242 t246).bind fun t270 => (if t270 = true then (if (t251 != t253) = true then (laws_FnDivisorsToldOfAll.j0 k a0 a1 a2 a3 t242 t243 t250 t254 t258 bt266.1 true) else (if t250 = t252 then (if (t255 != t257) = true then (laws_FnDivisorsToldOfAll.j0 k a0 a1 a2 a3 t242 t243 t250 t254 t258 bt266.1 true) else (if t254 = t256 then (if (t259 != bt260.2) = true then (laws_FnDivisorsToldOfAll.j0 k a0 a1 a2 a3 t242 t243 t250 t254 t258 bt266.1 true) else (if t258 = bt260.1 then (if (bt262.2 != bt264.2) = true then (laws_FnDivisorsToldOfAll.j0 k a0 a1 a2 a3 t242 t243 t250 t254 t258 bt266.1 true) else (if bt262.1 = bt264.1 then (if (bt266.2 != bt268.2) = true then (laws_FnDivisorsToldOfAll.j0 k a0 a1 a2 a3 t242 t243 t250 t254 t258 bt266.1 true) else (if bt266.1 = bt268.1 then (if (t251 != t243) = true then (laws_FnDivisorsToldOfAll.j0 k a0 a1 a2 a3 t242 t243 t250 t254 t258 bt266.1 true) else (if (t255 != t243) = true then (laws_FnDivisorsToldOfAll.j0 k a0 a1 a2 a3 t242 t243 t250 t254 t258 bt266.1 true) else (if (t259 != t243) = true then (laws_FnDivisorsToldOfAll.j0 k a0 a1 a2 a3 t242 t243 t250 t254 t258 bt266.1 true) else (if (bt262.2 != t243) = true then (laws_FnDivisorsToldOfAll.j0 k a0 a1 a2 a3 t242 t243 t250 t254 t258 bt266.1 true) else (laws_FnDivisorsToldOfAll.j0 k a0 a1 a2 a3 t242 t243 t250 t254 t258 bt266.1 (bt266.2 != t243)))))) else (laws_FnDivisorsToldOfAll.j0 k a0 a1 a2 a3 t242 t243 t250 t254 t258 bt266.1 true))) else (laws_FnDivisorsToldOfAll.j0 k a0 a1 a2 a3 t242 t243 t250 t254 t258 bt266.1 true))) else (laws_FnDivisorsToldOfAll.j0 k a0 a1 a2 a3 t242 t243 t250 t254 t258 bt266.1 true))) else (laws_FnDivisorsToldOfAll.j0 k a0 a1 a2 a3 t242 t243 t250 t254 t258 bt266.1 true))) else (laws_FnDivisorsToldOfAll.j0 k a0 a1 a2 a3 t242 t243 t250 t254 t258 bt266.1 true))) else (laws_FnDivisorsToldOfAll.j0 k a0 a1 a2 a3 t242 t243 t250 t254 t258 bt266.1 true))))))))) = some r := H
 have A11 := Aside0.mk A110
 clear A110
 replace H := Option.bind_eq_some_iff.mp H
 obtain ⟨⟨t260, t261⟩, A120, H⟩ := H
 replace H : ((impl_MoebiusOf.f k a0).bind fun bt262 => ((spec_MoebiusOf.f k a0).bind fun bt264 => ((impl_SumStep.f k a0).bind fun bt266 => ((spec_SumStep.f k a0).bind fun bt268 => (if (t243 != t247) = true then (laws_FnDivisorsToldOfAll.j0 k a0 a1 a2 a3 t242 t243 t250 t254 t258 bt266.1 true) else ((laws_gSame.f k t242 t246).bind fun t270 => (if t270 = true then (if (t251 != t253) = true then (laws_FnDivisorsToldOfAll.j0 k a0 a1 a2 a3 t242 t243 t250 t254 t258 bt266.1 true) else (if t250 = t252 then (if (t255 != t257) = true then (laws_FnDivisorsToldOfAll.j0 k a0 a1 a2 a3 t242 t243 t250 t254 t258 bt266.1 true) else (if t254 = t256 then (if (t259 != t261) = true then (laws_FnDivisorsToldOfAll.j0 k a0 a1 a2 a3 t242 t243 t250 t254 t258 bt266.1 true) else (if t258 = t260 then (if (bt262.2 != bt264.2) = true then (laws_FnDivisorsToldOfAll.j0 k a0 a1 a2 a3 t242 t243 t250 t254 t258 bt266.1 true) else (if bt262.1 = bt264.1 then (if (bt266.2 != bt268.2) = true then (laws_FnDivisorsToldOfAll.j0 k a0 a1 a2 a3 t242 t243 t250 t254 t258 bt266.1 true) else (if bt266.1 = bt268.1 then (if (t251 != t243) = true then (laws_FnDivisorsToldOfAll.j0 k a0 a1 a2 a3 t242 t243 t250 t254 t258 bt266.1 true) else (if (t255 != t243) = true then (laws_FnDivisorsToldOfAll.j0 k a0 a1 a2 a3 t242 t243 t250 t254 t258 bt266.1 true) else (if (t259 != t243) = true then (laws_FnDivisorsToldOfAll.j0 k a0 a1 a2 a3 t242 t243 t250 t254 t258 bt266.1 true) else (if (bt262.2 != t243) = true then (laws_FnDivisorsToldOfAll.j0 k a0 a1 a2 a3 t242 t243 t250 t254 t258 bt266.1 true) else (laws_FnDivisorsToldOfAll.j0 k a0 a1 a2 a3 t242 t243 t250 t254 t258 bt266.1 (bt266.2 != t243)))))) else (laws_FnDivisorsToldOfAll.j0 k a0 a1 a2 a3 t242 t243 t250 t254 t258 bt266.1 true))) else (laws_FnDivisorsToldOfAll.j0 k a0 a1 a2 a3 t242 t243 t250 t254 t258 bt266.1 true))) else (laws_FnDivisorsToldOfAll.j0 k a0 a1 a2 a3 t242 t243 t250 t254 t258 bt266.1 true))) else (laws_FnDivisorsToldOfAll.j0 k a0 a1 a2 a3 t242 t243 t250 t254 t258 bt266.1 true))) else (laws_FnDivisorsToldOfAll.j0 k a0 a1 a2 a3 t242 t243 t250 t254 t258 bt266.1 true))) else (laws_FnDivisorsToldOfAll.j0 k a0 a1 a2 a3 t242 t243 t250 t254 t258 bt266.1 true)))))))) = some r := H
 have A12 := Aside0.mk A120
 clear A120
 replace H := Option.bind_eq_some_iff.mp H
 obtain ⟨⟨t262, t263⟩, A130, H⟩ := H
 replace H : ((spec_MoebiusOf.f k a0).bind fun bt264 => ((impl_SumStep.f k a0).bind fun bt266 => ((spec_SumStep.f k a0).bind fun bt268 => (if (t243 != t247) = true then (laws_FnDivisorsToldOfAll.j0 k a0 a1 a2 a3 t242 t243 t250 t254 t258 bt266.1 true) else ((laws_gSame.f k t242 t246).bind fun t270 => (if t270 = true then (if (t251 != t253) = true then (laws_FnDivisorsToldOfAll.j0 k a0 a1 a2 a3 t242 t243 t250 t254 t258 bt266.1 true) else (if t250 = t252 then (if (t255 != t257) = true then (laws_FnDivisorsToldOfAll.j0 k a0 a1 a2 a3 t242 t243 t250 t254 t258 bt266.1 true) else (if t254 = t256 then (if (t259 != t261) = true then (laws_FnDivisorsToldOfAll.j0 k a0 a1 a2 a3 t242 t243 t250 t254 t258 bt266.1 true) else (if t258 = t260 then (if (t263 != bt264.2) = true then (laws_FnDivisorsToldOfAll.j0 k a0 a1 a2 a3 t242 t243 t250 t254 t258 bt266.1 true) else (if t262 = bt264.1 then (if (bt266.2 != bt268.2) = true then (laws_FnDivisorsToldOfAll.j0 k a0 a1 a2 a3 t242 t243 t250 t254 t258 bt266.1 true) else (if bt266.1 = bt268.1 then (if (t251 != t243) = true then (laws_FnDivisorsToldOfAll.j0 k a0 a1 a2 a3 t242 t243 t250 t254 t258 bt266.1 true) else (if (t255 != t243) = true then (laws_FnDivisorsToldOfAll.j0 k a0 a1 a2 a3 t242 t243 t250 t254 t258 bt266.1 true) else (if (t259 != t243) = true then (laws_FnDivisorsToldOfAll.j0 k a0 a1 a2 a3 t242 t243 t250 t254 t258 bt266.1 true) else (if (t263 != t243) = true then (laws_FnDivisorsToldOfAll.j0 k a0 a1 a2 a3 t242 t243 t250 t254 t258 bt266.1 true) else (laws_FnDivisorsToldOfAll.j0 k a0 a1 a2 a3 t242 t243 t250 t254 t258 bt266.1 (bt266.2 != t243)))))) else (laws_FnDivisorsToldOfAll.j0 k a0 a1 a2 a3 t242 t243 t250 t254 t258 bt266.1 true))) else (laws_FnDivisorsToldOfAll.j0 k a0 a1 a2 a3 t242 t243 t250 t254 t258 bt266.1 true))) else (laws_FnDivisorsToldOfAll.j0 k a0 a1 a2 a3 t242 t243 t250 t254 t258 bt266.1 true))) else (laws_FnDivisorsToldOfAll.j0 k a0 a1 a2 a3 t242 t243 t250 t254 t258 bt266.1 true))) else (laws_FnDivisorsToldOfAll.j0 k a0 a1 a2 a3 t242 t243 t250 t254 t258 bt266.1 true))) else (laws_FnDivisorsToldOfAll.j0 k a0 a1 a2 a3 t242 t243 t250 t254 t258 bt266.1 true))))))) = some r := H
 have A13 := Aside0.mk A130
 clear A130
 replace H := Option.bind_eq_some_iff.mp H
 obtain ⟨⟨t264, t265⟩, A140, H⟩ := H
 replace H : ((impl_SumStep.f k a0).bind fun bt266 => ((spec_SumStep.f k a0).bind fun bt268 => (if (t243 != t247) = true then (laws_FnDivisorsToldOfAll.j0 k a0 a1 a2 a3 t242 t243 t250 t254 t258 bt266.1 true) else ((laws_gSame.f k t242 t246).bind fun t270 => (if t270 = true then (if (t251 != t253) = true then (laws_FnDivisorsToldOfAll.j0 k a0 a1 a2 a3 t242 t243 t250 t254 t258 bt266.1 true) else (if t250 = t252 then (if (t255 != t257) = true then (laws_FnDivisorsToldOfAll.j0 k a0 a1 a2 a3 t242 t243 t250 t254 t258 bt266.1 true) else (if t254 = t256 then (if (t259 != t261) = true then (laws_FnDivisorsToldOfAll.j0 k a0 a1 a2 a3 t242 t243 t250 t254 t258 bt266.1 true) else (if t258 = t260 then (if (t263 != t265) = true then (laws_FnDivisorsToldOfAll.j0 k a0 a1 a2 a3 t242 t243 t250 t254 t258 bt266.1 true) else (if t262 = t264 then (if (bt266.2 != bt268.2) = true then (laws_FnDivisorsToldOfAll.j0 k a0 a1 a2 a3 t242 t243 t250 t254 t258 bt266.1 true) else (if bt266.1 = bt268.1 then (if (t251 != t243) = true then (laws_FnDivisorsToldOfAll.j0 k a0 a1 a2 a3 t242 t243 t250 t254 t258 bt266.1 true) else (if (t255 != t243) = true then (laws_FnDivisorsToldOfAll.j0 k a0 a1 a2 a3 t242 t243 t250 t254 t258 bt266.1 true) else (if (t259 != t243) = true then (laws_FnDivisorsToldOfAll.j0 k a0 a1 a2 a3 t242 t243 t250 t254 t258 bt266.1 true) else (if (t263 != t243) = true then (laws_FnDivisorsToldOfAll.j0 k a0 a1 a2 a3 t242 t243 t250 t254 t258 bt266.1 true) else (laws_FnDivisorsToldOfAll.j0 k a0 a1 a2 a3 t242 t243 t250 t254 t258 bt266.1 (bt266.2 != t243)))))) else (laws_FnDivisorsToldOfAll.j0 k a0 a1 a2 a3 t242 t243 t250 t254 t258 bt266.1 true))) else (laws_FnDivisorsToldOfAll.j0 k a0 a1 a2 a3 t242 t243 t250 t254 t258 bt266.1 true))) else (laws_FnDivisorsToldOfAll.j0 k a0 a1 a2 a3 t242 t243 t250 t254 t258 bt266.1 true))) else (laws_FnDivisorsToldOfAll.j0 k a0 a1 a2 a3 t242 t243 t250 t254 t258 bt266.1 true))) else (laws_FnDivisorsToldOfAll.j0 k a0 a1 a2 a3 t242 t243 t250 t254 t258 bt266.1 true))) else (laws_FnDivisorsToldOfAll.j0 k a0 a1 a2 a3 t242 t243 t250 t254 t258 bt266.1 true)))))) = some r := H
 have A14 := Aside0.mk A140
 clear A140
 replace H := Option.bind_eq_some_iff.mp H
 obtain ⟨⟨t266, t267⟩, A150, H⟩ := H
 replace H : ((spec_SumStep.f k a0).bind fun bt268 => (if (t243 != t247) = true then (laws_FnDivisorsToldOfAll.j0 k a0 a1 a2 a3 t242 t243 t250 t254 t258 t266 true) else ((laws_gSame.f k t242 t246).bind fun t270 => (if t270 = true then (if (t251 != t253) = true then (laws_FnDivisorsToldOfAll.j0 k a0 a1 a2 a3 t242 t243 t250 t254 t258 t266 true) else (if t250 = t252 then (if (t255 != t257) = true then (laws_FnDivisorsToldOfAll.j0 k a0 a1 a2 a3 t242 t243 t250 t254 t258 t266 true) else (if t254 = t256 then (if (t259 != t261) = true then (laws_FnDivisorsToldOfAll.j0 k a0 a1 a2 a3 t242 t243 t250 t254 t258 t266 true) else (if t258 = t260 then (if (t263 != t265) = true then (laws_FnDivisorsToldOfAll.j0 k a0 a1 a2 a3 t242 t243 t250 t254 t258 t266 true) else (if t262 = t264 then (if (t267 != bt268.2) = true then (laws_FnDivisorsToldOfAll.j0 k a0 a1 a2 a3 t242 t243 t250 t254 t258 t266 true) else (if t266 = bt268.1 then (if (t251 != t243) = true then (laws_FnDivisorsToldOfAll.j0 k a0 a1 a2 a3 t242 t243 t250 t254 t258 t266 true) else (if (t255 != t243) = true then (laws_FnDivisorsToldOfAll.j0 k a0 a1 a2 a3 t242 t243 t250 t254 t258 t266 true) else (if (t259 != t243) = true then (laws_FnDivisorsToldOfAll.j0 k a0 a1 a2 a3 t242 t243 t250 t254 t258 t266 true) else (if (t263 != t243) = true then (laws_FnDivisorsToldOfAll.j0 k a0 a1 a2 a3 t242 t243 t250 t254 t258 t266 true) else (laws_FnDivisorsToldOfAll.j0 k a0 a1 a2 a3 t242 t243 t250 t254 t258 t266 (t267 != t243)))))) else (laws_FnDivisorsToldOfAll.j0 k a0 a1 a2 a3 t242 t243 t250 t254 t258 t266 true))) else (laws_FnDivisorsToldOfAll.j0 k a0 a1 a2 a3 t242 t243 t250 t254 t258 t266 true))) else (laws_FnDivisorsToldOfAll.j0 k a0 a1 a2 a3 t242 t243 t250 t254 t258 t266 true))) else (laws_FnDivisorsToldOfAll.j0 k a0 a1 a2 a3 t242 t243 t250 t254 t258 t266 true))) else (laws_FnDivisorsToldOfAll.j0 k a0 a1 a2 a3 t242 t243 t250 t254 t258 t266 true))) else (laws_FnDivisorsToldOfAll.j0 k a0 a1 a2 a3 t242 t243 t250 t254 t258 t266 true))))) = some r := H
 have A15 := Aside0.mk A150
 clear A150
 replace H := Option.bind_eq_some_iff.mp H
 obtain ⟨⟨t268, t269⟩, A160, H⟩ := H
 replace H : (if (t243 != t247) = true then (laws_FnDivisorsToldOfAll.j0 k a0 a1 a2 a3 t242 t243 t250 t254 t258 t266 true) else ((laws_gSame.f k t242 t246).bind fun t270 => (if t270 = true then (if (t251 != t253) = true then (laws_FnDivisorsToldOfAll.j0 k a0 a1 a2 a3 t242 t243 t250 t254 t258 t266 true) else (if t250 = t252 then (if (t255 != t257) = true then (laws_FnDivisorsToldOfAll.j0 k a0 a1 a2 a3 t242 t243 t250 t254 t258 t266 true) else (if t254 = t256 then (if (t259 != t261) = true then (laws_FnDivisorsToldOfAll.j0 k a0 a1 a2 a3 t242 t243 t250 t254 t258 t266 true) else (if t258 = t260 then (if (t263 != t265) = true then (laws_FnDivisorsToldOfAll.j0 k a0 a1 a2 a3 t242 t243 t250 t254 t258 t266 true) else (if t262 = t264 then (if (t267 != t269) = true then (laws_FnDivisorsToldOfAll.j0 k a0 a1 a2 a3 t242 t243 t250 t254 t258 t266 true) else (if t266 = t268 then (if (t251 != t243) = true then (laws_FnDivisorsToldOfAll.j0 k a0 a1 a2 a3 t242 t243 t250 t254 t258 t266 true) else (if (t255 != t243) = true then (laws_FnDivisorsToldOfAll.j0 k a0 a1 a2 a3 t242 t243 t250 t254 t258 t266 true) else (if (t259 != t243) = true then (laws_FnDivisorsToldOfAll.j0 k a0 a1 a2 a3 t242 t243 t250 t254 t258 t266 true) else (if (t263 != t243) = true then (laws_FnDivisorsToldOfAll.j0 k a0 a1 a2 a3 t242 t243 t250 t254 t258 t266 true) else (laws_FnDivisorsToldOfAll.j0 k a0 a1 a2 a3 t242 t243 t250 t254 t258 t266 (t267 != t243)))))) else (laws_FnDivisorsToldOfAll.j0 k a0 a1 a2 a3 t242 t243 t250 t254 t258 t266 true))) else (laws_FnDivisorsToldOfAll.j0 k a0 a1 a2 a3 t242 t243 t250 t254 t258 t266 true))) else (laws_FnDivisorsToldOfAll.j0 k a0 a1 a2 a3 t242 t243 t250 t254 t258 t266 true))) else (laws_FnDivisorsToldOfAll.j0 k a0 a1 a2 a3 t242 t243 t250 t254 t258 t266 true))) else (laws_FnDivisorsToldOfAll.j0 k a0 a1 a2 a3 t242 t243 t250 t254 t258 t266 true))) else (laws_FnDivisorsToldOfAll.j0 k a0 a1 a2 a3 t242 t243 t250 t254 t258 t266 true)))) = some r := H
 have A16 := Aside0.mk A160
 clear A160
 have HC17 := Aside0.mk H
 clear H
 go_enter Try.func5, Try.ntmps5
 go_upto_region 13 with (first | (go_at_call 63; (with_reducible refine (impl_DivisorsOf.calls k a0 t242 t243 _ A5.out).mono ?_); rintro e w18 ⟨v244, rfl, ho0, hb⟩; have n0_ := Aside0.mk (Kd.R_lower ho0 (below_size (by repeat (first | (with_reducible first | exact HB.out | apply below_alloc | apply pw_below_drewN | apply below_drew1))))); have n1_ := Aside0.mk (below_step (by repeat (first | (with_reducible first | exact HB.out | apply below_alloc | apply pw_below_drewN | apply below_drew1))) hb); clear HB; have HO245 := n0_; have HB := n1_; clear n0_ n1_; (try clear hb); (try clear ho0)) | (go_at_call 64; (with_reducible refine (spec_DivisorsOf.calls k a0 t246 t247 _ A6.out).mono ?_); rintro e w19 ⟨v248, rfl, ho0, hb⟩; have n0_ := Aside0.mk (Kd.R_elder' (by (with_reducible repeat (first | apply Kd.R_alloc | apply Kd.R_drewN | apply Kd.R_drew)); exact HO245.out) (Kd.R_base ho0) hb); have n1_ := Aside0.mk (Kd.R_lower (Kd.R_new' ho0 (Kd.R_lt (by (with_reducible repeat (first | apply Kd.R_alloc | apply Kd.R_drewN | apply Kd.R_drew)); exact HO245.out))) (below_size (by repeat (first | (with_reducible first | exact HB.out | apply below_alloc | apply pw_below_drewN | apply below_drew1))))); have n2_ := Aside0.mk (below_step (by repeat (first | (with_reducible first | exact HB.out | apply below_alloc | apply pw_below_drewN | apply below_drew1))) hb); clear HO245; clear HB; have HO245 := n0_; have HO249 := n1_; have HB := n2_; clear n0_ n1_ n2_; (try clear hb); (try clear ho0)) | (go_at_call 65; (with_reducible refine (impl_CountDivisors.calls k a0 t250 t251 _ A7.out).mono ?_); rintro e w20 ⟨rfl, hb⟩; have n0_ := Aside0.mk (Kd.R_below (by (with_reducible repeat (first | apply Kd.R_alloc | apply Kd.R_drewN | apply Kd.R_drew)); exact HO245.out) hb); have n1_ := Aside0.mk (Kd.R_below (by (with_reducible repeat (first | apply Kd.R_alloc | apply Kd.R_drewN | apply Kd.R_drew)); exact HO249.out) hb); have n2_ := Aside0.mk (below_step (by repeat (first | (with_reducible first | exact HB.out | apply below_alloc | apply pw_below_drewN | apply below_drew1))) hb); clear HO245; clear HO249; clear HB; have HO245 := n0_; have HO249 := n1_; have HB := n2_; clear n0_ n1_ n2_; (try clear hb)) | (go_at_call 66; (with_reducible refine (spec_CountDivisors.calls k a0 t252 t253 _ A8.out).mono ?_); rintro e w21 ⟨rfl, hb⟩; have n0_ := Aside0.mk (Kd.R_below (by (with_reducible repeat (first | apply Kd.R_alloc | apply Kd.R_drewN | apply Kd.R_drew)); exact HO245.out) hb); have n1_ := Aside0.mk (Kd.R_below (by (with_reducible repeat (first | apply Kd.R_alloc | apply Kd.R_drewN | apply Kd.R_drew)); exact HO249.out) hb); have n2_ := Aside0.mk (below_step (by repeat (first | (with_reducible first | exact HB.out | apply below_alloc | apply pw_below_drewN | apply below_drew1))) hb); clear HO245; clear HO249; clear HB; have HO245 := n0_; have HO249 := n1_; have HB := n2_; clear n0_ n1_ n2_; (try clear hb)) | (go_at_call 67; (with_reducible refine (impl_SumDivisors.calls k a0 t254 t255 _ A9.out).mono ?_); rintro e w22 ⟨rfl, hb⟩; have n0_ := Aside0.mk (Kd.R_below (by (with_reducible repeat (first | apply Kd.R_alloc | apply Kd.R_drewN | apply Kd.R_drew)); exact HO245.out) hb); have n1_ := Aside0.mk (Kd.R_below (by (with_reducible repeat (first | apply Kd.R_alloc | apply Kd.R_drewN | apply Kd.R_drew)); exact HO249.out) hb); have n2_ := Aside0.mk (below_step (by repeat (first | (with_reducible first | exact HB.out | apply below_alloc | apply pw_below_drewN | apply below_drew1))) hb); clear HO245; clear HO249; clear HB; have HO245 := n0_; have HO249 := n1_; have HB := n2_; clear n0_ n1_ n2_; (try clear hb)) | (go_at_call 68; (with_reducible refine (spec_SumDivisors.calls k a0 t256 t257 _ A10.out).mono ?_); rintro e w23 ⟨rfl, hb⟩; have n0_ := Aside0.mk (Kd.R_below (by (with_reducible repeat (first | apply Kd.R_alloc | apply Kd.R_drewN | apply Kd.R_drew)); exact HO245.out) hb); have n1_ := Aside0.mk (Kd.R_below (by (with_reducible repeat (first | apply Kd.R_alloc | apply Kd.R_drewN | apply Kd.R_drew)); exact HO249.out) hb); have n2_ := Aside0.mk (below_step (by repeat (first | (with_reducible first | exact HB.out | apply below_alloc | apply pw_below_drewN | apply below_drew1))) hb); clear HO245; clear HO249; clear HB; have HO245 := n0_; have HO249 := n1_; have HB := n2_; clear n0_ n1_ n2_; (try clear hb)) | (go_at_call 69; (with_reducible refine (impl_TotientOf.calls k a0 t258 t259 _ A11.out).mono ?_); rintro e w24 ⟨rfl, hb⟩; have n0_ := Aside0.mk (Kd.R_below (by (with_reducible repeat (first | apply Kd.R_alloc | apply Kd.R_drewN | apply Kd.R_drew)); exact HO245.out) hb); have n1_ := Aside0.mk (Kd.R_below (by (with_reducible repeat (first | apply Kd.R_alloc | apply Kd.R_drewN | apply Kd.R_drew)); exact HO249.out) hb); have n2_ := Aside0.mk (below_step (by repeat (first | (with_reducible first | exact HB.out | apply below_alloc | apply pw_below_drewN | apply below_drew1))) hb); clear HO245; clear HO249; clear HB; have HO245 := n0_; have HO249 := n1_; have HB := n2_; clear n0_ n1_ n2_; (try clear hb)) | (go_at_call 70; (with_reducible refine (spec_TotientOf.calls k a0 t260 t261 _ A12.out).mono ?_); rintro e w25 ⟨rfl, hb⟩; have n0_ := Aside0.mk (Kd.R_below (by (with_reducible repeat (first | apply Kd.R_alloc | apply Kd.R_drewN | apply Kd.R_drew)); exact HO245.out) hb); have n1_ := Aside0.mk (Kd.R_below (by (with_reducible repeat (first | apply Kd.R_alloc | apply Kd.R_drewN | apply Kd.R_drew)); exact HO249.out) hb); have n2_ := Aside0.mk (below_step (by repeat (first | (with_reducible first | exact HB.out | apply below_alloc | apply pw_below_drewN | apply below_drew1))) hb); clear HO245; clear HO249; clear HB; have HO245 := n0_; have HO249 := n1_; have HB := n2_; clear n0_ n1_ n2_; (try clear hb)) | (go_at_call 71; (with_reducible refine (impl_MoebiusOf.calls k a0 t262 t263 _ A13.out).mono ?_); rintro e w26 ⟨rfl, hb⟩; have n0_ := Aside0.mk (Kd.R_below (by (with_reducible repeat (first | apply Kd.R_alloc | apply Kd.R_drewN | apply Kd.R_drew)); exact HO245.out) hb); have n1_ := Aside0.mk (Kd.R_below (by (with_reducible repeat (first | apply Kd.R_alloc | apply Kd.R_drewN | apply Kd.R_drew)); exact HO249.out) hb); have n2_ := Aside0.mk (below_step (by repeat (first | (with_reducible first | exact HB.out | apply below_alloc | apply pw_below_drewN | apply below_drew1))) hb); clear HO245; clear HO249; clear HB; have HO245 := n0_; have HO249 := n1_; have HB := n2_; clear n0_ n1_ n2_; (try clear hb)) | (go_at_call 72; (with_reducible refine (spec_MoebiusOf.calls k a0 t264 t265 _ A14.out).mono ?_); rintro e w27 ⟨rfl, hb⟩; have n0_ := Aside0.mk (Kd.R_below (by (with_reducible repeat (first | apply Kd.R_alloc | apply Kd.R_drewN | apply Kd.R_drew)); exact HO245.out) hb); have n1_ := Aside0.mk (Kd.R_below (by (with_reducible repeat (first | apply Kd.R_alloc | apply Kd.R_drewN | apply Kd.R_drew)); exact HO249.out) hb); have n2_ := Aside0.mk (below_step (by repeat (first | (with_reducible first | exact HB.out | apply below_alloc | apply pw_below_drewN | apply below_drew1))) hb); clear HO245; clear HO249; clear HB; have HO245 := n0_; have HO249 := n1_; have HB := n2_; clear n0_ n1_ n2_; (try clear hb)) | (go_at_call 73; (with_reducible refine (impl_SumStep.calls k a0 t266 t267 _ A15.out).mono ?_); rintro e w28 ⟨rfl, hb⟩; have n0_ := Aside0.mk (Kd.R_below (by (with_reducible repeat (first | apply Kd.R_alloc | apply Kd.R_drewN | apply Kd.R_drew)); exact HO245.out) hb); have n1_ := Aside0.mk (Kd.R_below (by (with_reducible repeat (first | apply Kd.R_alloc | apply Kd.R_drewN | apply Kd.R_drew)); exact HO249.out) hb); have n2_ := Aside0.mk (below_step (by repeat (first | (with_reducible first | exact HB.out | apply below_alloc | apply pw_below_drewN | apply below_drew1))) hb); clear HO245; clear HO249; clear HB; have HO245 := n0_; have HO249 := n1_; have HB := n2_; clear n0_ n1_ n2_; (try clear hb)) | (go_at_call 74; (with_reducible refine (spec_SumStep.calls k a0 t268 t269 _ A16.out).mono ?_); rintro e w29 ⟨rfl, hb⟩; have n0_ := Aside0.mk (Kd.R_below (by (with_reducible repeat (first | apply Kd.R_alloc | apply Kd.R_drewN | apply Kd.R_drew)); exact HO245.out) hb); have n1_ := Aside0.mk (Kd.R_below (by (with_reducible repeat (first | apply Kd.R_alloc | apply Kd.R_drewN | apply Kd.R_drew)); exact HO249.out) hb); have n2_ := Aside0.mk (below_step (by repeat (first | (with_reducible first | exact HB.out | apply below_alloc | apply pw_below_drewN | apply below_drew1))) hb); clear HO245; clear HO249; clear HB; have HO245 := n0_; have HO249 := n1_; have HB := n2_; clear n0_ n1_ n2_; (try clear hb)))
 repeat (go_quiet (first | (go_at_call 63; (with_reducible refine (impl_DivisorsOf.calls k a0 t242 t243 _ A5.out).mono ?_); rintro e w18 ⟨v244, rfl, ho0, hb⟩; have n0_ := Aside0.mk (Kd.R_lower ho0 (below_size (by repeat (first | (with_reducible first | exact HB.out | apply below_alloc | apply pw_below_drewN | apply below_drew1))))); have n1_ := Aside0.mk (below_step (by repeat (first | (with_reducible first | exact HB.out | apply below_alloc | apply pw_below_drewN | apply below_drew1))) hb); clear HB; have HO245 := n0_; have HB := n1_; clear n0_ n1_; (try clear hb); (try clear ho0)) | (go_at_call 64; (with_reducible refine (spec_DivisorsOf.calls k a0 t246 t247 _ A6.out).mono ?_); rintro e w19 ⟨v248, rfl, ho0, hb⟩; have n0_ := Aside0.mk (Kd.R_elder' (by (with_reducible repeat (first | apply Kd.R_alloc | apply Kd.R_drewN | apply Kd.R_drew)); exact HO245.out) (Kd.R_base ho0) hb); have n1_ := Aside0.mk (Kd.R_lower (Kd.R_new' ho0 (Kd.R_lt (by (with_reducible repeat (first | apply Kd.R_alloc | apply Kd.R_drewN | apply Kd.R_drew)); exact HO245.out))) (below_size (by repeat (first | (with_reducible first | exact HB.out | apply below_alloc | apply pw_below_drewN | apply below_drew1))))); have n2_ := Aside0.mk (below_step (by repeat (first | (with_reducible first | exact HB.out | apply below_alloc | apply pw_below_drewN | apply below_drew1))) hb); clear HO245; clear HB; have HO245 := n0_; have HO249 := n1_; have HB := n2_; clear n0_ n1_ n2_; (try clear hb); (try clear ho0)) | (go_at_call 65; (with_reducible refine (impl_CountDivisors.calls k a0 t250 t251 _ A7.out).mono ?_); rintro e w20 ⟨rfl, hb⟩; have n0_ := Aside0.mk (Kd.R_below (by (with_reducible repeat (first | apply Kd.R_alloc | apply Kd.R_drewN | apply Kd.R_drew)); exact HO245.out) hb); have n1_ := Aside0.mk (Kd.R_below (by (with_reducible repeat (first | apply Kd.R_alloc | apply Kd.R_drewN | apply Kd.R_drew)); exact HO249.out) hb); have n2_ := Aside0.mk (below_step (by repeat (first | (with_reducible first | exact HB.out | apply below_alloc | apply pw_below_drewN | apply below_drew1))) hb); clear HO245; clear HO249; clear HB; have HO245 := n0_; have HO249 := n1_; have HB := n2_; clear n0_ n1_ n2_; (try clear hb)) | (go_at_call 66; (with_reducible refine (spec_CountDivisors.calls k a0 t252 t253 _ A8.out).mono ?_); rintro e w21 ⟨rfl, hb⟩; have n0_ := Aside0.mk (Kd.R_below (by (with_reducible repeat (first | apply Kd.R_alloc | apply Kd.R_drewN | apply Kd.R_drew)); exact HO245.out) hb); have n1_ := Aside0.mk (Kd.R_below (by (with_reducible repeat (first | apply Kd.R_alloc | apply Kd.R_drewN | apply Kd.R_drew)); exact HO249.out) hb); have n2_ := Aside0.mk (below_step (by repeat (first | (with_reducible first | exact HB.out | apply below_alloc | apply pw_below_drewN | apply below_drew1))) hb); clear HO245; clear HO249; clear HB; have HO245 := n0_; have HO249 := n1_; have HB := n2_; clear n0_ n1_ n2_; (try clear hb)) | (go_at_call 67; (with_reducible refine (impl_SumDivisors.calls k a0 t254 t255 _ A9.out).mono ?_); rintro e w22 ⟨rfl, hb⟩; have n0_ := Aside0.mk (Kd.R_below (by (with_reducible repeat (first | apply Kd.R_alloc | apply Kd.R_drewN | apply Kd.R_drew)); exact HO245.out) hb); have n1_ := Aside0.mk (Kd.R_below (by (with_reducible repeat (first | apply Kd.R_alloc | apply Kd.R_drewN | apply Kd.R_drew)); exact HO249.out) hb); have n2_ := Aside0.mk (below_step (by repeat (first | (with_reducible first | exact HB.out | apply below_alloc | apply pw_below_drewN | apply below_drew1))) hb); clear HO245; clear HO249; clear HB; have HO245 := n0_; have HO249 := n1_; have HB := n2_; clear n0_ n1_ n2_; (try clear hb)) | (go_at_call 68; (with_reducible refine (spec_SumDivisors.calls k a0 t256 t257 _ A10.out).mono ?_); rintro e w23 ⟨rfl, hb⟩; have n0_ := Aside0.mk (Kd.R_below (by (with_reducible repeat (first | apply Kd.R_alloc | apply Kd.R_drewN | apply Kd.R_drew)); exact HO245.out) hb); have n1_ := Aside0.mk (Kd.R_below (by (with_reducible repeat (first | apply Kd.R_alloc | apply Kd.R_drewN | apply Kd.R_drew)); exact HO249.out) hb); have n2_ := Aside0.mk (below_step (by repeat (first | (with_reducible first | exact HB.out | apply below_alloc | apply pw_below_drewN | apply below_drew1))) hb); clear HO245; clear HO249; clear HB; have HO245 := n0_; have HO249 := n1_; have HB := n2_; clear n0_ n1_ n2_; (try clear hb)) | (go_at_call 69; (with_reducible refine (impl_TotientOf.calls k a0 t258 t259 _ A11.out).mono ?_); rintro e w24 ⟨rfl, hb⟩; have n0_ := Aside0.mk (Kd.R_below (by (with_reducible repeat (first | apply Kd.R_alloc | apply Kd.R_drewN | apply Kd.R_drew)); exact HO245.out) hb); have n1_ := Aside0.mk (Kd.R_below (by (with_reducible repeat (first | apply Kd.R_alloc | apply Kd.R_drewN | apply Kd.R_drew)); exact HO249.out) hb); have n2_ := Aside0.mk (below_step (by repeat (first | (with_reducible first | exact HB.out | apply below_alloc | apply pw_below_drewN | apply below_drew1))) hb); clear HO245; clear HO249; clear HB; have HO245 := n0_; have HO249 := n1_; have HB := n2_; clear n0_ n1_ n2_; (try clear hb)) | (go_at_call 70; (with_reducible refine (spec_TotientOf.calls k a0 t260 t261 _ A12.out).mono ?_); rintro e w25 ⟨rfl, hb⟩; have n0_ := Aside0.mk (Kd.R_below (by (with_reducible repeat (first | apply Kd.R_alloc | apply Kd.R_drewN | apply Kd.R_drew)); exact HO245.out) hb); have n1_ := Aside0.mk (Kd.R_below (by (with_reducible repeat (first | apply Kd.R_alloc | apply Kd.R_drewN | apply Kd.R_drew)); exact HO249.out) hb); have n2_ := Aside0.mk (below_step (by repeat (first | (with_reducible first | exact HB.out | apply below_alloc | apply pw_below_drewN | apply below_drew1))) hb); clear HO245; clear HO249; clear HB; have HO245 := n0_; have HO249 := n1_; have HB := n2_; clear n0_ n1_ n2_; (try clear hb)) | (go_at_call 71; (with_reducible refine (impl_MoebiusOf.calls k a0 t262 t263 _ A13.out).mono ?_); rintro e w26 ⟨rfl, hb⟩; have n0_ := Aside0.mk (Kd.R_below (by (with_reducible repeat (first | apply Kd.R_alloc | apply Kd.R_drewN | apply Kd.R_drew)); exact HO245.out) hb); have n1_ := Aside0.mk (Kd.R_below (by (with_reducible repeat (first | apply Kd.R_alloc | apply Kd.R_drewN | apply Kd.R_drew)); exact HO249.out) hb); have n2_ := Aside0.mk (below_step (by repeat (first | (with_reducible first | exact HB.out | apply below_alloc | apply pw_below_drewN | apply below_drew1))) hb); clear HO245; clear HO249; clear HB; have HO245 := n0_; have HO249 := n1_; have HB := n2_; clear n0_ n1_ n2_; (try clear hb)) | (go_at_call 72; (with_reducible refine (spec_MoebiusOf.calls k a0 t264 t265 _ A14.out).mono ?_); rintro e w27 ⟨rfl, hb⟩; have n0_ := Aside0.mk (Kd.R_below (by (with_reducible repeat (first | apply Kd.R_alloc | apply Kd.R_drewN | apply Kd.R_drew)); exact HO245.out) hb); have n1_ := Aside0.mk (Kd.R_below (by (with_reducible repeat (first | apply Kd.R_alloc | apply Kd.R_drewN | apply Kd.R_drew)); exact HO249.out) hb); have n2_ := Aside0.mk (below_step (by repeat (first | (with_reducible first | exact HB.out | apply below_alloc | apply pw_below_drewN | apply below_drew1))) hb); clear HO245; clear HO249; clear HB; have HO245 := n0_; have HO249 := n1_; have HB := n2_; clear n0_ n1_ n2_; (try clear hb)) | (go_at_call 73; (with_reducible refine (impl_SumStep.calls k a0 t266 t267 _ A15.out).mono ?_); rintro e w28 ⟨rfl, hb⟩; have n0_ := Aside0.mk (Kd.R_below (by (with_reducible repeat (first | apply Kd.R_alloc | apply Kd.R_drewN | apply Kd.R_drew)); exact HO245.out) hb); have n1_ := Aside0.mk (Kd.R_below (by (with_reducible repeat (first | apply Kd.R_alloc | apply Kd.R_drewN | apply Kd.R_drew)); exact HO249.out) hb); have n2_ := Aside0.mk (below_step (by repeat (first | (with_reducible first | exact HB.out | apply below_alloc | apply pw_below_drewN | apply below_drew1))) hb); clear HO245; clear HO249; clear HB; have HO245 := n0_; have HO249 := n1_; have HB := n2_; clear n0_ n1_ n2_; (try clear hb)) | (go_at_call 74; (with_reducible refine (spec_SumStep.calls k a0 t268 t269 _ A16.out).mono ?_); rintro e w29 ⟨rfl, hb⟩; have n0_ := Aside0.mk (Kd.R_below (by (with_reducible repeat (first | apply Kd.R_alloc | apply Kd.R_drewN | apply Kd.R_drew)); exact HO245.out) hb); have n1_ := Aside0.mk (Kd.R_below (by (with_reducible repeat (first | apply Kd.R_alloc | apply Kd.R_drewN | apply Kd.R_drew)); exact HO249.out) hb); have n2_ := Aside0.mk (below_step (by repeat (first | (with_reducible first | exact HB.out | apply below_alloc | apply pw_below_drewN | apply below_drew1))) hb); clear HO245; clear HO249; clear HB; have HO245 := n0_; have HO249 := n1_; have HB := n2_; clear n0_ n1_ n2_; (try clear hb))); go_upto_region 13 with (first | (go_at_call 63; (with_reducible refine (impl_DivisorsOf.calls k a0 t242 t243 _ A5.out).mono ?_); rintro e w18 ⟨v244, rfl, ho0, hb⟩; have n0_ := Aside0.mk (Kd.R_lower ho0 (below_size (by repeat (first | (with_reducible first | exact HB.out | apply below_alloc | apply pw_below_drewN | apply below_drew1))))); have n1_ := Aside0.mk (below_step (by repeat (first | (with_reducible first | exact HB.out | apply below_alloc | apply pw_below_drewN | apply below_drew1))) hb); clear HB; have HO245 := n0_; have HB := n1_; clear n0_ n1_; (try clear hb); (try clear ho0)) | (go_at_call 64; (with_reducible refine (spec_DivisorsOf.calls k a0 t246 t247 _ A6.out).mono ?_); rintro e w19 ⟨v248, rfl, ho0, hb⟩; have n0_ := Aside0.mk (Kd.R_elder' (by (with_reducible repeat (first | apply Kd.R_alloc | apply Kd.R_drewN | apply Kd.R_drew)); exact HO245.out) (Kd.R_base ho0) hb); have n1_ := Aside0.mk (Kd.R_lower (Kd.R_new' ho0 (Kd.R_lt (by (with_reducible repeat (first | apply Kd.R_alloc | apply Kd.R_drewN | apply Kd.R_drew)); exact HO245.out))) (below_size (by repeat (first | (with_reducible first | exact HB.out | apply below_alloc | apply pw_below_drewN | apply below_drew1))))); have n2_ := Aside0.mk (below_step (by repeat (first | (with_reducible first | exact HB.out | apply below_alloc | apply pw_below_drewN | apply below_drew1))) hb); clear HO245; clear HB; have HO245 := n0_; have HO249 := n1_; have HB := n2_; clear n0_ n1_ n2_; (try clear hb); (try clear ho0)) | (go_at_call 65; (with_reducible refine (impl_CountDivisors.calls k a0 t250 t251 _ A7.out).mono ?_); rintro e w20 ⟨rfl, hb⟩; have n0_ := Aside0.mk (Kd.R_below (by (with_reducible repeat (first | apply Kd.R_alloc | apply Kd.R_drewN | apply Kd.R_drew)); exact HO245.out) hb); have n1_ := Aside0.mk (Kd.R_below (by (with_reducible repeat (first | apply Kd.R_alloc | apply Kd.R_drewN | apply Kd.R_drew)); exact HO249.out) hb); have n2_ := Aside0.mk (below_step (by repeat (first | (with_reducible first | exact HB.out | apply below_alloc | apply pw_below_drewN | apply below_drew1))) hb); clear HO245; clear HO249; clear HB; have HO245 := n0_; have HO249 := n1_; have HB := n2_; clear n0_ n1_ n2_; (try clear hb)) | (go_at_call 66; (with_reducible refine (spec_CountDivisors.calls k a0 t252 t253 _ A8.out).mono ?_); rintro e w21 ⟨rfl, hb⟩; have n0_ := Aside0.mk (Kd.R_below (by (with_reducible repeat (first | apply Kd.R_alloc | apply Kd.R_drewN | apply Kd.R_drew)); exact HO245.out) hb); have n1_ := Aside0.mk (Kd.R_below (by (with_reducible repeat (first | apply Kd.R_alloc | apply Kd.R_drewN | apply Kd.R_drew)); exact HO249.out) hb); have n2_ := Aside0.mk (below_step (by repeat (first | (with_reducible first | exact HB.out | apply below_alloc | apply pw_below_drewN | apply below_drew1))) hb); clear HO245; clear HO249; clear HB; have HO245 := n0_; have HO249 := n1_; have HB := n2_; clear n0_ n1_ n2_; (try clear hb)) | (go_at_call 67; (with_reducible refine (impl_SumDivisors.calls k a0 t254 t255 _ A9.out).mono ?_); rintro e w22 ⟨rfl, hb⟩; have n0_ := Aside0.mk (Kd.R_below (by (with_reducible repeat (first | apply Kd.R_alloc | apply Kd.R_drewN | apply Kd.R_drew)); exact HO245.out) hb); have n1_ := Aside0.mk (Kd.R_below (by (with_reducible repeat (first | apply Kd.R_alloc | apply Kd.R_drewN | apply Kd.R_drew)); exact HO249.out) hb); have n2_ := Aside0.mk (below_step (by repeat (first | (with_reducible first | exact HB.out | apply below_alloc | apply pw_below_drewN | apply below_drew1))) hb); clear HO245; clear HO249; clear HB; have HO245 := n0_; have HO249 := n1_; have HB := n2_; clear n0_ n1_ n2_; (try clear hb)) | (go_at_call 68; (with_reducible refine (spec_SumDivisors.calls k a0 t256 t257 _ A10.out).mono ?_); rintro e w23 ⟨rfl, hb⟩; have n0_ := Aside0.mk (Kd.R_below (by (with_reducible repeat (first | apply Kd.R_alloc | apply Kd.R_drewN | apply Kd.R_drew)); exact HO245.out) hb); have n1_ := Aside0.mk (Kd.R_below (by (with_reducible repeat (first | apply Kd.R_alloc | apply Kd.R_drewN | apply Kd.R_drew)); exact HO249.out) hb); have n2_ := Aside0.mk (below_step (by repeat (first | (with_reducible first | exact HB.out | apply below_alloc | apply pw_below_drewN | apply below_drew1))) hb); clear HO245; clear HO249; clear HB; have HO245 := n0_; have HO249 := n1_; have HB := n2_; clear n0_ n1_ n2_; (try clear hb)) | (go_at_call 69; (with_reducible refine (impl_TotientOf.calls k a0 t258 t259 _ A11.out).mono ?_); rintro e w24 ⟨rfl, hb⟩; have n0_ := Aside0.mk (Kd.R_below (by (with_reducible repeat (first | apply Kd.R_alloc | apply Kd.R_drewN | apply Kd.R_drew)); exact HO245.out) hb); have n1_ := Aside0.mk (Kd.R_below (by (with_reducible repeat (first | apply Kd.R_alloc | apply Kd.R_drewN | apply Kd.R_drew)); exact HO249.out) hb); have n2_ := Aside0.mk (below_step (by repeat (first | (with_reducible first | exact HB.out | apply below_alloc | apply pw_below_drewN | apply below_drew1))) hb); clear HO245; clear HO249; clear HB; have HO245 := n0_; have HO249 := n1_; have HB := n2_; clear n0_ n1_ n2_; (try clear hb)) | (go_at_call 70; (with_reducible refine (spec_TotientOf.calls k a0 t260 t261 _ A12.out).mono ?_); rintro e w25 ⟨rfl, hb⟩; have n0_ := Aside0.mk (Kd.R_below (by (with_reducible repeat (first | apply Kd.R_alloc | apply Kd.R_drewN | apply Kd.R_drew)); exact HO245.out) hb); have n1_ := Aside0.mk (Kd.R_below (by (with_reducible repeat (first | apply Kd.R_alloc | apply Kd.R_drewN | apply Kd.R_drew)); exact HO249.out) hb); have n2_ := Aside0.mk (below_step (by repeat (first | (with_reducible first | exact HB.out | apply below_alloc | apply pw_below_drewN | apply below_drew1))) hb); clear HO245; clear HO249; clear HB; have HO245 := n0_; have HO249 := n1_; have HB := n2_; clear n0_ n1_ n2_; (try clear hb)) | (go_at_call 71; (with_reducible refine (impl_MoebiusOf.calls k a0 t262 t263 _ A13.out).mono ?_); rintro e w26 ⟨rfl, hb⟩; have n0_ := Aside0.mk (Kd.R_below (by (with_reducible repeat (first | apply Kd.R_alloc | apply Kd.R_drewN | apply Kd.R_drew)); exact HO245.out) hb); have n1_ := Aside0.mk (Kd.R_below (by (with_reducible repeat (first | apply Kd.R_alloc | apply Kd.R_drewN | apply Kd.R_drew)); exact HO249.out) hb); have n2_ := Aside0.mk (below_step (by repeat (first | (with_reducible first | exact HB.out | apply below_alloc | apply pw_below_drewN | apply below_drew1))) hb); clear HO245; clear HO249; clear HB; have HO245 := n0_; have HO249 := n1_; have HB := n2_; clear n0_ n1_ n2_; (try clear hb)) | (go_at_call 72; (with_reducible refine (spec_MoebiusOf.calls k a0 t264 t265 _ A14.out).mono ?_); rintro e w27 ⟨rfl, hb⟩; have n0_ := Aside0.mk (Kd.R_below (by (with_reducible repeat (first | apply Kd.R_alloc | apply Kd.R_drewN | apply Kd.R_drew)); exact HO245.out) hb); have n1_ := Aside0.mk (Kd.R_below (by (with_reducible repeat (first | apply Kd.R_alloc | apply Kd.R_drewN | apply Kd.R_drew)); exact HO249.out) hb); have n2_ := Aside0.mk (below_step (by repeat (first | (with_reducible first | exact HB.out | apply below_alloc | apply pw_below_drewN | apply below_drew1))) hb); clear HO245; clear HO249; clear HB; have HO245 := n0_; have HO249 := n1_; have HB := n2_; clear n0_ n1_ n2_; (try clear hb)) | (go_at_call 73; (with_reducible refine (impl_SumStep.calls k a0 t266 t267 _ A15.out).mono ?_); rintro e w28 ⟨rfl, hb⟩; have n0_ := Aside0.mk (Kd.R_below (by (with_reducible repeat (first | apply Kd.R_alloc | apply Kd.R_drewN | apply Kd.R_drew)); exact HO245.out) hb); have n1_ := Aside0.mk (Kd.R_below (by (with_reducible repeat (first | apply Kd.R_alloc | apply Kd.R_drewN | apply Kd.R_drew)); exact HO249.out) hb); have n2_ := Aside0.mk (below_step (by repeat (first | (with_reducible first | exact HB.out | apply below_alloc | apply pw_below_drewN | apply below_drew1))) hb); clear HO245; clear HO249; clear HB; have HO245 := n0_; have HO249 := n1_; have HB := n2_; clear n0_ n1_ n2_; (try clear hb)) | (go_at_call 74; (with_reducible refine (spec_SumStep.calls k a0 t268 t269 _ A16.out).mono ?_); rintro e w29 ⟨rfl, hb⟩; have n0_ := Aside0.mk (Kd.R_below (by (with_reducible repeat (first | apply Kd.R_alloc | apply Kd.R_drewN | apply Kd.R_drew)); exact HO245.out) hb); have n1_ := Aside0.mk (Kd.R_below (by (with_reducible repeat (first | apply Kd.R_alloc | apply Kd.R_drewN | apply Kd.R_drew)); exact HO249.out) hb); have n2_ := Aside0.mk (below_step (by repeat (first | (with_reducible first | exact HB.out | apply below_alloc | apply pw_below_drewN | apply below_drew1))) hb); clear HO245; clear HO249; clear HB; have HO245 := n0_; have HO249 := n1_; have HB := n2_; clear n0_ n1_ n2_; (try clear hb))))
 (try simp only [Act.put, List.setIfInBounds_toArray, List.set_cons_zero, List.set_cons_succ])
 refine cutF mk0 [] (fun u_ wc => ∃ (kq : Nat) (x200_16 : Bool), (u_ 200) = .bool x200_16 ∧ Aside0 (laws_FnDivisorsToldOfAll.j0 kq a0 a1 a2 a3 t242 t243 t250 t254 t258 t266 x200_16 = some r) ∧ Aside0 (kq ≤ k) ∧ Aside0 (Kd.R (Kd.int .i64) 3 wc w.heap.size (fun _ => True) v244 t242) ∧ Aside0 (Below w.heap.size w wc)) ?_ ?_
 ·
  as_aux_lemma =>
   intro J_ K_ hJ_ hK_
   have H := HC17.out
   clear HC17
   by_cases c30 : (t243 != t247) = true
   ·
    rw [if_pos c30] at H
    exact (laws_FnDivisorsToldOfAll.j0_no _ _ _ _ _ _ _ _ _ _ _ (H.trans (congrArg some HRT.out))).elim
   ·
    rw [if_neg c30] at H
    have c30b0 : (t243 != t247) = false := by simpa using c30
    (try (have c30b1 : decide (t243 = t247) = true := by simpa using c30))
    (try (have c30b2 : (t243 == t247) = true := by simpa using c30))
    clear c30
    (first | rw [c30b0] | (simp only [i64_w, i32_w]; rw [c30b0]) | skip)
    replace H := Option.bind_eq_some_iff.mp H
    obtain ⟨t270, A310, H⟩ := H
    replace H : (if t270 = true then (if (t251 != t253) = true then (laws_FnDivisorsToldOfAll.j0 k a0 a1 a2 a3 t242 t243 t250 t254 t258 t266 true) else (if t250 = t252 then (if (t255 != t257) = true then (laws_FnDivisorsToldOfAll.j0 k a0 a1 a2 a3 t242 t243 t250 t254 t258 t266 true) else (if t254 = t256 then (if (t259 != t261) = true then (laws_FnDivisorsToldOfAll.j0 k a0 a1 a2 a3 t242 t243 t250 t254 t258 t266 true) else (if t258 = t260 then (if (t263 != t265) = true then (laws_FnDivisorsToldOfAll.j0 k a0 a1 a2 a3 t242 t243 t250 t254 t258 t266 true) else (if t262 = t264 then (if (t267 != t269) = true then (laws_FnDivisorsToldOfAll.j0 k a0 a1 a2 a3 t242 t243 t250 t254 t258 t266 true) else (if t266 = t268 then (if (t251 != t243) = true then (laws_FnDivisorsToldOfAll.j0 k a0 a1 a2 a3 t242 t243 t250 t254 t258 t266 true) else (if (t255 != t243) = true then (laws_FnDivisorsToldOfAll.j0 k a0 a1 a2 a3 t242 t243 t250 t254 t258 t266 true) else (if (t259 != t243) = true then (laws_FnDivisorsToldOfAll.j0 k a0 a1 a2 a3 t242 t243 t250 t254 t258 t266 true) else (if (t263 != t243) = true then (laws_FnDivisorsToldOfAll.j0 k a0 a1 a2 a3 t242 t243 t250 t254 t258 t266 true) else (laws_FnDivisorsToldOfAll.j0 k a0 a1 a2 a3 t242 t243 t250 t254 t258 t266 (t267 != t243)))))) else (laws_FnDivisorsToldOfAll.j0 k a0 a1 a2 a3 t242 t243 t250 t254 t258 t266 true))) else (laws_FnDivisorsToldOfAll.j0 k a0 a1 a2 a3 t242 t243 t250 t254 t258 t266 true))) else (laws_FnDivisorsToldOfAll.j0 k a0 a1 a2 a3 t242 t243 t250 t254 t258 t266 true))) else (laws_FnDivisorsToldOfAll.j0 k a0 a1 a2 a3 t242 t243 t250 t254 t258 t266 true))) else (laws_FnDivisorsToldOfAll.j0 k a0 a1 a2 a3 t242 t243 t250 t254 t258 t266 true))) else (laws_FnDivisorsToldOfAll.j0 k a0 a1 a2 a3 t242 t243 t250 t254 t258 t266 true)) = some r := H
    have A31 := Aside0.mk A310
    clear A310
    by_cases c32 : t270 = true
    ·
     subst c32
     have H1 : (if (t251 != t253) = true then (laws_FnDivisorsToldOfAll.j0 k a0 a1 a2 a3 t242 t243 t250 t254 t258 t266 true) else (if t250 = t252 then (if (t255 != t257) = true then (laws_FnDivisorsToldOfAll.j0 k a0 a1 a2 a3 t242 t243 t250 t254 t258 t266 true) else (if t254 = t256 then (if (t259 != t261) = true then (laws_FnDivisorsToldOfAll.j0 k a0 a1 a2 a3 t242 t243 t250 t254 t258 t266 true) else (if t258 = t260 then (if (t263 != t265) = true then (laws_FnDivisorsToldOfAll.j0 k a0 a1 a2 a3 t242 t243 t250 t254 t258 t266 true) else (if t262 = t264 then (if (t267 != t269) = true then (laws_FnDivisorsToldOfAll.j0 k a0 a1 a2 a3 t242 t243 t250 t254 t258 t266 true) else (if t266 = t268 then (if (t251 != t243) = true then (laws_FnDivisorsToldOfAll.j0 k a0 a1 a2 a3 t242 t243 t250 t254 t258 t266 true) else (if (t255 != t243) = true then (laws_FnDivisorsToldOfAll.j0 k a0 a1 a2 a3 t242 t243 t250 t254 t258 t266 true) else (if (t259 != t243) = true then (laws_FnDivisorsToldOfAll.j0 k a0 a1 a2 a3 t242 t243 t250 t254 t258 t266 true) else (if (t263 != t243) = true then (laws_FnDivisorsToldOfAll.j0 k a0 a1 a2 a3 t242 t243 t250 t254 t258 t266 true) else (laws_FnDivisorsToldOfAll.j0 k a0 a1 a2 a3 t242 t243 t250 t254 t258 t266 (t267 != t243)))))) else (laws_FnDivisorsToldOfAll.j0 k a0 a1 a2 a3 t242 t243 t250 t254 t258 t266 true))) else (laws_FnDivisorsToldOfAll.j0 k a0 a1 a2 a3 t242 t243 t250 t254 t258 t266 true))) else (laws_FnDivisorsToldOfAll.j0 k a0 a1 a2 a3 t242 t243 t250 t254 t258 t266 true))) else (laws_FnDivisorsToldOfAll.j0 k a0 a1 a2 a3 t242 t243 t250 t254 t258 t266 true))) else (laws_FnDivisorsToldOfAll.j0 k a0 a1 a2 a3 t242 t243 t250 t254 t258 t266 true))) = some r := by rw [if_pos rfl] at H; exact H
     clear H
     have H := H1
     clear H1
     by_cases c33 : (t251 != t253) = true
     ·
      rw [if_pos c33] at H
      exact (laws_FnDivisorsToldOfAll.j0_no _ _ _ _ _ _ _ _ _ _ _ (H.trans (congrArg some HRT.out))).elim
     ·
      rw [if_neg c33] at H
      have c33b0 : (t251 != t253) = false := by simpa using c33
      (try (have c33b1 : decide (t251 = t253) = true := by simpa using c33))
      (try (have c33b2 : (t251 == t253) = true := by simpa using c33))
      clear c33
      by_cases c36 : t250 = t252
      ·
       rw [if_pos c36] at H
       have c36b0 : (t250 == t252) = true := beq_iff_eq.mpr c36
       have c36b1 : (t250 != t252) = false := bne_eq_false_iff_eq.mpr c36
       clear c36
       by_cases c37 : (t255 != t257) = true
       ·
        rw [if_pos c37] at H
        exact (laws_FnDivisorsToldOfAll.j0_no _ _ _ _ _ _ _ _ _ _ _ (H.trans (congrArg some HRT.out))).elim
       ·
        rw [if_neg c37] at H
        have c37b0 : (t255 != t257) = false := by simpa using c37
        (try (have c37b1 : decide (t255 = t257) = true := by simpa using c37))
        (try (have c37b2 : (t255 == t257) = true := by simpa using c37))
        clear c37
        by_cases c40 : t254 = t256
        ·
         rw [if_pos c40] at H
         have c40b0 : (t254 == t256) = true := beq_iff_eq.mpr c40
         have c40b1 : (t254 != t256) = false := bne_eq_false_iff_eq.mpr c40
         clear c40
         by_cases c41 : (t259 != t261) = true
         ·
          rw [if_pos c41] at H
          exact (laws_FnDivisorsToldOfAll.j0_no _ _ _ _ _ _ _ _ _ _ _ (H.trans (congrArg some HRT.out))).elim
         ·
          rw [if_neg c41] at H
          have c41b0 : (t259 != t261) = false := by simpa using c41
          (try (have c41b1 : decide (t259 = t261) = true := by simpa using c41))
          (try (have c41b2 : (t259 == t261) = true := by simpa using c41))
          clear c41
          by_cases c44 : t258 = t260
          ·
           rw [if_pos c44] at H
           have c44b0 : (t258 == t260) = true := beq_iff_eq.mpr c44
           have c44b1 : (t258 != t260) = false := bne_eq_false_iff_eq.mpr c44
           clear c44
           by_cases c45 : (t263 != t265) = true
           ·
            rw [if_pos c45] at H
            exact (laws_FnDivisorsToldOfAll.j0_no _ _ _ _ _ _ _ _ _ _ _ (H.trans (congrArg some HRT.out))).elim
           ·
            rw [if_neg c45] at H
            have c45b0 : (t263 != t265) = false := by simpa using c45
            (try (have c45b1 : decide (t263 = t265) = true := by simpa using c45))
            (try (have c45b2 : (t263 == t265) = true := by simpa using c45))
            clear c45
            by_cases c48 : t262 = t264
            ·
             rw [if_pos c48] at H
             have c48b0 : (t262 == t264) = true := beq_iff_eq.mpr c48
             have c48b1 : (t262 != t264) = false := bne_eq_false_iff_eq.mpr c48
             clear c48
             by_cases c49 : (t267 != t269) = true
             ·
              rw [if_pos c49] at H
              exact (laws_FnDivisorsToldOfAll.j0_no _ _ _ _ _ _ _ _ _ _ _ (H.trans (congrArg some HRT.out))).elim
             ·
              rw [if_neg c49] at H
              have c49b0 : (t267 != t269) = false := by simpa using c49
              (try (have c49b1 : decide (t267 = t269) = true := by simpa using c49))
              (try (have c49b2 : (t267 == t269) = true := by simpa using c49))
              clear c49
              by_cases c52 : t266 = t268
              ·
               rw [if_pos c52] at H
               have c52b0 : (t266 == t268) = true := beq_iff_eq.mpr c52
               have c52b1 : (t266 != t268) = false := bne_eq_false_iff_eq.mpr c52
               clear c52
               by_cases c53 : (t251 != t243) = true
               ·
                rw [if_pos c53] at H
                exact (laws_FnDivisorsToldOfAll.j0_no _ _ _ _ _ _ _ _ _ _ _ (H.trans (congrArg some HRT.out))).elim
               ·
                rw [if_neg c53] at H
                have c53b0 : (t251 != t243) = false := by simpa using c53
                (try (have c53b1 : decide (t251 = t243) = true := by simpa using c53))
                (try (have c53b2 : (t251 == t243) = true := by simpa using c53))
                clear c53
                by_cases c56 : (t255 != t243) = true
                ·
                 rw [if_pos c56] at H
                 exact (laws_FnDivisorsToldOfAll.j0_no _ _ _ _ _ _ _ _ _ _ _ (H.trans (congrArg some HRT.out))).elim
                ·
                 rw [if_neg c56] at H
                 have c56b0 : (t255 != t243) = false := by simpa using c56
                 (try (have c56b1 : decide (t255 = t243) = true := by simpa using c56))
                 (try (have c56b2 : (t255 == t243) = true := by simpa using c56))
                 clear c56
                 by_cases c59 : (t259 != t243) = true
                 ·
                  rw [if_pos c59] at H
                  exact (laws_FnDivisorsToldOfAll.j0_no _ _ _ _ _ _ _ _ _ _ _ (H.trans (congrArg some HRT.out))).elim
                 ·
                  rw [if_neg c59] at H
                  have c59b0 : (t259 != t243) = false := by simpa using c59
                  (try (have c59b1 : decide (t259 = t243) = true := by simpa using c59))
                  (try (have c59b2 : (t259 == t243) = true := by simpa using c59))
                  clear c59
                  by_cases c62 : (t263 != t243) = true
                  ·
                   rw [if_pos c62] at H
                   exact (laws_FnDivisorsToldOfAll.j0_no _ _ _ _ _ _ _ _ _ _ _ (H.trans (congrArg some HRT.out))).elim
                  ·
                   rw [if_neg c62] at H
                   have c62b0 : (t263 != t243) = false := by simpa using c62
                   (try (have c62b1 : decide (t263 = t243) = true := by simpa using c62))
                   (try (have c62b2 : (t263 == t243) = true := by simpa using c62))
                   clear c62
                   have H' := Aside0.mk H
                   clear H
                   obtain ⟨Ao65, co65, eo65⟩ := Kd.R_slice HO245.out
                   subst eo65
                   obtain ⟨Ao66, co66, eo66⟩ := Kd.R_slice HO249.out
                   subst eo66
                   go_wp2_with (first | (go_at_call 75; (with_reducible refine (laws_gSame.calls k _ _ t242 _ _ t246 true _ ?side1 ?side2 ?side3 ?side4 A31.out).mono ?_); (case side1 => repeat (first | exact (Kd.R_reads' HO245.out).2.2 | (with_reducible refine Kd.C_alloc ?_ _) | (with_reducible refine Kd.C_drewN ?_ _) | (with_reducible refine Kd.C_drew ?_))); (case side2 => exact (Kd.R_reads' HO245.out).2.1); (case side3 => repeat (first | exact (Kd.R_reads' HO249.out).2.2 | (with_reducible refine Kd.C_alloc ?_ _) | (with_reducible refine Kd.C_drewN ?_ _) | (with_reducible refine Kd.C_drew ?_))); (case side4 => exact (Kd.R_reads' HO249.out).2.1); rintro e w' ⟨rfl, ⟨nd, rfl⟩⟩; (try first | exact ⟨rfl, _, World.drewN_drewN _ _ _⟩ | exact ⟨rfl, _, Eq.trans (World.drewN_drewN _ _ _) (congrArg (World.drewN _) (Nat.add_assoc _ _ _))⟩)))
                   repeat (go_quiet (first | (go_at_call 75; (with_reducible refine (laws_gSame.calls k _ _ t242 _ _ t246 true _ ?side1 ?side2 ?side3 ?side4 A31.out).mono ?_); (case side1 => repeat (first | exact (Kd.R_reads' HO245.out).2.2 | (with_reducible refine Kd.C_alloc ?_ _) | (with_reducible refine Kd.C_drewN ?_ _) | (with_reducible refine Kd.C_drew ?_))); (case side2 => exact (Kd.R_reads' HO245.out).2.1); (case side3 => repeat (first | exact (Kd.R_reads' HO249.out).2.2 | (with_reducible refine Kd.C_alloc ?_ _) | (with_reducible refine Kd.C_drewN ?_ _) | (with_reducible refine Kd.C_drew ?_))); (case side4 => exact (Kd.R_reads' HO249.out).2.1); rintro e w' ⟨rfl, ⟨nd, rfl⟩⟩; (try first | exact ⟨rfl, _, World.drewN_drewN _ _ _⟩ | exact ⟨rfl, _, Eq.trans (World.drewN_drewN _ _ _) (congrArg (World.drewN _) (Nat.add_assoc _ _ _))⟩))); try go_wp2_with (first | (go_at_call 75; (with_reducible refine (laws_gSame.calls k _ _ t242 _ _ t246 true _ ?side1 ?side2 ?side3 ?side4 A31.out).mono ?_); (case side1 => repeat (first | exact (Kd.R_reads' HO245.out).2.2 | (with_reducible refine Kd.C_alloc ?_ _) | (with_reducible refine Kd.C_drewN ?_ _) | (with_reducible refine Kd.C_drew ?_))); (case side2 => exact (Kd.R_reads' HO245.out).2.1); (case side3 => repeat (first | exact (Kd.R_reads' HO249.out).2.2 | (with_reducible refine Kd.C_alloc ?_ _) | (with_reducible refine Kd.C_drewN ?_ _) | (with_reducible refine Kd.C_drew ?_))); (case side4 => exact (Kd.R_reads' HO249.out).2.1); rintro e w' ⟨rfl, ⟨nd, rfl⟩⟩; (try first | exact ⟨rfl, _, World.drewN_drewN _ _ _⟩ | exact ⟨rfl, _, Eq.trans (World.drewN_drewN _ _ _) (congrArg (World.drewN _) (Nat.add_assoc _ _ _))⟩))))
                   refine cutMeet hJ_ ?_ (by kernel_rfl)
                   exact ⟨_, ((t267 != t243)), (by first | rfl | (simp; done) | (simp [*]; done)), H', ⟨by first | omega | exact Nat.le_refl _⟩, ⟨by (with_reducible repeat (first | apply Kd.R_alloc | apply Kd.R_drewN | apply Kd.R_drew)); exact Kd.R_mono HO245.out (fun _ hk => trivial)⟩, ⟨by repeat (first | (with_reducible first | exact HB.out | apply below_alloc | apply pw_below_drewN | apply below_drew1))⟩⟩
              ·
               rw [if_neg c52] at H
               exact (laws_FnDivisorsToldOfAll.j0_no _ _ _ _ _ _ _ _ _ _ _ (H.trans (congrArg some HRT.out))).elim
            ·
             rw [if_neg c48] at H
             exact (laws_FnDivisorsToldOfAll.j0_no _ _ _ _ _ _ _ _ _ _ _ (H.trans (congrArg some HRT.out))).elim
          ·
           rw [if_neg c44] at H
           exact (laws_FnDivisorsToldOfAll.j0_no _ _ _ _ _ _ _ _ _ _ _ (H.trans (congrArg some HRT.out))).elim
        ·
         rw [if_neg c40] at H
         exact (laws_FnDivisorsToldOfAll.j0_no _ _ _ _ _ _ _ _ _ _ _ (H.trans (congrArg some HRT.out))).elim
      ·
       rw [if_neg c36] at H
       exact (laws_FnDivisorsToldOfAll.j0_no _ _ _ _ _ _ _ _ _ _ _ (H.trans (congrArg some HRT.out))).elim
    ·
     replace c32 := Bool.eq_false_iff.mpr c32
     subst c32
     have H1 : (laws_FnDivisorsToldOfAll.j0 k a0 a1 a2 a3 t242 t243 t250 t254 t258 t266 true) = some r := by rw [if_neg (show ¬ (false = true) by decide)] at H; exact H
     clear H
     have H := H1
     clear H1
     exact (laws_FnDivisorsToldOfAll.j0_no _ _ _ _ _ _ _ _ _ _ _ (H.trans (congrArg some HRT.out))).elim
 ·
  intro u_ wc hcut
  clear HC17
  obtain ⟨kq, x200_16, e_200, HA, HJ16, HO_9, HB⟩ := hcut
  dsimp only [cutFgt, mk0]
  rw [e_200]
  cases kq with
  | zero => exact absurd HA.out (by simp [laws_FnDivisorsToldOfAll.j0])
  | succ kj16 =>
   have H := HA.out
   clear HA
   simp only [laws_FnDivisorsToldOfAll.j0] at H
   by_cases c79 : x200_16 = true
   ·
    subst c79
    have H1 : (some false) = some r := by rw [if_pos rfl] at H; exact H
    clear H
    have H := H1
    clear H1
    first
    | exact absurd (Option.some.inj (H.trans (congrArg some HRT.out))) Bool.false_ne_true
    |
     obtain rfl := Option.some.inj H
     go_wp2
     repeat (go_quiet (fail); try go_wp2)
     go_ret
     exact ⟨by first | rfl | (simp [errW_none, errW_some] <;> rfl) | (simp [*, errW_none, errW_some] <;> rfl), by repeat (first | (with_reducible first | exact HB.out | apply below_alloc | apply pw_below_drewN | apply below_drew1))⟩
   ·
    replace c79 := Bool.eq_false_iff.mpr c79
    subst c79
    have H1 : (if t243 = true then (if (t242.length : Int) = t250 then ((laws_gSum.f kj16 t242).bind fun t271 => (if t271 = t254 then (if t266 = (wrap64 (t254 - a0)) then (if 0 < (t242.length : Int) then (if (rd t242 0) = 1 then (if 0 ≤ (wrap64 (t250 - 1)) then (if (wrap64 (t250 - 1)) < (t242.length : Int) then (laws_FnDivisorsToldOfAll.j1 kj16 a0 a1 a2 a3 t242 t250 t258 ((rd t242 (wrap64 (t250 - 1))) != a0)) else (none)) else (none)) else (laws_FnDivisorsToldOfAll.j1 kj16 a0 a1 a2 a3 t242 t250 t258 true)) else (none)) else (laws_FnDivisorsToldOfAll.j1 kj16 a0 a1 a2 a3 t242 t250 t258 true)) else (laws_FnDivisorsToldOfAll.j1 kj16 a0 a1 a2 a3 t242 t250 t258 true))) else (laws_FnDivisorsToldOfAll.j1 kj16 a0 a1 a2 a3 t242 t250 t258 true)) else (laws_FnDivisorsToldOfAll.j6 kj16 a1 a2 a3)) = some r := by rw [if_neg (show ¬ (false = true) by decide)] at H; exact H
    clear H
    have H := H1
    clear H1
    have HC80 := Aside0.mk H
    clear H
    go_upto_if 201 with (fail)
    repeat (go_quiet (fail); go_upto_if 201 with (fail))
    refine cutF mk0 [none, none, none, none, none, none, none, none, some 8, none, none, none, none, none, none, none, none, none, none, none, none, none, none, none, none, none, none, none, none, none, none, none, none, some 33, some 34, some 35, some 36, some 37, some 38, some 39, some 40, some 41, some 42, none, none, none, none, none, none, none, none, none, none, none, none, none, none, none, none, none, none, none, none, none, none, none, none, none, none, none, none, none, none, none, none, none, none, none, none, none, none, none, none, none, none, none, none, none, none, none, none, none, none, none, none, none, none, none, none, none, none, none, none, none, none, none, none, none, none, none, none, none, none, none, none, none, none, none, none, none, none, none, none, none, none, none, none, none, none, none, none, none, none, none, none, none, none, none, none, none, none, none, none, none, none, none, none, none, none, none, none, none, none, none, none, none, none, none, none, none, none, none, none, none, none, none, none, none, none, none, none, none, none, none, none, none, none, none, none, none, none, none, none, none, none, none, none, none, none, none, none, none, none, none, none, none, none, none, none, none, none, none, none, none, none, none, none, none, none, none, none, none, none, none, none, none, none, none, none, none, none, none, none, none, none, none, none, none, none, none, none, none, none, none, some 234, some 235, some 236] (fun u_ wc => ∃ (kq : Nat), Aside0 (laws_FnDivisorsToldOfAll.j6 kq a1 a2 a3 = some r) ∧ Aside0 (kq ≤ kj16) ∧ Aside0 (Below w.heap.size w wc)) ?_ ?_
    ·
     as_aux_lemma =>
      intro J_ K_ hJ_ hK_
      have H := HC80.out
      clear HC80
      by_cases c81 : t243 = true
      ·
       subst c81
       have H1 : (if (t242.length : Int) = t250 then ((laws_gSum.f kj16 t242).bind fun t271 => (if t271 = t254 then (if t266 = (wrap64 (t254 - a0)) then (if 0 < (t242.length : Int) then (if (rd t242 0) = 1 then (if 0 ≤ (wrap64 (t250 - 1)) then (if (wrap64 (t250 - 1)) < (t242.length : Int) then (laws_FnDivisorsToldOfAll.j1 kj16 a0 a1 a2 a3 t242 t250 t258 ((rd t242 (wrap64 (t250 - 1))) != a0)) else (none)) else (none)) else (laws_FnDivisorsToldOfAll.j1 kj16 a0 a1 a2 a3 t242 t250 t258 true)) else (none)) else (laws_FnDivisorsToldOfAll.j1 kj16 a0 a1 a2 a3 t242 t250 t258 true)) else (laws_FnDivisorsToldOfAll.j1 kj16 a0 a1 a2 a3 t242 t250 t258 true))) else (laws_FnDivisorsToldOfAll.j1 kj16 a0 a1 a2 a3 t242 t250 t258 true)) = some r := by rw [if_pos rfl] at H; exact H
       clear H
       have H := H1
       clear H1
       have HC82 := Aside0.mk H
       clear H
       go_upto_region 16 with (fail)
       repeat (go_quiet (fail); go_upto_region 16 with (fail))
       refine cutF mk0 [] (fun u_ wc => ∃ (kq : Nat) (x233_81 : Bool), (u_ 233) = .bool x233_81 ∧ Aside0 (laws_FnDivisorsToldOfAll.j1 kq a0 a1 a2 a3 t242 t250 t258 x233_81 = some r) ∧ Aside0 (kq ≤ kj16) ∧ Aside0 (Kd.R (Kd.int .i64) 3 wc w.heap.size (fun _ => True) v244 t242) ∧ Aside0 (Below w.heap.size w wc)) ?_ ?_
       ·
        as_aux_lemma =>
         intro J_ K_ hJ_ hK_
         have H := HC82.out
         clear HC82
         by_cases c83 : (t242.length : Int) = t250
         ·
          rw [if_pos c83] at H
          have c83b0 : ((t242.length : Int) == t250) = true := beq_iff_eq.mpr c83
          have c83b1 : ((t242.length : Int) != t250) = false := bne_eq_false_iff_eq.mpr c83
          clear c83
          (first | rw [c83b0] | (simp only [i64_w, i32_w]; rw [c83b0]) | skip)
          replace H := Option.bind_eq_some_iff.mp H
          obtain ⟨t271, A840, H⟩ := H
          replace H : (if t271 = t254 then (if t266 = (wrap64 (t254 - a0)) then (if 0 < (t242.length : Int) then (if (rd t242 0) = 1 then (if 0 ≤ (wrap64 (t250 - 1)) then (if (wrap64 (t250 - 1)) < (t242.length : Int) then (laws_FnDivisorsToldOfAll.j1 kj16 a0 a1 a2 a3 t242 t250 t258 ((rd t242 (wrap64 (t250 - 1))) != a0)) else (none)) else (none)) else (laws_FnDivisorsToldOfAll.j1 kj16 a0 a1 a2 a3 t242 t250 t258 true)) else (none)) else (laws_FnDivisorsToldOfAll.j1 kj16 a0 a1 a2 a3 t242 t250 t258 true)) else (laws_FnDivisorsToldOfAll.j1 kj16 a0 a1 a2 a3 t242 t250 t258 true)) = some r := H
          have A84 := Aside0.mk A840
          clear A840
          by_cases c85 : t271 = t254
          ·
           rw [if_pos c85] at H
           have c85b0 : (t271 == t254) = true := beq_iff_eq.mpr c85
           have c85b1 : (t271 != t254) = false := bne_eq_false_iff_eq.mpr c85
           clear c85
           by_cases c86 : t266 = (wrap64 (t254 - a0))
           ·
            rw [if_pos c86] at H
            have c86b0 : (t266 == (wrap64 (t254 - a0))) = true := beq_iff_eq.mpr c86
            have c86b1 : (t266 != (wrap64 (t254 - a0))) = false := bne_eq_false_iff_eq.mpr c86
            clear c86
            by_cases c87 : 0 < (t242.length : Int)
            ·
             rw [if_pos c87] at H
             have c87b0 : decide (0 < (t242.length : Int)) = true := decide_eq_true c87
             have c87b1 : decide (0 < t242.length) = true := decide_eq_true (by omega)
             clear c87
             by_cases c88 : (rd t242 0) = 1
             ·
              rw [if_pos c88] at H
              have c88b0 : ((rd t242 0) == 1) = true := beq_iff_eq.mpr c88
              have c88b1 : ((rd t242 0) != 1) = false := bne_eq_false_iff_eq.mpr c88
              clear c88
              obtain ⟨ji89, hji89⟩ : ∃ j_ : Int, (wrap64 (t250 - 1)) = j_ := ⟨_, rfl⟩
              replace H : (if 0 ≤ (ji89) then (if (ji89) < (t242.length : Int) then (laws_FnDivisorsToldOfAll.j1 kj16 a0 a1 a2 a3 t242 t250 t258 ((rd t242 (ji89)) != a0)) else (none)) else (none)) = some r := by first | (rw [hji89] at H; exact H) | (simp only [hji89] at H ⊢; exact H)
              (try rw [hji89] at A84)
              have hji89w : (IntKind.i64.wrap (t250 - 1)) = ji89 := (i64_w _).trans hji89
              by_cases c90 : 0 ≤ (ji89)
              ·
               rw [if_pos c90] at H
               have c90b0 : decide (0 ≤ (ji89)) = true := decide_eq_true c90
               clear c90
               by_cases c91 : (ji89) < (t242.length : Int)
               ·
                rw [if_pos c91] at H
                have c91b0 : decide ((ji89) < (t242.length : Int)) = true := decide_eq_true c91
                clear c91
                have H' := Aside0.mk H
                clear H
                obtain ⟨Ao92, co92, eo92⟩ := Kd.R_slice HO_9.out
                subst eo92
                go_wp2_with (first | (go_at_call 76; (with_reducible refine (laws_gSum.calls kj16 _ _ t242 t271 _ ?side1 ?side2 A84.out).mono ?_); (case side1 => repeat (first | exact (Kd.R_reads' HO_9.out).2.2 | (with_reducible refine Kd.C_alloc ?_ _) | (with_reducible refine Kd.C_drewN ?_ _) | (with_reducible refine Kd.C_drew ?_))); (case side2 => exact (Kd.R_reads' HO_9.out).2.1); rintro e w' ⟨rfl, ⟨nd, rfl⟩⟩; (try first | exact ⟨rfl, _, World.drewN_drewN _ _ _⟩ | exact ⟨rfl, _, Eq.trans (World.drewN_drewN _ _ _) (congrArg (World.drewN _) (Nat.add_assoc _ _ _))⟩); have p272 : 0 ≤ (0 : Int) := (by omega); have q272 : 0 < (t242.length : Int) := of_decide_eq_true (by first | (with_reducible assumption) | assumption); obtain ⟨ad272, e272, hx272_0⟩ := Kd.at_int (Kd.R_reads' HO_9.out).2.2 0 p272 q272; cases e272; have qi272 : (0 < t242.length) = True := eq_true (by omega); (try rw [show ((0 : Int)).toNat = 0 from rfl] at hx272_0); (try rw [Addr.add_zero'] at hx272_0); replace p272 := eq_true p272; replace q272 := eq_true q272; have p273 : 0 ≤ ((ji89) : Int) := of_decide_eq_true (by first | (with_reducible assumption) | assumption); have q273 : (ji89) < (t242.length : Int) := of_decide_eq_true (by first | (with_reducible assumption) | assumption); obtain ⟨ad273, e273, hx273_0⟩ := Kd.at_int (Kd.R_reads' HO_9.out).2.2 (ji89) p273 q273; obtain rfl : ad272 = ad273 := (by injection e273); replace p273 := eq_true p273; replace q273 := eq_true q273))
                repeat (go_quiet (first | (go_at_call 76; (with_reducible refine (laws_gSum.calls kj16 _ _ t242 t271 _ ?side1 ?side2 A84.out).mono ?_); (case side1 => repeat (first | exact (Kd.R_reads' HO_9.out).2.2 | (with_reducible refine Kd.C_alloc ?_ _) | (with_reducible refine Kd.C_drewN ?_ _) | (with_reducible refine Kd.C_drew ?_))); (case side2 => exact (Kd.R_reads' HO_9.out).2.1); rintro e w' ⟨rfl, ⟨nd, rfl⟩⟩; (try first | exact ⟨rfl, _, World.drewN_drewN _ _ _⟩ | exact ⟨rfl, _, Eq.trans (World.drewN_drewN _ _ _) (congrArg (World.drewN _) (Nat.add_assoc _ _ _))⟩); have p272 : 0 ≤ (0 : Int) := (by omega); have q272 : 0 < (t242.length : Int) := of_decide_eq_true (by first | (with_reducible assumption) | assumption); obtain ⟨ad272, e272, hx272_0⟩ := Kd.at_int (Kd.R_reads' HO_9.out).2.2 0 p272 q272; cases e272; have qi272 : (0 < t242.length) = True := eq_true (by omega); (try rw [show ((0 : Int)).toNat = 0 from rfl] at hx272_0); (try rw [Addr.add_zero'] at hx272_0); replace p272 := eq_true p272; replace q272 := eq_true q272; have p273 : 0 ≤ ((ji89) : Int) := of_decide_eq_true (by first | (with_reducible assumption) | assumption); have q273 : (ji89) < (t242.length : Int) := of_decide_eq_true (by first | (with_reducible assumption) | assumption); obtain ⟨ad273, e273, hx273_0⟩ := Kd.at_int (Kd.R_reads' HO_9.out).2.2 (ji89) p273 q273; obtain rfl : ad272 = ad273 := (by injection e273); replace p273 := eq_true p273; replace q273 := eq_true q273)); try go_wp2_with (first | (go_at_call 76; (with_reducible refine (laws_gSum.calls kj16 _ _ t242 t271 _ ?side1 ?side2 A84.out).mono ?_); (case side1 => repeat (first | exact (Kd.R_reads' HO_9.out).2.2 | (with_reducible refine Kd.C_alloc ?_ _) | (with_reducible refine Kd.C_drewN ?_ _) | (with_reducible refine Kd.C_drew ?_))); (case side2 => exact (Kd.R_reads' HO_9.out).2.1); rintro e w' ⟨rfl, ⟨nd, rfl⟩⟩; (try first | exact ⟨rfl, _, World.drewN_drewN _ _ _⟩ | exact ⟨rfl, _, Eq.trans (World.drewN_drewN _ _ _) (congrArg (World.drewN _) (Nat.add_assoc _ _ _))⟩); have p272 : 0 ≤ (0 : Int) := (by omega); have q272 : 0 < (t242.length : Int) := of_decide_eq_true (by first | (with_reducible assumption) | assumption); obtain ⟨ad272, e272, hx272_0⟩ := Kd.at_int (Kd.R_reads' HO_9.out).2.2 0 p272 q272; cases e272; have qi272 : (0 < t242.length) = True := eq_true (by omega); (try rw [show ((0 : Int)).toNat = 0 from rfl] at hx272_0); (try rw [Addr.add_zero'] at hx272_0); replace p272 := eq_true p272; replace q272 := eq_true q272; have p273 : 0 ≤ ((ji89) : Int) := of_decide_eq_true (by first | (with_reducible assumption) | assumption); have q273 : (ji89) < (t242.length : Int) := of_decide_eq_true (by first | (with_reducible assumption) | assumption); obtain ⟨ad273, e273, hx273_0⟩ := Kd.at_int (Kd.R_reads' HO_9.out).2.2 (ji89) p273 q273; obtain rfl : ad272 = ad273 := (by injection e273); replace p273 := eq_true p273; replace q273 := eq_true q273)))
                refine cutMeet hJ_ ?_ (by kernel_rfl)
                exact ⟨_, (((rd t242 (ji89)) != a0)), (by first | rfl | (simp; done) | (simp only [← hji89] <;> (first | rfl | simp)) | (simp [*]; done)), H', ⟨by have := HJ16.out; first | omega | exact Nat.le_refl _⟩, ⟨by (with_reducible repeat (first | apply Kd.R_alloc | apply Kd.R_drewN | apply Kd.R_drew)); exact HO_9.out⟩, ⟨by repeat (first | (with_reducible first | exact HB.out | apply below_alloc | apply pw_below_drewN | apply below_drew1))⟩⟩
               ·
                rw [if_neg c91] at H
                exact absurd H (by simp)
              ·
               rw [if_neg c90] at H
               exact absurd H (by simp)
             ·
              rw [if_neg c88] at H
              exact (laws_FnDivisorsToldOfAll.j1_no _ _ _ _ _ _ _ _ (H.trans (congrArg some HRT.out))).elim
            ·
             rw [if_neg c87] at H
             exact absurd H (by simp)
           ·
            rw [if_neg c86] at H
            exact (laws_FnDivisorsToldOfAll.j1_no _ _ _ _ _ _ _ _ (H.trans (congrArg some HRT.out))).elim
          ·
           rw [if_neg c85] at H
           exact (laws_FnDivisorsToldOfAll.j1_no _ _ _ _ _ _ _ _ (H.trans (congrArg some HRT.out))).elim
         ·
          rw [if_neg c83] at H
          exact (laws_FnDivisorsToldOfAll.j1_no _ _ _ _ _ _ _ _ (H.trans (congrArg some HRT.out))).elim
       ·
        intro u_ wc hcut
        clear HC82
        obtain ⟨kq, x233_81, e_233, HA, HJ81, HO_9, HB⟩ := hcut
        dsimp only [cutFgt, mk0]
        rw [e_233]
        cases kq with
        | zero => exact absurd HA.out (by simp [laws_FnDivisorsToldOfAll.j1])
        | succ kj81 =>
         have H := HA.out
         clear HA
         simp only [laws_FnDivisorsToldOfAll.j1] at H
         by_cases c97 : x233_81 = true
         ·
          subst c97
          have H1 : (some false) = some r := by rw [if_pos rfl] at H; exact H
          clear H
          have H := H1
          clear H1
          first
          | exact absurd (Option.some.inj (H.trans (congrArg some HRT.out))) Bool.false_ne_true
          |
           obtain rfl := Option.some.inj H
           go_wp2
           repeat (go_quiet (fail); try go_wp2)
           go_ret
           exact ⟨by first | rfl | (simp [errW_none, errW_some] <;> rfl) | (simp [*, errW_none, errW_some] <;> rfl), by repeat (first | (with_reducible first | exact HB.out | apply below_alloc | apply pw_below_drewN | apply below_drew1))⟩
         ·
          replace c97 := Bool.eq_false_iff.mpr c97
          subst c97
          have H1 : (laws_FnDivisorsToldOfAll.l0 kj81 a0 a1 a2 a3 t242 t250 t258 0 0 t242 (t242.length : Int) 0) = some r := by rw [if_neg (show ¬ (false = true) by decide)] at H; exact H
          clear H
          have H := H1
          clear H1
          have H' := Aside0.mk H
          clear H
          obtain ⟨Ao98, co98, eo98⟩ := Kd.R_slice HO_9.out
          subst eo98
          go_wp2
          repeat (go_quiet (fail); try go_wp2)
          go_loopg [33, 34, 236] kj81 (fun kq v33 v34 v236 w' => ∃ (x33_3 : Int) (x34_3 : Int) (x236_3 : Int), v33 = .int .i64 x33_3 ∧ v34 = .int .i64 x34_3 ∧ v236 = .int .i64 x236_3 ∧ Aside0 (laws_FnDivisorsToldOfAll.l0 kq a0 a1 a2 a3 t242 t250 t258 x33_3 x34_3 t242 (t242.length : Int) x236_3 = some r) ∧ Aside0 (kq ≤ kj81) ∧ Aside0 (Kd.R (Kd.int .i64) 3 w' w.heap.size (fun _ => True) (.slice Ao98 t242.length co98) t242) ∧ Aside0 (Kd.R (Kd.int .i64) 3 w' w.heap.size (fun _ => True) (.slice Ao98 t242.length co98) t242) ∧ Aside0 (Below w.heap.size w w'))
          case atStart => exact ⟨(0), (0), (0), (by first | rfl | (simp; done) | (simp [*]; done)), (by first | rfl | (simp; done) | (simp [*]; done)), (by first | rfl | (simp; done) | (simp [*]; done)), H', ⟨Nat.le_refl _⟩, ⟨by (with_reducible repeat (first | apply Kd.R_alloc | apply Kd.R_drewN | apply Kd.R_drew)); exact HO_9.out⟩, ⟨by (with_reducible repeat (first | apply Kd.R_alloc | apply Kd.R_drewN | apply Kd.R_drew)); exact HO_9.out⟩, ⟨by repeat (first | (with_reducible first | exact HB.out | apply below_alloc | apply pw_below_drewN | apply below_drew1))⟩⟩
          case round =>
           clear H'
           obtain ⟨x33_3, x34_3, x236_3, rfl, rfl, rfl, HA, HK3, HO_9, HO_234, HB⟩ := hrel
           cases gk with
           | zero => exact absurd HA.out (by simp [laws_FnDivisorsToldOfAll.l0])
           | succ k3 =>
            have H := HA.out
            clear HA
            simp only [laws_FnDivisorsToldOfAll.l0] at H
            by_cases c99 : x236_3 < (t242.length : Int)
            ·
             rw [if_pos c99] at H
             have c99b0 : decide (x236_3 < (t242.length : Int)) = true := decide_eq_true c99
             clear c99
             by_cases c100 : 0 ≤ x236_3
             ·
              rw [if_pos c100] at H
              have c100b0 : decide (0 ≤ x236_3) = true := decide_eq_true c100
              clear c100
              by_cases c101 : x236_3 < (t242.length : Int)
              ·
               rw [if_pos c101] at H
               have c101b0 : decide (x236_3 < (t242.length : Int)) = true := decide_eq_true c101
               clear c101
               have HC102 := Aside0.mk H
               clear H
               have p274 : 0 ≤ (x236_3 : Int) := of_decide_eq_true (by first | (with_reducible assumption) | assumption)
               have q274 : x236_3 < (t242.length : Int) := of_decide_eq_true (by first | (with_reducible assumption) | assumption)
               obtain ⟨ad274, e274, hx274_0⟩ := Kd.at_int (Kd.R_reads' HO_234.out).2.2 x236_3 p274 q274
               cases e274
               replace p274 := eq_true p274
               replace q274 := eq_true q274
               go_upto_region 22 with (fail)
               repeat (go_quiet (fail); go_upto_region 22 with (fail))
               refine cutF mk1 [] (fun u_ wc => ∃ (kq : Nat) (x267_101 : Bool), (u_ 267) = .bool x267_101 ∧ Aside0 (laws_FnDivisorsToldOfAll.j3 kq a0 a1 a2 a3 t242 t250 t258 x33_3 x34_3 (rd t242 x236_3) t242 (t242.length : Int) x236_3 x267_101 = some r) ∧ Aside0 (kq ≤ k3) ∧ Aside0 (Kd.R (Kd.int .i64) 3 wc w.heap.size (fun _ => True) (.slice (some ad274) t242.length co98) t242) ∧ Aside0 (Kd.R (Kd.int .i64) 3 wc w.heap.size (fun _ => True) (.slice (some ad274) t242.length co98) t242) ∧ Aside0 (Below w.heap.size w wc)) ?_ ?_
               ·
                as_aux_lemma =>
                 intro J_ K_ hJ_ hK_
                 have H := HC102.out
                 clear HC102
                 by_cases c103 : x236_3 < (t242.length : Int)
                 ·
                  rw [if_pos c103] at H
                  have c103b0 : decide (x236_3 < (t242.length : Int)) = true := decide_eq_true c103
                  clear c103
                  (first | rw [c103b0] | (simp only [i64_w, i32_w]; rw [c103b0]) | skip)
                  obtain ⟨ji104, hji104⟩ : ∃ j_ : Int, (wrap64 ((wrap64 (t250 - 1)) - x236_3)) = j_ := ⟨_, rfl⟩
                  replace H : (if 0 ≤ (ji104) then (if (ji104) < (t242.length : Int) then (if (wrap64 ((rd t242 x236_3) * (rd t242 (ji104)))) = a0 then (if x236_3 > 0 then (if 0 ≤ (wrap64 (x236_3 - 1)) then (if (wrap64 (x236_3 - 1)) < (t242.length : Int) then (laws_FnDivisorsToldOfAll.j3 k3 a0 a1 a2 a3 t242 t250 t258 x33_3 x34_3 (rd t242 x236_3) t242 (t242.length : Int) x236_3 (decide ((rd t242 (wrap64 (x236_3 - 1))) ≥ (rd t242 x236_3)))) else (none)) else (none)) else (laws_FnDivisorsToldOfAll.j3 k3 a0 a1 a2 a3 t242 t250 t258 x33_3 x34_3 (rd t242 x236_3) t242 (t242.length : Int) x236_3 false)) else (laws_FnDivisorsToldOfAll.j3 k3 a0 a1 a2 a3 t242 t250 t258 x33_3 x34_3 (rd t242 x236_3) t242 (t242.length : Int) x236_3 true)) else (none)) else (none)) = some r := by first | (rw [hji104] at H; exact H) | (simp only [hji104] at H ⊢; exact H)
                  have hji104w : (IntKind.i64.wrap ((wrap64 (t250 - 1)) - x236_3)) = ji104 := (i64_w _).trans hji104
                  by_cases c105 : 0 ≤ (ji104)
                  ·
                   rw [if_pos c105] at H
                   have c105b0 : decide (0 ≤ (ji104)) = true := decide_eq_true c105
                   clear c105
                   by_cases c106 : (ji104) < (t242.length : Int)
                   ·
                    rw [if_pos c106] at H
                    have c106b0 : decide ((ji104) < (t242.length : Int)) = true := decide_eq_true c106
                    clear c106
                    by_cases c107 : (wrap64 ((rd t242 x236_3) * (rd t242 (ji104)))) = a0
                    ·
                     rw [if_pos c107] at H
                     have c107b0 : ((wrap64 ((rd t242 x236_3) * (rd t242 (ji104)))) == a0) = true := beq_iff_eq.mpr c107
                     have c107b1 : ((wrap64 ((rd t242 x236_3) * (rd t242 (ji104)))) != a0) = false := bne_eq_false_iff_eq.mpr c107
                     clear c107
                     by_cases c108 : x236_3 > 0
                     ·
                      rw [if_pos c108] at H
                      have c108b0 : decide (0 < x236_3) = true := decide_eq_true c108
                      clear c108
                      obtain ⟨ji109, hji109⟩ : ∃ j_ : Int, (wrap64 (x236_3 - 1)) = j_ := ⟨_, rfl⟩
                      replace H : (if 0 ≤ (ji109) then (if (ji109) < (t242.length : Int) then (laws_FnDivisorsToldOfAll.j3 k3 a0 a1 a2 a3 t242 t250 t258 x33_3 x34_3 (rd t242 x236_3) t242 (t242.length : Int) x236_3 (decide ((rd t242 (ji109)) ≥ (rd t242 x236_3)))) else (none)) else (none)) = some r := by first | (rw [hji109] at H; exact H) | (simp only [hji109] at H ⊢; exact H)
                      have hji109w : (IntKind.i64.wrap (x236_3 - 1)) = ji109 := (i64_w _).trans hji109
                      by_cases c110 : 0 ≤ (ji109)
                      ·
                       rw [if_pos c110] at H
                       have c110b0 : decide (0 ≤ (ji109)) = true := decide_eq_true c110
                       clear c110
                       by_cases c111 : (ji109) < (t242.length : Int)
                       ·
                        rw [if_pos c111] at H
                        have c111b0 : decide ((ji109) < (t242.length : Int)) = true := decide_eq_true c111
                        clear c111
                        have H' := Aside0.mk H
                        clear H
                        have p275 : 0 ≤ (x236_3 : Int) := of_decide_eq_true (by first | (with_reducible assumption) | assumption)
                        have q275 : x236_3 < (t242.length : Int) := of_decide_eq_true (by first | (with_reducible assumption) | assumption)
                        obtain ⟨ad275, e275, hx275_0⟩ := Kd.at_int (Kd.R_reads' HO_9.out).2.2 x236_3 p275 q275
                        obtain rfl : ad274 = ad275 := (by injection e275)
                        replace p275 := eq_true p275
                        replace q275 := eq_true q275
                        have p276 : 0 ≤ ((ji104) : Int) := of_decide_eq_true (by first | (with_reducible assumption) | assumption)
                        have q276 : (ji104) < (t242.length : Int) := of_decide_eq_true (by first | (with_reducible assumption) | assumption)
                        obtain ⟨ad276, e276, hx276_0⟩ := Kd.at_int (Kd.R_reads' HO_9.out).2.2 (ji104) p276 q276
                        obtain rfl : ad274 = ad276 := (by injection e276)
                        replace p276 := eq_true p276
                        replace q276 := eq_true q276
                        have p277 : 0 ≤ ((ji109) : Int) := of_decide_eq_true (by first | (with_reducible assumption) | assumption)
                        have q277 : (ji109) < (t242.length : Int) := of_decide_eq_true (by first | (with_reducible assumption) | assumption)
                        obtain ⟨ad277, e277, hx277_0⟩ := Kd.at_int (Kd.R_reads' HO_9.out).2.2 (ji109) p277 q277
                        obtain rfl : ad274 = ad277 := (by injection e277)
                        replace p277 := eq_true p277
                        replace q277 := eq_true q277
                        go_wp2
                        repeat (go_quiet (fail); try go_wp2)
                        refine cutMeet hJ_ ?_ (by kernel_rfl)
                        exact ⟨_, (decide ((rd t242 (ji109)) ≥ (rd t242 x236_3))), (by first | rfl | (simp; done) | (simp only [← hji109] <;> (first | rfl | simp)) | (simp [*]; done)), H', ⟨by have := HJ16.out; have := HJ81.out; have := HK3.out; first | omega | exact Nat.le_refl _⟩, ⟨by (with_reducible repeat (first | apply Kd.R_alloc | apply Kd.R_drewN | apply Kd.R_drew)); exact HO_9.out⟩, ⟨by (with_reducible repeat (first | apply Kd.R_alloc | apply Kd.R_drewN | apply Kd.R_drew)); exact HO_234.out⟩, ⟨by repeat (first | (with_reducible first | exact HB.out | apply below_alloc | apply pw_below_drewN | apply below_drew1))⟩⟩
                       ·
                        rw [if_neg c111] at H
                        exact absurd H (by simp)
                      ·
                       rw [if_neg c110] at H
                       exact absurd H (by simp)
                     ·
                      rw [if_neg c108] at H
                      have c108b0 : decide (0 < x236_3) = false := decide_eq_false c108
                      clear c108
                      have H' := Aside0.mk H
                      clear H
                      have p275 : 0 ≤ (x236_3 : Int) := of_decide_eq_true (by first | (with_reducible assumption) | assumption)
                      have q275 : x236_3 < (t242.length : Int) := of_decide_eq_true (by first | (with_reducible assumption) | assumption)
                      obtain ⟨ad275, e275, hx275_0⟩ := Kd.at_int (Kd.R_reads' HO_9.out).2.2 x236_3 p275 q275
                      obtain rfl : ad274 = ad275 := (by injection e275)
                      replace p275 := eq_true p275
                      replace q275 := eq_true q275
                      have p276 : 0 ≤ ((ji104) : Int) := of_decide_eq_true (by first | (with_reducible assumption) | assumption)
                      have q276 : (ji104) < (t242.length : Int) := of_decide_eq_true (by first | (with_reducible assumption) | assumption)
                      obtain ⟨ad276, e276, hx276_0⟩ := Kd.at_int (Kd.R_reads' HO_9.out).2.2 (ji104) p276 q276
                      obtain rfl : ad274 = ad276 := (by injection e276)
                      replace p276 := eq_true p276
                      replace q276 := eq_true q276
                      go_wp2
                      repeat (go_quiet (fail); try go_wp2)
                      refine cutMeet hJ_ ?_ (by kernel_rfl)
                      exact ⟨_, (false), (by first | rfl | (simp; done) | (simp [*]; done)), H', ⟨by have := HJ16.out; have := HJ81.out; have := HK3.out; first | omega | exact Nat.le_refl _⟩, ⟨by (with_reducible repeat (first | apply Kd.R_alloc | apply Kd.R_drewN | apply Kd.R_drew)); exact HO_9.out⟩, ⟨by (with_reducible repeat (first | apply Kd.R_alloc | apply Kd.R_drewN | apply Kd.R_drew)); exact HO_234.out⟩, ⟨by repeat (first | (with_reducible first | exact HB.out | apply below_alloc | apply pw_below_drewN | apply below_drew1))⟩⟩
                    ·
                     rw [if_neg c107] at H
                     exact (laws_FnDivisorsToldOfAll.j3_no _ _ _ _ _ _ _ _ _ _ _ _ _ _ (H.trans (congrArg some HRT.out))).elim
                   ·
                    rw [if_neg c106] at H
                    exact absurd H (by simp)
                  ·
                   rw [if_neg c105] at H
                   exact absurd H (by simp)
                 ·
                  rw [if_neg c103] at H
                  exact absurd H (by simp)
               ·
                intro u_ wc hcut
                clear HC102
                obtain ⟨kq, x267_101, e_267, HA, HJ101, HO_9, HO_234, HB⟩ := hcut
                dsimp only [cutFgt, mk1]
                rw [e_267]
                cases kq with
                | zero => exact absurd HA.out (by simp [laws_FnDivisorsToldOfAll.j3])
                | succ kj101 =>
                 have H := HA.out
                 clear HA
                 simp only [laws_FnDivisorsToldOfAll.j3] at H
                 by_cases c112 : x267_101 = true
                 ·
                  subst c112
                  have H1 : (some false) = some r := by rw [if_pos rfl] at H; exact H
                  clear H
                  have H := H1
                  clear H1
                  first
                  | exact absurd (Option.some.inj (H.trans (congrArg some HRT.out))) Bool.false_ne_true
                  |
                   obtain rfl := Option.some.inj H
                   go_wp2
                   repeat (go_quiet (fail); try go_wp2)
                   go_ret
                   exact ⟨by first | rfl | (simp [errW_none, errW_some] <;> rfl) | (simp [*, errW_none, errW_some] <;> rfl), by repeat (first | (with_reducible first | exact HB.out | apply below_alloc | apply pw_below_drewN | apply below_drew1))⟩
                 ·
                  replace c112 := Bool.eq_false_iff.mpr c112
                  subst c112
                  have H1 : ((impl_TotientOf.f kj101 (rd t242 x236_3)).bind fun bt278 => ((impl_MoebiusOf.f kj101 (rd t242 x236_3)).bind fun bt280 => (if bt278.2 = true then (if bt280.2 = true then (laws_FnDivisorsToldOfAll.l0 kj101 a0 a1 a2 a3 t242 t250 t258 (wrap64 (x33_3 + bt278.1)) (wrap64 (x34_3 + bt280.1)) t242 (t242.length : Int) (wrap64 (x236_3 + 1))) else (some false)) else (some false)))) = some r := by rw [if_neg (show ¬ (false = true) by decide)] at H; exact H
                  clear H
                  have H := H1
                  clear H1
                  replace H := Option.bind_eq_some_iff.mp H
                  obtain ⟨⟨t278, t279⟩, A1130, H⟩ := H
                  replace H : ((impl_MoebiusOf.f kj101 (rd t242 x236_3)).bind fun bt280 => (if t279 = true then (if bt280.2 = true then (laws_FnDivisorsToldOfAll.l0 kj101 a0 a1 a2 a3 t242 t250 t258 (wrap64 (x33_3 + t278)) (wrap64 (x34_3 + bt280.1)) t242 (t242.length : Int) (wrap64 (x236_3 + 1))) else (some false)) else (some false))) = some r := H
                  have A113 := Aside0.mk A1130
                  clear A1130
                  replace H := Option.bind_eq_some_iff.mp H
                  obtain ⟨⟨t280, t281⟩, A1140, H⟩ := H
                  replace H : (if t279 = true then (if t281 = true then (laws_FnDivisorsToldOfAll.l0 kj101 a0 a1 a2 a3 t242 t250 t258 (wrap64 (x33_3 + t278)) (wrap64 (x34_3 + t280)) t242 (t242.length : Int) (wrap64 (x236_3 + 1))) else (some false)) else (some false)) = some r := H
                  have A114 := Aside0.mk A1140
                  clear A1140
                  by_cases c115 : t279 = true
                  ·
                   subst c115
                   have H1 : (if t281 = true then (laws_FnDivisorsToldOfAll.l0 kj101 a0 a1 a2 a3 t242 t250 t258 (wrap64 (x33_3 + t278)) (wrap64 (x34_3 + t280)) t242 (t242.length : Int) (wrap64 (x236_3 + 1))) else (some false)) = some r := by rw [if_pos rfl] at H; exact H
                   clear H
                   have H := H1
                   clear H1
                   by_cases c116 : t281 = true
                   ·
                    subst c116
                    have H1 : (laws_FnDivisorsToldOfAll.l0 kj101 a0 a1 a2 a3 t242 t250 t258 (wrap64 (x33_3 + t278)) (wrap64 (x34_3 + t280)) t242 (t242.length : Int) (wrap64 (x236_3 + 1))) = some r := by rw [if_pos rfl] at H; exact H
                    clear H
                    have H := H1
                    clear H1
                    have H' := Aside0.mk H
                    clear H
                    go_wp2_with (first | (go_at_call 69; (with_reducible refine (impl_TotientOf.calls kj101 (rd t242 x236_3) t278 true _ A113.out).mono ?_); rintro e w117 ⟨rfl, hb⟩; have n0_ := Aside0.mk (Kd.R_below (by (with_reducible repeat (first | apply Kd.R_alloc | apply Kd.R_drewN | apply Kd.R_drew)); exact HO_9.out) hb); have n1_ := Aside0.mk (Kd.R_below (by (with_reducible repeat (first | apply Kd.R_alloc | apply Kd.R_drewN | apply Kd.R_drew)); exact HO_234.out) hb); have n2_ := Aside0.mk (below_step (by repeat (first | (with_reducible first | exact HB.out | apply below_alloc | apply pw_below_drewN | apply below_drew1))) hb); clear HO_9; clear HO_234; clear HB; have HO_9 := n0_; have HO_234 := n1_; have HB := n2_; clear n0_ n1_ n2_; (try clear hb)) | (go_at_call 71; (with_reducible refine (impl_MoebiusOf.calls kj101 (rd t242 x236_3) t280 true _ A114.out).mono ?_); rintro e w118 ⟨rfl, hb⟩; have n0_ := Aside0.mk (Kd.R_below (by (with_reducible repeat (first | apply Kd.R_alloc | apply Kd.R_drewN | apply Kd.R_drew)); exact HO_9.out) hb); have n1_ := Aside0.mk (Kd.R_below (by (with_reducible repeat (first | apply Kd.R_alloc | apply Kd.R_drewN | apply Kd.R_drew)); exact HO_234.out) hb); have n2_ := Aside0.mk (below_step (by repeat (first | (with_reducible first | exact HB.out | apply below_alloc | apply pw_below_drewN | apply below_drew1))) hb); clear HO_9; clear HO_234; clear HB; have HO_9 := n0_; have HO_234 := n1_; have HB := n2_; clear n0_ n1_ n2_; (try clear hb)))
                    repeat (go_quiet (first | (go_at_call 69; (with_reducible refine (impl_TotientOf.calls kj101 (rd t242 x236_3) t278 true _ A113.out).mono ?_); rintro e w117 ⟨rfl, hb⟩; have n0_ := Aside0.mk (Kd.R_below (by (with_reducible repeat (first | apply Kd.R_alloc | apply Kd.R_drewN | apply Kd.R_drew)); exact HO_9.out) hb); have n1_ := Aside0.mk (Kd.R_below (by (with_reducible repeat (first | apply Kd.R_alloc | apply Kd.R_drewN | apply Kd.R_drew)); exact HO_234.out) hb); have n2_ := Aside0.mk (below_step (by repeat (first | (with_reducible first | exact HB.out | apply below_alloc | apply pw_below_drewN | apply below_drew1))) hb); clear HO_9; clear HO_234; clear HB; have HO_9 := n0_; have HO_234 := n1_; have HB := n2_; clear n0_ n1_ n2_; (try clear hb)) | (go_at_call 71; (with_reducible refine (impl_MoebiusOf.calls kj101 (rd t242 x236_3) t280 true _ A114.out).mono ?_); rintro e w118 ⟨rfl, hb⟩; have n0_ := Aside0.mk (Kd.R_below (by (with_reducible repeat (first | apply Kd.R_alloc | apply Kd.R_drewN | apply Kd.R_drew)); exact HO_9.out) hb); have n1_ := Aside0.mk (Kd.R_below (by (with_reducible repeat (first | apply Kd.R_alloc | apply Kd.R_drewN | apply Kd.R_drew)); exact HO_234.out) hb); have n2_ := Aside0.mk (below_step (by repeat (first | (with_reducible first | exact HB.out | apply below_alloc | apply pw_below_drewN | apply below_drew1))) hb); clear HO_9; clear HO_234; clear HB; have HO_9 := n0_; have HO_234 := n1_; have HB := n2_; clear n0_ n1_ n2_; (try clear hb))); try go_wp2_with (first | (go_at_call 69; (with_reducible refine (impl_TotientOf.calls kj101 (rd t242 x236_3) t278 true _ A113.out).mono ?_); rintro e w117 ⟨rfl, hb⟩; have n0_ := Aside0.mk (Kd.R_below (by (with_reducible repeat (first | apply Kd.R_alloc | apply Kd.R_drewN | apply Kd.R_drew)); exact HO_9.out) hb); have n1_ := Aside0.mk (Kd.R_below (by (with_reducible repeat (first | apply Kd.R_alloc | apply Kd.R_drewN | apply Kd.R_drew)); exact HO_234.out) hb); have n2_ := Aside0.mk (below_step (by repeat (first | (with_reducible first | exact HB.out | apply below_alloc | apply pw_below_drewN | apply below_drew1))) hb); clear HO_9; clear HO_234; clear HB; have HO_9 := n0_; have HO_234 := n1_; have HB := n2_; clear n0_ n1_ n2_; (try clear hb)) | (go_at_call 71; (with_reducible refine (impl_MoebiusOf.calls kj101 (rd t242 x236_3) t280 true _ A114.out).mono ?_); rintro e w118 ⟨rfl, hb⟩; have n0_ := Aside0.mk (Kd.R_below (by (with_reducible repeat (first | apply Kd.R_alloc | apply Kd.R_drewN | apply Kd.R_drew)); exact HO_9.out) hb); have n1_ := Aside0.mk (Kd.R_below (by (with_reducible repeat (first | apply Kd.R_alloc | apply Kd.R_drewN | apply Kd.R_drew)); exact HO_234.out) hb); have n2_ := Aside0.mk (below_step (by repeat (first | (with_reducible first | exact HB.out | apply below_alloc | apply pw_below_drewN | apply below_drew1))) hb); clear HO_9; clear HO_234; clear HB; have HO_9 := n0_; have HO_234 := n1_; have HB := n2_; clear n0_ n1_ n2_; (try clear hb))))
                    go_roundg kj101
                    case measure => have := HJ16.out; have := HJ81.out; have := HK3.out; have := HJ101.out; omega
                    case rel => exact ⟨(wrap64 (x33_3 + t278)), (wrap64 (x34_3 + t280)), (wrap64 (x236_3 + 1)), (by first | rfl | (simp; done) | (simp [*]; done)), (by first | rfl | (simp; done) | (simp [*]; done)), (by first | rfl | (simp; done) | (simp [*]; done)), H', ⟨by have := HJ16.out; have := HJ81.out; have := HK3.out; have := HJ101.out; omega⟩, ⟨by (with_reducible repeat (first | apply Kd.R_alloc | apply Kd.R_drewN | apply Kd.R_drew)); exact HO_9.out⟩, ⟨by (with_reducible repeat (first | apply Kd.R_alloc | apply Kd.R_drewN | apply Kd.R_drew)); exact HO_234.out⟩, ⟨by repeat (first | (with_reducible first | exact HB.out | apply below_alloc | apply pw_below_drewN | apply below_drew1))⟩⟩
                   ·
                    replace c116 := Bool.eq_false_iff.mpr c116
                    subst c116
                    have H1 : (some false) = some r := by rw [if_neg (show ¬ (false = true) by decide)] at H; exact H
                    clear H
                    have H := H1
                    clear H1
                    first
                    | exact absurd (Option.some.inj (H.trans (congrArg some HRT.out))) Bool.false_ne_true
                    |
                     obtain rfl := Option.some.inj H
                     go_wp2_with (first | (go_at_call 69; (with_reducible refine (impl_TotientOf.calls kj101 (rd t242 x236_3) t278 true _ A113.out).mono ?_); rintro e w119 ⟨rfl, hb⟩; have n0_ := Aside0.mk (Kd.R_below (by (with_reducible repeat (first | apply Kd.R_alloc | apply Kd.R_drewN | apply Kd.R_drew)); exact HO_9.out) hb); have n1_ := Aside0.mk (Kd.R_below (by (with_reducible repeat (first | apply Kd.R_alloc | apply Kd.R_drewN | apply Kd.R_drew)); exact HO_234.out) hb); have n2_ := Aside0.mk (below_step (by repeat (first | (with_reducible first | exact HB.out | apply below_alloc | apply pw_below_drewN | apply below_drew1))) hb); clear HO_9; clear HO_234; clear HB; have HO_9 := n0_; have HO_234 := n1_; have HB := n2_; clear n0_ n1_ n2_; (try clear hb)) | (go_at_call 71; (with_reducible refine (impl_MoebiusOf.calls kj101 (rd t242 x236_3) t280 false _ A114.out).mono ?_); rintro e w120 ⟨rfl, hb⟩; have n0_ := Aside0.mk (Kd.R_below (by (with_reducible repeat (first | apply Kd.R_alloc | apply Kd.R_drewN | apply Kd.R_drew)); exact HO_9.out) hb); have n1_ := Aside0.mk (Kd.R_below (by (with_reducible repeat (first | apply Kd.R_alloc | apply Kd.R_drewN | apply Kd.R_drew)); exact HO_234.out) hb); have n2_ := Aside0.mk (below_step (by repeat (first | (with_reducible first | exact HB.out | apply below_alloc | apply pw_below_drewN | apply below_drew1))) hb); clear HO_9; clear HO_234; clear HB; have HO_9 := n0_; have HO_234 := n1_; have HB := n2_; clear n0_ n1_ n2_; (try clear hb)))
                     repeat (go_quiet (first | (go_at_call 69; (with_reducible refine (impl_TotientOf.calls kj101 (rd t242 x236_3) t278 true _ A113.out).mono ?_); rintro e w119 ⟨rfl, hb⟩; have n0_ := Aside0.mk (Kd.R_below (by (with_reducible repeat (first | apply Kd.R_alloc | apply Kd.R_drewN | apply Kd.R_drew)); exact HO_9.out) hb); have n1_ := Aside0.mk (Kd.R_below (by (with_reducible repeat (first | apply Kd.R_alloc | apply Kd.R_drewN | apply Kd.R_drew)); exact HO_234.out) hb); have n2_ := Aside0.mk (below_step (by repeat (first | (with_reducible first | exact HB.out | apply below_alloc | apply pw_below_drewN | apply below_drew1))) hb); clear HO_9; clear HO_234; clear HB; have HO_9 := n0_; have HO_234 := n1_; have HB := n2_; clear n0_ n1_ n2_; (try clear hb)) | (go_at_call 71; (with_reducible refine (impl_MoebiusOf.calls kj101 (rd t242 x236_3) t280 false _ A114.out).mono ?_); rintro e w120 ⟨rfl, hb⟩; have n0_ := Aside0.mk (Kd.R_below (by (with_reducible repeat (first | apply Kd.R_alloc | apply Kd.R_drewN | apply Kd.R_drew)); exact HO_9.out) hb); have n1_ := Aside0.mk (Kd.R_below (by (with_reducible repeat (first | apply Kd.R_alloc | apply Kd.R_drewN | apply Kd.R_drew)); exact HO_234.out) hb); have n2_ := Aside0.mk (below_step (by repeat (first | (with_reducible first | exact HB.out | apply below_alloc | apply pw_below_drewN | apply below_drew1))) hb); clear HO_9; clear HO_234; clear HB; have HO_9 := n0_; have HO_234 := n1_; have HB := n2_; clear n0_ n1_ n2_; (try clear hb))); try go_wp2_with (first | (go_at_call 69; (with_reducible refine (impl_TotientOf.calls kj101 (rd t242 x236_3) t278 true _ A113.out).mono ?_); rintro e w119 ⟨rfl, hb⟩; have n0_ := Aside0.mk (Kd.R_below (by (with_reducible repeat (first | apply Kd.R_alloc | apply Kd.R_drewN | apply Kd.R_drew)); exact HO_9.out) hb); have n1_ := Aside0.mk (Kd.R_below (by (with_reducible repeat (first | apply Kd.R_alloc | apply Kd.R_drewN | apply Kd.R_drew)); exact HO_234.out) hb); have n2_ := Aside0.mk (below_step (by repeat (first | (with_reducible first | exact HB.out | apply below_alloc | apply pw_below_drewN | apply below_drew1))) hb); clear HO_9; clear HO_234; clear HB; have HO_9 := n0_; have HO_234 := n1_; have HB := n2_; clear n0_ n1_ n2_; (try clear hb)) | (go_at_call 71; (with_reducible refine (impl_MoebiusOf.calls kj101 (rd t242 x236_3) t280 false _ A114.out).mono ?_); rintro e w120 ⟨rfl, hb⟩; have n0_ := Aside0.mk (Kd.R_below (by (with_reducible repeat (first | apply Kd.R_alloc | apply Kd.R_drewN | apply Kd.R_drew)); exact HO_9.out) hb); have n1_ := Aside0.mk (Kd.R_below (by (with_reducible repeat (first | apply Kd.R_alloc | apply Kd.R_drewN | apply Kd.R_drew)); exact HO_234.out) hb); have n2_ := Aside0.mk (below_step (by repeat (first | (with_reducible first | exact HB.out | apply below_alloc | apply pw_below_drewN | apply below_drew1))) hb); clear HO_9; clear HO_234; clear HB; have HO_9 := n0_; have HO_234 := n1_; have HB := n2_; clear n0_ n1_ n2_; (try clear hb))))
                     go_ret
                     exact ⟨by first | rfl | (simp [errW_none, errW_some] <;> rfl) | (simp [*, errW_none, errW_some] <;> rfl), by repeat (first | (with_reducible first | exact HB.out | apply below_alloc | apply pw_below_drewN | apply below_drew1))⟩
                  ·
                   replace c115 := Bool.eq_false_iff.mpr c115
                   subst c115
                   have H1 : (some false) = some r := by rw [if_neg (show ¬ (false = true) by decide)] at H; exact H
                   clear H
                   have H := H1
                   clear H1
                   first
                   | exact absurd (Option.some.inj (H.trans (congrArg some HRT.out))) Bool.false_ne_true
                   |
                    obtain rfl := Option.some.inj H
                    go_wp2_with (first | (go_at_call 69; (with_reducible refine (impl_TotientOf.calls kj101 (rd t242 x236_3) t278 false _ A113.out).mono ?_); rintro e w121 ⟨rfl, hb⟩; have n0_ := Aside0.mk (Kd.R_below (by (with_reducible repeat (first | apply Kd.R_alloc | apply Kd.R_drewN | apply Kd.R_drew)); exact HO_9.out) hb); have n1_ := Aside0.mk (Kd.R_below (by (with_reducible repeat (first | apply Kd.R_alloc | apply Kd.R_drewN | apply Kd.R_drew)); exact HO_234.out) hb); have n2_ := Aside0.mk (below_step (by repeat (first | (with_reducible first | exact HB.out | apply below_alloc | apply pw_below_drewN | apply below_drew1))) hb); clear HO_9; clear HO_234; clear HB; have HO_9 := n0_; have HO_234 := n1_; have HB := n2_; clear n0_ n1_ n2_; (try clear hb)) | (go_at_call 71; (with_reducible refine (impl_MoebiusOf.calls kj101 (rd t242 x236_3) t280 t281 _ A114.out).mono ?_); rintro e w122 ⟨rfl, hb⟩; have n0_ := Aside0.mk (Kd.R_below (by (with_reducible repeat (first | apply Kd.R_alloc | apply Kd.R_drewN | apply Kd.R_drew)); exact HO_9.out) hb); have n1_ := Aside0.mk (Kd.R_below (by (with_reducible repeat (first | apply Kd.R_alloc | apply Kd.R_drewN | apply Kd.R_drew)); exact HO_234.out) hb); have n2_ := Aside0.mk (below_step (by repeat (first | (with_reducible first | exact HB.out | apply below_alloc | apply pw_below_drewN | apply below_drew1))) hb); clear HO_9; clear HO_234; clear HB; have HO_9 := n0_; have HO_234 := n1_; have HB := n2_; clear n0_ n1_ n2_; (try clear hb)))
                    repeat (go_quiet (first | (go_at_call 69; (with_reducible refine (impl_TotientOf.calls kj101 (rd t242 x236_3) t278 false _ A113.out).mono ?_); rintro e w121 ⟨rfl, hb⟩; have n0_ := Aside0.mk (Kd.R_below (by (with_reducible repeat (first | apply Kd.R_alloc | apply Kd.R_drewN | apply Kd.R_drew)); exact HO_9.out) hb); have n1_ := Aside0.mk (Kd.R_below (by (with_reducible repeat (first | apply Kd.R_alloc | apply Kd.R_drewN | apply Kd.R_drew)); exact HO_234.out) hb); have n2_ := Aside0.mk (below_step (by repeat (first | (with_reducible first | exact HB.out | apply below_alloc | apply pw_below_drewN | apply below_drew1))) hb); clear HO_9; clear HO_234; clear HB; have HO_9 := n0_; have HO_234 := n1_; have HB := n2_; clear n0_ n1_ n2_; (try clear hb)) | (go_at_call 71; (with_reducible refine (impl_MoebiusOf.calls kj101 (rd t242 x236_3) t280 t281 _ A114.out).mono ?_); rintro e w122 ⟨rfl, hb⟩; have n0_ := Aside0.mk (Kd.R_below (by (with_reducible repeat (first | apply Kd.R_alloc | apply Kd.R_drewN | apply Kd.R_drew)); exact HO_9.out) hb); have n1_ := Aside0.mk (Kd.R_below (by (with_reducible repeat (first | apply Kd.R_alloc | apply Kd.R_drewN | apply Kd.R_drew)); exact HO_234.out) hb); have n2_ := Aside0.mk (below_step (by repeat (first | (with_reducible first | exact HB.out | apply below_alloc | apply pw_below_drewN | apply below_drew1))) hb); clear HO_9; clear HO_234; clear HB; have HO_9 := n0_; have HO_234 := n1_; have HB := n2_; clear n0_ n1_ n2_; (try clear hb))); try go_wp2_with (first | (go_at_call 69; (with_reducible refine (impl_TotientOf.calls kj101 (rd t242 x236_3) t278 false _ A113.out).mono ?_); rintro e w121 ⟨rfl, hb⟩; have n0_ := Aside0.mk (Kd.R_below (by (with_reducible repeat (first | apply Kd.R_alloc | apply Kd.R_drewN | apply Kd.R_drew)); exact HO_9.out) hb); have n1_ := Aside0.mk (Kd.R_below (by (with_reducible repeat (first | apply Kd.R_alloc | apply Kd.R_drewN | apply Kd.R_drew)); exact HO_234.out) hb); have n2_ := Aside0.mk (below_step (by repeat (first | (with_reducible first | exact HB.out | apply below_alloc | apply pw_below_drewN | apply below_drew1))) hb); clear HO_9; clear HO_234; clear HB; have HO_9 := n0_; have HO_234 := n1_; have HB := n2_; clear n0_ n1_ n2_; (try clear hb)) | (go_at_call 71; (with_reducible refine (impl_MoebiusOf.calls kj101 (rd t242 x236_3) t280 t281 _ A114.out).mono ?_); rintro e w122 ⟨rfl, hb⟩; have n0_ := Aside0.mk (Kd.R_below (by (with_reducible repeat (first | apply Kd.R_alloc | apply Kd.R_drewN | apply Kd.R_drew)); exact HO_9.out) hb); have n1_ := Aside0.mk (Kd.R_below (by (with_reducible repeat (first | apply Kd.R_alloc | apply Kd.R_drewN | apply Kd.R_drew)); exact HO_234.out) hb); have n2_ := Aside0.mk (below_step (by repeat (first | (with_reducible first | exact HB.out | apply below_alloc | apply pw_below_drewN | apply below_drew1))) hb); clear HO_9; clear HO_234; clear HB; have HO_9 := n0_; have HO_234 := n1_; have HB := n2_; clear n0_ n1_ n2_; (try clear hb))))
                    go_ret
                    exact ⟨by first | rfl | (simp [errW_none, errW_some] <;> rfl) | (simp [*, errW_none, errW_some] <;> rfl), by repeat (first | (with_reducible first | exact HB.out | apply below_alloc | apply pw_below_drewN | apply below_drew1))⟩
              ·
               rw [if_neg c101] at H
               exact absurd H (by simp)
             ·
              rw [if_neg c100] at H
              exact absurd H (by simp)
            ·
             rw [if_neg c99] at H
             have c99b0 : decide (x236_3 < (t242.length : Int)) = false := decide_eq_false c99
             clear c99
             have HC123 := Aside0.mk H
             clear H
             go_upto_region 31 with (fail)
             repeat (go_quiet (fail); go_upto_region 31 with (fail))
             refine cutF mk0 [] (fun u_ wc => ∃ (kq : Nat) (x309_122 : Bool), (u_ 309) = .bool x309_122 ∧ Aside0 (laws_FnDivisorsToldOfAll.j4 kq a0 a1 a2 a3 t258 x309_122 = some r) ∧ Aside0 (kq ≤ k3) ∧ Aside0 (Below w.heap.size w wc)) ?_ ?_
             ·
              as_aux_lemma =>
               intro J_ K_ hJ_ hK_
               have H := HC123.out
               clear HC123
               by_cases c124 : x33_3 = a0
               ·
                rw [if_pos c124] at H
                have c124b0 : (x33_3 == a0) = true := beq_iff_eq.mpr c124
                have c124b1 : (x33_3 != a0) = false := bne_eq_false_iff_eq.mpr c124
                clear c124
                (first | rw [c124b0] | (simp only [i64_w, i32_w]; rw [c124b0]) | skip)
                by_cases c125 : a0 > 1
                ·
                 rw [if_pos c125] at H
                 have c125b0 : decide (1 < a0) = true := decide_eq_true c125
                 clear c125
                 by_cases c126 : x34_3 = 0
                 ·
                  rw [if_pos c126] at H
                  have c126b0 : (x34_3 == 0) = true := beq_iff_eq.mpr c126
                  have c126b1 : (x34_3 != 0) = false := bne_eq_false_iff_eq.mpr c126
                  clear c126
                  by_cases c127 : a0 = 1
                  ·
                   rw [if_pos c127] at H
                   have c127b0 : (a0 == 1) = true := beq_iff_eq.mpr c127
                   have c127b1 : (a0 != 1) = false := bne_eq_false_iff_eq.mpr c127
                   clear c127
                   have H' := Aside0.mk H
                   clear H
                   go_wp2
                   repeat (go_quiet (fail); try go_wp2)
                   refine cutMeet hJ_ ?_ (by kernel_rfl)
                   exact ⟨_, ((x34_3 != 1)), (by first | rfl | (simp; done) | (simp [*]; done)), H', ⟨by have := HJ16.out; have := HJ81.out; have := HK3.out; first | omega | exact Nat.le_refl _⟩, ⟨by repeat (first | (with_reducible first | exact HB.out | apply below_alloc | apply pw_below_drewN | apply below_drew1))⟩⟩
                  ·
                   rw [if_neg c127] at H
                   have c127b0 : (a0 == 1) = false := beq_eq_false_iff_ne.mpr c127
                   have c127b1 : (a0 != 1) = true := bne_iff_ne.mpr c127
                   have H' := Aside0.mk H
                   clear H
                   go_wp2
                   repeat (go_quiet (fail); try go_wp2)
                   refine cutMeet hJ_ ?_ (by kernel_rfl)
                   exact ⟨_, (false), (by first | rfl | (simp; done) | (simp [*]; done)), H', ⟨by have := HJ16.out; have := HJ81.out; have := HK3.out; first | omega | exact Nat.le_refl _⟩, ⟨by repeat (first | (with_reducible first | exact HB.out | apply below_alloc | apply pw_below_drewN | apply below_drew1))⟩⟩
                 ·
                  rw [if_neg c126] at H
                  exact (laws_FnDivisorsToldOfAll.j4_no _ _ _ _ _ _ (H.trans (congrArg some HRT.out))).elim
                ·
                 rw [if_neg c125] at H
                 have c125b0 : decide (1 < a0) = false := decide_eq_false c125
                 clear c125
                 by_cases c128 : a0 = 1
                 ·
                  rw [if_pos c128] at H
                  have c128b0 : (a0 == 1) = true := beq_iff_eq.mpr c128
                  have c128b1 : (a0 != 1) = false := bne_eq_false_iff_eq.mpr c128
                  clear c128
                  have H' := Aside0.mk H
                  clear H
                  go_wp2
                  repeat (go_quiet (fail); try go_wp2)
                  refine cutMeet hJ_ ?_ (by kernel_rfl)
                  exact ⟨_, ((x34_3 != 1)), (by first | rfl | (simp; done) | (simp [*]; done)), H', ⟨by have := HJ16.out; have := HJ81.out; have := HK3.out; first | omega | exact Nat.le_refl _⟩, ⟨by repeat (first | (with_reducible first | exact HB.out | apply below_alloc | apply pw_below_drewN | apply below_drew1))⟩⟩
                 ·
                  rw [if_neg c128] at H
                  have c128b0 : (a0 == 1) = false := beq_eq_false_iff_ne.mpr c128
                  have c128b1 : (a0 != 1) = true := bne_iff_ne.mpr c128
                  have H' := Aside0.mk H
                  clear H
                  go_wp2
                  repeat (go_quiet (fail); try go_wp2)
                  refine cutMeet hJ_ ?_ (by kernel_rfl)
                  exact ⟨_, (false), (by first | rfl | (simp; done) | (simp [*]; done)), H', ⟨by have := HJ16.out; have := HJ81.out; have := HK3.out; first | omega | exact Nat.le_refl _⟩, ⟨by repeat (first | (with_reducible first | exact HB.out | apply below_alloc | apply pw_below_drewN | apply below_drew1))⟩⟩
               ·
                rw [if_neg c124] at H
                exact (laws_FnDivisorsToldOfAll.j4_no _ _ _ _ _ _ (H.trans (congrArg some HRT.out))).elim
             ·
              intro u_ wc hcut
              clear HC123
              obtain ⟨kq, x309_122, e_309, HA, HJ122, HB⟩ := hcut
              dsimp only [cutFgt, mk0]
              rw [e_309]
              cases kq with
              | zero => exact absurd HA.out (by simp [laws_FnDivisorsToldOfAll.j4])
              | succ kj122 =>
               have H := HA.out
               clear HA
               simp only [laws_FnDivisorsToldOfAll.j4] at H
               by_cases c129 : x309_122 = true
               ·
                subst c129
                have H1 : (some false) = some r := by rw [if_pos rfl] at H; exact H
                clear H
                have H := H1
                clear H1
                first
                | exact absurd (Option.some.inj (H.trans (congrArg some HRT.out))) Bool.false_ne_true
                |
                 obtain rfl := Option.some.inj H
                 go_wp2
                 repeat (go_quiet (fail); try go_wp2)
                 go_ret
                 exact ⟨by first | rfl | (simp [errW_none, errW_some] <;> rfl) | (simp [*, errW_none, errW_some] <;> rfl), by repeat (first | (with_reducible first | exact HB.out | apply below_alloc | apply pw_below_drewN | apply below_drew1))⟩
               ·
                replace c129 := Bool.eq_false_iff.mpr c129
                subst c129
                have H1 : (if a0 ≤ 600 then (laws_FnDivisorsToldOfAll.l1 kj122 a0 a1 a2 a3 t258 0 1) else (laws_FnDivisorsToldOfAll.j6 kj122 a1 a2 a3)) = some r := by rw [if_neg (show ¬ (false = true) by decide)] at H; exact H
                clear H
                have H := H1
                clear H1
                by_cases c130 : a0 ≤ 600
                ·
                 rw [if_pos c130] at H
                 have c130b0 : decide (a0 ≤ 600) = true := decide_eq_true c130
                 clear c130
                 have H' := Aside0.mk H
                 clear H
                 go_wp2
                 repeat (go_quiet (fail); try go_wp2)
                 go_loopg [41, 42] kj122 (fun kq v41 v42 w' => ∃ (x41_5 : Int) (x42_5 : Int), v41 = .int .i64 x41_5 ∧ v42 = .int .i64 x42_5 ∧ Aside0 (laws_FnDivisorsToldOfAll.l1 kq a0 a1 a2 a3 t258 x41_5 x42_5 = some r) ∧ Aside0 (kq ≤ kj122) ∧ Aside0 (Below w.heap.size w w'))
                 case atStart => exact ⟨(0), (1), (by first | rfl | (simp; done) | (simp [*]; done)), (by first | rfl | (simp; done) | (simp [*]; done)), H', ⟨Nat.le_refl _⟩, ⟨by repeat (first | (with_reducible first | exact HB.out | apply below_alloc | apply pw_below_drewN | apply below_drew1))⟩⟩
                 case round =>
                  clear H'
                  obtain ⟨x41_5, x42_5, rfl, rfl, HA, HK5, HB⟩ := hrel
                  cases gk with
                  | zero => exact absurd HA.out (by simp [laws_FnDivisorsToldOfAll.l1])
                  | succ k5 =>
                   have H := HA.out
                   clear HA
                   simp only [laws_FnDivisorsToldOfAll.l1] at H
                   by_cases c131 : x42_5 ≤ a0
                   ·
                    rw [if_pos c131] at H
                    have c131b0 : decide (x42_5 ≤ a0) = true := decide_eq_true c131
                    clear c131
                    replace H := Option.bind_eq_some_iff.mp H
                    obtain ⟨t282, A1320, H⟩ := H
                    replace H : (if t282 = 1 then (laws_FnDivisorsToldOfAll.l1 k5 a0 a1 a2 a3 t258 (wrap64 (x41_5 + 1)) (wrap64 (x42_5 + 1))) else (laws_FnDivisorsToldOfAll.l1 k5 a0 a1 a2 a3 t258 x41_5 (wrap64 (x42_5 + 1)))) = some r := H
                    have A132 := Aside0.mk A1320
                    clear A1320
                    by_cases c133 : t282 = 1
                    ·
                     rw [if_pos c133] at H
                     have c133b0 : (t282 == 1) = true := beq_iff_eq.mpr c133
                     have c133b1 : (t282 != 1) = false := bne_eq_false_iff_eq.mpr c133
                     clear c133
                     have H' := Aside0.mk H
                     clear H
                     go_wp2_with (first | (go_at_call 77; (with_reducible refine (laws_gCommon.calls k5 a0 x42_5 t282 _ A132.out).mono ?_); rintro e w' ⟨rfl, ⟨nd, rfl⟩⟩; (try first | exact ⟨rfl, _, World.drewN_drewN _ _ _⟩ | exact ⟨rfl, _, Eq.trans (World.drewN_drewN _ _ _) (congrArg (World.drewN _) (Nat.add_assoc _ _ _))⟩)))
                     repeat (go_quiet (first | (go_at_call 77; (with_reducible refine (laws_gCommon.calls k5 a0 x42_5 t282 _ A132.out).mono ?_); rintro e w' ⟨rfl, ⟨nd, rfl⟩⟩; (try first | exact ⟨rfl, _, World.drewN_drewN _ _ _⟩ | exact ⟨rfl, _, Eq.trans (World.drewN_drewN _ _ _) (congrArg (World.drewN _) (Nat.add_assoc _ _ _))⟩))); try go_wp2_with (first | (go_at_call 77; (with_reducible refine (laws_gCommon.calls k5 a0 x42_5 t282 _ A132.out).mono ?_); rintro e w' ⟨rfl, ⟨nd, rfl⟩⟩; (try first | exact ⟨rfl, _, World.drewN_drewN _ _ _⟩ | exact ⟨rfl, _, Eq.trans (World.drewN_drewN _ _ _) (congrArg (World.drewN _) (Nat.add_assoc _ _ _))⟩))))
                     go_roundg k5
                     case measure => have := HJ16.out; have := HJ81.out; have := HK3.out; have := HJ122.out; have := HK5.out; omega
                     case rel => exact ⟨(wrap64 (x41_5 + 1)), (wrap64 (x42_5 + 1)), (by first | rfl | (simp; done) | (simp [*]; done)), (by first | rfl | (simp; done) | (simp [*]; done)), H', ⟨by have := HJ16.out; have := HJ81.out; have := HK3.out; have := HJ122.out; have := HK5.out; omega⟩, ⟨by repeat (first | (with_reducible first | exact HB.out | apply below_alloc | apply pw_below_drewN | apply below_drew1))⟩⟩
                    ·
                     rw [if_neg c133] at H
                     have c133b0 : (t282 == 1) = false := beq_eq_false_iff_ne.mpr c133
                     have c133b1 : (t282 != 1) = true := bne_iff_ne.mpr c133
                     have H' := Aside0.mk H
                     clear H
                     go_wp2_with (first | (go_at_call 77; (with_reducible refine (laws_gCommon.calls k5 a0 x42_5 t282 _ A132.out).mono ?_); rintro e w' ⟨rfl, ⟨nd, rfl⟩⟩; (try first | exact ⟨rfl, _, World.drewN_drewN _ _ _⟩ | exact ⟨rfl, _, Eq.trans (World.drewN_drewN _ _ _) (congrArg (World.drewN _) (Nat.add_assoc _ _ _))⟩)))
                     repeat (go_quiet (first | (go_at_call 77; (with_reducible refine (laws_gCommon.calls k5 a0 x42_5 t282 _ A132.out).mono ?_); rintro e w' ⟨rfl, ⟨nd, rfl⟩⟩; (try first | exact ⟨rfl, _, World.drewN_drewN _ _ _⟩ | exact ⟨rfl, _, Eq.trans (World.drewN_drewN _ _ _) (congrArg (World.drewN _) (Nat.add_assoc _ _ _))⟩))); try go_wp2_with (first | (go_at_call 77; (with_reducible refine (laws_gCommon.calls k5 a0 x42_5 t282 _ A132.out).mono ?_); rintro e w' ⟨rfl, ⟨nd, rfl⟩⟩; (try first | exact ⟨rfl, _, World.drewN_drewN _ _ _⟩ | exact ⟨rfl, _, Eq.trans (World.drewN_drewN _ _ _) (congrArg (World.drewN _) (Nat.add_assoc _ _ _))⟩))))
                     go_roundg k5
                     case measure => have := HJ16.out; have := HJ81.out; have := HK3.out; have := HJ122.out; have := HK5.out; omega
                     case rel => exact ⟨(x41_5), (wrap64 (x42_5 + 1)), (by first | rfl | (simp; done) | (simp [*]; done)), (by first | rfl | (simp; done) | (simp [*]; done)), H', ⟨by have := HJ16.out; have := HJ81.out; have := HK3.out; have := HJ122.out; have := HK5.out; omega⟩, ⟨by repeat (first | (with_reducible first | exact HB.out | apply below_alloc | apply pw_below_drewN | apply below_drew1))⟩⟩
                   ·
                    rw [if_neg c131] at H
                    have c131b0 : decide (x42_5 ≤ a0) = false := decide_eq_false c131
                    clear c131
                    by_cases c134 : x41_5 = t258
                    ·
                     rw [if_pos c134] at H
                     have c134b0 : (x41_5 == t258) = true := beq_iff_eq.mpr c134
                     have c134b1 : (x41_5 != t258) = false := bne_eq_false_iff_eq.mpr c134
                     clear c134
                     have H' := Aside0.mk H
                     clear H
                     go_wp2
                     repeat (go_quiet (fail); try go_wp2)
                     refine cutMeet hJ_ ?_ (by kernel_rfl)
                     exact ⟨_, H', ⟨by have := HJ16.out; have := HJ81.out; have := HK3.out; have := HJ122.out; have := HK5.out; first | omega | exact Nat.le_refl _⟩, ⟨by repeat (first | (with_reducible first | exact HB.out | apply below_alloc | apply pw_below_drewN | apply below_drew1))⟩⟩
                    ·
                     rw [if_neg c134] at H
                     have c134b0 : (x41_5 == t258) = false := beq_eq_false_iff_ne.mpr c134
                     have c134b1 : (x41_5 != t258) = true := bne_iff_ne.mpr c134
                     first
                     | exact absurd (Option.some.inj (H.trans (congrArg some HRT.out))) Bool.false_ne_true
                     |
                      obtain rfl := Option.some.inj H
                      go_wp2
                      repeat (go_quiet (fail); try go_wp2)
                      go_ret
                      exact ⟨by first | rfl | (simp [errW_none, errW_some] <;> rfl) | (simp [*, errW_none, errW_some] <;> rfl), by repeat (first | (with_reducible first | exact HB.out | apply below_alloc | apply pw_below_drewN | apply below_drew1))⟩
                ·
                 rw [if_neg c130] at H
                 have c130b0 : decide (a0 ≤ 600) = false := decide_eq_false c130
                 clear c130
                 have H' := Aside0.mk H
                 clear H
                 go_wp2
                 repeat (go_quiet (fail); try go_wp2)
                 refine cutMeet hJ_ ?_ (by kernel_rfl)
                 exact ⟨_, H', ⟨by have := HJ16.out; have := HJ81.out; have := HK3.out; have := HJ122.out; first | omega | exact Nat.le_refl _⟩, ⟨by repeat (first | (with_reducible first | exact HB.out | apply below_alloc | apply pw_below_drewN | apply below_drew1))⟩⟩
      ·
       replace c81 := Bool.eq_false_iff.mpr c81
       subst c81
       have H1 : (laws_FnDivisorsToldOfAll.j6 kj16 a1 a2 a3) = some r := by rw [if_neg (show ¬ (false = true) by decide)] at H; exact H
       clear H
       have H := H1
       clear H1
       have H' := Aside0.mk H
       clear H
       go_wp2
       repeat (go_quiet (fail); try go_wp2)
       refine cutMeet hJ_ ?_ (by kernel_rfl)
       exact ⟨_, H', ⟨by have := HJ16.out; first | omega | exact Nat.le_refl _⟩, ⟨by repeat (first | (with_reducible first | exact HB.out | apply below_alloc | apply pw_below_drewN | apply below_drew1))⟩⟩
    ·
     intro u_ wc hcut
     clear HC80
     obtain ⟨kq, HA, HJ79, HB⟩ := hcut
     dsimp only [cutFgt, mk0]
     cases kq with
     | zero => exact absurd HA.out (by simp [laws_FnDivisorsToldOfAll.j6])
     | succ kj79 =>
      have H := HA.out
      clear HA
      simp only [laws_FnDivisorsToldOfAll.j6] at H
      replace H := Option.bind_eq_some_iff.mp H
      obtain ⟨⟨t283, t284⟩, A1350, H⟩ := H
      replace H : ((spec_SumWay.f kj79 a1 a2).bind fun bt287 => ((impl_AmicableOf.f kj79 a3).bind fun bt291 => ((spec_AmicableOf.f kj79 a3).bind fun bt293 => (if (t284 != bt287.2) = true then (laws_FnDivisorsToldOfAll.j7 kj79 a1 a2 a3 t283 t284 bt291.1 bt291.2 true) else ((laws_gSame.f kj79 t283 bt287.1).bind fun t295 => (if t295 = true then (if (bt291.2 != bt293.2) = true then (laws_FnDivisorsToldOfAll.j7 kj79 a1 a2 a3 t283 t284 bt291.1 bt291.2 true) else (laws_FnDivisorsToldOfAll.j7 kj79 a1 a2 a3 t283 t284 bt291.1 bt291.2 (bt291.1 != bt293.1))) else (laws_FnDivisorsToldOfAll.j7 kj79 a1 a2 a3 t283 t284 bt291.1 bt291.2 true))))))) = some r := H
      have A135 := Aside0.mk A1350
      clear A1350
      replace H := Option.bind_eq_some_iff.mp H
      obtain ⟨⟨t287, t288⟩, A1360, H⟩ := H
      replace H : ((impl_AmicableOf.f kj79 a3).bind fun bt291 => ((spec_AmicableOf.f kj79 a3).bind fun bt293 => (if (t284 != t288) = true then (laws_FnDivisorsToldOfAll.j7 kj79 a1 a2 a3 t283 t284 bt291.1 bt291.2 true) else ((laws_gSame.f kj79 t283 t287).bind fun t295 => (if t295 = true then (if (bt291.2 != bt293.2) = true then (laws_FnDivisorsToldOfAll.j7 kj79 a1 a2 a3 t283 t284 bt291.1 bt291.2 true) else (laws_FnDivisorsToldOfAll.j7 kj79 a1 a2 a3 t283 t284 bt291.1 bt291.2 (bt291.1 != bt293.1))) else (laws_FnDivisorsToldOfAll.j7 kj79 a1 a2 a3 t283 t284 bt291.1 bt291.2 true)))))) = some r := H
      have A136 := Aside0.mk A1360
      clear A1360
      replace H := Option.bind_eq_some_iff.mp H
      obtain ⟨⟨t291, t292⟩, A1370, H⟩ := H
      replace H : ((spec_AmicableOf.f kj79 a3).bind fun bt293 => (if (t284 != t288) = true then (laws_FnDivisorsToldOfAll.j7 kj79 a1 a2 a3 t283 t284 t291 t292 true) else ((laws_gSame.f kj79 t283 t287).bind fun t295 => (if t295 = true then (if (t292 != bt293.2) = true then (laws_FnDivisorsToldOfAll.j7 kj79 a1 a2 a3 t283 t284 t291 t292 true) else (laws_FnDivisorsToldOfAll.j7 kj79 a1 a2 a3 t283 t284 t291 t292 (t291 != bt293.1))) else (laws_FnDivisorsToldOfAll.j7 kj79 a1 a2 a3 t283 t284 t291 t292 true))))) = some r := H
      have A137 := Aside0.mk A1370
      clear A1370
      replace H := Option.bind_eq_some_iff.mp H
      obtain ⟨⟨t293, t294⟩, A1380, H⟩ := H
      replace H : (if (t284 != t288) = true then (laws_FnDivisorsToldOfAll.j7 kj79 a1 a2 a3 t283 t284 t291 t292 true) else ((laws_gSame.f kj79 t283 t287).bind fun t295 => (if t295 = true then (if (t292 != t294) = true then (laws_FnDivisorsToldOfAll.j7 kj79 a1 a2 a3 t283 t284 t291 t292 true) else (laws_FnDivisorsToldOfAll.j7 kj79 a1 a2 a3 t283 t284 t291 t292 (t291 != t293))) else (laws_FnDivisorsToldOfAll.j7 kj79 a1 a2 a3 t283 t284 t291 t292 true)))) = some r := H
      have A138 := Aside0.mk A1380
      clear A1380
      have HC139 := Aside0.mk H
      clear H
      go_upto_region 46 with (first | (go_at_call 78; (with_reducible refine (impl_SumWay.calls kj79 a1 a2 t283 t284 _ A135.out).mono ?_); rintro e w140 ⟨v285, rfl, ho0, hb⟩; have n0_ := Aside0.mk (Kd.R_lower ho0 (below_size (by repeat (first | (with_reducible first | exact HB.out | apply below_alloc | apply pw_below_drewN | apply below_drew1))))); have n1_ := Aside0.mk (below_step (by repeat (first | (with_reducible first | exact HB.out | apply below_alloc | apply pw_below_drewN | apply below_drew1))) hb); clear HB; have HO286 := n0_; have HB := n1_; clear n0_ n1_; (try clear hb); (try clear ho0)) | (go_at_call 79; (with_reducible refine (spec_SumWay.calls kj79 a1 a2 t287 t288 _ A136.out).mono ?_); rintro e w141 ⟨v289, rfl, ho0, hb⟩; have n0_ := Aside0.mk (Kd.R_elder' (by (with_reducible repeat (first | apply Kd.R_alloc | apply Kd.R_drewN | apply Kd.R_drew)); exact HO286.out) (Kd.R_base ho0) hb); have n1_ := Aside0.mk (Kd.R_lower (Kd.R_new' ho0 (Kd.R_lt (by (with_reducible repeat (first | apply Kd.R_alloc | apply Kd.R_drewN | apply Kd.R_drew)); exact HO286.out))) (below_size (by repeat (first | (with_reducible first | exact HB.out | apply below_alloc | apply pw_below_drewN | apply below_drew1))))); have n2_ := Aside0.mk (below_step (by repeat (first | (with_reducible first | exact HB.out | apply below_alloc | apply pw_below_drewN | apply below_drew1))) hb); clear HO286; clear HB; have HO286 := n0_; have HO290 := n1_; have HB := n2_; clear n0_ n1_ n2_; (try clear hb); (try clear ho0)) | (go_at_call 80; (with_reducible refine (impl_AmicableOf.calls kj79 a3 t291 t292 _ A137.out).mono ?_); rintro e w142 ⟨rfl, hb⟩; have n0_ := Aside0.mk (Kd.R_below (by (with_reducible repeat (first | apply Kd.R_alloc | apply Kd.R_drewN | apply Kd.R_drew)); exact HO286.out) hb); have n1_ := Aside0.mk (Kd.R_below (by (with_reducible repeat (first | apply Kd.R_alloc | apply Kd.R_drewN | apply Kd.R_drew)); exact HO290.out) hb); have n2_ := Aside0.mk (below_step (by repeat (first | (with_reducible first | exact HB.out | apply below_alloc | apply pw_below_drewN | apply below_drew1))) hb); clear HO286; clear HO290; clear HB; have HO286 := n0_; have HO290 := n1_; have HB := n2_; clear n0_ n1_ n2_; (try clear hb)) | (go_at_call 81; (with_reducible refine (spec_AmicableOf.calls kj79 a3 t293 t294 _ A138.out).mono ?_); rintro e w143 ⟨rfl, hb⟩; have n0_ := Aside0.mk (Kd.R_below (by (with_reducible repeat (first | apply Kd.R_alloc | apply Kd.R_drewN | apply Kd.R_drew)); exact HO286.out) hb); have n1_ := Aside0.mk (Kd.R_below (by (with_reducible repeat (first | apply Kd.R_alloc | apply Kd.R_drewN | apply Kd.R_drew)); exact HO290.out) hb); have n2_ := Aside0.mk (below_step (by repeat (first | (with_reducible first | exact HB.out | apply below_alloc | apply pw_below_drewN | apply below_drew1))) hb); clear HO286; clear HO290; clear HB; have HO286 := n0_; have HO290 := n1_; have HB := n2_; clear n0_ n1_ n2_; (try clear hb)))
      repeat (go_quiet (first | (go_at_call 78; (with_reducible refine (impl_SumWay.calls kj79 a1 a2 t283 t284 _ A135.out).mono ?_); rintro e w140 ⟨v285, rfl, ho0, hb⟩; have n0_ := Aside0.mk (Kd.R_lower ho0 (below_size (by repeat (first | (with_reducible first | exact HB.out | apply below_alloc | apply pw_below_drewN | apply below_drew1))))); have n1_ := Aside0.mk (below_step (by repeat (first | (with_reducible first | exact HB.out | apply below_alloc | apply pw_below_drewN | apply below_drew1))) hb); clear HB; have HO286 := n0_; have HB := n1_; clear n0_ n1_; (try clear hb); (try clear ho0)) | (go_at_call 79; (with_reducible refine (spec_SumWay.calls kj79 a1 a2 t287 t288 _ A136.out).mono ?_); rintro e w141 ⟨v289, rfl, ho0, hb⟩; have n0_ := Aside0.mk (Kd.R_elder' (by (with_reducible repeat (first | apply Kd.R_alloc | apply Kd.R_drewN | apply Kd.R_drew)); exact HO286.out) (Kd.R_base ho0) hb); have n1_ := Aside0.mk (Kd.R_lower (Kd.R_new' ho0 (Kd.R_lt (by (with_reducible repeat (first | apply Kd.R_alloc | apply Kd.R_drewN | apply Kd.R_drew)); exact HO286.out))) (below_size (by repeat (first | (with_reducible first | exact HB.out | apply below_alloc | apply pw_below_drewN | apply below_drew1))))); have n2_ := Aside0.mk (below_step (by repeat (first | (with_reducible first | exact HB.out | apply below_alloc | apply pw_below_drewN | apply below_drew1))) hb); clear HO286; clear HB; have HO286 := n0_; have HO290 := n1_; have HB := n2_; clear n0_ n1_ n2_; (try clear hb); (try clear ho0)) | (go_at_call 80; (with_reducible refine (impl_AmicableOf.calls kj79 a3 t291 t292 _ A137.out).mono ?_); rintro e w142 ⟨rfl, hb⟩; have n0_ := Aside0.mk (Kd.R_below (by (with_reducible repeat (first | apply Kd.R_alloc | apply Kd.R_drewN | apply Kd.R_drew)); exact HO286.out) hb); have n1_ := Aside0.mk (Kd.R_below (by (with_reducible repeat (first | apply Kd.R_alloc | apply Kd.R_drewN | apply Kd.R_drew)); exact HO290.out) hb); have n2_ := Aside0.mk (below_step (by repeat (first | (with_reducible first | exact HB.out | apply below_alloc | apply pw_below_drewN | apply below_drew1))) hb); clear HO286; clear HO290; clear HB; have HO286 := n0_; have HO290 := n1_; have HB := n2_; clear n0_ n1_ n2_; (try clear hb)) | (go_at_call 81; (with_reducible refine (spec_AmicableOf.calls kj79 a3 t293 t294 _ A138.out).mono ?_); rintro e w143 ⟨rfl, hb⟩; have n0_ := Aside0.mk (Kd.R_below (by (with_reducible repeat (first | apply Kd.R_alloc | apply Kd.R_drewN | apply Kd.R_drew)); exact HO286.out) hb); have n1_ := Aside0.mk (Kd.R_below (by (with_reducible repeat (first | apply Kd.R_alloc | apply Kd.R_drewN | apply Kd.R_drew)); exact HO290.out) hb); have n2_ := Aside0.mk (below_step (by repeat (first | (with_reducible first | exact HB.out | apply below_alloc | apply pw_below_drewN | apply below_drew1))) hb); clear HO286; clear HO290; clear HB; have HO286 := n0_; have HO290 := n1_; have HB := n2_; clear n0_ n1_ n2_; (try clear hb))); go_upto_region 46 with (first | (go_at_call 78; (with_reducible refine (impl_SumWay.calls kj79 a1 a2 t283 t284 _ A135.out).mono ?_); rintro e w140 ⟨v285, rfl, ho0, hb⟩; have n0_ := Aside0.mk (Kd.R_lower ho0 (below_size (by repeat (first | (with_reducible first | exact HB.out | apply below_alloc | apply pw_below_drewN | apply below_drew1))))); have n1_ := Aside0.mk (below_step (by repeat (first | (with_reducible first | exact HB.out | apply below_alloc | apply pw_below_drewN | apply below_drew1))) hb); clear HB; have HO286 := n0_; have HB := n1_; clear n0_ n1_; (try clear hb); (try clear ho0)) | (go_at_call 79; (with_reducible refine (spec_SumWay.calls kj79 a1 a2 t287 t288 _ A136.out).mono ?_); rintro e w141 ⟨v289, rfl, ho0, hb⟩; have n0_ := Aside0.mk (Kd.R_elder' (by (with_reducible repeat (first | apply Kd.R_alloc | apply Kd.R_drewN | apply Kd.R_drew)); exact HO286.out) (Kd.R_base ho0) hb); have n1_ := Aside0.mk (Kd.R_lower (Kd.R_new' ho0 (Kd.R_lt (by (with_reducible repeat (first | apply Kd.R_alloc | apply Kd.R_drewN | apply Kd.R_drew)); exact HO286.out))) (below_size (by repeat (first | (with_reducible first | exact HB.out | apply below_alloc | apply pw_below_drewN | apply below_drew1))))); have n2_ := Aside0.mk (below_step (by repeat (first | (with_reducible first | exact HB.out | apply below_alloc | apply pw_below_drewN | apply below_drew1))) hb); clear HO286; clear HB; have HO286 := n0_; have HO290 := n1_; have HB := n2_; clear n0_ n1_ n2_; (try clear hb); (try clear ho0)) | (go_at_call 80; (with_reducible refine (impl_AmicableOf.calls kj79 a3 t291 t292 _ A137.out).mono ?_); rintro e w142 ⟨rfl, hb⟩; have n0_ := Aside0.mk (Kd.R_below (by (with_reducible repeat (first | apply Kd.R_alloc | apply Kd.R_drewN | apply Kd.R_drew)); exact HO286.out) hb); have n1_ := Aside0.mk (Kd.R_below (by (with_reducible repeat (first | apply Kd.R_alloc | apply Kd.R_drewN | apply Kd.R_drew)); exact HO290.out) hb); have n2_ := Aside0.mk (below_step (by repeat (first | (with_reducible first | exact HB.out | apply below_alloc | apply pw_below_drewN | apply below_drew1))) hb); clear HO286; clear HO290; clear HB; have HO286 := n0_; have HO290 := n1_; have HB := n2_; clear n0_ n1_ n2_; (try clear hb)) | (go_at_call 81; (with_reducible refine (spec_AmicableOf.calls kj79 a3 t293 t294 _ A138.out).mono ?_); rintro e w143 ⟨rfl, hb⟩; have n0_ := Aside0.mk (Kd.R_below (by (with_reducible repeat (first | apply Kd.R_alloc | apply Kd.R_drewN | apply Kd.R_drew)); exact HO286.out) hb); have n1_ := Aside0.mk (Kd.R_below (by (with_reducible repeat (first | apply Kd.R_alloc | apply Kd.R_drewN | apply Kd.R_drew)); exact HO290.out) hb); have n2_ := Aside0.mk (below_step (by repeat (first | (with_reducible first | exact HB.out | apply below_alloc | apply pw_below_drewN | apply below_drew1))) hb); clear HO286; clear HO290; clear HB; have HO286 := n0_; have HO290 := n1_; have HB := n2_; clear n0_ n1_ n2_; (try clear hb))))
      (try simp only [Act.put, List.setIfInBounds_toArray, List.set_cons_zero, List.set_cons_succ])
      refine cutF mk0 [] (fun u_ wc => ∃ (kq : Nat) (x366_138 : Bool), (u_ 366) = .bool x366_138 ∧ Aside0 (laws_FnDivisorsToldOfAll.j7 kq a1 a2 a3 t283 t284 t291 t292 x366_138 = some r) ∧ Aside0 (kq ≤ kj79) ∧ Aside0 (Kd.R (Kd.int .i64) 3 wc w.heap.size (fun _ => True) v285 t283) ∧ Aside0 (Below w.heap.size w wc)) ?_ ?_
      ·
       as_aux_lemma =>
        intro J_ K_ hJ_ hK_
        have H := HC139.out
        clear HC139
        by_cases c144 : (t284 != t288) = true
        ·
         rw [if_pos c144] at H
         exact (laws_FnDivisorsToldOfAll.j7_no _ _ _ _ _ _ _ _ (H.trans (congrArg some HRT.out))).elim
        ·
         rw [if_neg c144] at H
         have c144b0 : (t284 != t288) = false := by simpa using c144
         (try (have c144b1 : decide (t284 = t288) = true := by simpa using c144))
         (try (have c144b2 : (t284 == t288) = true := by simpa using c144))
         clear c144
         (first | rw [c144b0] | (simp only [i64_w, i32_w]; rw [c144b0]) | skip)
         replace H := Option.bind_eq_some_iff.mp H
         obtain ⟨t295, A1450, H⟩ := H
         replace H : (if t295 = true then (if (t292 != t294) = true then (laws_FnDivisorsToldOfAll.j7 kj79 a1 a2 a3 t283 t284 t291 t292 true) else (laws_FnDivisorsToldOfAll.j7 kj79 a1 a2 a3 t283 t284 t291 t292 (t291 != t293))) else (laws_FnDivisorsToldOfAll.j7 kj79 a1 a2 a3 t283 t284 t291 t292 true)) = some r := H
         have A145 := Aside0.mk A1450
         clear A1450
         by_cases c146 : t295 = true
         ·
          subst c146
          have H1 : (if (t292 != t294) = true then (laws_FnDivisorsToldOfAll.j7 kj79 a1 a2 a3 t283 t284 t291 t292 true) else (laws_FnDivisorsToldOfAll.j7 kj79 a1 a2 a3 t283 t284 t291 t292 (t291 != t293))) = some r := by rw [if_pos rfl] at H; exact H
          clear H
          have H := H1
          clear H1
          by_cases c147 : (t292 != t294) = true
          ·
           rw [if_pos c147] at H
           exact (laws_FnDivisorsToldOfAll.j7_no _ _ _ _ _ _ _ _ (H.trans (congrArg some HRT.out))).elim
          ·
           rw [if_neg c147] at H
           have c147b0 : (t292 != t294) = false := by simpa using c147
           (try (have c147b1 : decide (t292 = t294) = true := by simpa using c147))
           (try (have c147b2 : (t292 == t294) = true := by simpa using c147))
           clear c147
           have H' := Aside0.mk H
           clear H
           obtain ⟨Ao150, co150, eo150⟩ := Kd.R_slice HO286.out
           subst eo150
           obtain ⟨Ao151, co151, eo151⟩ := Kd.R_slice HO290.out
           subst eo151
           go_wp2_with (first | (go_at_call 75; (with_reducible refine (laws_gSame.calls kj79 _ _ t283 _ _ t287 true _ ?side1 ?side2 ?side3 ?side4 A145.out).mono ?_); (case side1 => repeat (first | exact (Kd.R_reads' HO286.out).2.2 | (with_reducible refine Kd.C_alloc ?_ _) | (with_reducible refine Kd.C_drewN ?_ _) | (with_reducible refine Kd.C_drew ?_))); (case side2 => exact (Kd.R_reads' HO286.out).2.1); (case side3 => repeat (first | exact (Kd.R_reads' HO290.out).2.2 | (with_reducible refine Kd.C_alloc ?_ _) | (with_reducible refine Kd.C_drewN ?_ _) | (with_reducible refine Kd.C_drew ?_))); (case side4 => exact (Kd.R_reads' HO290.out).2.1); rintro e w' ⟨rfl, ⟨nd, rfl⟩⟩; (try first | exact ⟨rfl, _, World.drewN_drewN _ _ _⟩ | exact ⟨rfl, _, Eq.trans (World.drewN_drewN _ _ _) (congrArg (World.drewN _) (Nat.add_assoc _ _ _))⟩)))
           repeat (go_quiet (first | (go_at_call 75; (with_reducible refine (laws_gSame.calls kj79 _ _ t283 _ _ t287 true _ ?side1 ?side2 ?side3 ?side4 A145.out).mono ?_); (case side1 => repeat (first | exact (Kd.R_reads' HO286.out).2.2 | (with_reducible refine Kd.C_alloc ?_ _) | (with_reducible refine Kd.C_drewN ?_ _) | (with_reducible refine Kd.C_drew ?_))); (case side2 => exact (Kd.R_reads' HO286.out).2.1); (case side3 => repeat (first | exact (Kd.R_reads' HO290.out).2.2 | (with_reducible refine Kd.C_alloc ?_ _) | (with_reducible refine Kd.C_drewN ?_ _) | (with_reducible refine Kd.C_drew ?_))); (case side4 => exact (Kd.R_reads' HO290.out).2.1); rintro e w' ⟨rfl, ⟨nd, rfl⟩⟩; (try first | exact ⟨rfl, _, World.drewN_drewN _ _ _⟩ | exact ⟨rfl, _, Eq.trans (World.drewN_drewN _ _ _) (congrArg (World.drewN _) (Nat.add_assoc _ _ _))⟩))); try go_wp2_with (first | (go_at_call 75; (with_reducible refine (laws_gSame.calls kj79 _ _ t283 _ _ t287 true _ ?side1 ?side2 ?side3 ?side4 A145.out).mono ?_); (case side1 => repeat (first | exact (Kd.R_reads' HO286.out).2.2 | (with_reducible refine Kd.C_alloc ?_ _) | (with_reducible refine Kd.C_drewN ?_ _) | (with_reducible refine Kd.C_drew ?_))); (case side2 => exact (Kd.R_reads' HO286.out).2.1); (case side3 => repeat (first | exact (Kd.R_reads' HO290.out).2.2 | (with_reducible refine Kd.C_alloc ?_ _) | (with_reducible refine Kd.C_drewN ?_ _) | (with_reducible refine Kd.C_drew ?_))); (case side4 => exact (Kd.R_reads' HO290.out).2.1); rintro e w' ⟨rfl, ⟨nd, rfl⟩⟩; (try first | exact ⟨rfl, _, World.drewN_drewN _ _ _⟩ | exact ⟨rfl, _, Eq.trans (World.drewN_drewN _ _ _) (congrArg (World.drewN _) (Nat.add_assoc _ _ _))⟩))))
           refine cutMeet hJ_ ?_ (by kernel_rfl)
           exact ⟨_, ((t291 != t293)), (by first | rfl | (simp; done) | (simp [*]; done)), H', ⟨by have := HJ16.out; have := HJ79.out; first | omega | exact Nat.le_refl _⟩, ⟨by (with_reducible repeat (first | apply Kd.R_alloc | apply Kd.R_drewN | apply Kd.R_drew)); exact Kd.R_mono HO286.out (fun _ hk => trivial)⟩, ⟨by repeat (first | (with_reducible first | exact HB.out | apply below_alloc | apply pw_below_drewN | apply below_drew1))⟩⟩
         ·
          replace c146 := Bool.eq_false_iff.mpr c146
          subst c146
          have H1 : (laws_FnDivisorsToldOfAll.j7 kj79 a1 a2 a3 t283 t284 t291 t292 true) = some r := by rw [if_neg (show ¬ (false = true) by decide)] at H; exact H
          clear H
          have H := H1
          clear H1
          exact (laws_FnDivisorsToldOfAll.j7_no _ _ _ _ _ _ _ _ (H.trans (congrArg some HRT.out))).elim
      ·
       intro u_ wc hcut
       clear HC139
       obtain ⟨kq, x366_138, e_366, HA, HJ138, HO_43, HB⟩ := hcut
       dsimp only [cutFgt, mk0]
       rw [e_366]
       cases kq with
       | zero => exact absurd HA.out (by simp [laws_FnDivisorsToldOfAll.j7])
       | succ kj138 =>
        have H := HA.out
        clear HA
        simp only [laws_FnDivisorsToldOfAll.j7] at H
        by_cases c154 : x366_138 = true
        ·
         subst c154
         have H1 : (some false) = some r := by rw [if_pos rfl] at H; exact H
         clear H
         have H := H1
         clear H1
         first
         | exact absurd (Option.some.inj (H.trans (congrArg some HRT.out))) Bool.false_ne_true
         |
          obtain rfl := Option.some.inj H
          go_wp2
          repeat (go_quiet (fail); try go_wp2)
          go_ret
          exact ⟨by first | rfl | (simp [errW_none, errW_some] <;> rfl) | (simp [*, errW_none, errW_some] <;> rfl), by repeat (first | (with_reducible first | exact HB.out | apply below_alloc | apply pw_below_drewN | apply below_drew1))⟩
        ·
         replace c154 := Bool.eq_false_iff.mpr c154
         subst c154
         have H1 : (if t284 = true then (if 0 < (t283.length : Int) then (if (rd t283 0) = a1 then (laws_FnDivisorsToldOfAll.j8 kj138 a2 a3 t283 t291 t292 (decide ((t283.length : Int) > (wrap64 (a2 + 1))))) else (laws_FnDivisorsToldOfAll.j8 kj138 a2 a3 t283 t291 t292 true)) else (none)) else (if t292 = true then (if t291 ≤ 1000000 then ((impl_AmicableOf.f kj138 t291).bind fun bt304 => (if bt304.2 = true then (if bt304.1 = a3 then (some (t291 != a3)) else (some false)) else (some false))) else (some true)) else (some true))) = some r := by rw [if_neg (show ¬ (false = true) by decide)] at H; exact H
         clear H
         have H := H1
         clear H1
         by_cases c155 : t284 = true
         ·
          subst c155
          have H1 : (if 0 < (t283.length : Int) then (if (rd t283 0) = a1 then (laws_FnDivisorsToldOfAll.j8 kj138 a2 a3 t283 t291 t292 (decide ((t283.length : Int) > (wrap64 (a2 + 1))))) else (laws_FnDivisorsToldOfAll.j8 kj138 a2 a3 t283 t291 t292 true)) else (none)) = some r := by rw [if_pos rfl] at H; exact H
          clear H
          have H := H1
          clear H1
          have HC156 := Aside0.mk H
          clear H
          go_upto_region 49 with (fail)
          repeat (go_quiet (fail); go_upto_region 49 with (fail))
          refine cutF mk0 [] (fun u_ wc => ∃ (kq : Nat) (x379_155 : Bool), (u_ 379) = .bool x379_155 ∧ Aside0 (laws_FnDivisorsToldOfAll.j8 kq a2 a3 t283 t291 t292 x379_155 = some r) ∧ Aside0 (kq ≤ kj138) ∧ Aside0 (Kd.R (Kd.int .i64) 3 wc w.heap.size (fun _ => True) v285 t283) ∧ Aside0 (Below w.heap.size w wc)) ?_ ?_
          ·
           as_aux_lemma =>
            intro J_ K_ hJ_ hK_
            have H := HC156.out
            clear HC156
            by_cases c157 : 0 < (t283.length : Int)
            ·
             rw [if_pos c157] at H
             have c157b0 : decide (0 < (t283.length : Int)) = true := decide_eq_true c157
             have c157b1 : decide (0 < t283.length) = true := decide_eq_true (by omega)
             clear c157
             (first | rw [c157b0] | (simp only [i64_w, i32_w]; rw [c157b0]) | skip)
             by_cases c158 : (rd t283 0) = a1
             ·
              rw [if_pos c158] at H
              have c158b0 : ((rd t283 0) == a1) = true := beq_iff_eq.mpr c158
              have c158b1 : ((rd t283 0) != a1) = false := bne_eq_false_iff_eq.mpr c158
              clear c158
              have H' := Aside0.mk H
              clear H
              obtain ⟨Ao159, co159, eo159⟩ := Kd.R_slice HO_43.out
              subst eo159
              have p296 : 0 ≤ (0 : Int) := (by omega)
              have q296 : 0 < (t283.length : Int) := of_decide_eq_true (by first | (with_reducible assumption) | assumption)
              obtain ⟨ad296, e296, hx296_0⟩ := Kd.at_int (Kd.R_reads' HO_43.out).2.2 0 p296 q296
              cases e296
              have qi296 : (0 < t283.length) = True := eq_true (by omega)
              (try rw [show ((0 : Int)).toNat = 0 from rfl] at hx296_0)
              (try rw [Addr.add_zero'] at hx296_0)
              replace p296 := eq_true p296
              replace q296 := eq_true q296
              go_wp2
              repeat (go_quiet (fail); try go_wp2)
              refine cutMeet hJ_ ?_ (by kernel_rfl)
              exact ⟨_, (decide ((t283.length : Int) > (wrap64 (a2 + 1)))), (by first | rfl | (simp; done) | (simp [*]; done)), H', ⟨by have := HJ16.out; have := HJ79.out; have := HJ138.out; first | omega | exact Nat.le_refl _⟩, ⟨by (with_reducible repeat (first | apply Kd.R_alloc | apply Kd.R_drewN | apply Kd.R_drew)); exact HO_43.out⟩, ⟨by repeat (first | (with_reducible first | exact HB.out | apply below_alloc | apply pw_below_drewN | apply below_drew1))⟩⟩
             ·
              rw [if_neg c158] at H
              exact (laws_FnDivisorsToldOfAll.j8_no _ _ _ _ _ _ (H.trans (congrArg some HRT.out))).elim
            ·
             rw [if_neg c157] at H
             exact absurd H (by simp)
          ·
           intro u_ wc hcut
           clear HC156
           obtain ⟨kq, x379_155, e_379, HA, HJ155, HO_43, HB⟩ := hcut
           dsimp only [cutFgt, mk0]
           rw [e_379]
           cases kq with
           | zero => exact absurd HA.out (by simp [laws_FnDivisorsToldOfAll.j8])
           | succ kj155 =>
            have H := HA.out
            clear HA
            simp only [laws_FnDivisorsToldOfAll.j8] at H
            by_cases c161 : x379_155 = true
            ·
             subst c161
             have H1 : (some false) = some r := by rw [if_pos rfl] at H; exact H
             clear H
             have H := H1
             clear H1
             first
             | exact absurd (Option.some.inj (H.trans (congrArg some HRT.out))) Bool.false_ne_true
             |
              obtain rfl := Option.some.inj H
              go_wp2
              repeat (go_quiet (fail); try go_wp2)
              go_ret
              exact ⟨by first | rfl | (simp [errW_none, errW_some] <;> rfl) | (simp [*, errW_none, errW_some] <;> rfl), by repeat (first | (with_reducible first | exact HB.out | apply below_alloc | apply pw_below_drewN | apply below_drew1))⟩
            ·
             replace c161 := Bool.eq_false_iff.mpr c161
             subst c161
             have H1 : (laws_FnDivisorsToldOfAll.l2 kj155 a2 a3 t283 t291 t292 1) = some r := by rw [if_neg (show ¬ (false = true) by decide)] at H; exact H
             clear H
             have H := H1
             clear H1
             have H' := Aside0.mk H
             clear H
             go_wp2
             repeat (go_quiet (fail); try go_wp2)
             go_loopg [51] kj155 (fun kq v51 w' => ∃ (x51_5 : Int), v51 = .int .i64 x51_5 ∧ Aside0 (laws_FnDivisorsToldOfAll.l2 kq a2 a3 t283 t291 t292 x51_5 = some r) ∧ Aside0 (kq ≤ kj155) ∧ Aside0 (Kd.R (Kd.int .i64) 3 w' w.heap.size (fun _ => True) v285 t283) ∧ Aside0 (Below w.heap.size w w'))
             case atStart => exact ⟨(1), (by first | rfl | (simp; done) | (simp [*]; done)), H', ⟨Nat.le_refl _⟩, ⟨by (with_reducible repeat (first | apply Kd.R_alloc | apply Kd.R_drewN | apply Kd.R_drew)); exact HO_43.out⟩, ⟨by repeat (first | (with_reducible first | exact HB.out | apply below_alloc | apply pw_below_drewN | apply below_drew1))⟩⟩
             case round =>
              clear H'
              obtain ⟨x51_5, rfl, HA, HK5, HO_43, HB⟩ := hrel
              cases gk with
              | zero => exact absurd HA.out (by simp [laws_FnDivisorsToldOfAll.l2])
              | succ k5 =>
               have H := HA.out
               clear HA
               simp only [laws_FnDivisorsToldOfAll.l2] at H
               by_cases c162 : x51_5 < (t283.length : Int)
               ·
                rw [if_pos c162] at H
                have c162b0 : decide (x51_5 < (t283.length : Int)) = true := decide_eq_true c162
                clear c162
                obtain ⟨ji163, hji163⟩ : ∃ j_ : Int, (wrap64 (x51_5 - 1)) = j_ := ⟨_, rfl⟩
                replace H : (if 0 ≤ (ji163) then (if (ji163) < (t283.length : Int) then ((impl_SumStep.f k5 (rd t283 (ji163))).bind fun bt298 => (if bt298.2 = true then (if 0 ≤ x51_5 then (if bt298.1 = (rd t283 x51_5) then (laws_FnDivisorsToldOfAll.l2 k5 a2 a3 t283 t291 t292 (wrap64 (x51_5 + 1))) else (some false)) else (none)) else (some false))) else (none)) else (none)) = some r := by first | (rw [hji163] at H; exact H) | (simp only [hji163] at H ⊢; exact H)
                have hji163w : (IntKind.i64.wrap (x51_5 - 1)) = ji163 := (i64_w _).trans hji163
                by_cases c164 : 0 ≤ (ji163)
                ·
                 rw [if_pos c164] at H
                 have c164b0 : decide (0 ≤ (ji163)) = true := decide_eq_true c164
                 clear c164
                 by_cases c165 : (ji163) < (t283.length : Int)
                 ·
                  rw [if_pos c165] at H
                  have c165b0 : decide ((ji163) < (t283.length : Int)) = true := decide_eq_true c165
                  clear c165
                  replace H := Option.bind_eq_some_iff.mp H
                  obtain ⟨⟨t298, t299⟩, A1660, H⟩ := H
                  replace H : (if t299 = true then (if 0 ≤ x51_5 then (if t298 = (rd t283 x51_5) then (laws_FnDivisorsToldOfAll.l2 k5 a2 a3 t283 t291 t292 (wrap64 (x51_5 + 1))) else (some false)) else (none)) else (some false)) = some r := H
                  have A166 := Aside0.mk A1660
                  clear A1660
                  by_cases c167 : t299 = true
                  ·
                   subst c167
                   have H1 : (if 0 ≤ x51_5 then (if t298 = (rd t283 x51_5) then (laws_FnDivisorsToldOfAll.l2 k5 a2 a3 t283 t291 t292 (wrap64 (x51_5 + 1))) else (some false)) else (none)) = some r := by rw [if_pos rfl] at H; exact H
                   clear H
                   have H := H1
                   clear H1
                   by_cases c168 : 0 ≤ x51_5
                   ·
                    rw [if_pos c168] at H
                    have c168b0 : decide (0 ≤ x51_5) = true := decide_eq_true c168
                    clear c168
                    by_cases c169 : t298 = (rd t283 x51_5)
                    ·
                     rw [if_pos c169] at H
                     have c169b0 : (t298 == (rd t283 x51_5)) = true := beq_iff_eq.mpr c169
                     have c169b1 : (t298 != (rd t283 x51_5)) = false := bne_eq_false_iff_eq.mpr c169
                     clear c169
                     have H' := Aside0.mk H
                     clear H
                     obtain ⟨Ao170, co170, eo170⟩ := Kd.R_slice HO_43.out
                     subst eo170
                     have p297 : 0 ≤ ((ji163) : Int) := of_decide_eq_true (by first | (with_reducible assumption) | assumption)
                     have q297 : (ji163) < (t283.length : Int) := of_decide_eq_true (by first | (with_reducible assumption) | assumption)
                     obtain ⟨ad297, e297, hx297_0⟩ := Kd.at_int (Kd.R_reads' HO_43.out).2.2 (ji163) p297 q297
                     cases e297
                     replace p297 := eq_true p297
                     replace q297 := eq_true q297
                     go_wp2_with (first | (go_at_call 73; (with_reducible refine (impl_SumStep.calls k5 (rd t283 (ji163)) t298 true _ A166.out).mono ?_); rintro e w171 ⟨rfl, hb⟩; have n0_ := Aside0.mk (Kd.R_below (by (with_reducible repeat (first | apply Kd.R_alloc | apply Kd.R_drewN | apply Kd.R_drew)); exact HO_43.out) hb); have n1_ := Aside0.mk (below_step (by repeat (first | (with_reducible first | exact HB.out | apply below_alloc | apply pw_below_drewN | apply below_drew1))) hb); clear HO_43; clear HB; have HO_43 := n0_; have HB := n1_; clear n0_ n1_; (try clear hb); have p300 : 0 ≤ (x51_5 : Int) := of_decide_eq_true (by first | (with_reducible assumption) | assumption); have q300 : x51_5 < (t283.length : Int) := of_decide_eq_true (by first | (with_reducible assumption) | assumption); obtain ⟨ad300, e300, hx300_0⟩ := Kd.at_int (Kd.R_reads' HO_43.out).2.2 x51_5 p300 q300; obtain rfl : ad297 = ad300 := (by injection e300); replace p300 := eq_true p300; replace q300 := eq_true q300))
                     repeat (go_quiet (first | (go_at_call 73; (with_reducible refine (impl_SumStep.calls k5 (rd t283 (ji163)) t298 true _ A166.out).mono ?_); rintro e w171 ⟨rfl, hb⟩; have n0_ := Aside0.mk (Kd.R_below (by (with_reducible repeat (first | apply Kd.R_alloc | apply Kd.R_drewN | apply Kd.R_drew)); exact HO_43.out) hb); have n1_ := Aside0.mk (below_step (by repeat (first | (with_reducible first | exact HB.out | apply below_alloc | apply pw_below_drewN | apply below_drew1))) hb); clear HO_43; clear HB; have HO_43 := n0_; have HB := n1_; clear n0_ n1_; (try clear hb); have p300 : 0 ≤ (x51_5 : Int) := of_decide_eq_true (by first | (with_reducible assumption) | assumption); have q300 : x51_5 < (t283.length : Int) := of_decide_eq_true (by first | (with_reducible assumption) | assumption); obtain ⟨ad300, e300, hx300_0⟩ := Kd.at_int (Kd.R_reads' HO_43.out).2.2 x51_5 p300 q300; obtain rfl : ad297 = ad300 := (by injection e300); replace p300 := eq_true p300; replace q300 := eq_true q300)); try go_wp2_with (first | (go_at_call 73; (with_reducible refine (impl_SumStep.calls k5 (rd t283 (ji163)) t298 true _ A166.out).mono ?_); rintro e w171 ⟨rfl, hb⟩; have n0_ := Aside0.mk (Kd.R_below (by (with_reducible repeat (first | apply Kd.R_alloc | apply Kd.R_drewN | apply Kd.R_drew)); exact HO_43.out) hb); have n1_ := Aside0.mk (below_step (by repeat (first | (with_reducible first | exact HB.out | apply below_alloc | apply pw_below_drewN | apply below_drew1))) hb); clear HO_43; clear HB; have HO_43 := n0_; have HB := n1_; clear n0_ n1_; (try clear hb); have p300 : 0 ≤ (x51_5 : Int) := of_decide_eq_true (by first | (with_reducible assumption) | assumption); have q300 : x51_5 < (t283.length : Int) := of_decide_eq_true (by first | (with_reducible assumption) | assumption); obtain ⟨ad300, e300, hx300_0⟩ := Kd.at_int (Kd.R_reads' HO_43.out).2.2 x51_5 p300 q300; obtain rfl : ad297 = ad300 := (by injection e300); replace p300 := eq_true p300; replace q300 := eq_true q300)))
                     go_roundg k5
                     case measure => have := HJ16.out; have := HJ79.out; have := HJ138.out; have := HJ155.out; have := HK5.out; omega
                     case rel => exact ⟨(wrap64 (x51_5 + 1)), (by first | rfl | (simp; done) | (simp [*]; done)), H', ⟨by have := HJ16.out; have := HJ79.out; have := HJ138.out; have := HJ155.out; have := HK5.out; omega⟩, ⟨by (with_reducible repeat (first | apply Kd.R_alloc | apply Kd.R_drewN | apply Kd.R_drew)); exact HO_43.out⟩, ⟨by repeat (first | (with_reducible first | exact HB.out | apply below_alloc | apply pw_below_drewN | apply below_drew1))⟩⟩
                    ·
                     rw [if_neg c169] at H
                     have c169b0 : (t298 == (rd t283 x51_5)) = false := beq_eq_false_iff_ne.mpr c169
                     have c169b1 : (t298 != (rd t283 x51_5)) = true := bne_iff_ne.mpr c169
                     first
                     | exact absurd (Option.some.inj (H.trans (congrArg some HRT.out))) Bool.false_ne_true
                     |
                      obtain rfl := Option.some.inj H
                      obtain ⟨Ao172, co172, eo172⟩ := Kd.R_slice HO_43.out
                      subst eo172
                      have p297 : 0 ≤ ((ji163) : Int) := of_decide_eq_true (by first | (with_reducible assumption) | assumption)
                      have q297 : (ji163) < (t283.length : Int) := of_decide_eq_true (by first | (with_reducible assumption) | assumption)
                      obtain ⟨ad297, e297, hx297_0⟩ := Kd.at_int (Kd.R_reads' HO_43.out).2.2 (ji163) p297 q297
                      cases e297
                      replace p297 := eq_true p297
                      replace q297 := eq_true q297
                      go_wp2_with (first | (go_at_call 73; (with_reducible refine (impl_SumStep.calls k5 (rd t283 (ji163)) t298 true _ A166.out).mono ?_); rintro e w173 ⟨rfl, hb⟩; have n0_ := Aside0.mk (Kd.R_below (by (with_reducible repeat (first | apply Kd.R_alloc | apply Kd.R_drewN | apply Kd.R_drew)); exact HO_43.out) hb); have n1_ := Aside0.mk (below_step (by repeat (first | (with_reducible first | exact HB.out | apply below_alloc | apply pw_below_drewN | apply below_drew1))) hb); clear HO_43; clear HB; have HO_43 := n0_; have HB := n1_; clear n0_ n1_; (try clear hb); have p300 : 0 ≤ (x51_5 : Int) := of_decide_eq_true (by first | (with_reducible assumption) | assumption); have q300 : x51_5 < (t283.length : Int) := of_decide_eq_true (by first | (with_reducible assumption) | assumption); obtain ⟨ad300, e300, hx300_0⟩ := Kd.at_int (Kd.R_reads' HO_43.out).2.2 x51_5 p300 q300; obtain rfl : ad297 = ad300 := (by injection e300); replace p300 := eq_true p300; replace q300 := eq_true q300))
                      repeat (go_quiet (first | (go_at_call 73; (with_reducible refine (impl_SumStep.calls k5 (rd t283 (ji163)) t298 true _ A166.out).mono ?_); rintro e w173 ⟨rfl, hb⟩; have n0_ := Aside0.mk (Kd.R_below (by (with_reducible repeat (first | apply Kd.R_alloc | apply Kd.R_drewN | apply Kd.R_drew)); exact HO_43.out) hb); have n1_ := Aside0.mk (below_step (by repeat (first | (with_reducible first | exact HB.out | apply below_alloc | apply pw_below_drewN | apply below_drew1))) hb); clear HO_43; clear HB; have HO_43 := n0_; have HB := n1_; clear n0_ n1_; (try clear hb); have p300 : 0 ≤ (x51_5 : Int) := of_decide_eq_true (by first | (with_reducible assumption) | assumption); have q300 : x51_5 < (t283.length : Int) := of_decide_eq_true (by first | (with_reducible assumption) | assumption); obtain ⟨ad300, e300, hx300_0⟩ := Kd.at_int (Kd.R_reads' HO_43.out).2.2 x51_5 p300 q300; obtain rfl : ad297 = ad300 := (by injection e300); replace p300 := eq_true p300; replace q300 := eq_true q300)); try go_wp2_with (first | (go_at_call 73; (with_reducible refine (impl_SumStep.calls k5 (rd t283 (ji163)) t298 true _ A166.out).mono ?_); rintro e w173 ⟨rfl, hb⟩; have n0_ := Aside0.mk (Kd.R_below (by (with_reducible repeat (first | apply Kd.R_alloc | apply Kd.R_drewN | apply Kd.R_drew)); exact HO_43.out) hb); have n1_ := Aside0.mk (below_step (by repeat (first | (with_reducible first | exact HB.out | apply below_alloc | apply pw_below_drewN | apply below_drew1))) hb); clear HO_43; clear HB; have HO_43 := n0_; have HB := n1_; clear n0_ n1_; (try clear hb); have p300 : 0 ≤ (x51_5 : Int) := of_decide_eq_true (by first | (with_reducible assumption) | assumption); have q300 : x51_5 < (t283.length : Int) := of_decide_eq_true (by first | (with_reducible assumption) | assumption); obtain ⟨ad300, e300, hx300_0⟩ := Kd.at_int (Kd.R_reads' HO_43.out).2.2 x51_5 p300 q300; obtain rfl : ad297 = ad300 := (by injection e300); replace p300 := eq_true p300; replace q300 := eq_true q300)))
                      go_ret
                      exact ⟨by first | rfl | (simp [errW_none, errW_some] <;> rfl) | (simp only [← hji163]; first | rfl | (simp [errW_none, errW_some] <;> rfl)) | (simp [*, errW_none, errW_some] <;> rfl), by repeat (first | (with_reducible first | exact HB.out | apply below_alloc | apply pw_below_drewN | apply below_drew1))⟩
                   ·
                    rw [if_neg c168] at H
                    exact absurd H (by simp)
                  ·
                   replace c167 := Bool.eq_false_iff.mpr c167
                   subst c167
                   have H1 : (some false) = some r := by rw [if_neg (show ¬ (false = true) by decide)] at H; exact H
                   clear H
                   have H := H1
                   clear H1
                   first
                   | exact absurd (Option.some.inj (H.trans (congrArg some HRT.out))) Bool.false_ne_true
                   |
                    obtain rfl := Option.some.inj H
                    obtain ⟨Ao174, co174, eo174⟩ := Kd.R_slice HO_43.out
                    subst eo174
                    have p297 : 0 ≤ ((ji163) : Int) := of_decide_eq_true (by first | (with_reducible assumption) | assumption)
                    have q297 : (ji163) < (t283.length : Int) := of_decide_eq_true (by first | (with_reducible assumption) | assumption)
                    obtain ⟨ad297, e297, hx297_0⟩ := Kd.at_int (Kd.R_reads' HO_43.out).2.2 (ji163) p297 q297
                    cases e297
                    replace p297 := eq_true p297
                    replace q297 := eq_true q297
                    go_wp2_with (first | (go_at_call 73; (with_reducible refine (impl_SumStep.calls k5 (rd t283 (ji163)) t298 false _ A166.out).mono ?_); rintro e w175 ⟨rfl, hb⟩; have n0_ := Aside0.mk (Kd.R_below (by (with_reducible repeat (first | apply Kd.R_alloc | apply Kd.R_drewN | apply Kd.R_drew)); exact HO_43.out) hb); have n1_ := Aside0.mk (below_step (by repeat (first | (with_reducible first | exact HB.out | apply below_alloc | apply pw_below_drewN | apply below_drew1))) hb); clear HO_43; clear HB; have HO_43 := n0_; have HB := n1_; clear n0_ n1_; (try clear hb)))
                    repeat (go_quiet (first | (go_at_call 73; (with_reducible refine (impl_SumStep.calls k5 (rd t283 (ji163)) t298 false _ A166.out).mono ?_); rintro e w175 ⟨rfl, hb⟩; have n0_ := Aside0.mk (Kd.R_below (by (with_reducible repeat (first | apply Kd.R_alloc | apply Kd.R_drewN | apply Kd.R_drew)); exact HO_43.out) hb); have n1_ := Aside0.mk (below_step (by repeat (first | (with_reducible first | exact HB.out | apply below_alloc | apply pw_below_drewN | apply below_drew1))) hb); clear HO_43; clear HB; have HO_43 := n0_; have HB := n1_; clear n0_ n1_; (try clear hb))); try go_wp2_with (first | (go_at_call 73; (with_reducible refine (impl_SumStep.calls k5 (rd t283 (ji163)) t298 false _ A166.out).mono ?_); rintro e w175 ⟨rfl, hb⟩; have n0_ := Aside0.mk (Kd.R_below (by (with_reducible repeat (first | apply Kd.R_alloc | apply Kd.R_drewN | apply Kd.R_drew)); exact HO_43.out) hb); have n1_ := Aside0.mk (below_step (by repeat (first | (with_reducible first | exact HB.out | apply below_alloc | apply pw_below_drewN | apply below_drew1))) hb); clear HO_43; clear HB; have HO_43 := n0_; have HB := n1_; clear n0_ n1_; (try clear hb))))
                    go_ret
                    exact ⟨by first | rfl | (simp [errW_none, errW_some] <;> rfl) | (simp only [← hji163]; first | rfl | (simp [errW_none, errW_some] <;> rfl)) | (simp [*, errW_none, errW_some] <;> rfl), by repeat (first | (with_reducible first | exact HB.out | apply below_alloc | apply pw_below_drewN | apply below_drew1))⟩
                 ·
                  rw [if_neg c165] at H
                  exact absurd H (by simp)
                ·
                 rw [if_neg c164] at H
                 exact absurd H (by simp)
               ·
                rw [if_neg c162] at H
                have c162b0 : decide (x51_5 < (t283.length : Int)) = false := decide_eq_false c162
                clear c162
                obtain ⟨ji176, hji176⟩ : ∃ j_ : Int, (wrap64 ((t283.length : Int) - 1)) = j_ := ⟨_, rfl⟩
                replace H : (if 0 ≤ (ji176) then (if (ji176) < (t283.length : Int) then (if (t283.length : Int) < (wrap64 (a2 + 1)) then (if (rd t283 (ji176)) = 0 then (laws_FnDivisorsToldOfAll.j10 k5 a3 t291 t292 false) else (laws_FnDivisorsToldOfAll.j10 k5 a3 t291 t292 (decide ((rd t283 (ji176)) ≤ 1000000)))) else (laws_FnDivisorsToldOfAll.j10 k5 a3 t291 t292 false)) else (none)) else (none)) = some r := by first | (rw [hji176] at H; exact H) | (simp only [hji176] at H ⊢; exact H)
                have hji176w : (IntKind.i64.wrap ((t283.length : Int) - 1)) = ji176 := (i64_w _).trans hji176
                by_cases c177 : 0 ≤ (ji176)
                ·
                 rw [if_pos c177] at H
                 have c177b0 : decide (0 ≤ (ji176)) = true := decide_eq_true c177
                 clear c177
                 by_cases c178 : (ji176) < (t283.length : Int)
                 ·
                  rw [if_pos c178] at H
                  have c178b0 : decide ((ji176) < (t283.length : Int)) = true := decide_eq_true c178
                  clear c178
                  have HC179 := Aside0.mk H
                  clear H
                  obtain ⟨Ao180, co180, eo180⟩ := Kd.R_slice HO_43.out
                  subst eo180
                  have p301 : 0 ≤ ((ji176) : Int) := of_decide_eq_true (by first | (with_reducible assumption) | assumption)
                  have q301 : (ji176) < (t283.length : Int) := of_decide_eq_true (by first | (with_reducible assumption) | assumption)
                  obtain ⟨ad301, e301, hx301_0⟩ := Kd.at_int (Kd.R_reads' HO_43.out).2.2 (ji176) p301 q301
                  cases e301
                  replace p301 := eq_true p301
                  replace q301 := eq_true q301
                  go_upto_region 58 with (fail)
                  repeat (go_quiet (fail); go_upto_region 58 with (fail))
                  refine cutF mk0 [] (fun u_ wc => ∃ (kq : Nat) (x423_178 : Bool), (u_ 423) = .bool x423_178 ∧ Aside0 (laws_FnDivisorsToldOfAll.j10 kq a3 t291 t292 x423_178 = some r) ∧ Aside0 (kq ≤ k5) ∧ Aside0 (Below w.heap.size w wc)) ?_ ?_
                  ·
                   as_aux_lemma =>
                    intro J_ K_ hJ_ hK_
                    have H := HC179.out
                    clear HC179
                    by_cases c181 : (t283.length : Int) < (wrap64 (a2 + 1))
                    ·
                     rw [if_pos c181] at H
                     have c181b0 : decide ((t283.length : Int) < (wrap64 (a2 + 1))) = true := decide_eq_true c181
                     clear c181
                     (first | rw [c181b0] | (simp only [i64_w, i32_w]; rw [c181b0]) | skip)
                     by_cases c182 : (rd t283 (ji176)) = 0
                     ·
                      rw [if_pos c182] at H
                      have c182b0 : ((rd t283 (ji176)) == 0) = true := beq_iff_eq.mpr c182
                      have c182b1 : ((rd t283 (ji176)) != 0) = false := bne_eq_false_iff_eq.mpr c182
                      clear c182
                      have H' := Aside0.mk H
                      clear H
                      go_wp2
                      repeat (go_quiet (fail); try go_wp2)
                      refine cutMeet hJ_ ?_ (by kernel_rfl)
                      exact ⟨_, (false), (by first | rfl | (simp; done) | (simp [*]; done)), H', ⟨by have := HJ16.out; have := HJ79.out; have := HJ138.out; have := HJ155.out; have := HK5.out; first | omega | exact Nat.le_refl _⟩, ⟨by repeat (first | (with_reducible first | exact HB.out | apply below_alloc | apply pw_below_drewN | apply below_drew1))⟩⟩
                     ·
                      rw [if_neg c182] at H
                      have c182b0 : ((rd t283 (ji176)) == 0) = false := beq_eq_false_iff_ne.mpr c182
                      have c182b1 : ((rd t283 (ji176)) != 0) = true := bne_iff_ne.mpr c182
                      have H' := Aside0.mk H
                      clear H
                      go_wp2
                      repeat (go_quiet (fail); try go_wp2)
                      refine cutMeet hJ_ ?_ (by kernel_rfl)
                      exact ⟨_, (decide ((rd t283 (ji176)) ≤ 1000000)), (by first | rfl | (simp; done) | (simp only [← hji176] <;> (first | rfl | simp)) | (simp [*]; done)), H', ⟨by have := HJ16.out; have := HJ79.out; have := HJ138.out; have := HJ155.out; have := HK5.out; first | omega | exact Nat.le_refl _⟩, ⟨by repeat (first | (with_reducible first | exact HB.out | apply below_alloc | apply pw_below_drewN | apply below_drew1))⟩⟩
                    ·
                     rw [if_neg c181] at H
                     have c181b0 : decide ((t283.length : Int) < (wrap64 (a2 + 1))) = false := decide_eq_false c181
                     clear c181
                     (first | rw [c181b0] | (simp only [i64_w, i32_w]; rw [c181b0]) | skip)
                     have H' := Aside0.mk H
                     clear H
                     go_wp2
                     repeat (go_quiet (fail); try go_wp2)
                     refine cutMeet hJ_ ?_ (by kernel_rfl)
                     exact ⟨_, (false), (by first | rfl | (simp; done) | (simp [*]; done)), H', ⟨by have := HJ16.out; have := HJ79.out; have := HJ138.out; have := HJ155.out; have := HK5.out; first | omega | exact Nat.le_refl _⟩, ⟨by repeat (first | (with_reducible first | exact HB.out | apply below_alloc | apply pw_below_drewN | apply below_drew1))⟩⟩
                  ·
                   intro u_ wc hcut
                   clear HC179
                   obtain ⟨kq, x423_178, e_423, HA, HJ178, HB⟩ := hcut
                   dsimp only [cutFgt, mk0]
                   rw [e_423]
                   cases kq with
                   | zero => exact absurd HA.out (by simp [laws_FnDivisorsToldOfAll.j10])
                   | succ kj178 =>
                    have H := HA.out
                    clear HA
                    simp only [laws_FnDivisorsToldOfAll.j10] at H
                    by_cases c183 : x423_178 = true
                    ·
                     subst c183
                     have H1 : (some false) = some r := by rw [if_pos rfl] at H; exact H
                     clear H
                     have H := H1
                     clear H1
                     first
                     | exact absurd (Option.some.inj (H.trans (congrArg some HRT.out))) Bool.false_ne_true
                     |
                      obtain rfl := Option.some.inj H
                      go_wp2
                      repeat (go_quiet (fail); try go_wp2)
                      go_ret
                      exact ⟨by first | rfl | (simp [errW_none, errW_some] <;> rfl) | (simp only [← hji176]; first | rfl | (simp [errW_none, errW_some] <;> rfl)) | (simp [*, errW_none, errW_some] <;> rfl), by repeat (first | (with_reducible first | exact HB.out | apply below_alloc | apply pw_below_drewN | apply below_drew1))⟩
                    ·
                     replace c183 := Bool.eq_false_iff.mpr c183
                     subst c183
                     have H1 : (if t292 = true then (if t291 ≤ 1000000 then ((impl_AmicableOf.f kj178 t291).bind fun bt302 => (if bt302.2 = true then (if bt302.1 = a3 then (some (t291 != a3)) else (some false)) else (some false))) else (some true)) else (some true)) = some r := by rw [if_neg (show ¬ (false = true) by decide)] at H; exact H
                     clear H
                     have H := H1
                     clear H1
                     by_cases c184 : t292 = true
                     ·
                      subst c184
                      have H1 : (if t291 ≤ 1000000 then ((impl_AmicableOf.f kj178 t291).bind fun bt302 => (if bt302.2 = true then (if bt302.1 = a3 then (some (t291 != a3)) else (some false)) else (some false))) else (some true)) = some r := by rw [if_pos rfl] at H; exact H
                      clear H
                      have H := H1
                      clear H1
                      by_cases c185 : t291 ≤ 1000000
                      ·
                       rw [if_pos c185] at H
                       have c185b0 : decide (t291 ≤ 1000000) = true := decide_eq_true c185
                       clear c185
                       replace H := Option.bind_eq_some_iff.mp H
                       obtain ⟨⟨t302, t303⟩, A1860, H⟩ := H
                       replace H : (if t303 = true then (if t302 = a3 then (some (t291 != a3)) else (some false)) else (some false)) = some r := H
                       have A186 := Aside0.mk A1860
                       clear A1860
                       by_cases c187 : t303 = true
                       ·
                        subst c187
                        have H1 : (if t302 = a3 then (some (t291 != a3)) else (some false)) = some r := by rw [if_pos rfl] at H; exact H
                        clear H
                        have H := H1
                        clear H1
                        by_cases c188 : t302 = a3
                        ·
                         rw [if_pos c188] at H
                         have c188b0 : (t302 == a3) = true := beq_iff_eq.mpr c188
                         have c188b1 : (t302 != a3) = false := bne_eq_false_iff_eq.mpr c188
                         clear c188
                         first
                         | exact absurd (Option.some.inj (H.trans (congrArg some HRT.out))) Bool.false_ne_true
                         |
                          obtain rfl := Option.some.inj H
                          go_wp2_with (first | (go_at_call 80; (with_reducible refine (impl_AmicableOf.calls kj178 t291 t302 true _ A186.out).mono ?_); rintro e w189 ⟨rfl, hb⟩; have n0_ := Aside0.mk (below_step (by repeat (first | (with_reducible first | exact HB.out | apply below_alloc | apply pw_below_drewN | apply below_drew1))) hb); clear HB; have HB := n0_; clear n0_; (try clear hb)))
                          repeat (go_quiet (first | (go_at_call 80; (with_reducible refine (impl_AmicableOf.calls kj178 t291 t302 true _ A186.out).mono ?_); rintro e w189 ⟨rfl, hb⟩; have n0_ := Aside0.mk (below_step (by repeat (first | (with_reducible first | exact HB.out | apply below_alloc | apply pw_below_drewN | apply below_drew1))) hb); clear HB; have HB := n0_; clear n0_; (try clear hb))); try go_wp2_with (first | (go_at_call 80; (with_reducible refine (impl_AmicableOf.calls kj178 t291 t302 true _ A186.out).mono ?_); rintro e w189 ⟨rfl, hb⟩; have n0_ := Aside0.mk (below_step (by repeat (first | (with_reducible first | exact HB.out | apply below_alloc | apply pw_below_drewN | apply below_drew1))) hb); clear HB; have HB := n0_; clear n0_; (try clear hb))))
                          go_ret
                          exact ⟨by first | rfl | (simp [errW_none, errW_some] <;> rfl) | (simp only [← hji176]; first | rfl | (simp [errW_none, errW_some] <;> rfl)) | (simp [*, errW_none, errW_some] <;> rfl), by repeat (first | (with_reducible first | exact HB.out | apply below_alloc | apply pw_below_drewN | apply below_drew1))⟩
                        ·
                         rw [if_neg c188] at H
                         have c188b0 : (t302 == a3) = false := beq_eq_false_iff_ne.mpr c188
                         have c188b1 : (t302 != a3) = true := bne_iff_ne.mpr c188
                         first
                         | exact absurd (Option.some.inj (H.trans (congrArg some HRT.out))) Bool.false_ne_true
                         |
                          obtain rfl := Option.some.inj H
                          go_wp2_with (first | (go_at_call 80; (with_reducible refine (impl_AmicableOf.calls kj178 t291 t302 true _ A186.out).mono ?_); rintro e w190 ⟨rfl, hb⟩; have n0_ := Aside0.mk (below_step (by repeat (first | (with_reducible first | exact HB.out | apply below_alloc | apply pw_below_drewN | apply below_drew1))) hb); clear HB; have HB := n0_; clear n0_; (try clear hb)))
                          repeat (go_quiet (first | (go_at_call 80; (with_reducible refine (impl_AmicableOf.calls kj178 t291 t302 true _ A186.out).mono ?_); rintro e w190 ⟨rfl, hb⟩; have n0_ := Aside0.mk (below_step (by repeat (first | (with_reducible first | exact HB.out | apply below_alloc | apply pw_below_drewN | apply below_drew1))) hb); clear HB; have HB := n0_; clear n0_; (try clear hb))); try go_wp2_with (first | (go_at_call 80; (with_reducible refine (impl_AmicableOf.calls kj178 t291 t302 true _ A186.out).mono ?_); rintro e w190 ⟨rfl, hb⟩; have n0_ := Aside0.mk (below_step (by repeat (first | (with_reducible first | exact HB.out | apply below_alloc | apply pw_below_drewN | apply below_drew1))) hb); clear HB; have HB := n0_; clear n0_; (try clear hb))))
                          go_ret
                          exact ⟨by first | rfl | (simp [errW_none, errW_some] <;> rfl) | (simp only [← hji176]; first | rfl | (simp [errW_none, errW_some] <;> rfl)) | (simp [*, errW_none, errW_some] <;> rfl), by repeat (first | (with_reducible first | exact HB.out | apply below_alloc | apply pw_below_drewN | apply below_drew1))⟩
                       ·
                        replace c187 := Bool.eq_false_iff.mpr c187
                        subst c187
                        have H1 : (some false) = some r := by rw [if_neg (show ¬ (false = true) by decide)] at H; exact H
                        clear H
                        have H := H1
                        clear H1
                        first
                        | exact absurd (Option.some.inj (H.trans (congrArg some HRT.out))) Bool.false_ne_true
                        |
                         obtain rfl := Option.some.inj H
                         go_wp2_with (first | (go_at_call 80; (with_reducible refine (impl_AmicableOf.calls kj178 t291 t302 false _ A186.out).mono ?_); rintro e w191 ⟨rfl, hb⟩; have n0_ := Aside0.mk (below_step (by repeat (first | (with_reducible first | exact HB.out | apply below_alloc | apply pw_below_drewN | apply below_drew1))) hb); clear HB; have HB := n0_; clear n0_; (try clear hb)))
                         repeat (go_quiet (first | (go_at_call 80; (with_reducible refine (impl_AmicableOf.calls kj178 t291 t302 false _ A186.out).mono ?_); rintro e w191 ⟨rfl, hb⟩; have n0_ := Aside0.mk (below_step (by repeat (first | (with_reducible first | exact HB.out | apply below_alloc | apply pw_below_drewN | apply below_drew1))) hb); clear HB; have HB := n0_; clear n0_; (try clear hb))); try go_wp2_with (first | (go_at_call 80; (with_reducible refine (impl_AmicableOf.calls kj178 t291 t302 false _ A186.out).mono ?_); rintro e w191 ⟨rfl, hb⟩; have n0_ := Aside0.mk (below_step (by repeat (first | (with_reducible first | exact HB.out | apply below_alloc | apply pw_below_drewN | apply below_drew1))) hb); clear HB; have HB := n0_; clear n0_; (try clear hb))))
                         go_ret
                         exact ⟨by first | rfl | (simp [errW_none, errW_some] <;> rfl) | (simp only [← hji176]; first | rfl | (simp [errW_none, errW_some] <;> rfl)) | (simp [*, errW_none, errW_some] <;> rfl), by repeat (first | (with_reducible first | exact HB.out | apply below_alloc | apply pw_below_drewN | apply below_drew1))⟩
                      ·
                       rw [if_neg c185] at H
                       have c185b0 : decide (t291 ≤ 1000000) = false := decide_eq_false c185
                       clear c185
                       first
                       | exact absurd (Option.some.inj (H.trans (congrArg some HRT.out))) Bool.false_ne_true
                       |
                        obtain rfl := Option.some.inj H
                        go_wp2
                        repeat (go_quiet (fail); try go_wp2)
                        go_ret
                        exact ⟨by first | rfl | (simp [errW_none, errW_some] <;> rfl) | (simp only [← hji176]; first | rfl | (simp [errW_none, errW_some] <;> rfl)) | (simp [*, errW_none, errW_some] <;> rfl), by repeat (first | (with_reducible first | exact HB.out | apply below_alloc | apply pw_below_drewN | apply below_drew1))⟩
                     ·
                      replace c184 := Bool.eq_false_iff.mpr c184
                      subst c184
                      have H1 : (some true) = some r := by rw [if_neg (show ¬ (false = true) by decide)] at H; exact H
                      clear H
                      have H := H1
                      clear H1
                      first
                      | exact absurd (Option.some.inj (H.trans (congrArg some HRT.out))) Bool.false_ne_true
                      |
                       obtain rfl := Option.some.inj H
                       go_wp2
                       repeat (go_quiet (fail); try go_wp2)
                       go_ret
                       exact ⟨by first | rfl | (simp [errW_none, errW_some] <;> rfl) | (simp only [← hji176]; first | rfl | (simp [errW_none, errW_some] <;> rfl)) | (simp [*, errW_none, errW_some] <;> rfl), by repeat (first | (with_reducible first | exact HB.out | apply below_alloc | apply pw_below_drewN | apply below_drew1))⟩
                 ·
                  rw [if_neg c178] at H
                  exact absurd H (by simp)
                ·
                 rw [if_neg c177] at H
                 exact absurd H (by simp)
         ·
          replace c155 := Bool.eq_false_iff.mpr c155
          subst c155
          have H1 : (if t292 = true then (if t291 ≤ 1000000 then ((impl_AmicableOf.f kj138 t291).bind fun bt304 => (if bt304.2 = true then (if bt304.1 = a3 then (some (t291 != a3)) else (some false)) else (some false))) else (some true)) else (some true)) = some r := by rw [if_neg (show ¬ (false = true) by decide)] at H; exact H
          clear H
          have H := H1
          clear H1
          by_cases c192 : t292 = true
          ·
           subst c192
           have H1 : (if t291 ≤ 1000000 then ((impl_AmicableOf.f kj138 t291).bind fun bt304 => (if bt304.2 = true then (if bt304.1 = a3 then (some (t291 != a3)) else (some false)) else (some false))) else (some true)) = some r := by rw [if_pos rfl] at H; exact H
           clear H
           have H := H1
           clear H1
           by_cases c193 : t291 ≤ 1000000
           ·
            rw [if_pos c193] at H
            have c193b0 : decide (t291 ≤ 1000000) = true := decide_eq_true c193
            clear c193
            replace H := Option.bind_eq_some_iff.mp H
            obtain ⟨⟨t304, t305⟩, A1940, H⟩ := H
            replace H : (if t305 = true then (if t304 = a3 then (some (t291 != a3)) else (some false)) else (some false)) = some r := H
            have A194 := Aside0.mk A1940
            clear A1940
            by_cases c195 : t305 = true
            ·
             subst c195
             have H1 : (if t304 = a3 then (some (t291 != a3)) else (some false)) = some r := by rw [if_pos rfl] at H; exact H
             clear H
             have H := H1
             clear H1
             by_cases c196 : t304 = a3
             ·
              rw [if_pos c196] at H
              have c196b0 : (t304 == a3) = true := beq_iff_eq.mpr c196
              have c196b1 : (t304 != a3) = false := bne_eq_false_iff_eq.mpr c196
              clear c196
              first
              | exact absurd (Option.some.inj (H.trans (congrArg some HRT.out))) Bool.false_ne_true
              |
               obtain rfl := Option.some.inj H
               go_wp2_with (first | (go_at_call 80; (with_reducible refine (impl_AmicableOf.calls kj138 t291 t304 true _ A194.out).mono ?_); rintro e w197 ⟨rfl, hb⟩; have n0_ := Aside0.mk (Kd.R_below (by (with_reducible repeat (first | apply Kd.R_alloc | apply Kd.R_drewN | apply Kd.R_drew)); exact HO_43.out) hb); have n1_ := Aside0.mk (below_step (by repeat (first | (with_reducible first | exact HB.out | apply below_alloc | apply pw_below_drewN | apply below_drew1))) hb); clear HO_43; clear HB; have HO_43 := n0_; have HB := n1_; clear n0_ n1_; (try clear hb)))
               repeat (go_quiet (first | (go_at_call 80; (with_reducible refine (impl_AmicableOf.calls kj138 t291 t304 true _ A194.out).mono ?_); rintro e w197 ⟨rfl, hb⟩; have n0_ := Aside0.mk (Kd.R_below (by (with_reducible repeat (first | apply Kd.R_alloc | apply Kd.R_drewN | apply Kd.R_drew)); exact HO_43.out) hb); have n1_ := Aside0.mk (below_step (by repeat (first | (with_reducible first | exact HB.out | apply below_alloc | apply pw_below_drewN | apply below_drew1))) hb); clear HO_43; clear HB; have HO_43 := n0_; have HB := n1_; clear n0_ n1_; (try clear hb))); try go_wp2_with (first | (go_at_call 80; (with_reducible refine (impl_AmicableOf.calls kj138 t291 t304 true _ A194.out).mono ?_); rintro e w197 ⟨rfl, hb⟩; have n0_ := Aside0.mk (Kd.R_below (by (with_reducible repeat (first | apply Kd.R_alloc | apply Kd.R_drewN | apply Kd.R_drew)); exact HO_43.out) hb); have n1_ := Aside0.mk (below_step (by repeat (first | (with_reducible first | exact HB.out | apply below_alloc | apply pw_below_drewN | apply below_drew1))) hb); clear HO_43; clear HB; have HO_43 := n0_; have HB := n1_; clear n0_ n1_; (try clear hb))))
               go_ret
               exact ⟨by first | rfl | (simp [errW_none, errW_some] <;> rfl) | (simp [*, errW_none, errW_some] <;> rfl), by repeat (first | (with_reducible first | exact HB.out | apply below_alloc | apply pw_below_drewN | apply below_drew1))⟩
             ·
              rw [if_neg c196] at H
              have c196b0 : (t304 == a3) = false := beq_eq_false_iff_ne.mpr c196
              have c196b1 : (t304 != a3) = true := bne_iff_ne.mpr c196
              first
              | exact absurd (Option.some.inj (H.trans (congrArg some HRT.out))) Bool.false_ne_true
              |
               obtain rfl := Option.some.inj H
               go_wp2_with (first | (go_at_call 80; (with_reducible refine (impl_AmicableOf.calls kj138 t291 t304 true _ A194.out).mono ?_); rintro e w198 ⟨rfl, hb⟩; have n0_ := Aside0.mk (Kd.R_below (by (with_reducible repeat (first | apply Kd.R_alloc | apply Kd.R_drewN | apply Kd.R_drew)); exact HO_43.out) hb); have n1_ := Aside0.mk (below_step (by repeat (first | (with_reducible first | exact HB.out | apply below_alloc | apply pw_below_drewN | apply below_drew1))) hb); clear HO_43; clear HB; have HO_43 := n0_; have HB := n1_; clear n0_ n1_; (try clear hb)))
               repeat (go_quiet (first | (go_at_call 80; (with_reducible refine (impl_AmicableOf.calls kj138 t291 t304 true _ A194.out).mono ?_); rintro e w198 ⟨rfl, hb⟩; have n0_ := Aside0.mk (Kd.R_below (by (with_reducible repeat (first | apply Kd.R_alloc | apply Kd.R_drewN | apply Kd.R_drew)); exact HO_43.out) hb); have n1_ := Aside0.mk (below_step (by repeat (first | (with_reducible first | exact HB.out | apply below_alloc | apply pw_below_drewN | apply below_drew1))) hb); clear HO_43; clear HB; have HO_43 := n0_; have HB := n1_; clear n0_ n1_; (try clear hb))); try go_wp2_with (first | (go_at_call 80; (with_reducible refine (impl_AmicableOf.calls kj138 t291 t304 true _ A194.out).mono ?_); rintro e w198 ⟨rfl, hb⟩; have n0_ := Aside0.mk (Kd.R_below (by (with_reducible repeat (first | apply Kd.R_alloc | apply Kd.R_drewN | apply Kd.R_drew)); exact HO_43.out) hb); have n1_ := Aside0.mk (below_step (by repeat (first | (with_reducible first | exact HB.out | apply below_alloc | apply pw_below_drewN | apply below_drew1))) hb); clear HO_43; clear HB; have HO_43 := n0_; have HB := n1_; clear n0_ n1_; (try clear hb))))
               go_ret
               exact ⟨by first | rfl | (simp [errW_none, errW_some] <;> rfl) | (simp [*, errW_none, errW_some] <;> rfl), by repeat (first | (with_reducible first | exact HB.out | apply below_alloc | apply pw_below_drewN | apply below_drew1))⟩
            ·
             replace c195 := Bool.eq_false_iff.mpr c195
             subst c195
             have H1 : (some false) = some r := by rw [if_neg (show ¬ (false = true) by decide)] at H; exact H
             clear H
             have H := H1
             clear H1
             first
             | exact absurd (Option.some.inj (H.trans (congrArg some HRT.out))) Bool.false_ne_true
             |
              obtain rfl := Option.some.inj H
              go_wp2_with (first | (go_at_call 80; (with_reducible refine (impl_AmicableOf.calls kj138 t291 t304 false _ A194.out).mono ?_); rintro e w199 ⟨rfl, hb⟩; have n0_ := Aside0.mk (Kd.R_below (by (with_reducible repeat (first | apply Kd.R_alloc | apply Kd.R_drewN | apply Kd.R_drew)); exact HO_43.out) hb); have n1_ := Aside0.mk (below_step (by repeat (first | (with_reducible first | exact HB.out | apply below_alloc | apply pw_below_drewN | apply below_drew1))) hb); clear HO_43; clear HB; have HO_43 := n0_; have HB := n1_; clear n0_ n1_; (try clear hb)))
              repeat (go_quiet (first | (go_at_call 80; (with_reducible refine (impl_AmicableOf.calls kj138 t291 t304 false _ A194.out).mono ?_); rintro e w199 ⟨rfl, hb⟩; have n0_ := Aside0.mk (Kd.R_below (by (with_reducible repeat (first | apply Kd.R_alloc | apply Kd.R_drewN | apply Kd.R_drew)); exact HO_43.out) hb); have n1_ := Aside0.mk (below_step (by repeat (first | (with_reducible first | exact HB.out | apply below_alloc | apply pw_below_drewN | apply below_drew1))) hb); clear HO_43; clear HB; have HO_43 := n0_; have HB := n1_; clear n0_ n1_; (try clear hb))); try go_wp2_with (first | (go_at_call 80; (with_reducible refine (impl_AmicableOf.calls kj138 t291 t304 false _ A194.out).mono ?_); rintro e w199 ⟨rfl, hb⟩; have n0_ := Aside0.mk (Kd.R_below (by (with_reducible repeat (first | apply Kd.R_alloc | apply Kd.R_drewN | apply Kd.R_drew)); exact HO_43.out) hb); have n1_ := Aside0.mk (below_step (by repeat (first | (with_reducible first | exact HB.out | apply below_alloc | apply pw_below_drewN | apply below_drew1))) hb); clear HO_43; clear HB; have HO_43 := n0_; have HB := n1_; clear n0_ n1_; (try clear hb))))
              go_ret
              exact ⟨by first | rfl | (simp [errW_none, errW_some] <;> rfl) | (simp [*, errW_none, errW_some] <;> rfl), by repeat (first | (with_reducible first | exact HB.out | apply below_alloc | apply pw_below_drewN | apply below_drew1))⟩
           ·
            rw [if_neg c193] at H
            have c193b0 : decide (t291 ≤ 1000000) = false := decide_eq_false c193
            clear c193
            first
            | exact absurd (Option.some.inj (H.trans (congrArg some HRT.out))) Bool.false_ne_true
            |
             obtain rfl := Option.some.inj H
             go_wp2
             repeat (go_quiet (fail); try go_wp2)
             go_ret
             exact ⟨by first | rfl | (simp [errW_none, errW_some] <;> rfl) | (simp [*, errW_none, errW_some] <;> rfl), by repeat (first | (with_reducible first | exact HB.out | apply below_alloc | apply pw_below_drewN | apply below_drew1))⟩
          ·
           replace c192 := Bool.eq_false_iff.mpr c192
           subst c192
           have H1 : (some true) = some r := by rw [if_neg (show ¬ (false = true) by decide)] at H; exact H
           clear H
           have H := H1
           clear H1
           first
           | exact absurd (Option.some.inj (H.trans (congrArg some HRT.out))) Bool.false_ne_true
           |
            obtain rfl := Option.some.inj H
            go_wp2
            repeat (go_quiet (fail); try go_wp2)
            go_ret
            exact ⟨by first | rfl | (simp [errW_none, errW_some] <;> rfl) | (simp [*, errW_none, errW_some] <;> rfl), by repeat (first | (with_reducible first | exact HB.out | apply below_alloc | apply pw_below_drewN | apply below_drew1))⟩

/-- THE ONE PURE STATEMENT of laws_FnDivisorsToldOfAll: yours. -/
def laws_FnDivisorsToldOfAll.Pure : Prop := ∀ (a0 : Int) (a1 : Int) (a2 : Int) (a3 : Int), (Lit.int .i64 a0).wf = true → (Lit.int .i64 a1).wf = true → (Lit.int .i64 a2).wf = true → (Lit.int .i64 a3).wf = true → ∃ k, laws_FnDivisorsToldOfAll.f k a0 a1 a2 a3 = some true
theorem laws_FnDivisorsToldOfAll.walk (P : laws_FnDivisorsToldOfAll.Pure) (a0 : Int) (a1 : Int) (a2 : Int) (a3 : Int) (w : World) (w0 : (Lit.int .i64 a0).wf = true) (w1 : (Lit.int .i64 a1).wf = true) (w2 : (Lit.int .i64 a2).wf = true) (w3 : (Lit.int .i64 a3).wf = true) :
  Calls Try.prog 5 #[.int .i64 a0, .int .i64 a1, .int .i64 a2, .int .i64 a3] w fun e w' => e = .returned (.bool true) ∧ Below w.heap.size w w' := by
 obtain ⟨k, h⟩ := P a0 a1 a2 a3 w0 w1 w2 w3
 refine (laws_FnDivisorsToldOfAll.calls k a0 a1 a2 a3 true w h rfl).mono ?_
 rintro e w' ⟨rfl, hd⟩
 exact ⟨rfl, hd⟩

end Go.Proofs.Ytfhfbicejddoiaa.PFnDivisorsToldOfAll
