-- Written for this claim by a program of this session, out of the translation and given contracts.
import Derived.Test.YtfhfbicejddoiaaPFnDivisorsToldx0
import Derived.Test.YtfhfbicejddoiaaPFnDivisorsToldx1
import Derived.Test.YtfhfbicejddoiaaPFnDivisorsToldx2
import Derived.Test.YtfhfbicejddoiaaPFnDivisorsToldx3
import Derived.Test.YtfhfbicejddoiaaPFnDivisorsToldx4
import Derived.Test.YtfhfbicejddoiaaPFnDivisorsToldx5
import Derived.Test.YtfhfbicejddoiaaPFnDivisorsToldx6
namespace Go.Proofs.Ytfhfbicejddoiaa.PFnDivisorsTold
open Go.RowKit Go.Proofs.YtfhfbicejddoiaaW.PrintWords Go.Proofs.YtfhfbicejddoiaaW.PrintLast Go.Proofs.YtfhfbicejddoiaaW.PrintMore
attribute [local go_sem] max2_int min2_int max_two min_two max_three min_three max_four min_four   -- for this text's walks alone
set_option linter.unusedVariables false
set_option linter.unusedSimpArgs false

/-! ### laws_FnDivisorsTold: function 7 -/
mutual
def laws_FnDivisorsTold.j0 : Nat → List Int → Int → List Int → Bool → Int → Int → Int → Int → Bool → Option (Bool)
 | 0, _, _, _, _, _, _, _, _, _ => none
 | k + 1, x1, x5, x6, x7, x10, x14, x18, x26, x205 => if x205 = true then (some false) else (if x7 = true then (if (x6.length : Int) = x10 then ((laws_gSum.f k x6).bind fun t299 => (if t299 = x14 then (if x26 = (wrap64 (x14 - x5)) then (if 0 < (x6.length : Int) then (if (rd x6 0) = 1 then (if 0 ≤ (wrap64 (x10 - 1)) then (if (wrap64 (x10 - 1)) < (x6.length : Int) then (laws_FnDivisorsTold.j1 k x1 x5 x6 x10 x18 ((rd x6 (wrap64 (x10 - 1))) != x5)) else (none)) else (none)) else (laws_FnDivisorsTold.j1 k x1 x5 x6 x10 x18 true)) else (none)) else (laws_FnDivisorsTold.j1 k x1 x5 x6 x10 x18 true)) else (laws_FnDivisorsTold.j1 k x1 x5 x6 x10 x18 true))) else (laws_FnDivisorsTold.j1 k x1 x5 x6 x10 x18 true)) else (laws_FnDivisorsTold.j6 k x1))
def laws_FnDivisorsTold.j6 : Nat → List Int → Option (Bool)
 | 0, _ => none
 | k + 1, x1 => (spec_DrawSumWay.f x1).bind fun bt311 => ((impl_SumWay.f k bt311.1 bt311.2).bind fun bt313 => ((spec_SumWay.f k bt311.1 bt311.2).bind fun bt317 => ((spec_DrawAmicableOf.f x1).bind fun t321 => ((impl_AmicableOf.f k t321).bind fun bt322 => ((spec_AmicableOf.f k t321).bind fun bt324 => (if (bt313.2 != bt317.2) = true then (laws_FnDivisorsTold.j7 k bt311.1 bt311.2 bt313.1 bt313.2 t321 bt322.1 bt322.2 true) else ((laws_gSame.f k bt313.1 bt317.1).bind fun t326 => (if t326 = true then (if (bt322.2 != bt324.2) = true then (laws_FnDivisorsTold.j7 k bt311.1 bt311.2 bt313.1 bt313.2 t321 bt322.1 bt322.2 true) else (laws_FnDivisorsTold.j7 k bt311.1 bt311.2 bt313.1 bt313.2 t321 bt322.1 bt322.2 (bt322.1 != bt324.1))) else (laws_FnDivisorsTold.j7 k bt311.1 bt311.2 bt313.1 bt313.2 t321 bt322.1 bt322.2 true)))))))))
def laws_FnDivisorsTold.j7 : Nat → Int → Int → List Int → Bool → Int → Int → Bool → Bool → Option (Bool)
 | 0, _, _, _, _, _, _, _, _ => none
 | k + 1, x40, x41, x42, x43, x46, x47, x48, x378 => if x378 = true then (some false) else (if x43 = true then (if 0 < (x42.length : Int) then (if (rd x42 0) = x40 then (laws_FnDivisorsTold.j8 k x41 x42 x46 x47 x48 (decide ((x42.length : Int) > (wrap64 (x41 + 1))))) else (laws_FnDivisorsTold.j8 k x41 x42 x46 x47 x48 true)) else (none)) else (if x48 = true then (if x47 ≤ 1000000 then ((impl_AmicableOf.f k x47).bind fun bt335 => (if bt335.2 = true then (if bt335.1 = x46 then (some (x47 != x46)) else (some false)) else (some false))) else (some true)) else (some true)))
def laws_FnDivisorsTold.j8 : Nat → Int → List Int → Int → Int → Bool → Bool → Option (Bool)
 | 0, _, _, _, _, _, _ => none
 | k + 1, x41, x42, x46, x47, x48, x391 => if x391 = true then (some false) else (laws_FnDivisorsTold.l2 k x41 x42 x46 x47 x48 1)
def laws_FnDivisorsTold.l2 : Nat → Int → List Int → Int → Int → Bool → Int → Option (Bool)
 | 0, _, _, _, _, _, _ => none
 | k + 1, x41, x42, x46, x47, x48, x51 => if x51 < (x42.length : Int) then (if 0 ≤ (wrap64 (x51 - 1)) then (if (wrap64 (x51 - 1)) < (x42.length : Int) then ((impl_SumStep.f k (rd x42 (wrap64 (x51 - 1)))).bind fun bt329 => (if bt329.2 = true then (if 0 ≤ x51 then (if bt329.1 = (rd x42 x51) then (laws_FnDivisorsTold.l2 k x41 x42 x46 x47 x48 (wrap64 (x51 + 1))) else (some false)) else (none)) else (some false))) else (none)) else (none)) else (if 0 ≤ (wrap64 ((x42.length : Int) - 1)) then (if (wrap64 ((x42.length : Int) - 1)) < (x42.length : Int) then (if (x42.length : Int) < (wrap64 (x41 + 1)) then (if (rd x42 (wrap64 ((x42.length : Int) - 1))) = 0 then (laws_FnDivisorsTold.j10 k x46 x47 x48 false) else (laws_FnDivisorsTold.j10 k x46 x47 x48 (decide ((rd x42 (wrap64 ((x42.length : Int) - 1))) ≤ 1000000)))) else (laws_FnDivisorsTold.j10 k x46 x47 x48 false)) else (none)) else (none))
def laws_FnDivisorsTold.j10 : Nat → Int → Int → Bool → Bool → Option (Bool)
 | 0, _, _, _, _ => none
 | k + 1, x46, x47, x48, x435 => if x435 = true then (some false) else (if x48 = true then (if x47 ≤ 1000000 then ((impl_AmicableOf.f k x47).bind fun bt333 => (if bt333.2 = true then (if bt333.1 = x46 then (some (x47 != x46)) else (some false)) else (some false))) else (some true)) else (some true))
def laws_FnDivisorsTold.j1 : Nat → List Int → Int → List Int → Int → Int → Bool → Option (Bool)
 | 0, _, _, _, _, _, _ => none
 | k + 1, x1, x5, x6, x10, x18, x238 => if x238 = true then (some false) else (laws_FnDivisorsTold.l0 k x1 x5 x6 x10 x18 0 0 x6 (x6.length : Int) 0)
def laws_FnDivisorsTold.l0 : Nat → List Int → Int → List Int → Int → Int → Int → Int → List Int → Int → Int → Option (Bool)
 | 0, _, _, _, _, _, _, _, _, _, _ => none
 | k + 1, x1, x5, x6, x10, x18, x30, x31, x239, x240, x241 => if x241 < x240 then (if 0 ≤ x241 then (if x241 < (x239.length : Int) then (if x241 < (x6.length : Int) then (if 0 ≤ (wrap64 ((wrap64 (x10 - 1)) - x241)) then (if (wrap64 ((wrap64 (x10 - 1)) - x241)) < (x6.length : Int) then (if (wrap64 ((rd x6 x241) * (rd x6 (wrap64 ((wrap64 (x10 - 1)) - x241))))) = x5 then (if x241 > 0 then (if 0 ≤ (wrap64 (x241 - 1)) then (if (wrap64 (x241 - 1)) < (x6.length : Int) then (laws_FnDivisorsTold.j3 k x1 x5 x6 x10 x18 x30 x31 (rd x239 x241) x239 x240 x241 (decide ((rd x6 (wrap64 (x241 - 1))) ≥ (rd x239 x241)))) else (none)) else (none)) else (laws_FnDivisorsTold.j3 k x1 x5 x6 x10 x18 x30 x31 (rd x239 x241) x239 x240 x241 false)) else (laws_FnDivisorsTold.j3 k x1 x5 x6 x10 x18 x30 x31 (rd x239 x241) x239 x240 x241 true)) else (none)) else (none)) else (none)) else (none)) else (none)) else (if x30 = x5 then (if x5 > 1 then (if x31 = 0 then (if x5 = 1 then (laws_FnDivisorsTold.j4 k x1 x5 x18 (x31 != 1)) else (laws_FnDivisorsTold.j4 k x1 x5 x18 false)) else (laws_FnDivisorsTold.j4 k x1 x5 x18 true)) else (if x5 = 1 then (laws_FnDivisorsTold.j4 k x1 x5 x18 (x31 != 1)) else (laws_FnDivisorsTold.j4 k x1 x5 x18 false))) else (laws_FnDivisorsTold.j4 k x1 x5 x18 true))
def laws_FnDivisorsTold.j3 : Nat → List Int → Int → List Int → Int → Int → Int → Int → Int → List Int → Int → Int → Bool → Option (Bool)
 | 0, _, _, _, _, _, _, _, _, _, _, _, _ => none
 | k + 1, x1, x5, x6, x10, x18, x30, x31, x33, x239, x240, x241, x272 => if x272 = true then (some false) else ((impl_TotientOf.f k x33).bind fun bt306 => ((impl_MoebiusOf.f k x33).bind fun bt308 => (if bt306.2 = true then (if bt308.2 = true then (laws_FnDivisorsTold.l0 k x1 x5 x6 x10 x18 (wrap64 (x30 + bt306.1)) (wrap64 (x31 + bt308.1)) x239 x240 (wrap64 (x241 + 1))) else (some false)) else (some false))))
def laws_FnDivisorsTold.j4 : Nat → List Int → Int → Int → Bool → Option (Bool)
 | 0, _, _, _, _ => none
 | k + 1, x1, x5, x18, x314 => if x314 = true then (some false) else (if x5 ≤ 600 then (laws_FnDivisorsTold.l1 k x1 x5 x18 0 1) else (laws_FnDivisorsTold.j6 k x1))
def laws_FnDivisorsTold.l1 : Nat → List Int → Int → Int → Int → Int → Option (Bool)
 | 0, _, _, _, _, _ => none
 | k + 1, x1, x5, x18, x38, x39 => if x39 ≤ x5 then ((laws_gCommon.f k x5 x39).bind fun t310 => (if t310 = 1 then (laws_FnDivisorsTold.l1 k x1 x5 x18 (wrap64 (x38 + 1)) (wrap64 (x39 + 1))) else (laws_FnDivisorsTold.l1 k x1 x5 x18 x38 (wrap64 (x39 + 1))))) else (if x38 = x18 then (laws_FnDivisorsTold.j6 k x1) else (some false))
end
def laws_FnDivisorsTold.f (k : Nat) (l0 : List Int) (l1 : List Int) : Option (Bool) := (laws_big.f l0 l1).bind fun t268 => (if t268 = true then (some true) else ((spec_DrawDivisorsOf.f l0).bind fun t269 => ((impl_DivisorsOf.f k t269).bind fun bt270 => ((spec_DivisorsOf.f k t269).bind fun bt274 => ((impl_CountDivisors.f k t269).bind fun bt278 => ((spec_CountDivisors.f k t269).bind fun bt280 => ((impl_SumDivisors.f k t269).bind fun bt282 => ((spec_SumDivisors.f k t269).bind fun bt284 => ((impl_TotientOf.f k t269).bind fun bt286 => ((spec_TotientOf.f k t269).bind fun bt288 => ((impl_MoebiusOf.f k t269).bind fun bt290 => ((spec_MoebiusOf.f k t269).bind fun bt292 => ((impl_SumStep.f k t269).bind fun bt294 => ((spec_SumStep.f k t269).bind fun bt296 => (if (bt270.2 != bt274.2) = true then (laws_FnDivisorsTold.j0 k l1 t269 bt270.1 bt270.2 bt278.1 bt282.1 bt286.1 bt294.1 true) else ((laws_gSame.f k bt270.1 bt274.1).bind fun t298 => (if t298 = true then (if (bt278.2 != bt280.2) = true then (laws_FnDivisorsTold.j0 k l1 t269 bt270.1 bt270.2 bt278.1 bt282.1 bt286.1 bt294.1 true) else (if bt278.1 = bt280.1 then (if (bt282.2 != bt284.2) = true then (laws_FnDivisorsTold.j0 k l1 t269 bt270.1 bt270.2 bt278.1 bt282.1 bt286.1 bt294.1 true) else (if bt282.1 = bt284.1 then (if (bt286.2 != bt288.2) = true then (laws_FnDivisorsTold.j0 k l1 t269 bt270.1 bt270.2 bt278.1 bt282.1 bt286.1 bt294.1 true) else (if bt286.1 = bt288.1 then (if (bt290.2 != bt292.2) = true then (laws_FnDivisorsTold.j0 k l1 t269 bt270.1 bt270.2 bt278.1 bt282.1 bt286.1 bt294.1 true) else (if bt290.1 = bt292.1 then (if (bt294.2 != bt296.2) = true then (laws_FnDivisorsTold.j0 k l1 t269 bt270.1 bt270.2 bt278.1 bt282.1 bt286.1 bt294.1 true) else (if bt294.1 = bt296.1 then (if (bt278.2 != bt270.2) = true then (laws_FnDivisorsTold.j0 k l1 t269 bt270.1 bt270.2 bt278.1 bt282.1 bt286.1 bt294.1 true) else (if (bt282.2 != bt270.2) = true then (laws_FnDivisorsTold.j0 k l1 t269 bt270.1 bt270.2 bt278.1 bt282.1 bt286.1 bt294.1 true) else (if (bt286.2 != bt270.2) = true then (laws_FnDivisorsTold.j0 k l1 t269 bt270.1 bt270.2 bt278.1 bt282.1 bt286.1 bt294.1 true) else (if (bt290.2 != bt270.2) = true then (laws_FnDivisorsTold.j0 k l1 t269 bt270.1 bt270.2 bt278.1 bt282.1 bt286.1 bt294.1 true) else (laws_FnDivisorsTold.j0 k l1 t269 bt270.1 bt270.2 bt278.1 bt282.1 bt286.1 bt294.1 (bt294.2 != bt270.2)))))) else (laws_FnDivisorsTold.j0 k l1 t269 bt270.1 bt270.2 bt278.1 bt282.1 bt286.1 bt294.1 true))) else (laws_FnDivisorsTold.j0 k l1 t269 bt270.1 bt270.2 bt278.1 bt282.1 bt286.1 bt294.1 true))) else (laws_FnDivisorsTold.j0 k l1 t269 bt270.1 bt270.2 bt278.1 bt282.1 bt286.1 bt294.1 true))) else (laws_FnDivisorsTold.j0 k l1 t269 bt270.1 bt270.2 bt278.1 bt282.1 bt286.1 bt294.1 true))) else (laws_FnDivisorsTold.j0 k l1 t269 bt270.1 bt270.2 bt278.1 bt282.1 bt286.1 bt294.1 true))) else (laws_FnDivisorsTold.j0 k l1 t269 bt270.1 bt270.2 bt278.1 bt282.1 bt286.1 bt294.1 true))))))))))))))))))
theorem laws_FnDivisorsTold.mono_l : ∀ k, (∀ y0 y1 y2 y3 y4 y5 y6 y7 y8, LeO (laws_FnDivisorsTold.j0 k y0 y1 y2 y3 y4 y5 y6 y7 y8) (laws_FnDivisorsTold.j0 (k + 1) y0 y1 y2 y3 y4 y5 y6 y7 y8)) ∧ (∀ y0, LeO (laws_FnDivisorsTold.j6 k y0) (laws_FnDivisorsTold.j6 (k + 1) y0)) ∧ (∀ y0 y1 y2 y3 y4 y5 y6 y7, LeO (laws_FnDivisorsTold.j7 k y0 y1 y2 y3 y4 y5 y6 y7) (laws_FnDivisorsTold.j7 (k + 1) y0 y1 y2 y3 y4 y5 y6 y7)) ∧ (∀ y0 y1 y2 y3 y4 y5, LeO (laws_FnDivisorsTold.j8 k y0 y1 y2 y3 y4 y5) (laws_FnDivisorsTold.j8 (k + 1) y0 y1 y2 y3 y4 y5)) ∧ (∀ y0 y1 y2 y3 y4 y5, LeO (laws_FnDivisorsTold.l2 k y0 y1 y2 y3 y4 y5) (laws_FnDivisorsTold.l2 (k + 1) y0 y1 y2 y3 y4 y5)) ∧ (∀ y0 y1 y2 y3, LeO (laws_FnDivisorsTold.j10 k y0 y1 y2 y3) (laws_FnDivisorsTold.j10 (k + 1) y0 y1 y2 y3)) ∧ (∀ y0 y1 y2 y3 y4 y5, LeO (laws_FnDivisorsTold.j1 k y0 y1 y2 y3 y4 y5) (laws_FnDivisorsTold.j1 (k + 1) y0 y1 y2 y3 y4 y5)) ∧ (∀ y0 y1 y2 y3 y4 y5 y6 y7 y8 y9, LeO (laws_FnDivisorsTold.l0 k y0 y1 y2 y3 y4 y5 y6 y7 y8 y9) (laws_FnDivisorsTold.l0 (k + 1) y0 y1 y2 y3 y4 y5 y6 y7 y8 y9)) ∧ (∀ y0 y1 y2 y3 y4 y5 y6 y7 y8 y9 y10 y11, LeO (laws_FnDivisorsTold.j3 k y0 y1 y2 y3 y4 y5 y6 y7 y8 y9 y10 y11) (laws_FnDivisorsTold.j3 (k + 1) y0 y1 y2 y3 y4 y5 y6 y7 y8 y9 y10 y11)) ∧ (∀ y0 y1 y2 y3, LeO (laws_FnDivisorsTold.j4 k y0 y1 y2 y3) (laws_FnDivisorsTold.j4 (k + 1) y0 y1 y2 y3)) ∧ (∀ y0 y1 y2 y3 y4, LeO (laws_FnDivisorsTold.l1 k y0 y1 y2 y3 y4) (laws_FnDivisorsTold.l1 (k + 1) y0 y1 y2 y3 y4))
 | 0 => ⟨fun _ _ _ _ _ _ _ _ _ r h => by simp [laws_FnDivisorsTold.j0] at h, fun _ r h => by simp [laws_FnDivisorsTold.j6] at h, fun _ _ _ _ _ _ _ _ r h => by simp [laws_FnDivisorsTold.j7] at h, fun _ _ _ _ _ _ r h => by simp [laws_FnDivisorsTold.j8] at h, fun _ _ _ _ _ _ r h => by simp [laws_FnDivisorsTold.l2] at h, fun _ _ _ _ r h => by simp [laws_FnDivisorsTold.j10] at h, fun _ _ _ _ _ _ r h => by simp [laws_FnDivisorsTold.j1] at h, fun _ _ _ _ _ _ _ _ _ _ r h => by simp [laws_FnDivisorsTold.l0] at h, fun _ _ _ _ _ _ _ _ _ _ _ _ r h => by simp [laws_FnDivisorsTold.j3] at h, fun _ _ _ _ r h => by simp [laws_FnDivisorsTold.j4] at h, fun _ _ _ _ _ r h => by simp [laws_FnDivisorsTold.l1] at h⟩
 | k + 1 => by
  obtain ⟨ih0, ih1, ih2, ih3, ih4, ih5, ih6, ih7, ih8, ih9, ih10⟩ := laws_FnDivisorsTold.mono_l k
  refine ⟨?_, ?_, ?_, ?_, ?_, ?_, ?_, ?_, ?_, ?_, ?_⟩
  ·
   intro y0 y1 y2 y3 y4 y5 y6 y7 y8
   unfold laws_FnDivisorsTold.j0
   repeat' first
   | (with_reducible first | exact ih0 _ _ _ _ _ _ _ _ _ | exact ih1 _ | exact ih2 _ _ _ _ _ _ _ _ | exact ih3 _ _ _ _ _ _ | exact ih4 _ _ _ _ _ _ | exact ih5 _ _ _ _ | exact ih6 _ _ _ _ _ _ | exact ih7 _ _ _ _ _ _ _ _ _ _ | exact ih8 _ _ _ _ _ _ _ _ _ _ _ _ | exact ih9 _ _ _ _ | exact ih10 _ _ _ _ _ | exact impl_AmicableOf.mono _ _ | exact impl_CountDivisors.mono _ _ | exact impl_DivisorsOf.mono _ _ | exact impl_MoebiusOf.mono _ _ | exact impl_SumDivisors.mono _ _ | exact impl_SumStep.mono _ _ | exact impl_SumWay.mono _ _ _ | exact impl_TotientOf.mono _ _ | exact laws_gCommon.mono _ _ _ | exact laws_gSame.mono _ _ _ | exact laws_gSum.mono _ _ | exact spec_AmicableOf.mono _ _ | exact spec_CountDivisors.mono _ _ | exact spec_DivisorsOf.mono _ _ | exact spec_MoebiusOf.mono _ _ | exact spec_SumDivisors.mono _ _ | exact spec_SumStep.mono _ _ | exact spec_SumWay.mono _ _ _ | exact spec_TotientOf.mono _ _ | exact LeO.refl _ | exact LeO.none _ | refine LeO.ite ?_ ?_ | refine LeO.bind ?_ (fun _ => ?_))
  ·
   intro y0
   unfold laws_FnDivisorsTold.j6
   repeat' first
   | (with_reducible first | exact ih0 _ _ _ _ _ _ _ _ _ | exact ih1 _ | exact ih2 _ _ _ _ _ _ _ _ | exact ih3 _ _ _ _ _ _ | exact ih4 _ _ _ _ _ _ | exact ih5 _ _ _ _ | exact ih6 _ _ _ _ _ _ | exact ih7 _ _ _ _ _ _ _ _ _ _ | exact ih8 _ _ _ _ _ _ _ _ _ _ _ _ | exact ih9 _ _ _ _ | exact ih10 _ _ _ _ _ | exact impl_AmicableOf.mono _ _ | exact impl_CountDivisors.mono _ _ | exact impl_DivisorsOf.mono _ _ | exact impl_MoebiusOf.mono _ _ | exact impl_SumDivisors.mono _ _ | exact impl_SumStep.mono _ _ | exact impl_SumWay.mono _ _ _ | exact impl_TotientOf.mono _ _ | exact laws_gCommon.mono _ _ _ | exact laws_gSame.mono _ _ _ | exact laws_gSum.mono _ _ | exact spec_AmicableOf.mono _ _ | exact spec_CountDivisors.mono _ _ | exact spec_DivisorsOf.mono _ _ | exact spec_MoebiusOf.mono _ _ | exact spec_SumDivisors.mono _ _ | exact spec_SumStep.mono _ _ | exact spec_SumWay.mono _ _ _ | exact spec_TotientOf.mono _ _ | exact LeO.refl _ | exact LeO.none _ | refine LeO.ite ?_ ?_ | refine LeO.bind ?_ (fun _ => ?_))
  ·
   intro y0 y1 y2 y3 y4 y5 y6 y7
   unfold laws_FnDivisorsTold.j7
   repeat' first
   | (with_reducible first | exact ih0 _ _ _ _ _ _ _ _ _ | exact ih1 _ | exact ih2 _ _ _ _ _ _ _ _ | exact ih3 _ _ _ _ _ _ | exact ih4 _ _ _ _ _ _ | exact ih5 _ _ _ _ | exact ih6 _ _ _ _ _ _ | exact ih7 _ _ _ _ _ _ _ _ _ _ | exact ih8 _ _ _ _ _ _ _ _ _ _ _ _ | exact ih9 _ _ _ _ | exact ih10 _ _ _ _ _ | exact impl_AmicableOf.mono _ _ | exact impl_CountDivisors.mono _ _ | exact impl_DivisorsOf.mono _ _ | exact impl_MoebiusOf.mono _ _ | exact impl_SumDivisors.mono _ _ | exact impl_SumStep.mono _ _ | exact impl_SumWay.mono _ _ _ | exact impl_TotientOf.mono _ _ | exact laws_gCommon.mono _ _ _ | exact laws_gSame.mono _ _ _ | exact laws_gSum.mono _ _ | exact spec_AmicableOf.mono _ _ | exact spec_CountDivisors.mono _ _ | exact spec_DivisorsOf.mono _ _ | exact spec_MoebiusOf.mono _ _ | exact spec_SumDivisors.mono _ _ | exact spec_SumStep.mono _ _ | exact spec_SumWay.mono _ _ _ | exact spec_TotientOf.mono _ _ | exact LeO.refl _ | exact LeO.none _ | refine LeO.ite ?_ ?_ | refine LeO.bind ?_ (fun _ => ?_))
  ·
   intro y0 y1 y2 y3 y4 y5
   unfold laws_FnDivisorsTold.j8
   repeat' first
   | (with_reducible first | exact ih0 _ _ _ _ _ _ _ _ _ | exact ih1 _ | exact ih2 _ _ _ _ _ _ _ _ | exact ih3 _ _ _ _ _ _ | exact ih4 _ _ _ _ _ _ | exact ih5 _ _ _ _ | exact ih6 _ _ _ _ _ _ | exact ih7 _ _ _ _ _ _ _ _ _ _ | exact ih8 _ _ _ _ _ _ _ _ _ _ _ _ | exact ih9 _ _ _ _ | exact ih10 _ _ _ _ _ | exact impl_AmicableOf.mono _ _ | exact impl_CountDivisors.mono _ _ | exact impl_DivisorsOf.mono _ _ | exact impl_MoebiusOf.mono _ _ | exact impl_SumDivisors.mono _ _ | exact impl_SumStep.mono _ _ | exact impl_SumWay.mono _ _ _ | exact impl_TotientOf.mono _ _ | exact laws_gCommon.mono _ _ _ | exact laws_gSame.mono _ _ _ | exact laws_gSum.mono _ _ | exact spec_AmicableOf.mono _ _ | exact spec_CountDivisors.mono _ _ | exact spec_DivisorsOf.mono _ _ | exact spec_MoebiusOf.mono _ _ | exact spec_SumDivisors.mono _ _ | exact spec_SumStep.mono _ _ | exact spec_SumWay.mono _ _ _ | exact spec_TotientOf.mono _ _ | exact LeO.refl _ | exact LeO.none _ | refine LeO.ite ?_ ?_ | refine LeO.bind ?_ (fun _ => ?_))
  ·
   intro y0 y1 y2 y3 y4 y5
   unfold laws_FnDivisorsTold.l2
   repeat' first
   | (with_reducible first | exact ih0 _ _ _ _ _ _ _ _ _ | exact ih1 _ | exact ih2 _ _ _ _ _ _ _ _ | exact ih3 _ _ _ _ _ _ | exact ih4 _ _ _ _ _ _ | exact ih5 _ _ _ _ | exact ih6 _ _ _ _ _ _ | exact ih7 _ _ _ _ _ _ _ _ _ _ | exact ih8 _ _ _ _ _ _ _ _ _ _ _ _ | exact ih9 _ _ _ _ | exact ih10 _ _ _ _ _ | exact impl_AmicableOf.mono _ _ | exact impl_CountDivisors.mono _ _ | exact impl_DivisorsOf.mono _ _ | exact impl_MoebiusOf.mono _ _ | exact impl_SumDivisors.mono _ _ | exact impl_SumStep.mono _ _ | exact impl_SumWay.mono _ _ _ | exact impl_TotientOf.mono _ _ | exact laws_gCommon.mono _ _ _ | exact laws_gSame.mono _ _ _ | exact laws_gSum.mono _ _ | exact spec_AmicableOf.mono _ _ | exact spec_CountDivisors.mono _ _ | exact spec_DivisorsOf.mono _ _ | exact spec_MoebiusOf.mono _ _ | exact spec_SumDivisors.mono _ _ | exact spec_SumStep.mono _ _ | exact spec_SumWay.mono _ _ _ | exact spec_TotientOf.mono _ _ | exact LeO.refl _ | exact LeO.none _ | refine LeO.ite ?_ ?_ | refine LeO.bind ?_ (fun _ => ?_))
  ·
   intro y0 y1 y2 y3
   unfold laws_FnDivisorsTold.j10
   repeat' first
   | (with_reducible first | exact ih0 _ _ _ _ _ _ _ _ _ | exact ih1 _ | exact ih2 _ _ _ _ _ _ _ _ | exact ih3 _ _ _ _ _ _ | exact ih4 _ _ _ _ _ _ | exact ih5 _ _ _ _ | exact ih6 _ _ _ _ _ _ | exact ih7 _ _ _ _ _ _ _ _ _ _ | exact ih8 _ _ _ _ _ _ _ _ _ _ _ _ | exact ih9 _ _ _ _ | exact ih10 _ _ _ _ _ | exact impl_AmicableOf.mono _ _ | exact impl_CountDivisors.mono _ _ | exact impl_DivisorsOf.mono _ _ | exact impl_MoebiusOf.mono _ _ | exact impl_SumDivisors.mono _ _ | exact impl_SumStep.mono _ _ | exact impl_SumWay.mono _ _ _ | exact impl_TotientOf.mono _ _ | exact laws_gCommon.mono _ _ _ | exact laws_gSame.mono _ _ _ | exact laws_gSum.mono _ _ | exact spec_AmicableOf.mono _ _ | exact spec_CountDivisors.mono _ _ | exact spec_DivisorsOf.mono _ _ | exact spec_MoebiusOf.mono _ _ | exact spec_SumDivisors.mono _ _ | exact spec_SumStep.mono _ _ | exact spec_SumWay.mono _ _ _ | exact spec_TotientOf.mono _ _ | exact LeO.refl _ | exact LeO.none _ | refine LeO.ite ?_ ?_ | refine LeO.bind ?_ (fun _ => ?_))
  ·
   intro y0 y1 y2 y3 y4 y5
   unfold laws_FnDivisorsTold.j1
   repeat' first
   | (with_reducible first | exact ih0 _ _ _ _ _ _ _ _ _ | exact ih1 _ | exact ih2 _ _ _ _ _ _ _ _ | exact ih3 _ _ _ _ _ _ | exact ih4 _ _ _ _ _ _ | exact ih5 _ _ _ _ | exact ih6 _ _ _ _ _ _ | exact ih7 _ _ _ _ _ _ _ _ _ _ | exact ih8 _ _ _ _ _ _ _ _ _ _ _ _ | exact ih9 _ _ _ _ | exact ih10 _ _ _ _ _ | exact impl_AmicableOf.mono _ _ | exact impl_CountDivisors.mono _ _ | exact impl_DivisorsOf.mono _ _ | exact impl_MoebiusOf.mono _ _ | exact impl_SumDivisors.mono _ _ | exact impl_SumStep.mono _ _ | exact impl_SumWay.mono _ _ _ | exact impl_TotientOf.mono _ _ | exact laws_gCommon.mono _ _ _ | exact laws_gSame.mono _ _ _ | exact laws_gSum.mono _ _ | exact spec_AmicableOf.mono _ _ | exact spec_CountDivisors.mono _ _ | exact spec_DivisorsOf.mono _ _ | exact spec_MoebiusOf.mono _ _ | exact spec_SumDivisors.mono _ _ | exact spec_SumStep.mono _ _ | exact spec_SumWay.mono _ _ _ | exact spec_TotientOf.mono _ _ | exact LeO.refl _ | exact LeO.none _ | refine LeO.ite ?_ ?_ | refine LeO.bind ?_ (fun _ => ?_))
  ·
   intro y0 y1 y2 y3 y4 y5 y6 y7 y8 y9
   unfold laws_FnDivisorsTold.l0
   repeat' first
   | (with_reducible first | exact ih0 _ _ _ _ _ _ _ _ _ | exact ih1 _ | exact ih2 _ _ _ _ _ _ _ _ | exact ih3 _ _ _ _ _ _ | exact ih4 _ _ _ _ _ _ | exact ih5 _ _ _ _ | exact ih6 _ _ _ _ _ _ | exact ih7 _ _ _ _ _ _ _ _ _ _ | exact ih8 _ _ _ _ _ _ _ _ _ _ _ _ | exact ih9 _ _ _ _ | exact ih10 _ _ _ _ _ | exact impl_AmicableOf.mono _ _ | exact impl_CountDivisors.mono _ _ | exact impl_DivisorsOf.mono _ _ | exact impl_MoebiusOf.mono _ _ | exact impl_SumDivisors.mono _ _ | exact impl_SumStep.mono _ _ | exact impl_SumWay.mono _ _ _ | exact impl_TotientOf.mono _ _ | exact laws_gCommon.mono _ _ _ | exact laws_gSame.mono _ _ _ | exact laws_gSum.mono _ _ | exact spec_AmicableOf.mono _ _ | exact spec_CountDivisors.mono _ _ | exact spec_DivisorsOf.mono _ _ | exact spec_MoebiusOf.mono _ _ | exact spec_SumDivisors.mono _ _ | exact spec_SumStep.mono _ _ | exact spec_SumWay.mono _ _ _ | exact spec_TotientOf.mono _ _ | exact LeO.refl _ | exact LeO.none _ | refine LeO.ite ?_ ?_ | refine LeO.bind ?_ (fun _ => ?_))
  ·
   intro y0 y1 y2 y3 y4 y5 y6 y7 y8 y9 y10 y11
   unfold laws_FnDivisorsTold.j3
   repeat' first
   | (with_reducible first | exact ih0 _ _ _ _ _ _ _ _ _ | exact ih1 _ | exact ih2 _ _ _ _ _ _ _ _ | exact ih3 _ _ _ _ _ _ | exact ih4 _ _ _ _ _ _ | exact ih5 _ _ _ _ | exact ih6 _ _ _ _ _ _ | exact ih7 _ _ _ _ _ _ _ _ _ _ | exact ih8 _ _ _ _ _ _ _ _ _ _ _ _ | exact ih9 _ _ _ _ | exact ih10 _ _ _ _ _ | exact impl_AmicableOf.mono _ _ | exact impl_CountDivisors.mono _ _ | exact impl_DivisorsOf.mono _ _ | exact impl_MoebiusOf.mono _ _ | exact impl_SumDivisors.mono _ _ | exact impl_SumStep.mono _ _ | exact impl_SumWay.mono _ _ _ | exact impl_TotientOf.mono _ _ | exact laws_gCommon.mono _ _ _ | exact laws_gSame.mono _ _ _ | exact laws_gSum.mono _ _ | exact spec_AmicableOf.mono _ _ | exact spec_CountDivisors.mono _ _ | exact spec_DivisorsOf.mono _ _ | exact spec_MoebiusOf.mono _ _ | exact spec_SumDivisors.mono _ _ | exact spec_SumStep.mono _ _ | exact spec_SumWay.mono _ _ _ | exact spec_TotientOf.mono _ _ | exact LeO.refl _ | exact LeO.none _ | refine LeO.ite ?_ ?_ | refine LeO.bind ?_ (fun _ => ?_))
  ·
   intro y0 y1 y2 y3
   unfold laws_FnDivisorsTold.j4
   repeat' first
   | (with_reducible first | exact ih0 _ _ _ _ _ _ _ _ _ | exact ih1 _ | exact ih2 _ _ _ _ _ _ _ _ | exact ih3 _ _ _ _ _ _ | exact ih4 _ _ _ _ _ _ | exact ih5 _ _ _ _ | exact ih6 _ _ _ _ _ _ | exact ih7 _ _ _ _ _ _ _ _ _ _ | exact ih8 _ _ _ _ _ _ _ _ _ _ _ _ | exact ih9 _ _ _ _ | exact ih10 _ _ _ _ _ | exact impl_AmicableOf.mono _ _ | exact impl_CountDivisors.mono _ _ | exact impl_DivisorsOf.mono _ _ | exact impl_MoebiusOf.mono _ _ | exact impl_SumDivisors.mono _ _ | exact impl_SumStep.mono _ _ | exact impl_SumWay.mono _ _ _ | exact impl_TotientOf.mono _ _ | exact laws_gCommon.mono _ _ _ | exact laws_gSame.mono _ _ _ | exact laws_gSum.mono _ _ | exact spec_AmicableOf.mono _ _ | exact spec_CountDivisors.mono _ _ | exact spec_DivisorsOf.mono _ _ | exact spec_MoebiusOf.mono _ _ | exact spec_SumDivisors.mono _ _ | exact spec_SumStep.mono _ _ | exact spec_SumWay.mono _ _ _ | exact spec_TotientOf.mono _ _ | exact LeO.refl _ | exact LeO.none _ | refine LeO.ite ?_ ?_ | refine LeO.bind ?_ (fun _ => ?_))
  ·
   intro y0 y1 y2 y3 y4
   unfold laws_FnDivisorsTold.l1
   repeat' first
   | (with_reducible first | exact ih0 _ _ _ _ _ _ _ _ _ | exact ih1 _ | exact ih2 _ _ _ _ _ _ _ _ | exact ih3 _ _ _ _ _ _ | exact ih4 _ _ _ _ _ _ | exact ih5 _ _ _ _ | exact ih6 _ _ _ _ _ _ | exact ih7 _ _ _ _ _ _ _ _ _ _ | exact ih8 _ _ _ _ _ _ _ _ _ _ _ _ | exact ih9 _ _ _ _ | exact ih10 _ _ _ _ _ | exact impl_AmicableOf.mono _ _ | exact impl_CountDivisors.mono _ _ | exact impl_DivisorsOf.mono _ _ | exact impl_MoebiusOf.mono _ _ | exact impl_SumDivisors.mono _ _ | exact impl_SumStep.mono _ _ | exact impl_SumWay.mono _ _ _ | exact impl_TotientOf.mono _ _ | exact laws_gCommon.mono _ _ _ | exact laws_gSame.mono _ _ _ | exact laws_gSum.mono _ _ | exact spec_AmicableOf.mono _ _ | exact spec_CountDivisors.mono _ _ | exact spec_DivisorsOf.mono _ _ | exact spec_MoebiusOf.mono _ _ | exact spec_SumDivisors.mono _ _ | exact spec_SumStep.mono _ _ | exact spec_SumWay.mono _ _ _ | exact spec_TotientOf.mono _ _ | exact LeO.refl _ | exact LeO.none _ | refine LeO.ite ?_ ?_ | refine LeO.bind ?_ (fun _ => ?_))
theorem laws_FnDivisorsTold.mono : ∀ a0 a1 k, LeO (laws_FnDivisorsTold.f k a0 a1) (laws_FnDivisorsTold.f (k + 1) a0 a1) := by
 intro a0 a1 k
 obtain ⟨ih0, ih1, ih2, ih3, ih4, ih5, ih6, ih7, ih8, ih9, ih10⟩ := laws_FnDivisorsTold.mono_l k
 unfold laws_FnDivisorsTold.f
 repeat' first
   | (with_reducible first | exact ih0 _ _ _ _ _ _ _ _ _ | exact ih1 _ | exact ih2 _ _ _ _ _ _ _ _ | exact ih3 _ _ _ _ _ _ | exact ih4 _ _ _ _ _ _ | exact ih5 _ _ _ _ | exact ih6 _ _ _ _ _ _ | exact ih7 _ _ _ _ _ _ _ _ _ _ | exact ih8 _ _ _ _ _ _ _ _ _ _ _ _ | exact ih9 _ _ _ _ | exact ih10 _ _ _ _ _ | exact impl_AmicableOf.mono _ _ | exact impl_CountDivisors.mono _ _ | exact impl_DivisorsOf.mono _ _ | exact impl_MoebiusOf.mono _ _ | exact impl_SumDivisors.mono _ _ | exact impl_SumStep.mono _ _ | exact impl_SumWay.mono _ _ _ | exact impl_TotientOf.mono _ _ | exact laws_gCommon.mono _ _ _ | exact laws_gSame.mono _ _ _ | exact laws_gSum.mono _ _ | exact spec_AmicableOf.mono _ _ | exact spec_CountDivisors.mono _ _ | exact spec_DivisorsOf.mono _ _ | exact spec_MoebiusOf.mono _ _ | exact spec_SumDivisors.mono _ _ | exact spec_SumStep.mono _ _ | exact spec_SumWay.mono _ _ _ | exact spec_TotientOf.mono _ _ | exact LeO.refl _ | exact LeO.none _ | refine LeO.ite ?_ ?_ | refine LeO.bind ?_ (fun _ => ?_))
theorem laws_FnDivisorsTold.j0_no : ∀ k y0 y1 y2 y3 y4 y5 y6 y7, laws_FnDivisorsTold.j0 k y0 y1 y2 y3 y4 y5 y6 y7 true = some true → False := by
 intro k y0 y1 y2 y3 y4 y5 y6 y7 h
 cases k with
 | zero => simp [laws_FnDivisorsTold.j0] at h
 | succ k => simp [laws_FnDivisorsTold.j0] at h
theorem laws_FnDivisorsTold.j7_no : ∀ k y0 y1 y2 y3 y4 y5 y6, laws_FnDivisorsTold.j7 k y0 y1 y2 y3 y4 y5 y6 true = some true → False := by
 intro k y0 y1 y2 y3 y4 y5 y6 h
 cases k with
 | zero => simp [laws_FnDivisorsTold.j7] at h
 | succ k => simp [laws_FnDivisorsTold.j7] at h
theorem laws_FnDivisorsTold.j8_no : ∀ k y0 y1 y2 y3 y4, laws_FnDivisorsTold.j8 k y0 y1 y2 y3 y4 true = some true → False := by
 intro k y0 y1 y2 y3 y4 h
 cases k with
 | zero => simp [laws_FnDivisorsTold.j8] at h
 | succ k => simp [laws_FnDivisorsTold.j8] at h
theorem laws_FnDivisorsTold.j10_no : ∀ k y0 y1 y2, laws_FnDivisorsTold.j10 k y0 y1 y2 true = some true → False := by
 intro k y0 y1 y2 h
 cases k with
 | zero => simp [laws_FnDivisorsTold.j10] at h
 | succ k => simp [laws_FnDivisorsTold.j10] at h
theorem laws_FnDivisorsTold.j1_no : ∀ k y0 y1 y2 y3 y4, laws_FnDivisorsTold.j1 k y0 y1 y2 y3 y4 true = some true → False := by
 intro k y0 y1 y2 y3 y4 h
 cases k with
 | zero => simp [laws_FnDivisorsTold.j1] at h
 | succ k => simp [laws_FnDivisorsTold.j1] at h
theorem laws_FnDivisorsTold.j3_no : ∀ k y0 y1 y2 y3 y4 y5 y6 y7 y8 y9 y10, laws_FnDivisorsTold.j3 k y0 y1 y2 y3 y4 y5 y6 y7 y8 y9 y10 true = some true → False := by
 intro k y0 y1 y2 y3 y4 y5 y6 y7 y8 y9 y10 h
 cases k with
 | zero => simp [laws_FnDivisorsTold.j3] at h
 | succ k => simp [laws_FnDivisorsTold.j3] at h
theorem laws_FnDivisorsTold.j4_no : ∀ k y0 y1 y2, laws_FnDivisorsTold.j4 k y0 y1 y2 true = some true → False := by
 intro k y0 y1 y2 h
 cases k with
 | zero => simp [laws_FnDivisorsTold.j4] at h
 | succ k => simp [laws_FnDivisorsTold.j4] at h
/-- A frame of which some slots (by two masks) hold whatever u says. -/
def cutFgt (u : Nat → Value) : List (Option Nat) → List Value → List Value
 | some n :: m, _ :: l => u n :: cutFgt u m l
 | none :: m, v :: l => v :: cutFgt u m l
 | _, l => l
theorem cutF {P : Program} {s : Code} {K : Act → World → Prop} {Q' : Exit → Act → World → Prop} {w : World} {L : List Value} {fr} (m m2 : List (Option Nat)) (R : (Nat → Value) → World → Prop)
  (first : ∀ (J K' : Act → World → Prop), (∀ u w', R u w' → J ⟨(cutFgt u m2 (cutFgt u m L)).toArray, fr⟩ w') → (∀ a' w', Met J a' w' → K' a' w') → s.wp P (Exit.then K' Q') ⟨L.toArray, fr⟩ w)
  (rest : ∀ u w', R u w' → K ⟨(cutFgt u m2 (cutFgt u m L)).toArray, fr⟩ w') : s.wp P (Exit.then K Q') ⟨L.toArray, fr⟩ w := by
 refine wp_cut (fun a' w' => ∃ u, R u w' ∧ a' = ⟨(cutFgt u m2 (cutFgt u m L)).toArray, fr⟩) ?_ ?_
 ·
  rintro _ w' ⟨u, h, rfl⟩
  exact rest u w' h
 ·
  intro J K' h1 h2
  exact first J K' (fun u w' h => h1 _ _ ⟨u, h, rfl⟩) h2
theorem cutMeet {J : Act → World → Prop} {R : (Nat → Value) → World → Prop} {m m2 : List (Option Nat)} {L0 L : List Value} {fr} {w' : World} (h : ∀ u w', R u w' → J ⟨(cutFgt u m2 (cutFgt u m L0)).toArray, fr⟩ w') (hr : R (fun n => L.getD n (.bool false)) w') (he : cutFgt (fun n => L.getD n (.bool false)) m2 (cutFgt (fun n => L.getD n (.bool false)) m L0) = L) : Met J ⟨L.toArray, fr⟩ w' := by
 have := h _ _ hr
 rw [he] at this
 exact this
def mk0 : List (Option Nat) := [none, none, none, none, none, none, none, none, none, none, none, none, none, none, none, none, none, none, none, none, none, none, none, none, none, none, none, none, none, none, none, none, none, none, none, none, none, none, none, none, none, none, none, none, none, none, none, none, none, none, none, none, none, none, none, none, none, some 57, some 58, some 59, some 60, some 61, some 62, some 63, some 64, some 65, some 66, some 67, some 68, some 69, some 70, some 71, some 72, some 73, some 74, some 75, some 76, some 77, some 78, some 79, some 80, some 81, some 82, some 83, some 84, some 85, some 86, some 87, some 88, some 89, some 90, some 91, some 92, some 93, some 94, some 95, some 96, some 97, some 98, some 99, some 100, some 101, some 102, some 103, some 104, some 105, some 106, some 107, some 108, some 109, some 110, some 111, some 112, some 113, some 114, some 115, some 116, some 117, some 118, some 119, some 120, some 121, some 122, some 123, some 124, some 125, some 126, some 127, some 128, some 129, some 130, some 131, some 132, some 133, some 134, some 135, some 136, some 137, some 138, some 139, some 140, some 141, some 142, some 143, some 144, some 145, some 146, some 147, some 148, some 149, some 150, some 151, some 152, some 153, some 154, some 155, some 156, some 157, some 158, some 159, some 160, some 161, some 162, some 163, some 164, some 165, some 166, some 167, some 168, some 169, some 170, some 171, some 172, some 173, some 174, some 175, some 176, some 177, some 178, some 179, some 180, some 181, some 182, some 183, some 184, some 185, some 186, some 187, some 188, some 189, some 190, some 191, some 192, some 193, some 194, some 195, some 196, some 197, some 198, some 199, some 200, some 201, some 202, some 203, some 204, some 205, some 206, some 207, some 208, some 209, some 210, some 211, some 212, some 213, some 214, some 215, some 216, some 217, some 218, some 219, some 220, some 221, some 222, some 223, some 224, some 225, some 226, some 227, some 228, some 229, some 230, some 231, some 232, some 233, some 234, some 235, some 236, some 237, some 238, none, none, none, some 242, some 243, some 244, some 245, some 246, some 247, some 248, some 249, some 250, some 251, some 252, some 253, some 254, some 255, some 256, some 257, some 258, some 259, some 260, some 261, some 262, some 263, some 264, some 265, some 266, some 267, some 268, some 269, some 270, some 271, some 272, some 273, some 274, some 275, some 276, some 277, some 278, some 279, some 280, some 281, some 282, some 283, some 284, some 285, some 286, some 287, some 288, some 289, some 290, some 291, some 292, some 293, some 294, some 295, some 296, some 297, some 298, some 299, some 300, some 301, some 302, some 303, some 304, some 305, some 306, some 307, some 308, some 309, some 310, some 311, some 312, some 313, some 314, some 315, some 316, some 317, some 318, some 319, some 320, some 321, some 322, some 323, some 324, some 325, some 326, some 327, some 328, some 329, some 330, some 331, some 332, some 333, some 334, some 335, some 336, some 337, some 338, some 339, some 340, some 341, some 342, some 343, some 344, some 345, some 346, some 347, some 348, some 349, some 350, some 351, some 352, some 353, some 354, some 355, some 356, some 357, some 358, some 359, some 360, some 361, some 362, some 363, some 364, some 365, some 366, some 367, some 368, some 369, some 370, some 371, some 372, some 373, some 374, some 375, some 376, some 377, some 378, some 379, some 380, some 381, some 382, some 383, some 384, some 385, some 386, some 387, some 388, some 389, some 390, some 391, some 392, some 393, some 394, some 395, some 396, some 397, some 398, some 399, some 400, some 401, some 402, some 403, some 404, some 405, some 406, some 407, some 408, some 409, some 410, some 411, some 412, some 413, some 414, some 415, some 416, some 417, some 418, some 419, some 420, some 421, some 422, some 423, some 424, some 425, some 426, some 427, some 428, some 429, some 430, some 431, some 432, some 433, some 434, some 435, some 436, some 437, some 438, some 439, some 440, some 441, some 442, some 443, some 444, some 445, some 446, some 447, some 448, some 449, some 450, some 451, some 452, some 453, some 454, some 455, some 456]
def mk1 : List (Option Nat) := [none, none, none, none, none, none, none, none, none, none, none, none, none, none, none, none, none, none, none, none, none, none, none, none, none, none, none, none, none, none, none, none, none, none, none, none, none, none, none, none, none, none, none, none, none, none, none, none, none, none, none, none, none, none, none, none, none, none, none, none, none, none, none, none, none, none, none, none, none, none, none, none, none, none, none, none, none, none, none, none, none, none, none, none, none, none, none, none, none, none, none, none, none, none, none, none, none, none, none, none, none, none, none, none, none, none, none, none, none, none, none, none, none, none, none, none, none, none, none, none, none, none, none, none, none, none, none, none, none, none, none, none, none, none, none, none, none, none, none, none, none, none, none, none, none, none, none, none, none, none, none, none, none, none, none, none, none, none, none, none, none, none, none, none, none, none, none, none, none, none, none, none, none, none, none, none, none, none, none, none, none, none, none, none, none, none, none, none, none, none, none, none, none, none, none, none, none, none, none, none, none, none, none, none, none, none, none, none, none, none, none, none, none, none, none, none, none, none, none, none, none, none, none, none, none, none, none, none, none, none, none, none, none, none, none, none, none, none, none, none, none, none, some 242, some 243, some 244, some 245, some 246, some 247, some 248, some 249, some 250, some 251, some 252, some 253, some 254, some 255, some 256, some 257, some 258, some 259, some 260, some 261, some 262, some 263, some 264, some 265, some 266, some 267, some 268, some 269, some 270, some 271, some 272, some 273, some 274, some 275, some 276, some 277, some 278, some 279, some 280, some 281, some 282, some 283, some 284, some 285, some 286, some 287, some 288, some 289, some 290, some 291, some 292, some 293, some 294, some 295, none, none, none, none, none, none, none, none, none, none, none, none, none, none, none, none, none, none, none, none, none, none, none, none, none, none, none, none, none, none, none, none, none, none, none, none, none, none, none, none, none, none, none, none, none, none, none, none, none, none, none, none, none, none, none, none, none, none, none, none, none, none, none, none, none, none, none, none, none, none, none, none, none, none, none, none, none, none, none, none, none, none, none, none, none, none, none, none, none, none, none, none, none, none, none, none, none, none, none, none, none, none, none, none, none, none, none, none, none, none, none, none, none, none, none, none, none, none, none, none, none, none, none, none, none, none, none, none, none, none, none, none, none, none, none, none, none, none, none, none, none, none, none, none, none, none, none, none, none, none, none, none, none, none, none, none, none, none, none, none, none]
set_option maxHeartbeats 200000000 in
set_option maxRecDepth 100000 in
theorem laws_FnDivisorsTold.calls (k : Nat) (A0 : Option Addr) (c0 : Nat) (l0 : List Int) (A1 : Option Addr) (c1 : Nat) (l1 : List Int) (r : Bool) (w : World) (hr0 : Kd.C (Kd.int .u8) w A0 l0.length l0) (hc0 : l0.length ≤ c0) (hr1 : Kd.C (Kd.int .u8) w A1 l1.length l1) (hc1 : l1.length ≤ c1) (h : laws_FnDivisorsTold.f k l0 l1 = some r) (hr_ : r = true) :
  Calls Try.prog 7 #[.slice A0 l0.length c0, .slice A1 l1.length c1] w fun e w' => e = .returned (.bool r) ∧ Below w.heap.size w w' := by
 have HRT := Aside0.mk hr_
 clear hr_
 have HR0 := Aside0.mk hr0
 have HC0 := Aside0.mk hc0
 clear hr0 hc0
 have HR1 := Aside0.mk hr1
 have HC1 := Aside0.mk hc1
 clear hr1 hc1
 have HB := Aside0.mk (Below.refl w.heap.size w)
 have H : ((laws_big.f l0 l1).bind fun t268 => (if t268 = true then (some true) else ((spec_DrawDivisorsOf.f l0).bind fun t269 => ((impl_DivisorsOf.f k t269).bind fun bt270 => ((spec_DivisorsOf.f k t269).bind fun bt274 => ((impl_CountDivisors.f k t269).bind fun bt278 => ((spec_CountDivisors.f k t269).bind fun bt280 => ((impl_SumDivisors.f k t269).bind fun bt282 => ((spec_SumDivisors.f k t269).bind fun bt284 => ((impl_TotientOf.f k t269).bind fun bt286 => ((spec_TotientOf.f k t269).bind fun bt288 => ((impl_MoebiusOf.f k t269).bind fun bt290 => ((spec_MoebiusOf.f k t269).bind fun bt292 => ((impl_SumStep.f k t269).bind fun bt294 => ((spec_SumStep.f k t269).bind fun bt296 => (if (bt270.2 != bt274.2) = true then (laws_FnDivisorsTold.j0 k l1 t269 bt270.1 bt270.2 bt278.1 bt282.1 bt286.1 bt294.1 true) else ((laws_gSame.f k bt270.1 bt274.1).bind fun t298 => (if t298 = true then (if (bt278.2 != bt280.2) = true then (laws_FnDivisorsTold.j0 k l1 t269 bt270.1 bt270.2 bt278.1 bt282.1 bt286.1 bt294.1 true) else (if bt278.1 = bt280.1 then (if (bt282.2 != bt284.2) = true then (laws_FnDivisorsTold.j0 k l1 t269 bt270.1 bt270.2 bt278.1 bt282.1 bt286.1 bt294.1 true) else (if bt282.1 = bt284.1 then (if (bt286.2 != bt288.2) = true then (laws_FnDivisorsTold.j0 k l1 t269 bt270.1 bt270.2 bt278.1 bt282.1 bt286.1 bt294.1 true) else (if bt286.1 = bt288.1 then (if (bt290.2 != bt292.2) = true then (laws_FnDivisorsTold.j0 k l1 t269 bt270.1 bt270.2 bt278.1 bt282.1 bt286.1 bt294.1 true) else (if bt290.1 = bt292.1 then (if (bt294.2 != bt296.2) = true then (laws_FnDivisorsTold.j0 k l1 t269 bt270.1 bt270.2 bt278.1 bt282.1 bt286.1 bt294.1 true) else (if bt294.1 = bt296.1 then (if (bt278.2 != bt270.2) = true then (laws_FnDivisorsTold.j0 k l1 t269 bt270.1 bt270.2 bt278.1 bt282.1 bt286.1 bt294.1 true) else (if (bt282.2 != bt270.2) = true then (laws_FnDivisorsTold.j0 k l1 t269 bt270.1 bt270.2 bt278.1 bt282.1 bt286.1 bt294.1 true) else (if (bt286.2 != bt270.2) = true then (laws_FnDivisorsTold.j0 k l1 t269 bt270.1 bt270.2 bt278.1 bt282.1 bt286.1 bt294.1 true) else (if (bt290.2 != bt270.2) = true then (laws_FnDivisorsTold.j0 k l1 t269 bt270.1 bt270.2 bt278.1 bt282.1 bt286.1 bt294.1 true) else (laws_FnDivisorsTold.j0 k l1 t269 bt270.1 bt270.2 bt278.1 bt282.1 bt286.1 bt294.1 (bt294.2 != bt270.2)))))) else (laws_FnDivisorsTold.j0 k l1 t269 bt270.1 bt270.2 bt278.1 bt282.1 bt286.1 bt294.1 true))) else (laws_FnDivisorsTold.j0 k l1 t269 bt270.1 bt270.2 bt278.1 bt282.1 bt286.1 bt294.1 true))) else (laws_FnDivisorsTold.j0 k l1 t269 bt270.1 bt270.2 bt278.1 bt282.1 bt286.1 bt294.1 true))) else (laws_FnDivisorsTold.j0 k l1 t269 bt270.1 bt270.2 bt278.1 bt282.1 bt286.1 bt294.1 true))) else (laws_FnDivisorsTold.j0 k l1 t269 bt270.1 bt270.2 bt278.1 bt282.1 bt286.1 bt294.1 true))) else (laws_FnDivisorsTold.j0 k l1 t269 bt270.1 bt270.2 bt278.1 bt282.1 bt286.1 bt294.1 true))))))))))))))))))) = some r := h
 clear h
 replace H := Option.bind_eq_some_iff.mp H
 obtain ⟨t268, A30, H⟩ := H
 replace H : (if t268 = true then (some true) else ((spec_DrawDivisorsOf.f l0).bind fun t269 => ((impl_DivisorsOf.f k t269).bind fun bt270 => ((spec_DivisorsOf.f k t269).bind fun bt274 => ((impl_CountDivisors.f k t269).bind fun bt278 => ((spec_CountDivisors.f k t269).bind fun bt280 => ((impl_SumDivisors.f k t269).bind fun bt282 => ((spec_SumDivisors.f k t269).bind fun bt284 => ((impl_TotientOf.f k t269).bind fun bt286 => ((spec_TotientOf.f k t269).bind fun bt288 => ((impl_MoebiusOf.f k t269).bind fun bt290 => ((spec_MoebiusOf.f k t269).bind fun bt292 => ((impl_SumStep.f k t269).bind fun bt294 => ((spec_SumStep.f k t269).bind fun bt296 => (if (bt270.2 != bt274.2) = true then (laws_FnDivisorsTold.j0 k l1 t269 bt270.1 bt270.2 bt278.1 bt282.1 bt286.1 bt294.1 true) else ((laws_gSame.f k bt270.1 bt274.1).bind fun t298 => (if t298 = true then (if (bt278.2 != bt280.2) = true then (laws_FnDivisorsTold.j0 k l1 t269 bt270.1 bt270.2 bt278.1 bt282.1 bt286.1 bt294.1 true) else (if bt278.1 = bt280.1 then (if (bt282.2 != bt284.2) = true then (laws_FnDivisorsTold.j0 k l1 t269 bt270.1 bt270.2 bt278.1 bt282.1 bt286.1 bt294.1 true) else (if bt282.1 = bt284.1 then (if (bt286.2 != bt288.2) = true then (laws_FnDivisorsTold.j0 k l1 t269 bt270.1 bt270.2 bt278.1 bt282.1 bt286.1 bt294.1 true) else (if bt286.1 = bt288.1 then (if (bt290.2 != bt292.2) = true then (laws_FnDivisorsTold.j0 k l1 t269 bt270.1 bt270.2 bt278.1 bt282.1 bt286.1 bt294.1 true) else (if bt290.1 = bt292.1 then (if (bt294.2 != bt296.2) = true then (laws_FnDivisorsTold.j0 k l1 t269 bt270.1 bt270.2 bt278.1 bt282.1 bt286.1 bt294.1 true) else (if bt294.1 = bt296.1 then (if (bt278.2 != bt270.2) = true then (laws_FnDivisorsTold.j0 k l1 t269 bt270.1 bt270.2 bt278.1 bt282.1 bt286.1 bt294.1 true) else (if (bt282.2 != bt270.2) = true then (laws_FnDivisorsTold.j0 k l1 t269 bt270.1 bt270.2 bt278.1 bt282.1 bt286.1 bt294.1 true) else (if (bt286.2 != bt270.2) = true then (laws_FnDivisorsTold.j0 k l1 t269 bt270.1 bt270.2 bt278.1 bt282.1 bt286.1 bt294.1 true) else (if (bt290.2 != bt270.2) = true then (laws_FnDivisorsTold.j0 k l1 t269 bt270.1 bt270.2 bt278.1 bt282.1 bt286.1 bt294.1 true) else (laws_FnDivisorsTold.j0 k l1 t269 bt270.1 bt270.2 bt278.1 bt282.1 bt286.1 bt294.1 (bt294.2 != bt270.2)))))) else (laws_FnDivisorsTold.j0 k l1 t269 bt270.1 bt270.2 bt278.1 bt282.1 bt286.1 bt294.1 true))) else (laws_FnDivisorsTold.j0 k l1 t269 bt270.1 bt270.2 bt278.1 bt282.1 bt286.1 bt294.1 true))) else (laws_FnDivisorsTold.j0 k l1 t269 bt270.1 bt270.2 bt278.1 bt282.1 bt286.1 bt294.1 true))) else (laws_FnDivisorsTold.j0 k l1 t269 bt270.1 bt270.2 bt278.1 bt282.1 bt286.1 bt294.1 true))) else (laws_FnDivisorsTold.j0 k l1 t269 bt270.1 bt270.2 bt278.1 bt282.1 bt286.1 bt294.1 true))) else (laws_FnDivisorsTold.j0 k l1 t269 bt270.1 bt270.2 bt278.1 bt282.1 bt286.1 bt294.1 true)))))))))))))))))) = some r := H
 have A3 := Aside0.mk A30
 clear A30
 by_cases c4 : t268 = true
 ·
  subst c4
  have H1 : (some true) = some r := by rw [if_pos rfl] at H; exact H
  clear H
  have H := H1
  clear H1
  first
  | exact absurd (Option.some.inj (H.trans (congrArg some HRT.out))) Bool.false_ne_true
  |
   obtain rfl := Option.some.inj H
   go_enter Try.func7, Try.ntmps7
   go_wp2_with (first | (go_at_call 11; (with_reducible refine (laws_big.calls _ _ l0 _ _ l1 true _ ?side1 ?side2 ?side3 ?side4 A3.out).mono ?_); (case side1 => repeat (first | exact HR0.out | (with_reducible refine Kd.C_alloc ?_ _) | (with_reducible refine Kd.C_drewN ?_ _) | (with_reducible refine Kd.C_drew ?_))); (case side2 => exact HC0.out); (case side3 => repeat (first | exact HR1.out | (with_reducible refine Kd.C_alloc ?_ _) | (with_reducible refine Kd.C_drewN ?_ _) | (with_reducible refine Kd.C_drew ?_))); (case side4 => exact HC1.out); rintro e w' ⟨rfl, ⟨nd, rfl⟩⟩; (try first | exact ⟨rfl, _, World.drewN_drewN _ _ _⟩ | exact ⟨rfl, _, Eq.trans (World.drewN_drewN _ _ _) (congrArg (World.drewN _) (Nat.add_assoc _ _ _))⟩)))
   repeat (go_quiet (first | (go_at_call 11; (with_reducible refine (laws_big.calls _ _ l0 _ _ l1 true _ ?side1 ?side2 ?side3 ?side4 A3.out).mono ?_); (case side1 => repeat (first | exact HR0.out | (with_reducible refine Kd.C_alloc ?_ _) | (with_reducible refine Kd.C_drewN ?_ _) | (with_reducible refine Kd.C_drew ?_))); (case side2 => exact HC0.out); (case side3 => repeat (first | exact HR1.out | (with_reducible refine Kd.C_alloc ?_ _) | (with_reducible refine Kd.C_drewN ?_ _) | (with_reducible refine Kd.C_drew ?_))); (case side4 => exact HC1.out); rintro e w' ⟨rfl, ⟨nd, rfl⟩⟩; (try first | exact ⟨rfl, _, World.drewN_drewN _ _ _⟩ | exact ⟨rfl, _, Eq.trans (World.drewN_drewN _ _ _) (congrArg (World.drewN _) (Nat.add_assoc _ _ _))⟩))); try go_wp2_with (first | (go_at_call 11; (with_reducible refine (laws_big.calls _ _ l0 _ _ l1 true _ ?side1 ?side2 ?side3 ?side4 A3.out).mono ?_); (case side1 => repeat (first | exact HR0.out | (with_reducible refine Kd.C_alloc ?_ _) | (with_reducible refine Kd.C_drewN ?_ _) | (with_reducible refine Kd.C_drew ?_))); (case side2 => exact HC0.out); (case side3 => repeat (first | exact HR1.out | (with_reducible refine Kd.C_alloc ?_ _) | (with_reducible refine Kd.C_drewN ?_ _) | (with_reducible refine Kd.C_drew ?_))); (case side4 => exact HC1.out); rintro e w' ⟨rfl, ⟨nd, rfl⟩⟩; (try first | exact ⟨rfl, _, World.drewN_drewN _ _ _⟩ | exact ⟨rfl, _, Eq.trans (World.drewN_drewN _ _ _) (congrArg (World.drewN _) (Nat.add_assoc _ _ _))⟩))))
   go_ret
   exact ⟨by first | rfl | (simp [errW_none, errW_some] <;> rfl) | (simp [*, errW_none, errW_some] <;> rfl), by repeat (first | (with_reducible first | exact HB.out | apply below_alloc | apply pw_below_drewN | apply below_drew1))⟩
 ·
  replace c4 := Bool.eq_false_iff.mpr c4
  subst c4
  have H1 : ((spec_DrawDivisorsOf.f l0).bind fun t269 => ((impl_DivisorsOf.f k t269).bind fun bt270 => ((spec_DivisorsOf.f k t269).bind fun bt274 => ((impl_CountDivisors.f k t269).bind fun bt278 => ((spec_CountDivisors.f k t269).bind fun bt280 => ((impl_SumDivisors.f k t269).bind fun bt282 => ((spec_SumDivisors.f k t269).bind fun bt284 => ((impl_TotientOf.f k t269).bind fun bt286 => ((spec_TotientOf.f k t269).bind fun bt288 => ((impl_MoebiusOf.f k t269).bind fun bt290 => ((spec_MoebiusOf.f k t269).bind fun bt292 => ((impl_SumStep.f k t269).bind fun bt294 => ((spec_SumStep.f k t269).bind fun bt296 => (if (bt270.2 != bt274.2) = true then (laws_FnDivisorsTold.j0 k l1 t269 bt270.1 bt270.2 bt278.1 bt282.1 bt286.1 bt294.1 true) else ((laws_gSame.f k bt270.1 bt274.1).bind fun t298 => (if t298 = true then (if (bt278.2 != bt280.2) = true then (laws_FnDivisorsTold.j0 k l1 t269 bt270.1 bt270.2 bt278.1 bt282.1 bt286.1 bt294.1 true) else (if bt278.1 = bt280.1 then (if (bt282.2 != bt284.2) = true then (laws_FnDivisorsTold.j0 k l1 t269 bt270.1 bt270.2 bt278.1 bt282.1 bt286.1 bt294.1 true) else (if bt282.1 = bt284.1 then (if (bt286.2 != bt288.2) = true then (laws_FnDivisorsTold.j0 k l1 t269 bt270.1 bt270.2 bt278.1 bt282.1 bt286.1 bt294.1 true) else (if bt286.1 = bt288.1 then (if (bt290.2 != bt292.2) = true then (laws_FnDivisorsTold.j0 k l1 t269 bt270.1 bt270.2 bt278.1 bt282.1 bt286.1 bt294.1 true) else (if bt290.1 = bt292.1 then (if (bt294.2 != bt296.2) = true then (laws_FnDivisorsTold.j0 k l1 t269 bt270.1 bt270.2 bt278.1 bt282.1 bt286.1 bt294.1 true) else (if bt294.1 = bt296.1 then (if (bt278.2 != bt270.2) = true then (laws_FnDivisorsTold.j0 k l1 t269 bt270.1 bt270.2 bt278.1 bt282.1 bt286.1 bt294.1 true) else (if (bt282.2 != bt270.2) = true then (laws_FnDivisorsTold.j0 k l1 t269 bt270.1 bt270.2 bt278.1 bt282.1 bt286.1 bt294.1 true) else (if (bt286.2 != bt270.2) = true then (laws_FnDivisorsTold.j0 k l1 t269 bt270.1 bt270.2 bt278.1 bt282.1 bt286.1 bt294.1 true) else (if (bt290.2 != bt270.2) = true then (laws_FnDivisorsTold.j0 k l1 t269 bt270.1 bt270.2 bt278.1 bt282.1 bt286.1 bt294.1 true) else (laws_FnDivisorsTold.j0 k l1 t269 bt270.1 bt270.2 bt278.1 bt282.1 bt286.1 bt294.1 (bt294.2 != bt270.2)))))) else (laws_FnDivisorsTold.j0 k l1 t269 bt270.1 bt270.2 bt278.1 bt282.1 bt286.1 bt294.1 true))) else (laws_FnDivisorsTold.j0 k l1 t269 bt270.1 bt270.2 bt278.1 bt282.1 bt286.1 bt294.1 true))) else (laws_FnDivisorsTold.j0 k l1 t269 bt270.1 bt270.2 bt278.1 bt282.1 bt286.1 bt294.1 true))) else (laws_FnDivisorsTold.j0 k l1 t269 bt270.1 bt270.2 bt278.1 bt282.1 bt286.1 bt294.1 true))) else (laws_FnDivisorsTold.j0 k l1 t269 bt270.1 bt270.2 bt278.1 bt282.1 bt286.1 bt294.1 true))) else (laws_FnDivisorsTold.j0 k l1 t269 bt270.1 bt270.2 bt278.1 bt282.1 bt286.1 bt294.1 true))))))))))))))))) = some r := by rw [if_neg (show ¬ (false = true) by decide)] at H; exact H
  clear H
  have H := H1
  clear H1
  replace H := Option.bind_eq_some_iff.mp H
  obtain ⟨t269, A50, H⟩ := H
  replace H : ((impl_DivisorsOf.f k t269).bind fun bt270 => ((spec_DivisorsOf.f k t269).bind fun bt274 => ((impl_CountDivisors.f k t269).bind fun bt278 => ((spec_CountDivisors.f k t269).bind fun bt280 => ((impl_SumDivisors.f k t269).bind fun bt282 => ((spec_SumDivisors.f k t269).bind fun bt284 => ((impl_TotientOf.f k t269).bind fun bt286 => ((spec_TotientOf.f k t269).bind fun bt288 => ((impl_MoebiusOf.f k t269).bind fun bt290 => ((spec_MoebiusOf.f k t269).bind fun bt292 => ((impl_SumStep.f k t269).bind fun bt294 => ((spec_SumStep.f k t269).bind fun bt296 => (if (bt270.2 != bt274.2) = true then (laws_FnDivisorsTold.j0 k l1 t269 bt270.1 bt270.2 bt278.1 bt282.1 bt286.1 bt294.1 true) else ((laws_gSame.f k bt270.1 bt274.1).bind fun t298 => (if t298 = true then (if (bt278.2 != bt280.2) = true then (laws_FnDivisorsTold.j0 k l1 t269 bt270.1 bt270.2 bt278.1 bt282.1 bt286.1 bt294.1 true) else (if bt278.1 = bt280.1 then (if (bt282.2 != bt284.2) = true then (laws_FnDivisorsTold.j0 k l1 t269 bt270.1 bt270.2 bt278.1 bt282.1 bt286.1 bt294.1 true) else (if bt282.1 = bt284.1 then (if (bt286.2 != bt288.2) = true then (laws_FnDivisorsTold.j0 k l1 t269 bt270.1 bt270.2 bt278.1 bt282.1 bt286.1 bt294.1 true) else (if bt286.1 = bt288.1 then (if (bt290.2 != bt292.2) = true then (laws_FnDivisorsTold.j0 k l1 t269 bt270.1 bt270.2 bt278.1 bt282.1 bt286.1 bt294.1 true) else (if bt290.1 = bt292.1 then (if (bt294.2 != bt296.2) = true then (laws_FnDivisorsTold.j0 k l1 t269 bt270.1 bt270.2 bt278.1 bt282.1 bt286.1 bt294.1 true) else (if bt294.1 = bt296.1 then (if (bt278.2 != bt270.2) = true then (laws_FnDivisorsTold.j0 k l1 t269 bt270.1 bt270.2 bt278.1 bt282.1 bt286.1 bt294.1 true) else (if (bt282.2 != bt270.2) = true then (laws_FnDivisorsTold.j0 k l1 t269 bt270.1 bt270.2 bt278.1 bt282.1 bt286.1 bt294.1 true) else (if (bt286.2 != bt270.2) = true then (laws_FnDivisorsTold.j0 k l1 t269 bt270.1 bt270.2 bt278.1 bt282.1 bt286.1 bt294.1 true) else (if (bt290.2 != bt270.2) = true then (laws_FnDivisorsTold.j0 k l1 t269 bt270.1 bt270.2 bt278.1 bt282.1 bt286.1 bt294.1 true) else (laws_FnDivisorsTold.j0 k l1 t269 bt270.1 bt270.2 bt278.1 bt282.1 bt286.1 bt294.1 (bt294.2 != bt270.2)))))) else (laws_FnDivisorsTold.j0 k l1 t269 bt270.1 bt270.2 bt278.1 bt282.1 bt286.1 bt294.1 true))) else (laws_FnDivisorsTold.j0 k l1 t269 bt270.1 bt270.2 bt278.1 bt282.1 bt286.1 bt294.1 true))) else (laws_FnDivisorsTold.j0 k l1 t269 bt270.1 bt270.2 bt278.1 bt282.1 bt286.1 bt294.1 true))) else (laws_FnDivisorsTold.j0 k l1 t269 bt270.1 bt270.2 bt278.1 bt282.1 bt286.1 bt294.1 true))) else (laws_FnDivisorsTold.j0 k l1 t269 bt270.1 bt270.2 bt278.1 bt282.1 bt286.1 bt294.1 true))) else (laws_FnDivisorsTold.j0 k l1 t269 bt270.1 bt270.2 bt278.1 bt282.1 bt286.1 bt294.1 true)))))))))))))))) = some r := H
  have A5 := Aside0.mk A50
  clear A50
  replace H := Option.bind_eq_some_iff.mp H
  obtain ⟨⟨t270, t271⟩, A60, H⟩ := H
  replace H : ((spec_DivisorsOf.f k t269).bind fun bt274 => ((impl_CountDivisors.f k t269).bind fun bt278 => ((spec_CountDivisors.f k t269).bind fun bt280 => ((impl_SumDivisors.f k t269).bind fun bt282 => ((spec_SumDivisors.f k t269).bind fun bt284 => ((impl_TotientOf.f k t269).bind fun bt286 => ((spec_TotientOf.f k t269).bind fun bt288 => ((impl_MoebiusOf.f k t269).bind fun bt290 => ((spec_MoebiusOf.f k t269).bind fun bt292 => ((impl_SumStep.f k t269).bind fun bt294 => ((spec_SumStep.f k t269).bind fun bt296 => (if (t271 != bt274.2) = true then (laws_FnDivisorsTold.j0 k l1 t269 t270 t271 bt278.1 bt282.1 bt286.1 bt294.1 true) else ((laws_gSame.f k t270 bt274.1).bind fun t298 => (if t298 = true then (if (bt278.2 != bt280.2) = true then (laws_FnDivisorsTold.j0 k l1 t269 t270 t271 bt278.1 bt282.1 bt286.1 bt294.1 true) else (if bt278.1 = bt280.1 then (if (bt282.2 != bt284.2) = true then (laws_FnDivisorsTold.j0 k l1 t269 t270 t271 bt278.1 bt282.1 bt286.1 bt294.1 true) else (if bt282.1 = bt284.1 then (if (bt286.2 != bt288.2) = true then (laws_FnDivisorsTold.j0 k l1 t269 t270 t271 bt278.1 bt282.1 bt286.1 bt294.1 true) else (if bt286.1 = bt288.1 then (if (bt290.2 != bt292.2) = true then (laws_FnDivisorsTold.j0 k l1 t269 t270 t271 bt278.1 bt282.1 bt286.1 bt294.1 true) else (if bt290.1 = bt292.1 then (if (bt294.2 != bt296.2) = true then (laws_FnDivisorsTold.j0 k l1 t269 t270 t271 bt278.1 bt282.1 bt286.1 bt294.1 true) else (if bt294.1 = bt296.1 then (if (bt278.2 != t271) = true then (laws_FnDivisorsTold.j0 k l1 t269 t270 t271 bt278.1 bt282.1 bt286.1 bt294.1 true) else (if (bt282.2 != t271) = true then (laws_FnDivisorsTold.j0 k l1 t269 t270 t271 bt278.1 bt282.1 bt286.1 bt294.1 true) else (if (bt286.2 != t271) = true then (laws_FnDivisorsTold.j0 k l1 t269 t270 t271 bt278.1 bt282.1 bt286.1 bt294.1 true) else (if (bt290.2 != t271) = true then (laws_FnDivisorsTold.j0 k l1 t269 t270 t271 bt278.1 bt282.1 bt286.1 bt294.1 true) else (laws_FnDivisorsTold.j0 k l1 t269 t270 t271 bt278.1 bt282.1 bt286.1 bt294.1 (bt294.2 != t271)))))) else (laws_FnDivisorsTold.j0 k l1 t269 t270 t271 bt278.1 bt282.1 bt286.1 bt294.1 true))) else (laws_FnDivisorsTold.j0 k l1 t269 t270 t271 bt278.1 bt282.1 bt286.1 bt294.1 true))) else (laws_FnDivisorsTold.j0 k l1 t269 t270 t271 bt278.1 bt282.1 bt286.1 bt294.1 true))) else (laws_FnDivisorsTold.j0 k l1 t269 t270 t271 bt278.1 bt282.1 bt286.1 bt294.1 true))) else (laws_FnDivisorsTold.j0 k l1 t269 t270 t271 bt278.1 bt282.1 bt286.1 bt294.1 true))) else (laws_FnDivisorsTold.j0 k l1 t269 t270 t271 bt278.1 bt282.1 bt286.1 bt294.1 true))))))))))))))) = some r := H
  have A6 := Aside0.mk A60
  clear A60
  replace H := Option.bind_eq_some_iff.mp H
  obtain ⟨⟨t274, t275⟩, A70, H⟩ := H
  replace H : ((impl_CountDivisors.f k t269).bind fun bt278 => ((spec_CountDivisors.f k t269).bind fun bt280 => ((impl_SumDivisors.f k t269).bind fun bt282 => ((spec_SumDivisors.f k t269).bind fun bt284 => ((impl_TotientOf.f k t269).bind fun bt286 => ((spec_TotientOf.f k t269).bind fun bt288 => ((impl_MoebiusOf.f k t269).bind fun bt290 => ((spec_MoebiusOf.f k t269).bind fun bt292 => ((impl_SumStep.f k t269).bind fun bt294 => ((spec_SumStep.f k t269).bind fun bt296 => (if (t271 != t275) = true then (laws_FnDivisorsTold.j0 k l1 t269 t270 t271 bt278.1 bt282.1 bt286.1 bt294.1 true) else ((laws_gSame.f k t270 t274).bind fun t298 => (if t298 = true then (if (bt278.2 != bt280.2) = true then (laws_FnDivisorsTold.j0 k l1 t269 t270 t271 bt278.1 bt282.1 bt286.1 bt294.1 true) else (if bt278.1 = bt280.1 then (if (bt282.2 != bt284.2) = true then (laws_FnDivisorsTold.j0 k l1 t269 t270 t271 bt278.1 bt282.1 bt286.1 bt294.1 true) else (if bt282.1 = bt284.1 then (if (bt286.2 != bt288.2) = true then (laws_FnDivisorsTold.j0 k l1 t269 t270 t271 bt278.1 bt282.1 bt286.1 bt294.1 true) else (if bt286.1 = bt288.1 then (if (bt290.2 != bt292.2) = true then (laws_FnDivisorsTold.j0 k l1 t269 t270 t271 bt278.1 bt282.1 bt286.1 bt294.1 true) else (if bt290.1 = bt292.1 then (if (bt294.2 != bt296.2) = true then (laws_FnDivisorsTold.j0 k l1 t269 t270 t271 bt278.1 bt282.1 bt286.1 bt294.1 true) else (if bt294.1 = bt296.1 then (if (bt278.2 != t271) = true then (laws_FnDivisorsTold.j0 k l1 t269 t270 t271 bt278.1 bt282.1 bt286.1 bt294.1 true) else (if (bt282.2 != t271) = true then (laws_FnDivisorsTold.j0 k l1 t269 t270 t271 bt278.1 bt282.1 bt286.1 bt294.1 true) else (if (bt286.2 != t271) = true then (laws_FnDivisorsTold.j0 k l1 t269 t270 t271 bt278.1 bt282.1 bt286.1 bt294.1 true) else (if (bt290.2 != t271) = true then (laws_FnDivisorsTold.j0 k l1 t269 t270 t271 bt278.1 bt282.1 bt286.1 bt294.1 true) else (laws_FnDivisorsTold.j0 k l1 t269 t270 t271 bt278.1 bt282.1 bt286.1 bt294.1 (bt294.2 != t271)))))) else (laws_FnDivisorsTold.j0 k l1 t269 t270 t271 bt278.1 bt282.1 bt286.1 bt294.1 true))) else (laws_FnDivisorsTold.j0 k l1 t269 t270 t271 bt278.1 bt282.1 bt286.1 bt294.1 true))) else (laws_FnDivisorsTold.j0 k l1 t269 t270 t271 bt278.1 bt282.1 bt286.1 bt294.1 true))) else (laws_FnDivisorsTold.j0 k l1 t269 t270 t271 bt278.1 bt282.1 bt286.1 bt294.1 true))) else (laws_FnDivisorsTold.j0 k l1 t269 t270 t271 bt278.1 bt282.1 bt286.1 bt294.1 true))) else (laws_FnDivisorsTold.j0 k l1 t269 t270 t271 bt278.1 bt282.1 bt286.1 bt294.1 true)))))))))))))) = some r := H
  have A7 := Aside0.mk A70
  clear A70
  replace H := Option.bind_eq_some_iff.mp H
  obtain ⟨⟨t278, t279⟩, A80, H⟩ := H
  replace H : ((spec_CountDivisors.f k t269).bind fun bt280 => ((impl_SumDivisors.f k t269).bind fun bt282 => ((spec_SumDivisors.f k t269).bind fun bt284 => ((impl_TotientOf.f k t269).bind fun bt286 => ((spec_TotientOf.f k t269).bind fun bt288 => ((impl_MoebiusOf.f k t269).bind fun bt290 => ((spec_MoebiusOf.f k t269).bind fun bt292 => ((impl_SumStep.f k t269).bind fun bt294 => ((spec_SumStep.f k t269).bind fun bt296 => (if (t271 != t275) = true then (laws_FnDivisorsTold.j0 k l1 t269 t270 t271 t278 bt282.1 bt286.1 bt294.1 true) else ((laws_gSame.f k t270 t274).bind fun t298 => (if t298 = true then (if (t279 != bt280.2) = true then (laws_FnDivisorsTold.j0 k l1 t269 t270 t271 t278 bt282.1 bt286.1 bt294.1 true) else (if t278 = bt280.1 then (if (bt282.2 != bt284.2) = true then (laws_FnDivisorsTold.j0 k l1 t269 t270 t271 t278 bt282.1 bt286.1 bt294.1 true) else (if bt282.1 = bt284.1 then (if (bt286.2 != bt288.2) = true then (laws_FnDivisorsTold.j0 k l1 t269 t270 t271 t278 bt282.1 bt286.1 bt294.1 true) else (if bt286.1 = bt288.1 then (if (bt290.2 != bt292.2) = true then (laws_FnDivisorsTold.j0 k l1 t269 t270 t271 t278 bt282.1 bt286.1 bt294.1 true) else (if bt290.1 = bt292.1 then (if (bt294.2 != bt296.2) = true then (laws_FnDivisorsTold.j0 k l1 t269 t270 t271 t278 bt282.1 bt286.1 bt294.1 true) else (if bt294.1 = bt296.1 then (if (t279 != t271) = true then (laws_FnDivisorsTold.j0 k l1 t269 t270 t271 t278 bt282.1 bt286.1 bt294.1 true) else (if (bt282.2 != t271) = true then (laws_FnDivisorsTold.j0 k l1 t269 t270 t271 t278 bt282.1 bt286.1 bt294.1 true) else (if (bt286.2 != t271) = true then (laws_FnDivisorsTold.j0 k l1 t269 t270 t271 t278 bt282.1 bt286.1 bt294.1 true) else (if (bt290.2 != t271) = true then (laws_FnDivisorsTold.j0 k l1 t269 t270 t271 t278 bt282.1 bt286.1 bt294.1 true) else (laws_FnDivisorsTold.j0 k l1 t269 t270 t271 t278 bt282.1 bt286.1 bt294.1 (bt294.2 != t271)))))) else (laws_FnDivisorsTold.j0 k l1 t269 t270 t271 t278 bt282.1 bt286.1 bt294.1 true))) else (laws_FnDivisorsTold.j0 k l1 t269 t270 t271 t278 bt282.1 bt286.1 bt294.1 true))) else (laws_FnDivisorsTold.j0 k l1 t269 t270 t271 t278 bt282.1 bt286.1 bt294.1 true))) else (laws_FnDivisorsTold.j0 k l1 t269 t270 t271 t278 bt282.1 bt286.1 bt294.1 true))) else (laws_FnDivisorsTold.j0 k l1 t269 t270 t271 t278 bt282.1 bt286.1 bt294.1 true))) else (laws_FnDivisorsTold.j0 k l1 t269 t270 t271 t278 bt282.1 bt286.1 bt294.1 true))))))))))))) = some r := H
  have A8 := Aside0.mk A80
  clear A80
  replace H := Option.bind_eq_some_iff.mp H
  obtain ⟨⟨t280, t281⟩, A90, H⟩ := H
  replace H : ((impl_SumDivisors.f k t269).bind fun bt282 => ((spec_SumDivisors.f k t269).bind fun bt284 => ((impl_TotientOf.f k t269).bind fun bt286 => ((spec_TotientOf.f k t269).bind fun bt288 => ((impl_MoebiusOf.f k t269).bind fun bt290 => ((spec_MoebiusOf.f k t269).bind fun bt292 => ((impl_SumStep.f k t269).bind fun bt294 => ((spec_SumStep.f k t269).bind fun bt296 => (if (t271 != t275) = true then (laws_FnDivisorsTold.j0 k l1 t269 t270 t271 t278 bt282.1 bt286.1 bt294.1 true) else ((laws_gSame.f k t270 t274).bind fun t298 => (if t298 = true then (if (t279 != t281) = true then (laws_FnDivisorsTold.j0 k l1 t269 t270 t271 t278 bt282.1 bt286.1 bt294.1 true) else (if t278 = t280 then (if (bt282.2 != bt284.2) = true then (laws_FnDivisorsTold.j0 k l1 t269 t270 t271 t278 bt282.1 bt286.1 bt294.1 true) else (if bt282.1 = bt284.1 then (if (bt286.2 != bt288.2) = true then (laws_FnDivisorsTold.j0 k l1 t269 t270 t271 t278 bt282.1 bt286.1 bt294.1 true) else (if bt286.1 = bt288.1 then (if (bt290.2 != bt292.2) = true then (laws_FnDivisorsTold.j0 k l1 t269 t270 t271 t278 bt282.1 bt286.1 bt294.1 true) else (if bt290.1 = bt292.1 then (if (bt294.2 != bt296.2) = true then (laws_FnDivisorsTold.j0 k l1 t269 t270 t271 t278 bt282.1 bt286.1 bt294.1 true) else (if bt294.1 = bt296.1 then (if (t279 != t271) = true then (laws_FnDivisorsTold.j0 k l1 t269 t270 t271 t278 bt282.1 bt286.1 bt294.1 true) else (if (bt282.2 != t271) = true then (laws_FnDivisorsTold.j0 k l1 t269 t270 t271 t278 bt282.1 bt286.1 bt294.1 true) else (if (bt286.2 != t271) = true then (laws_FnDivisorsTold.j0 k l1 t269 t270 t271 t278 bt282.1 bt286.1 bt294.1 true) else (if (bt290.2 != t271) = true then (laws_FnDivisorsTold.j0 k l1 t269 t270 t271 t278 bt282.1 bt286.1 bt294.1 true) else (laws_FnDivisorsTold.j0 k l1 t269 t270 t271 t278 bt282.1 bt286.1 bt294.1 (bt294.2 != t271)))))) else (laws_FnDivisorsTold.j0 k l1 t269 t270 t271 t278 bt282.1 bt286.1 bt294.1 true))) else (laws_FnDivisorsTold.j0 k l1 t269 t270 t271 t278 bt282.1 bt286.1 bt294.1 true))) else (laws_FnDivisorsTold.j0 k l1 t269 t270 t271 t278 bt282.1 bt286.1 bt294.1 true))) else (laws_FnDivisorsTold.j0 k l1 t269 t270 t271 t278 bt282.1 bt286.1 bt294.1 true))) else (laws_FnDivisorsTold.j0 k l1 t269 t270 t271 t278 bt282.1 bt286.1 bt294.1 true))) else (laws_FnDivisorsTold.j0 k l1 t269 t270 t271 t278 bt282.1 bt286.1 bt294.1 true)))))))))))) = some r := H
  have A9 := Aside0.mk A90
  clear A90
  replace H := Option.bind_eq_some_iff.mp H
  obtain ⟨⟨t282, t283⟩, A100, H⟩ := H
  replace H : ((spec_SumDivisors.f k t269).bind fun bt284 => ((impl_TotientOf.f k t269).bind fun bt286 => ((spec_TotientOf.f k t269).bind fun bt288 => ((impl_MoebiusOf.f k t269).bind fun bt290 => ((spec_MoebiusOf.f k t269).bind fun bt292 => ((impl_SumStep.f k t269).bind fun bt294 => ((spec_SumStep.f k t269).bind fun bt296 => (if (t271 != t275) = true then (laws_FnDivisorsTold.j0 k l1 t269 t270 t271 t278 t282 bt286.1 bt294.1 true) else ((laws_gSame.f k t270 t274).bind fun t298 => (if t298 = true then (if (t279 != t281) = true then (laws_FnDivisorsTold.j0 k l1 t269 t270 t271 t278 t282 bt286.1 bt294.1 true) else (if t278 = t280 then (if (t283 != bt284.2) = true then (laws_FnDivisorsTold.j0 k l1 t269 t270 t271 t278 t282 bt286.1 bt294.1 true) else (if t282 = bt284.1 then (if (bt286.2 != bt288.2) = true then (laws_FnDivisorsTold.j0 k l1 t269 t270 t271 t278 t282 bt286.1 bt294.1 true) else (if bt286.1 = bt288.1 then (if (bt290.2 != bt292.2) = true then (laws_FnDivisorsTold.j0 k l1 t269 t270 t271 t278 t282 bt286.1 bt294.1 true) else (if bt290.1 = bt292.1 then (if (bt294.2 != bt296.2) = true then (laws_FnDivisorsTold.j0 k l1 t269 t270 t271 t278 t282 bt286.1 bt294.1 true) else (if bt294.1 = bt296.1 then (if (t279 != t271) = true then (laws_FnDivisorsTold.j0 k l1 t269 t270 t271 t278 t282 bt286.1 bt294.1 true) else (if (t283 != t271) = true then (laws_FnDivisorsTold.j0 k l1 t269 t270 t271 t278 t282 bt286.1 bt294.1 true) else (if (bt286.2 != t271) = true then (laws_FnDivisorsTold.j0 k l1 t269 t270 t271 t278 t282 bt286.1 bt294.1 true) else (if (bt290.2 != t271) = true then (laws_FnDivisorsTold.j0 k l1 t269 t270 t271 t278 t282 bt286.1 bt294.1 true) else (laws_FnDivisorsTold.j0 k l1 t269 t270 t271 t278 t282 bt286.1 bt294.1 (bt294.2 != t271)))))) else (laws_FnDivisorsTold.j0 k l1 t269 t270 t271 t278 t282 bt286.1 bt294.1 true))) else (laws_FnDivisorsTold.j0 k l1 t269 t270 t271 t278 t282 bt286.1 bt294.1 true))) else (laws_FnDivisorsTold.j0 k l1 t269 t270 t271 t278 t282 bt286.1 bt294.1 true))) else (laws_FnDivisorsTold.j0 k l1 t269 t270 t271 t278 t282 bt286.1 bt294.1 true))) else (laws_FnDivisorsTold.j0 k l1 t269 t270 t271 t278 t282 bt286.1 bt294.1 true))) else (laws_FnDivisorsTold.j0 k l1 t269 t270 t271 t278 t282 bt286.1 bt294.1 true))))))))))) = some r := H
  have A10 := Aside0.mk A100
  clear A100
  replace H := Option.bind_eq_some_iff.mp H
  obtain ⟨⟨t284, t285⟩, A110, H⟩ := H
  replace H : ((impl_TotientOf.f k t269).bind fun bt286 => ((spec_TotientOf.f k t269).bind fun bt288 => ((impl_MoebiusOf.f k t269).bind fun bt290 => ((spec_MoebiusOf.f k t269).bind fun bt292 => ((impl_SumStep.f k t269).bind fun bt294 => ((spec_SumStep.f k t269).bind fun bt296 => (if (t271 != t275) = true then (laws_FnDivisorsTold.j0 k l1 t269 t270 t271 t278 t282 bt286.1 bt294.1 true) else ((laws_gSame.f k t270 t274).bind fun t298 => (if t298 = true then (if (t279 != t281) = true then (laws_FnDivisorsTold.j0 k l1 t269 t270 t271 t278 t282 bt286.1 bt294.1 true) else (if t278 = t280 then (if (t283 != t285) = true then (laws_FnDivisorsTold.j0 k l1 t269 t270 t271 t278 t282 bt286.1 bt294.1 true) else (if t282 = t284 then (if (bt286.2 != bt288.2) = true then (laws_FnDivisorsTold.j0 k l1 t269 t270 t271 t278 t282 bt286.1 bt294.1 true) else (if bt286.1 = bt288.1 then (if (bt290.2 != bt292.2) = true then (laws_FnDivisorsTold.j0 k l1 t269 t270 t271 t278 t282 bt286.1 bt294.1 true) else (if bt290.1 = bt292.1 then (if (bt294.2 != bt296.2) = true then (laws_FnDivisorsTold.j0 k l1 t269 t270 t271 t278 t282 bt286.1 bt294.1 true) else (if bt294.1 = bt296.1 then (if (t279 != t271) = true then (laws_FnDivisorsTold.j0 k l1 t269 t270 t271 t278 t282 bt286.1 bt294.1 true) else (if (t283 != t271) = true then (laws_FnDivisorsTold.j0 k l1 t269 t270 t271 t278 t282 bt286.1 bt294.1 true) else (if (bt286.2 != t271) = true then (laws_FnDivisorsTold.j0 k l1 t269 t270 t271 t278 t282 bt286.1 bt294.1 true) else (if (bt290.2 != t271) = true then (laws_FnDivisorsTold.j0 k l1 t269 t270 t271 t278 t282 bt286.1 bt294.1 true) else (laws_FnDivisorsTold.j0 k l1 t269 t270 t271 t278 t282 bt286.1 bt294.1 (bt294.2 != t271)))))) else (laws_FnDivisorsTold.j0 k l1 t269 t270 t271 t278 t282 bt286.1 bt294.1 true))) else (laws_FnDivisorsTold.j0 k l1 t269 t270 t271 t278 t282 bt286.1 bt294.1 true))) else (laws_FnDivisorsTold.j0 k l1 t269 t270 t271 t278 t282 bt286.1 bt294.1 true))) else (laws_FnDivisorsTold.j0 k l1 t269 t270 t271 t278 t282 bt286.1 bt294.1 true))) else (laws_FnDivisorsTold.j0 k l1 t269 t270 t271 t278 t282 bt286.1 bt294.1 true))) else (laws_FnDivisorsTold.j0 k l1 t269 t270 t271 t278 t282 bt286.1 bt294.1 true)))))))))) = some r := H
  have A11 := Aside0.mk A110
  clear A110
  replace H := Option.bind_eq_some_iff.mp H
  obtain ⟨⟨t286, t287⟩, A120, H⟩ := H
  replace H : ((spec_TotientOf.f k t269).bind fun bt288 => ((impl_MoebiusOf.f k t269).bind fun bt290 => ((spec_MoebiusOf.f k t269).bind fun bt292 => ((impl_SumStep.f k t269).bind fun bt294 => ((spec_SumStep.f k t269).bind fun bt296 => (if (t271 != t275) = true then (laws_FnDivisorsTold.j0 k l1 t269 t270 t271 t278 t282 t286 bt294.1 true) else ((laws_gSame.f k t270 t274).bind fun t298 => (if t298 = true then (if (t279 != t281) = true then (laws_FnDivisorsTold.j0 k l1 t269 t270 t271 t278 t282 t286 bt294.1 true) else (if t278 = t280 then (if (t283 != t285) = true then (laws_FnDivisorsTold.j0 k l1 t269 t270 t271 t278 t282 t286 bt294.1 true) else (if t282 = t284 then (if (t287 != bt288.2) = true then (laws_FnDivisorsTold.j0 k l1 t269 t270 t271 t278 t282 t286 bt294.1 true) else (if t286 = bt288.1 then (if (bt290.2 != bt292.2) = true then (laws_FnDivisorsTold.j0 k l1 t269 t270 t271 t278 t282 t286 bt294.1 true) else (if bt290.1 = bt292.1 then (if (bt294.2 != bt296.2) = true then (laws_FnDivisorsTold.j0 k l1 t269 t270 t271 t278 t282 t286 bt294.1 true) else (if bt294.1 = bt296.1 then (if (t279 != t271) = true then (laws_FnDivisorsTold.j0 k l1 t269 t270 t271 t278 t282 t286 bt294.1 true) else (if (t283 != t271) = true then (laws_FnDivisorsTold.j0 k l1 t269 t270 t271 t278 t282 t286 bt294.1 true) else (if (t287 != t271) = true then (laws_FnDivisorsTold.j0 k l1 t269 t270 t271 t278 t282 t286 bt294.1 true) else (if (bt290.2 != t271) = true then (laws_FnDivisorsTold.j0 k l1 t269 t270 t271 t278 t282 t286 bt294.1 true) else (laws_FnDivisorsTold.j0 k l1 t269 t270 t271 t278 t282 t286 bt294.1 (bt294.2 != t271)))))) else (laws_FnDivisorsTold.j0 k l1 t269 t270 t271 t278 t282 t286 bt294.1 true))) else (laws_FnDivisorsTold.j0 k l1 t269 t270 t271 t278 t282 t286 bt294.1 true))) else (laws_FnDivisorsTold.j0 k l1 t269 t270 t271 t278 t282 t286 bt294.1 true))) else (laws_FnDivisorsTold.j0 k l1 t269 t270 t271 t278 t282 t286 bt294.1 true))) else (laws_FnDivisorsTold.j0 k l1 t269 t270 t271 t278 t282 t286 bt294.1 true))) else (laws_FnDivisorsTold.j0 k l1 t269 t270 t271 t278 t282 t286 bt294.1 true))))))))) = some r := H
  have A12 := Aside0.mk A120
  clear A120
  replace H := Option.bind_eq_some_iff.mp H
  obtain ⟨⟨t288, t289⟩, A130, H⟩ := H
  replace H : ((impl_MoebiusOf.f k t269).bind fun bt290 => ((spec_MoebiusOf.f k t269).bind fun bt292 => ((impl_SumStep.f k t269).bind fun bt294 => ((spec_SumStep.f k t269).bind fun bt296 => (if (t271 != t275) = true then (laws_FnDivisorsTold.j0 k l1 t269 t270 t271 t278 t282 t286 bt294.1 true) else ((laws_gSame.f k t270 t274).bind fun t298 => (if t298 = true then (if (t279 != t281) = true then (laws_FnDivisorsTold.j0 k l1 t269 t270 t271 t278 t282 t286 bt294.1 true) else (if t278 = t280 then (if (t283 != t285) = true then (laws_FnDivisorsTold.j0 k l1 t269 t270 t271 t278 t282 t286 bt294.1 true) else (if t282 = t284 then (if (t287 != t289) = true then (laws_FnDivisorsTold.j0 k l1 t269 t270 t271 t278 t282 t286 bt294.1 true) else (if t286 = t288 then (if (bt290.2 != bt292.2) = true then (laws_FnDivisorsTold.j0 k l1 t269 t270 t271 t278 t282 t286 bt294.1 true) else (if bt290.1 = bt292.1 then (if (bt294.2 != bt296.2) = true then (laws_FnDivisorsTold.j0 k l1 t269 t270 t271 t278 t282 t286 bt294.1 true) else (if bt294.1 = bt296.1 then (if (t279 != t271) = true then (laws_FnDivisorsTold.j0 k l1 t269 t270 t271 t278 t282 t286 bt294.1 true) else (if (t283 != t271) = true then (laws_FnDivisorsTold.j0 k l1 t269 t270 t271 t278 t282 t286 bt294.1 true) else (if (t287 != t271) = true then (laws_FnDivisorsTold.j0 k l1 t269 t270 t271 t278 t282 t286 bt294.1 true) else (if (bt290.2 != t271) = true then (laws_FnDivisorsTold.j0 k l1 t269 t270 t271 t278 t282 t286 bt294.1 true) else (laws_FnDivisorsTold.j0 k l1 t269 t270 t271 t278 t282 t286 bt294.1 (bt294.2 != t271)))))) else (laws_FnDivisorsTold.j0 k l1 t269 t270 t271 t278 t282 t286 bt294.1 true))) else (laws_FnDivisorsTold.j0 k l1 t269 t270 t271 t278 t282 t286 bt294.1 true))) else (laws_FnDivisorsTold.j0 k l1 t269 t270 t271 t278 t282 t286 bt294.1 true))) else (laws_FnDivisorsTold.j0 k l1 t269 t270 t271 t278 t282 t286 bt294.1 true))) else (laws_FnDivisorsTold.j0 k l1 t269 t270 t271 t278 t282 t286 bt294.1 true))) else (laws_FnDivisorsTold.j0 k l1 t269 t270 t271 t278 t282 t286 bt294.1 true)))))))) = some r := H
  have A13 := Aside0.mk A130
  clear A130
  replace H := Option.bind_eq_some_iff.mp H
  obtain ⟨⟨t290, t291⟩, A140, H⟩ := H
  replace H : ((spec_MoebiusOf.f k t269).bind fun bt292 => ((impl_SumStep.f k t269).bind fun bt294 => ((spec_SumStep.f k t269).bind fun bt296 => (if (t271 != t275) = true then (laws_FnDivisorsTold.j0 k l1 t269 t270 t271 t278 t282 t286 bt294.1 true) else ((laws_gSame.f k t270 t274).bind fun t298 => (if t298 = true then (if (t279 != t281) = true then (laws_FnDivisorsTold.j0 k l1 t269 t270 t271 t278 t282 t286 bt294.1 true) else (if t278 = t280 then (if (t283 != t285) = true then (laws_FnDivisorsTold.j0 k l1 t269 t270 t271 t278 t282 t286 bt294.1 true) else (if t282 = t284 then (if (t287 != t289) = true then (laws_FnDivisorsTold.j0 k l1 t269 t270 t271 t278 t282 t286 bt294.1 true) else (if t286 = t288 then (if (t291 != bt292.2) = true then (laws_FnDivisorsTold.j0 k l1 t269 t270 t271 t278 t282 t286 bt294.1 true) else (if t290 = bt292.1 then (if (bt294.2 != bt296.2) = true then (laws_FnDivisorsTold.j0 k l1 t269 t270 t271 t278 t282 t286 bt294.1 true) else (if bt294.1 = bt296.1 then (if (t279 != t271) = true then (laws_FnDivisorsTold.j0 k l1 t269 t270 t271 t278 t282 t286 bt294.1 true) else (if (t283 != t271) = true then (laws_FnDivisorsTold.j0 k l1 t269 t270 t271 t278 t282 t286 bt294.1 true) else (if (t287 != t271) = true then (laws_FnDivisorsTold.j0 k l1 t269 t270 t271 t278 t282 t286 bt294.1 true) else (if (t291 != t271) = true then (laws_FnDivisorsTold.j0 k l1 t269 t270 t271 t278 t282 t286 bt294.1 true) else (laws_FnDivisorsTold.j0 k l1 t269 t270 t271 t278 t282 t286 bt294.1 (bt294.2 != t271)))))) else (laws_FnDivisorsTold.j0 k l1 t269 t270 t271 t278 t282 t286 bt294.1 true))) else (laws_FnDivisorsTold.j0 k l1 t269 t270 t271 t278 t282 t286 bt294.1 true))) else (laws_FnDivisorsTold.j0 k l1 t269 t270 t271 t278 t282 t286 bt294.1 true))) else (laws_FnDivisorsTold.j0 k l1 t269 t270 t271 t278 t282 t286 bt294.1 true))) else (laws_FnDivisorsTold.j0 k l1 t269 t270 t271 t278 t282 t286 bt294.1 true))) else (laws_FnDivisorsTold.j0 k l1 t269 t270 t271 t278 t282 t286 bt294.1 true))))))) = some r := H
  have A14 := Aside0.mk A140
  clear A140
  replace H := Option.bind_eq_some_iff.mp H
  obtain ⟨⟨t292, t293⟩, A150, H⟩ := H
  replace H : ((impl_SumStep.f k t269).bind fun bt294 => ((spec_SumStep.f k t269).bind fun bt296 => (if (t271 != t275) = true then (laws_FnDivisorsTold.j0 k l1 t269 t270 t271 t278 t282 t286 bt294.1 true) else ((laws_gSame.f k t270 t274).bind fun t298 => (if t298 = true then (if (t279 != t281) = true then (laws_FnDivisorsTold.j0 k l1 t269 t270 t271 t278 t282 t286 bt294.1 true) else (if t278 = t280 then (if (t283 != t285) = true then (laws_FnDivisorsTold.j0 k l1 t269 t270 t271 t278 t282 t286 bt294.1 true) else (if t282 = t284 then (if (t287 != t289) = true then (laws_FnDivisorsTold.j0 k l1 t269 t270 t271 t278 t282 t286 bt294.1 true) else (if t286 = t288 then (if (t291 != t293) = true then (laws_FnDivisorsTold.j0 k l1 t269 t270 t271 t278 t282 t286 bt294.1 true) else (if t290 = t292 then (if (bt294.2 != bt296.2) = true then (laws_FnDivisorsTold.j0 k l1 t269 t270 t271 t278 t282 t286 bt294.1 true) else (if bt294.1 = bt296.1 then (if (t279 != t271) = true then (laws_FnDivisorsTold.j0 k l1 t269 t270 t271 t278 t282 t286 bt294.1 true) else (if (t283 != t271) = true then (laws_FnDivisorsTold.j0 k l1 t269 t270 t271 t278 t282 t286 bt294.1 true) else (if (t287 != t271) = true then (laws_FnDivisorsTold.j0 k l1 t269 t270 t271 t278 t282 t286 bt294.1 true) else (if (t291 != t271) = true then (laws_FnDivisorsTold.j0 k l1 t269 t270 t271 t278 t282 t286 bt294.1 true) else (laws_FnDivisorsTold.j0 k l1 t269 t270 t271 t278 t282 t286 bt294.1 (bt294.2 != t271)))))) else (laws_FnDivisorsTold.j0 k l1 t269 t270 t271 t278 t282 t286 bt294.1 true))) else (laws_FnDivisorsTold.j0 k l1 t269 t270 t271 t278 t282 t286 bt294.1 true))) else (laws_FnDivisorsTold.j0 k l1 t269 t270 t271 t278 t282 t286 bt294.1 true))) else (laws_FnDivisorsTold.j0 k l1 t269 t270 t271 t278 t282 t286 bt294.1 true))) else (laws_FnDivisorsTold.j0 k l1 t269 t270 t271 t278 t282 t286 bt294.1 true))) else (laws_FnDivisorsTold.j0 k l1 t269 t270 t271 t278 t282 t286 bt294.1 true)))))) = some r := H
  have A15 := Aside0.mk A150
  clear A150
  replace H := Option.bind_eq_some_iff.mp H
  obtain ⟨⟨t294, t295⟩, A160, H⟩ := H
  replace H : ((spec_SumStep.f k t269).bind fun bt296 => (if (t271 != t275) = true then (laws_FnDivisorsTold.j0 k l1 t269 t270 t271 t278 t282 t286 t294 true) else ((laws_gSame.f k t270 t274).bind fun t298 => (if t298 = true then (if (t279 != t281) = true then (laws_FnDivisorsTold.j0 k l1 t269 t270 t271 t278 t282 t286 t294 true) else (if t278 = t280 then (if (t283 != t285) = true then (laws_FnDivisorsTold.j0 k l1 t269 t270 t271 t278 t282 t286 t294 true) else (if t282 = t284 then (if (t287 != t289) = true then (laws_FnDivisorsTold.j0 k l1 t269 t270 t271 t278 t282 t286 t294 true) else (if t286 = t288 then (if (t291 != t293) = true then (laws_FnDivisorsTold.j0 k l1 t269 t270 t271 t278 t282 t286 t294 true) else (if t290 = t292 then (if (t295 != bt296.2) = true then (laws_FnDivisorsTold.j0 k l1 t269 t270 t271 t278 t282 t286 t294 true) else (if t294 = bt296.1 then (if (t279 != t271) = true then (laws_FnDivisorsTold.j0 k l1 t269 t270 t271 t278 t282 t286 t294 true) else (if (t283 != t271) = true then (laws_FnDivisorsTold.j0 k l1 t269 t270 t271 t278 t282 t286 t294 true) else (if (t287 != t271) = true then (laws_FnDivisorsTold.j0 k l1 t269 t270 t271 t278 t282 t286 t294 true) else (if (t291 != t271) = true then (laws_FnDivisorsTold.j0 k l1 t269 t270 t271 t278 t282 t286 t294 true) else (laws_FnDivisorsTold.j0 k l1 t269 t270 t271 t278 t282 t286 t294 (t295 != t271)))))) else (laws_FnDivisorsTold.j0 k l1 t269 t270 t271 t278 t282 t286 t294 true))) else (laws_FnDivisorsTold.j0 k l1 t269 t270 t271 t278 t282 t286 t294 true))) else (laws_FnDivisorsTold.j0 k l1 t269 t270 t271 t278 t282 t286 t294 true))) else (laws_FnDivisorsTold.j0 k l1 t269 t270 t271 t278 t282 t286 t294 true))) else (laws_FnDivisorsTold.j0 k l1 t269 t270 t271 t278 t282 t286 t294 true))) else (laws_FnDivisorsTold.j0 k l1 t269 t270 t271 t278 t282 t286 t294 true))))) = some r := H
  have A16 := Aside0.mk A160
  clear A160
  replace H := Option.bind_eq_some_iff.mp H
  obtain ⟨⟨t296, t297⟩, A170, H⟩ := H
  replace H : (if (t271 != t275) = true then (laws_FnDivisorsTold.j0 k l1 t269 t270 t271 t278 t282 t286 t294 true) else ((laws_gSame.f k t270 t274).bind fun t298 => (if t298 = true then (if (t279 != t281) = true then (laws_FnDivisorsTold.j0 k l1 t269 t270 t271 t278 t282 t286 t294 true) else (if t278 = t280 then (if (t283 != t285) = true then (laws_FnDivisorsTold.j0 k l1 t269 t270 t271 t278 t282 t286 t294 true) else (if t282 = t284 then (if (t287 != t289) = true then (laws_FnDivisorsTold.j0 k l1 t269 t270 t271 t278 t282 t286 t294 true) else (if t286 = t288 then (if (t291 != t293) = true then (laws_FnDivisorsTold.j0 k l1 t269 t270 t271 t278 t282 t286 t294 true) else (if t290 = t292 then (if (t295 != t297) = true then (laws_FnDivisorsTold.j0 k l1 t269 t270 t271 t278 t282 t286 t294 true) else (if t294 = t296 then (if (t279 != t271) = true then (laws_FnDivisorsTold.j0 k l1 t269 t270 t271 t278 t282 t286 t294 true) else (if (t283 != t271) = true then (laws_FnDivisorsTold.j0 k l1 t269 t270 t271 t278 t282 t286 t294 true) else (if (t287 != t271) = true then (laws_FnDivisorsTold.j0 k l1 t269 t270 t271 t278 t282 t286 t294 true) else (if (t291 != t271) = true then (laws_FnDivisorsTold.j0 k l1 t269 t270 t271 t278 t282 t286 t294 true) else (laws_FnDivisorsTold.j0 k l1 t269 t270 t271 t278 t282 t286 t294 (t295 != t271)))))) else (laws_FnDivisorsTold.j0 k l1 t269 t270 t271 t278 t282 t286 t294 true))) else (laws_FnDivisorsTold.j0 k l1 t269 t270 t271 t278 t282 t286 t294 true))) else (laws_FnDivisorsTold.j0 k l1 t269 t270 t271 t278 t282 t286 t294 true))) else (laws_FnDivisorsTold.j0 k l1 t269 t270 t271 t278 t282 t286 t294 true))) else (laws_FnDivisorsTold.j0 k l1 t269 t270 t271 t278 t282 t286 t294 true))) else (laws_FnDivisorsTold.j0 k l1 t269 t270 t271 t278 t282 t286 t294 true)))) = some r := H
  have A17 := Aside0.mk A170
  clear A170
  have HC18 := Aside0.mk H
  clear H
  go_enter Try.func7, Try.ntmps7
  go_upto_region 16 with (first | (go_at_call 11; (with_reducible refine (laws_big.calls _ _ l0 _ _ l1 false _ ?side1 ?side2 ?side3 ?side4 A3.out).mono ?_); (case side1 => repeat (first | exact HR0.out | (with_reducible refine Kd.C_alloc ?_ _) | (with_reducible refine Kd.C_drewN ?_ _) | (with_reducible refine Kd.C_drew ?_))); (case side2 => exact HC0.out); (case side3 => repeat (first | exact HR1.out | (with_reducible refine Kd.C_alloc ?_ _) | (with_reducible refine Kd.C_drewN ?_ _) | (with_reducible refine Kd.C_drew ?_))); (case side4 => exact HC1.out); rintro e w' ⟨rfl, ⟨nd, rfl⟩⟩; (try first | exact ⟨rfl, _, World.drewN_drewN _ _ _⟩ | exact ⟨rfl, _, Eq.trans (World.drewN_drewN _ _ _) (congrArg (World.drewN _) (Nat.add_assoc _ _ _))⟩)) | (go_at_call 91; (with_reducible refine (spec_DrawDivisorsOf.calls _ _ l0 t269 _ ?side1 ?side2 A5.out).mono ?_); (case side1 => repeat (first | exact HR0.out | (with_reducible refine Kd.C_alloc ?_ _) | (with_reducible refine Kd.C_drewN ?_ _) | (with_reducible refine Kd.C_drew ?_))); (case side2 => exact HC0.out); rintro e w19 ⟨rfl, hb⟩; have n0_ := Aside0.mk (below_step (by repeat (first | (with_reducible first | exact HB.out | apply below_alloc | apply pw_below_drewN | apply below_drew1))) hb); clear HB; have HB := n0_; clear n0_; (try clear hb)) | (go_at_call 63; (with_reducible refine (impl_DivisorsOf.calls k t269 t270 t271 _ A6.out).mono ?_); rintro e w20 ⟨v272, rfl, ho0, hb⟩; have n0_ := Aside0.mk (Kd.R_lower ho0 (below_size (by repeat (first | (with_reducible first | exact HB.out | apply below_alloc | apply pw_below_drewN | apply below_drew1))))); have n1_ := Aside0.mk (below_step (by repeat (first | (with_reducible first | exact HB.out | apply below_alloc | apply pw_below_drewN | apply below_drew1))) hb); clear HB; have HO273 := n0_; have HB := n1_; clear n0_ n1_; (try clear hb); (try clear ho0)) | (go_at_call 64; (with_reducible refine (spec_DivisorsOf.calls k t269 t274 t275 _ A7.out).mono ?_); rintro e w21 ⟨v276, rfl, ho0, hb⟩; have n0_ := Aside0.mk (Kd.R_elder' (by (with_reducible repeat (first | apply Kd.R_alloc | apply Kd.R_drewN | apply Kd.R_drew)); exact HO273.out) (Kd.R_base ho0) hb); have n1_ := Aside0.mk (Kd.R_lower (Kd.R_new' ho0 (Kd.R_lt (by (with_reducible repeat (first | apply Kd.R_alloc | apply Kd.R_drewN | apply Kd.R_drew)); exact HO273.out))) (below_size (by repeat (first | (with_reducible first | exact HB.out | apply below_alloc | apply pw_below_drewN | apply below_drew1))))); have n2_ := Aside0.mk (below_step (by repeat (first | (with_reducible first | exact HB.out | apply below_alloc | apply pw_below_drewN | apply below_drew1))) hb); clear HO273; clear HB; have HO273 := n0_; have HO277 := n1_; have HB := n2_; clear n0_ n1_ n2_; (try clear hb); (try clear ho0)) | (go_at_call 65; (with_reducible refine (impl_CountDivisors.calls k t269 t278 t279 _ A8.out).mono ?_); rintro e w22 ⟨rfl, hb⟩; have n0_ := Aside0.mk (Kd.R_below (by (with_reducible repeat (first | apply Kd.R_alloc | apply Kd.R_drewN | apply Kd.R_drew)); exact HO273.out) hb); have n1_ := Aside0.mk (Kd.R_below (by (with_reducible repeat (first | apply Kd.R_alloc | apply Kd.R_drewN | apply Kd.R_drew)); exact HO277.out) hb); have n2_ := Aside0.mk (below_step (by repeat (first | (with_reducible first | exact HB.out | apply below_alloc | apply pw_below_drewN | apply below_drew1))) hb); clear HO273; clear HO277; clear HB; have HO273 := n0_; have HO277 := n1_; have HB := n2_; clear n0_ n1_ n2_; (try clear hb)) | (go_at_call 66; (with_reducible refine (spec_CountDivisors.calls k t269 t280 t281 _ A9.out).mono ?_); rintro e w23 ⟨rfl, hb⟩; have n0_ := Aside0.mk (Kd.R_below (by (with_reducible repeat (first | apply Kd.R_alloc | apply Kd.R_drewN | apply Kd.R_drew)); exact HO273.out) hb); have n1_ := Aside0.mk (Kd.R_below (by (with_reducible repeat (first | apply Kd.R_alloc | apply Kd.R_drewN | apply Kd.R_drew)); exact HO277.out) hb); have n2_ := Aside0.mk (below_step (by repeat (first | (with_reducible first | exact HB.out | apply below_alloc | apply pw_below_drewN | apply below_drew1))) hb); clear HO273; clear HO277; clear HB; have HO273 := n0_; have HO277 := n1_; have HB := n2_; clear n0_ n1_ n2_; (try clear hb)) | (go_at_call 67; (with_reducible refine (impl_SumDivisors.calls k t269 t282 t283 _ A10.out).mono ?_); rintro e w24 ⟨rfl, hb⟩; have n0_ := Aside0.mk (Kd.R_below (by (with_reducible repeat (first | apply Kd.R_alloc | apply Kd.R_drewN | apply Kd.R_drew)); exact HO273.out) hb); have n1_ := Aside0.mk (Kd.R_below (by (with_reducible repeat (first | apply Kd.R_alloc | apply Kd.R_drewN | apply Kd.R_drew)); exact HO277.out) hb); have n2_ := Aside0.mk (below_step (by repeat (first | (with_reducible first | exact HB.out | apply below_alloc | apply pw_below_drewN | apply below_drew1))) hb); clear HO273; clear HO277; clear HB; have HO273 := n0_; have HO277 := n1_; have HB := n2_; clear n0_ n1_ n2_; (try clear hb)) | (go_at_call 68; (with_reducible refine (spec_SumDivisors.calls k t269 t284 t285 _ A11.out).mono ?_); rintro e w25 ⟨rfl, hb⟩; have n0_ := Aside0.mk (Kd.R_below (by (with_reducible repeat (first | apply Kd.R_alloc | apply Kd.R_drewN | apply Kd.R_drew)); exact HO273.out) hb); have n1_ := Aside0.mk (Kd.R_below (by (with_reducible repeat (first | apply Kd.R_alloc | apply Kd.R_drewN | apply Kd.R_drew)); exact HO277.out) hb); have n2_ := Aside0.mk (below_step (by repeat (first | (with_reducible first | exact HB.out | apply below_alloc | apply pw_below_drewN | apply below_drew1))) hb); clear HO273; clear HO277; clear HB; have HO273 := n0_; have HO277 := n1_; have HB := n2_; clear n0_ n1_ n2_; (try clear hb)) | (go_at_call 69; (with_reducible refine (impl_TotientOf.calls k t269 t286 t287 _ A12.out).mono ?_); rintro e w26 ⟨rfl, hb⟩; have n0_ := Aside0.mk (Kd.R_below (by (with_reducible repeat (first | apply Kd.R_alloc | apply Kd.R_drewN | apply Kd.R_drew)); exact HO273.out) hb); have n1_ := Aside0.mk (Kd.R_below (by (with_reducible repeat (first | apply Kd.R_alloc | apply Kd.R_drewN | apply Kd.R_drew)); exact HO277.out) hb); have n2_ := Aside0.mk (below_step (by repeat (first | (with_reducible first | exact HB.out | apply below_alloc | apply pw_below_drewN | apply below_drew1))) hb); clear HO273; clear HO277; clear HB; have HO273 := n0_; have HO277 := n1_; have HB := n2_; clear n0_ n1_ n2_; (try clear hb)) | (go_at_call 70; (with_reducible refine (spec_TotientOf.calls k t269 t288 t289 _ A13.out).mono ?_); rintro e w27 ⟨rfl, hb⟩; have n0_ := Aside0.mk (Kd.R_below (by (with_reducible repeat (first | apply Kd.R_alloc | apply Kd.R_drewN | apply Kd.R_drew)); exact HO273.out) hb); have n1_ := Aside0.mk (Kd.R_below (by (with_reducible repeat (first | apply Kd.R_alloc | apply Kd.R_drewN | apply Kd.R_drew)); exact HO277.out) hb); have n2_ := Aside0.mk (below_step (by repeat (first | (with_reducible first | exact HB.out | apply below_alloc | apply pw_below_drewN | apply below_drew1))) hb); clear HO273; clear HO277; clear HB; have HO273 := n0_; have HO277 := n1_; have HB := n2_; clear n0_ n1_ n2_; (try clear hb)) | (go_at_call 71; (with_reducible refine (impl_MoebiusOf.calls k t269 t290 t291 _ A14.out).mono ?_); rintro e w28 ⟨rfl, hb⟩; have n0_ := Aside0.mk (Kd.R_below (by (with_reducible repeat (first | apply Kd.R_alloc | apply Kd.R_drewN | apply Kd.R_drew)); exact HO273.out) hb); have n1_ := Aside0.mk (Kd.R_below (by (with_reducible repeat (first | apply Kd.R_alloc | apply Kd.R_drewN | apply Kd.R_drew)); exact HO277.out) hb); have n2_ := Aside0.mk (below_step (by repeat (first | (with_reducible first | exact HB.out | apply below_alloc | apply pw_below_drewN | apply below_drew1))) hb); clear HO273; clear HO277; clear HB; have HO273 := n0_; have HO277 := n1_; have HB := n2_; clear n0_ n1_ n2_; (try clear hb)) | (go_at_call 72; (with_reducible refine (spec_MoebiusOf.calls k t269 t292 t293 _ A15.out).mono ?_); rintro e w29 ⟨rfl, hb⟩; have n0_ := Aside0.mk (Kd.R_below (by (with_reducible repeat (first | apply Kd.R_alloc | apply Kd.R_drewN | apply Kd.R_drew)); exact HO273.out) hb); have n1_ := Aside0.mk (Kd.R_below (by (with_reducible repeat (first | apply Kd.R_alloc | apply Kd.R_drewN | apply Kd.R_drew)); exact HO277.out) hb); have n2_ := Aside0.mk (below_step (by repeat (first | (with_reducible first | exact HB.out | apply below_alloc | apply pw_below_drewN | apply below_drew1))) hb); clear HO273; clear HO277; clear HB; have HO273 := n0_; have HO277 := n1_; have HB := n2_; clear n0_ n1_ n2_; (try clear hb)) | (go_at_call 73; (with_reducible refine (impl_SumStep.calls k t269 t294 t295 _ A16.out).mono ?_); rintro e w30 ⟨rfl, hb⟩; have n0_ := Aside0.mk (Kd.R_below (by (with_reducible repeat (first | apply Kd.R_alloc | apply Kd.R_drewN | apply Kd.R_drew)); exact HO273.out) hb); have n1_ := Aside0.mk (Kd.R_below (by (with_reducible repeat (first | apply Kd.R_alloc | apply Kd.R_drewN | apply Kd.R_drew)); exact HO277.out) hb); have n2_ := Aside0.mk (below_step (by repeat (first | (with_reducible first | exact HB.out | apply below_alloc | apply pw_below_drewN | apply below_drew1))) hb); clear HO273; clear HO277; clear HB; have HO273 := n0_; have HO277 := n1_; have HB := n2_; clear n0_ n1_ n2_; (try clear hb)) | (go_at_call 74; (with_reducible refine (spec_SumStep.calls k t269 t296 t297 _ A17.out).mono ?_); rintro e w31 ⟨rfl, hb⟩; have n0_ := Aside0.mk (Kd.R_below (by (with_reducible repeat (first | apply Kd.R_alloc | apply Kd.R_drewN | apply Kd.R_drew)); exact HO273.out) hb); have n1_ := Aside0.mk (Kd.R_below (by (with_reducible repeat (first | apply Kd.R_alloc | apply Kd.R_drewN | apply Kd.R_drew)); exact HO277.out) hb); have n2_ := Aside0.mk (below_step (by repeat (first | (with_reducible first | exact HB.out | apply below_alloc | apply pw_below_drewN | apply below_drew1))) hb); clear HO273; clear HO277; clear HB; have HO273 := n0_; have HO277 := n1_; have HB := n2_; clear n0_ n1_ n2_; (try clear hb)))
  repeat (go_quiet (first | (go_at_call 11; (with_reducible refine (laws_big.calls _ _ l0 _ _ l1 false _ ?side1 ?side2 ?side3 ?side4 A3.out).mono ?_); (case side1 => repeat (first | exact HR0.out | (with_reducible refine Kd.C_alloc ?_ _) | (with_reducible refine Kd.C_drewN ?_ _) | (with_reducible refine Kd.C_drew ?_))); (case side2 => exact HC0.out); (case side3 => repeat (first | exact HR1.out | (with_reducible refine Kd.C_alloc ?_ _) | (with_reducible refine Kd.C_drewN ?_ _) | (with_reducible refine Kd.C_drew ?_))); (case side4 => exact HC1.out); rintro e w' ⟨rfl, ⟨nd, rfl⟩⟩; (try first | exact ⟨rfl, _, World.drewN_drewN _ _ _⟩ | exact ⟨rfl, _, Eq.trans (World.drewN_drewN _ _ _) (congrArg (World.drewN _) (Nat.add_assoc _ _ _))⟩)) | (go_at_call 91; (with_reducible refine (spec_DrawDivisorsOf.calls _ _ l0 t269 _ ?side1 ?side2 A5.out).mono ?_); (case side1 => repeat (first | exact HR0.out | (with_reducible refine Kd.C_alloc ?_ _) | (with_reducible refine Kd.C_drewN ?_ _) | (with_reducible refine Kd.C_drew ?_))); (case side2 => exact HC0.out); rintro e w19 ⟨rfl, hb⟩; have n0_ := Aside0.mk (below_step (by repeat (first | (with_reducible first | exact HB.out | apply below_alloc | apply pw_below_drewN | apply below_drew1))) hb); clear HB; have HB := n0_; clear n0_; (try clear hb)) | (go_at_call 63; (with_reducible refine (impl_DivisorsOf.calls k t269 t270 t271 _ A6.out).mono ?_); rintro e w20 ⟨v272, rfl, ho0, hb⟩; have n0_ := Aside0.mk (Kd.R_lower ho0 (below_size (by repeat (first | (with_reducible first | exact HB.out | apply below_alloc | apply pw_below_drewN | apply below_drew1))))); have n1_ := Aside0.mk (below_step (by repeat (first | (with_reducible first | exact HB.out | apply below_alloc | apply pw_below_drewN | apply below_drew1))) hb); clear HB; have HO273 := n0_; have HB := n1_; clear n0_ n1_; (try clear hb); (try clear ho0)) | (go_at_call 64; (with_reducible refine (spec_DivisorsOf.calls k t269 t274 t275 _ A7.out).mono ?_); rintro e w21 ⟨v276, rfl, ho0, hb⟩; have n0_ := Aside0.mk (Kd.R_elder' (by (with_reducible repeat (first | apply Kd.R_alloc | apply Kd.R_drewN | apply Kd.R_drew)); exact HO273.out) (Kd.R_base ho0) hb); have n1_ := Aside0.mk (Kd.R_lower (Kd.R_new' ho0 (Kd.R_lt (by (with_reducible repeat (first | apply Kd.R_alloc | apply Kd.R_drewN | apply Kd.R_drew)); exact HO273.out))) (below_size (by repeat (first | (with_reducible first | exact HB.out | apply below_alloc | apply pw_below_drewN | apply below_drew1))))); have n2_ := Aside0.mk (below_step (by repeat (first | (with_reducible first | exact HB.out | apply below_alloc | apply pw_below_drewN | apply below_drew1))) hb); clear HO273; clear HB; have HO273 := n0_; have HO277 := n1_; have HB := n2_; clear n0_ n1_ n2_; (try clear hb); (try clear ho0)) | (go_at_call 65; (with_reducible refine (impl_CountDivisors.calls k t269 t278 t279 _ A8.out).mono ?_); rintro e w22 ⟨rfl, hb⟩; have n0_ := Aside0.mk (Kd.R_below (by (with_reducible repeat (first | apply Kd.R_alloc | apply Kd.R_drewN | apply Kd.R_drew)); exact HO273.out) hb); have n1_ := Aside0.mk (Kd.R_below (by (with_reducible repeat (first | apply Kd.R_alloc | apply Kd.R_drewN | apply Kd.R_drew)); exact HO277.out) hb); have n2_ := Aside0.mk (below_step (by repeat (first | (with_reducible first | exact HB.out | apply below_alloc | apply pw_below_drewN | apply below_drew1))) hb); clear HO273; clear HO277; clear HB; have HO273 := n0_; have HO277 := n1_; have HB := n2_; clear n0_ n1_ n2_; (try clear hb)) | (go_at_call 66; (with_reducible refine (spec_CountDivisors.calls k t269 t280 t281 _ A9.out).mono ?_); rintro e w23 ⟨rfl, hb⟩; have n0_ := Aside0.mk (Kd.R_below (by (with_reducible repeat (first | apply Kd.R_alloc | apply Kd.R_drewN | apply Kd.R_drew)); exact HO273.out) hb); have n1_ := Aside0.mk (Kd.R_below (by (with_reducible repeat (first | apply Kd.R_alloc | apply Kd.R_drewN | apply Kd.R_drew)); exact HO277.out) hb); have n2_ := Aside0.mk (below_step (by repeat (first | (with_reducible first | exact HB.out | apply below_alloc | apply pw_below_drewN | apply below_drew1))) hb); clear HO273; clear HO277; clear HB; have HO273 := n0_; have HO277 := n1_; have HB := n2_; clear n0_ n1_ n2_; (try clear hb)) | (go_at_call 67; (with_reducible refine (impl_SumDivisors.calls k t269 t282 t283 _ A10.out).mono ?_); rintro e w24 ⟨rfl, hb⟩; have n0_ := Aside0.mk (Kd.R_below (by (with_reducible repeat (first | apply Kd.R_alloc | apply Kd.R_drewN | apply Kd.R_drew)); exact HO273.out) hb); have n1_ := Aside0.mk (Kd.R_below (by (with_reducible repeat (first | apply Kd.R_alloc | apply Kd.R_drewN | apply Kd.R_drew)); exact HO277.out) hb); have n2_ := Aside0.mk (below_step (by repeat (first | (with_reducible first | exact HB.out | apply below_alloc | apply pw_below_drewN | apply below_drew1))) hb); clear HO273; clear HO277; clear HB; have HO273 := n0_; have HO277 := n1_; have HB := n2_; clear n0_ n1_ n2_; (try clear hb)) | (go_at_call 68; (with_reducible refine (spec_SumDivisors.calls k t269 t284 t285 _ A11.out).mono ?_); rintro e w25 ⟨rfl, hb⟩; have n0_ := Aside0.mk (Kd.R_below (by (with_reducible repeat (first | apply Kd.R_alloc | apply Kd.R_drewN | apply Kd.R_drew)); exact HO273.out) hb); have n1_ := Aside0.mk (Kd.R_below (by (with_reducible repeat (first | apply Kd.R_alloc | apply Kd.R_drewN | apply Kd.R_drew)); exact HO277.out) hb); have n2_ := Aside0.mk (below_step (by repeat (first | (with_reducible first | exact HB.out | apply below_alloc | apply pw_below_drewN | apply below_drew1))) hb); clear HO273; clear HO277; clear HB; have HO273 := n0_; have HO277 := n1_; have HB := n2_; clear n0_ n1_ n2_; (try clear hb)) | (go_at_call 69; (with_reducible refine (impl_TotientOf.calls k t269 t286 t287 _ A12.out).mono ?_); rintro e w26 ⟨rfl, hb⟩; have n0_ := Aside0.mk (Kd.R_below (by (with_reducible repeat (first | apply Kd.R_alloc | apply Kd.R_drewN | apply Kd.R_drew)); exact HO273.out) hb); have n1_ := Aside0.mk (Kd.R_below (by (with_reducible repeat (first | apply Kd.R_alloc | apply Kd.R_drewN | apply Kd.R_drew)); exact HO277.out) hb); have n2_ := Aside0.mk (below_step (by repeat (first | (with_reducible first | exact HB.out | apply below_alloc | apply pw_below_drewN | apply below_drew1))) hb); clear HO273; clear HO277; clear HB; have HO273 := n0_; have HO277 := n1_; have HB := n2_; clear n0_ n1_ n2_; (try clear hb)) | (go_at_call 70; (with_reducible refine (spec_TotientOf.calls k t269 t288 t289 _ A13.out).mono ?_); rintro e w27 ⟨rfl, hb⟩; have n0_ := Aside0.mk (Kd.R_below (by (with_reducible repeat (first | apply Kd.R_alloc | apply Kd.R_drewN | apply Kd.R_drew)); exact HO273.out) hb); have n1_ := Aside0.mk (Kd.R_below (by (with_reducible repeat (first | apply Kd.R_alloc | apply Kd.R_drewN | apply Kd.R_drew)); exact HO277.out) hb); have n2_ := Aside0.mk (below_step (by repeat (first | (with_reducible first | exact HB.out | apply below_alloc | apply pw_below_drewN | apply below_drew1))) hb); clear HO273; clear HO277; clear HB; have HO273 := n0_; have HO277 := n1_; have HB := n2_; clear n0_ n1_ n2_; (try clear hb)) | (go_at_call 71; (with_reducible refine (impl_MoebiusOf.calls k t269 t290 t291 _ A14.out).mono ?_); rintro e w28 ⟨rfl, hb⟩; have n0_ := Aside0.mk (Kd.R_below (by (with_reducible repeat (first | apply Kd.R_alloc | apply Kd.R_drewN | apply Kd.R_drew)); exact HO273.out) hb); have n1_ := Aside0.mk (Kd.R_below (by (with_reducible repeat (first | apply Kd.R_alloc | apply Kd.R_drewN | apply Kd.R_drew)); exact HO277.out) hb); have n2_ := Aside0.mk (below_step (by repeat (first | (with_reducible first | exact HB.out | apply below_alloc | apply pw_below_drewN | apply below_drew1))) hb); clear HO273; clear HO277; clear HB; have HO273 := n0_; have HO277 := n1_; have HB := n2_; clear n0_ n1_ n2_; (try clear hb)) | (go_at_call 72; (with_reducible refine (spec_MoebiusOf.calls k t269 t292 t293 _ A15.out).mono ?_); rintro e w29 ⟨rfl, hb⟩; have n0_ := Aside0.mk (Kd.R_below (by (with_reducible repeat (first | apply Kd.R_alloc | apply Kd.R_drewN | apply Kd.R_drew)); exact HO273.out) hb); have n1_ := Aside0.mk (Kd.R_below (by (with_reducible repeat (first | apply Kd.R_alloc | apply Kd.R_drewN | apply Kd.R_drew)); exact HO277.out) hb); have n2_ := Aside0.mk (below_step (by repeat (first | (with_reducible first | exact HB.out | apply below_alloc | apply pw_below_drewN | apply below_drew1))) hb); clear HO273; clear HO277; clear HB; have HO273 := n0_; have HO277 := n1_; have HB := n2_; clear n0_ n1_ n2_; (try clear hb)) | (go_at_call 73; (with_reducible refine (impl_SumStep.calls k t269 t294 t295 _ A16.out).mono ?_); rintro e w30 ⟨rfl, hb⟩; have n0_ := Aside0.mk (Kd.R_below (by (with_reducible repeat (first | apply Kd.R_alloc | apply Kd.R_drewN | apply Kd.R_drew)); exact HO273.out) hb); have n1_ := Aside0.mk (Kd.R_below (by (with_reducible repeat (first | apply Kd.R_alloc | apply Kd.R_drewN | apply Kd.R_drew)); exact HO277.out) hb); have n2_ := Aside0.mk (below_step (by repeat (first | (with_reducible first | exact HB.out | apply below_alloc | apply pw_below_drewN | apply below_drew1))) hb); clear HO273; clear HO277; clear HB; have HO273 := n0_; have HO277 := n1_; have HB := n2_; clear n0_ n1_ n2_; (try clear hb)) | (go_at_call 74; (with_reducible refine (spec_SumStep.calls k t269 t296 t297 _ A17.out).mono ?_); rintro e w31 ⟨rfl, hb⟩; have n0_ := Aside0.mk (Kd.R_below (by (with_reducible repeat (first | apply Kd.R_alloc | apply Kd.R_drewN | apply Kd.R_drew)); exact HO273.out) hb); have n1_ := Aside0.mk (Kd.R_below (by (with_reducible repeat (first | apply Kd.R_alloc | apply Kd.R_drewN | apply Kd.R_drew)); exact HO277.out) hb); have n2_ := Aside0.mk (below_step (by repeat (first | (with_reducible first | exact HB.out | apply below_alloc | apply pw_below_drewN | apply below_drew1))) hb); clear HO273; clear HO277; clear HB; have HO273 := n0_; have HO277 := n1_; have HB := n2_; clear n0_ n1_ n2_; (try clear hb))); go_upto_region 16 with (first | (go_at_call 11; (with_reducible refine (laws_big.calls _ _ l0 _ _ l1 false _ ?side1 ?side2 ?side3 ?side4 A3.out).mono ?_); (case side1 => repeat (first | exact HR0.out | (with_reducible refine Kd.C_alloc ?_ _) | (with_reducible refine Kd.C_drewN ?_ _) | (with_reducible refine Kd.C_drew ?_))); (case side2 => exact HC0.out); (case side3 => repeat (first | exact HR1.out | (with_reducible refine Kd.C_alloc ?_ _) | (with_reducible refine Kd.C_drewN ?_ _) | (with_reducible refine Kd.C_drew ?_))); (case side4 => exact HC1.out); rintro e w' ⟨rfl, ⟨nd, rfl⟩⟩; (try first | exact ⟨rfl, _, World.drewN_drewN _ _ _⟩ | exact ⟨rfl, _, Eq.trans (World.drewN_drewN _ _ _) (congrArg (World.drewN _) (Nat.add_assoc _ _ _))⟩)) | (go_at_call 91; (with_reducible refine (spec_DrawDivisorsOf.calls _ _ l0 t269 _ ?side1 ?side2 A5.out).mono ?_); (case side1 => repeat (first | exact HR0.out | (with_reducible refine Kd.C_alloc ?_ _) | (with_reducible refine Kd.C_drewN ?_ _) | (with_reducible refine Kd.C_drew ?_))); (case side2 => exact HC0.out); rintro e w19 ⟨rfl, hb⟩; have n0_ := Aside0.mk (below_step (by repeat (first | (with_reducible first | exact HB.out | apply below_alloc | apply pw_below_drewN | apply below_drew1))) hb); clear HB; have HB := n0_; clear n0_; (try clear hb)) | (go_at_call 63; (with_reducible refine (impl_DivisorsOf.calls k t269 t270 t271 _ A6.out).mono ?_); rintro e w20 ⟨v272, rfl, ho0, hb⟩; have n0_ := Aside0.mk (Kd.R_lower ho0 (below_size (by repeat (first | (with_reducible first | exact HB.out | apply below_alloc | apply pw_below_drewN | apply below_drew1))))); have n1_ := Aside0.mk (below_step (by repeat (first | (with_reducible first | exact HB.out | apply below_alloc | apply pw_below_drewN | apply below_drew1))) hb); clear HB; have HO273 := n0_; have HB := n1_; clear n0_ n1_; (try clear hb); (try clear ho0)) | (go_at_call 64; (with_reducible refine (spec_DivisorsOf.calls k t269 t274 t275 _ A7.out).mono ?_); rintro e w21 ⟨v276, rfl, ho0, hb⟩; have n0_ := Aside0.mk (Kd.R_elder' (by (with_reducible repeat (first | apply Kd.R_alloc | apply Kd.R_drewN | apply Kd.R_drew)); exact HO273.out) (Kd.R_base ho0) hb); have n1_ := Aside0.mk (Kd.R_lower (Kd.R_new' ho0 (Kd.R_lt (by (with_reducible repeat (first | apply Kd.R_alloc | apply Kd.R_drewN | apply Kd.R_drew)); exact HO273.out))) (below_size (by repeat (first | (with_reducible first | exact HB.out | apply below_alloc | apply pw_below_drewN | apply below_drew1))))); have n2_ := Aside0.mk (below_step (by repeat (first | (with_reducible first | exact HB.out | apply below_alloc | apply pw_below_drewN | apply below_drew1))) hb); clear HO273; clear HB; have HO273 := n0_; have HO277 := n1_; have HB := n2_; clear n0_ n1_ n2_; (try clear hb); (try clear ho0)) | (go_at_call 65; (with_reducible refine (impl_CountDivisors.calls k t269 t278 t279 _ A8.out).mono ?_); rintro e w22 ⟨rfl, hb⟩; have n0_ := Aside0.mk (Kd.R_below (by (with_reducible repeat (first | apply Kd.R_alloc | apply Kd.R_drewN | apply Kd.R_drew)); exact HO273.out) hb); have n1_ := Aside0.mk (Kd.R_below (by (with_reducible repeat (first | apply Kd.R_alloc | apply Kd.R_drewN | apply Kd.R_drew)); exact HO277.out) hb); have n2_ := Aside0.mk (below_step (by repeat (first | (with_reducible first | exact HB.out | apply below_alloc | apply pw_below_drewN | apply below_drew1))) hb); clear HO273; clear HO277; clear HB; have HO273 := n0_; have HO277 := n1_; have HB := n2_; clear n0_ n1_ n2_; (try clear hb)) | (go_at_call 66; (with_reducible refine (spec_CountDivisors.calls k t269 t280 t281 _ A9.out).mono ?_); rintro e w23 ⟨rfl, hb⟩; have n0_ := Aside0.mk (Kd.R_below (by (with_reducible repeat (first | apply Kd.R_alloc | apply Kd.R_drewN | apply Kd.R_drew)); exact HO273.out) hb); have n1_ := Aside0.mk (Kd.R_below (by (with_reducible repeat (first | apply Kd.R_alloc | apply Kd.R_drewN | apply Kd.R_drew)); exact HO277.out) hb); have n2_ := Aside0.mk (below_step (by repeat (first | (with_reducible first | exact HB.out | apply below_alloc | apply pw_below_drewN | apply below_drew1))) hb); clear HO273; clear HO277; clear HB; have HO273 := n0_; have HO277 := n1_; have HB := n2_; clear n0_ n1_ n2_; (try clear hb)) | (go_at_call 67; (with_reducible refine (impl_SumDivisors.calls k t269 t282 t283 _ A10.out).mono ?_); rintro e w24 ⟨rfl, hb⟩; have n0_ := Aside0.mk (Kd.R_below (by (with_reducible repeat (first | apply Kd.R_alloc | apply Kd.R_drewN | apply Kd.R_drew)); exact HO273.out) hb); have n1_ := Aside0.mk (Kd.R_below (by (with_reducible repeat (first | apply Kd.R_alloc | apply Kd.R_drewN | apply Kd.R_drew)); exact HO277.out) hb); have n2_ := Aside0.mk (below_step (by repeat (first | (with_reducible first | exact HB.out | apply below_alloc | apply pw_below_drewN | apply below_drew1))) hb); clear HO273; clear HO277; clear HB; have HO273 := n0_; have HO277 := n1_; have HB := n2_; clear n0_ n1_ n2_; (try clear hb)) | (go_at_call 68; (with_reducible refine (spec_SumDivisors.calls k t269 t284 t285 _ A11.out).mono ?_); rintro e w25 ⟨rfl, hb⟩; have n0_ := Aside0.mk (Kd.R_below (by (with_reducible repeat (first | apply Kd.R_alloc | apply Kd.R_drewN | apply Kd.R_drew)); exact HO273.out) hb); have n1_ := Aside0.mk (Kd.R_below (by (with_reducible repeat (first | apply Kd.R_alloc | apply Kd.R_drewN | apply Kd.R_drew)); exact HO277.out) hb); have n2_ := Aside0.mk (below_step (by repeat (first | (with_reducible first | exact HB.out | apply below_alloc | apply pw_below_drewN | apply below_drew1))) hb); clear HO273; clear HO277; clear HB; have HO273 := n0_; have HO277 := n1_; have HB := n2_; clear n0_ n1_ n2_; (try clear hb)) | (go_at_call 69; (with_reducible refine (impl_TotientOf.calls k t269 t286 t287 _ A12.out).mono ?_); rintro e w26 ⟨rfl, hb⟩; have n0_ := Aside0.mk (Kd.R_below (by (with_reducible repeat (first | apply Kd.R_alloc | apply Kd.R_drewN | apply Kd.R_drew)); exact HO273.out) hb); have n1_ := Aside0.mk (Kd.R_below (by (with_reducible repeat (first | apply Kd.R_alloc | apply Kd.R_drewN | apply Kd.R_drew)); exact HO277.out) hb); have n2_ := Aside0.mk (below_step (by repeat (first | (with_reducible first | exact HB.out | apply below_alloc | apply pw_below_drewN | apply below_drew1))) hb); clear HO273; clear HO277; clear HB; have HO273 := n0_; have HO277 := n1_; have HB := n2_; clear n0_ n1_ n2_; (try clear hb)) | (go_at_call 70; (with_reducible refine (spec_TotientOf.calls k t269 t288 t289 _ A13.out).mono ?_); rintro e w27 ⟨rfl, hb⟩; have n0_ := Aside0.mk (Kd.R_below (by (with_reducible repeat (first | apply Kd.R_alloc | apply Kd.R_drewN | apply Kd.R_drew)); exact HO273.out) hb); have n1_ := Aside0.mk (Kd.R_below (by (with_reducible repeat (first | apply Kd.R_alloc | apply Kd.R_drewN | apply Kd.R_drew)); exact HO277.out) hb); have n2_ := Aside0.mk (below_step (by repeat (first | (with_reducible first | exact HB.out | apply below_alloc | apply pw_below_drewN | apply below_drew1))) hb); clear HO273; clear HO277; clear HB; have HO273 := n0_; have HO277 := n1_; have HB := n2_; clear n0_ n1_ n2_; (try clear hb)) | (go_at_call 71; (with_reducible refine (impl_MoebiusOf.calls k t269 t290 t291 _ A14.out).mono ?_); rintro e w28 ⟨rfl, hb⟩; have n0_ := Aside0.mk (Kd.R_below (by (with_reducible repeat (first | apply Kd.R_alloc | apply Kd.R_drewN | apply Kd.R_drew)); exact HO273.out) hb); have n1_ := Aside0.mk (Kd.R_below (by (with_reducible repeat (first | apply Kd.R_alloc | apply Kd.R_drewN | apply Kd.R_drew)); exact HO277.out) hb); have n2_ := Aside0.mk (below_step (by repeat (first | (with_reducible first | exact HB.out | apply below_alloc | apply pw_below_drewN | apply below_drew1))) hb); clear HO273; clear HO277; clear HB; have HO273 := n0_; have HO277 := n1_; have HB := n2_; clear n0_ n1_ n2_; (try clear hb)) | (go_at_call 72; (with_reducible refine (spec_MoebiusOf.calls k t269 t292 t293 _ A15.out).mono ?_); rintro e w29 ⟨rfl, hb⟩; have n0_ := Aside0.mk (Kd.R_below (by (with_reducible repeat (first | apply Kd.R_alloc | apply Kd.R_drewN | apply Kd.R_drew)); exact HO273.out) hb); have n1_ := Aside0.mk (Kd.R_below (by (with_reducible repeat (first | apply Kd.R_alloc | apply Kd.R_drewN | apply Kd.R_drew)); exact HO277.out) hb); have n2_ := Aside0.mk (below_step (by repeat (first | (with_reducible first | exact HB.out | apply below_alloc | apply pw_below_drewN | apply below_drew1))) hb); clear HO273; clear HO277; clear HB; have HO273 := n0_; have HO277 := n1_; have HB := n2_; clear n0_ n1_ n2_; (try clear hb)) | (go_at_call 73; (with_reducible refine (impl_SumStep.calls k t269 t294 t295 _ A16.out).mono ?_); rintro e w30 ⟨rfl, hb⟩; have n0_ := Aside0.mk (Kd.R_below (by (with_reducible repeat (first | apply Kd.R_alloc | apply Kd.R_drewN | apply Kd.R_drew)); exact HO273.out) hb); have n1_ := Aside0.mk (Kd.R_below (by (with_reducible repeat (first | apply Kd.R_alloc | apply Kd.R_drewN | apply Kd.R_drew)); exact HO277.out) hb); have n2_ := Aside0.mk (below_step (by repeat (first | (with_reducible first | exact HB.out | apply below_alloc | apply pw_below_drewN | apply below_drew1))) hb); clear HO273; clear HO277; clear HB; have HO273 := n0_; have HO277 := n1_; have HB := n2_; clear n0_ n1_ n2_; (try clear hb)) | (go_at_call 74; (with_reducible refine (spec_SumStep.calls k t269 t296 t297 _ A17.out).mono ?_); rintro e w31 ⟨rfl, hb⟩; have n0_ := Aside0.mk (Kd.R_below (by (with_reducible repeat (first | apply Kd.R_alloc | apply Kd.R_drewN | apply Kd.R_drew)); exact HO273.out) hb); have n1_ := Aside0.mk (Kd.R_below (by (with_reducible repeat (first | apply Kd.R_alloc | apply Kd.R_drewN | apply Kd.R_drew)); exact HO277.out) hb); have n2_ := Aside0.mk (below_step (by repeat (first | (with_reducible first | exact HB.out | apply below_alloc | apply pw_below_drewN | apply below_drew1))) hb); clear HO273; clear HO277; clear HB; have HO273 := n0_; have HO277 := n1_; have HB := n2_; clear n0_ n1_ n2_; (try clear hb))))
  (try simp only [Act.put, List.setIfInBounds_toArray, List.set_cons_zero, List.set_cons_succ])
  refine cutF mk0 [] (fun u_ wc => ∃ (kq : Nat) (x205_17 : Bool), (u_ 205) = .bool x205_17 ∧ Aside0 (laws_FnDivisorsTold.j0 kq l1 t269 t270 t271 t278 t282 t286 t294 x205_17 = some r) ∧ Aside0 (kq ≤ k) ∧ Aside0 (Kd.R (Kd.int .i64) 3 wc w.heap.size (fun _ => True) v272 t270) ∧ Aside0 (Below w.heap.size w wc)) ?_ ?_
  ·
   as_aux_lemma =>
    intro J_ K_ hJ_ hK_
    have H := HC18.out
    clear HC18
    by_cases c32 : (t271 != t275) = true
    ·
     rw [if_pos c32] at H
     exact (laws_FnDivisorsTold.j0_no _ _ _ _ _ _ _ _ _ (H.trans (congrArg some HRT.out))).elim
    ·
     rw [if_neg c32] at H
     have c32b0 : (t271 != t275) = false := by simpa using c32
     (try (have c32b1 : decide (t271 = t275) = true := by simpa using c32))
     (try (have c32b2 : (t271 == t275) = true := by simpa using c32))
     clear c32
     (first | rw [c32b0] | (simp only [i64_w, i32_w]; rw [c32b0]) | skip)
     replace H := Option.bind_eq_some_iff.mp H
     obtain ⟨t298, A330, H⟩ := H
     replace H : (if t298 = true then (if (t279 != t281) = true then (laws_FnDivisorsTold.j0 k l1 t269 t270 t271 t278 t282 t286 t294 true) else (if t278 = t280 then (if (t283 != t285) = true then (laws_FnDivisorsTold.j0 k l1 t269 t270 t271 t278 t282 t286 t294 true) else (if t282 = t284 then (if (t287 != t289) = true then (laws_FnDivisorsTold.j0 k l1 t269 t270 t271 t278 t282 t286 t294 true) else (if t286 = t288 then (if (t291 != t293) = true then (laws_FnDivisorsTold.j0 k l1 t269 t270 t271 t278 t282 t286 t294 true) else (if t290 = t292 then (if (t295 != t297) = true then (laws_FnDivisorsTold.j0 k l1 t269 t270 t271 t278 t282 t286 t294 true) else (if t294 = t296 then (if (t279 != t271) = true then (laws_FnDivisorsTold.j0 k l1 t269 t270 t271 t278 t282 t286 t294 true) else (if (t283 != t271) = true then (laws_FnDivisorsTold.j0 k l1 t269 t270 t271 t278 t282 t286 t294 true) else (if (t287 != t271) = true then (laws_FnDivisorsTold.j0 k l1 t269 t270 t271 t278 t282 t286 t294 true) else (if (t291 != t271) = true then (laws_FnDivisorsTold.j0 k l1 t269 t270 t271 t278 t282 t286 t294 true) else (laws_FnDivisorsTold.j0 k l1 t269 t270 t271 t278 t282 t286 t294 (t295 != t271)))))) else (laws_FnDivisorsTold.j0 k l1 t269 t270 t271 t278 t282 t286 t294 true))) else (laws_FnDivisorsTold.j0 k l1 t269 t270 t271 t278 t282 t286 t294 true))) else (laws_FnDivisorsTold.j0 k l1 t269 t270 t271 t278 t282 t286 t294 true))) else (laws_FnDivisorsTold.j0 k l1 t269 t270 t271 t278 t282 t286 t294 true))) else (laws_FnDivisorsTold.j0 k l1 t269 t270 t271 t278 t282 t286 t294 true))) else (laws_FnDivisorsTold.j0 k l1 t269 t270 t271 t278 t282 t286 t294 true)) = some r := H
     have A33 := Aside0.mk A330
     clear A330
     by_cases c34 : t298 = true
     ·
      subst c34
      have H1 : (if (t279 != t281) = true then (laws_FnDivisorsTold.j0 k l1 t269 t270 t271 t278 t282 t286 t294 true) else (if t278 = t280 then (if (t283 != t285) = true then (laws_FnDivisorsTold.j0 k l1 t269 t270 t271 t278 t282 t286 t294 true) else (if t282 = t284 then (if (t287 != t289) = true then (laws_FnDivisorsTold.j0 k l1 t269 t270 t271 t278 t282 t286 t294 true) else (if t286 = t288 then (if (t291 != t293) = true then (laws_FnDivisorsTold.j0 k l1 t269 t270 t271 t278 t282 t286 t294 true) else (if t290 = t292 then (if (t295 != t297) = true then (laws_FnDivisorsTold.j0 k l1 t269 t270 t271 t278 t282 t286 t294 true) else (if t294 = t296 then (if (t279 != t271) = true then (laws_FnDivisorsTold.j0 k l1 t269 t270 t271 t278 t282 t286 t294 true) else (if (t283 != t271) = true then (laws_FnDivisorsTold.j0 k l1 t269 t270 t271 t278 t282 t286 t294 true) else (if (t287 != t271) = true then (laws_FnDivisorsTold.j0 k l1 t269 t270 t271 t278 t282 t286 t294 true) else (if (t291 != t271) = true then (laws_FnDivisorsTold.j0 k l1 t269 t270 t271 t278 t282 t286 t294 true) else (laws_FnDivisorsTold.j0 k l1 t269 t270 t271 t278 t282 t286 t294 (t295 != t271)))))) else (laws_FnDivisorsTold.j0 k l1 t269 t270 t271 t278 t282 t286 t294 true))) else (laws_FnDivisorsTold.j0 k l1 t269 t270 t271 t278 t282 t286 t294 true))) else (laws_FnDivisorsTold.j0 k l1 t269 t270 t271 t278 t282 t286 t294 true))) else (laws_FnDivisorsTold.j0 k l1 t269 t270 t271 t278 t282 t286 t294 true))) else (laws_FnDivisorsTold.j0 k l1 t269 t270 t271 t278 t282 t286 t294 true))) = some r := by rw [if_pos rfl] at H; exact H
      clear H
      have H := H1
      clear H1
      by_cases c35 : (t279 != t281) = true
      ·
       rw [if_pos c35] at H
       exact (laws_FnDivisorsTold.j0_no _ _ _ _ _ _ _ _ _ (H.trans (congrArg some HRT.out))).elim
      ·
       rw [if_neg c35] at H
       have c35b0 : (t279 != t281) = false := by simpa using c35
       (try (have c35b1 : decide (t279 = t281) = true := by simpa using c35))
       (try (have c35b2 : (t279 == t281) = true := by simpa using c35))
       clear c35
       by_cases c38 : t278 = t280
       ·
        rw [if_pos c38] at H
        have c38b0 : (t278 == t280) = true := beq_iff_eq.mpr c38
        have c38b1 : (t278 != t280) = false := bne_eq_false_iff_eq.mpr c38
        clear c38
        by_cases c39 : (t283 != t285) = true
        ·
         rw [if_pos c39] at H
         exact (laws_FnDivisorsTold.j0_no _ _ _ _ _ _ _ _ _ (H.trans (congrArg some HRT.out))).elim
        ·
         rw [if_neg c39] at H
         have c39b0 : (t283 != t285) = false := by simpa using c39
         (try (have c39b1 : decide (t283 = t285) = true := by simpa using c39))
         (try (have c39b2 : (t283 == t285) = true := by simpa using c39))
         clear c39
         by_cases c42 : t282 = t284
         ·
          rw [if_pos c42] at H
          have c42b0 : (t282 == t284) = true := beq_iff_eq.mpr c42
          have c42b1 : (t282 != t284) = false := bne_eq_false_iff_eq.mpr c42
          clear c42
          by_cases c43 : (t287 != t289) = true
          ·
           rw [if_pos c43] at H
           exact (laws_FnDivisorsTold.j0_no _ _ _ _ _ _ _ _ _ (H.trans (congrArg some HRT.out))).elim
          ·
           rw [if_neg c43] at H
           have c43b0 : (t287 != t289) = false := by simpa using c43
           (try (have c43b1 : decide (t287 = t289) = true := by simpa using c43))
           (try (have c43b2 : (t287 == t289) = true := by simpa using c43))
           clear c43
           by_cases c46 : t286 = t288
           ·
            rw [if_pos c46] at H
            have c46b0 : (t286 == t288) = true := beq_iff_eq.mpr c46
            have c46b1 : (t286 != t288) = false := bne_eq_false_iff_eq.mpr c46
            clear c46
            by_cases c47 : (t291 != t293) = true
            ·
             rw [if_pos c47] at H
             exact (laws_FnDivisorsTold.j0_no _ _ _ _ _ _ _ _ _ (H.trans (congrArg some HRT.out))).elim
            ·
             rw [if_neg c47] at H
             have c47b0 : (t291 != t293) = false := by simpa using c47
             (try (have c47b1 : decide (t291 = t293) = true := by simpa using c47))
             (try (have c47b2 : (t291 == t293) = true := by simpa using c47))
             clear c47
             by_cases c50 : t290 = t292
             ·
              rw [if_pos c50] at H
              have c50b0 : (t290 == t292) = true := beq_iff_eq.mpr c50
              have c50b1 : (t290 != t292) = false := bne_eq_false_iff_eq.mpr c50
              clear c50
              by_cases c51 : (t295 != t297) = true
              ·
               rw [if_pos c51] at H
               exact (laws_FnDivisorsTold.j0_no _ _ _ _ _ _ _ _ _ (H.trans (congrArg some HRT.out))).elim
              ·
               rw [if_neg c51] at H
               have c51b0 : (t295 != t297) = false := by simpa using c51
               (try (have c51b1 : decide (t295 = t297) = true := by simpa using c51))
               (try (have c51b2 : (t295 == t297) = true := by simpa using c51))
               clear c51
               by_cases c54 : t294 = t296
               ·
                rw [if_pos c54] at H
                have c54b0 : (t294 == t296) = true := beq_iff_eq.mpr c54
                have c54b1 : (t294 != t296) = false := bne_eq_false_iff_eq.mpr c54
                clear c54
                by_cases c55 : (t279 != t271) = true
                ·
                 rw [if_pos c55] at H
                 exact (laws_FnDivisorsTold.j0_no _ _ _ _ _ _ _ _ _ (H.trans (congrArg some HRT.out))).elim
                ·
                 rw [if_neg c55] at H
                 have c55b0 : (t279 != t271) = false := by simpa using c55
                 (try (have c55b1 : decide (t279 = t271) = true := by simpa using c55))
                 (try (have c55b2 : (t279 == t271) = true := by simpa using c55))
                 clear c55
                 by_cases c58 : (t283 != t271) = true
                 ·
                  rw [if_pos c58] at H
                  exact (laws_FnDivisorsTold.j0_no _ _ _ _ _ _ _ _ _ (H.trans (congrArg some HRT.out))).elim
                 ·
                  rw [if_neg c58] at H
                  have c58b0 : (t283 != t271) = false := by simpa using c58
                  (try (have c58b1 : decide (t283 = t271) = true := by simpa using c58))
                  (try (have c58b2 : (t283 == t271) = true := by simpa using c58))
                  clear c58
                  by_cases c61 : (t287 != t271) = true
                  ·
                   rw [if_pos c61] at H
                   exact (laws_FnDivisorsTold.j0_no _ _ _ _ _ _ _ _ _ (H.trans (congrArg some HRT.out))).elim
                  ·
                   rw [if_neg c61] at H
                   have c61b0 : (t287 != t271) = false := by simpa using c61
                   (try (have c61b1 : decide (t287 = t271) = true := by simpa using c61))
                   (try (have c61b2 : (t287 == t271) = true := by simpa using c61))
                   clear c61
                   by_cases c64 : (t291 != t271) = true
                   ·
                    rw [if_pos c64] at H
                    exact (laws_FnDivisorsTold.j0_no _ _ _ _ _ _ _ _ _ (H.trans (congrArg some HRT.out))).elim
                   ·
                    rw [if_neg c64] at H
                    have c64b0 : (t291 != t271) = false := by simpa using c64
                    (try (have c64b1 : decide (t291 = t271) = true := by simpa using c64))
                    (try (have c64b2 : (t291 == t271) = true := by simpa using c64))
                    clear c64
                    have H' := Aside0.mk H
                    clear H
                    obtain ⟨Ao67, co67, eo67⟩ := Kd.R_slice HO273.out
                    subst eo67
                    obtain ⟨Ao68, co68, eo68⟩ := Kd.R_slice HO277.out
                    subst eo68
                    go_wp2_with (first | (go_at_call 75; (with_reducible refine (laws_gSame.calls k _ _ t270 _ _ t274 true _ ?side1 ?side2 ?side3 ?side4 A33.out).mono ?_); (case side1 => repeat (first | exact (Kd.R_reads' HO273.out).2.2 | (with_reducible refine Kd.C_alloc ?_ _) | (with_reducible refine Kd.C_drewN ?_ _) | (with_reducible refine Kd.C_drew ?_))); (case side2 => exact (Kd.R_reads' HO273.out).2.1); (case side3 => repeat (first | exact (Kd.R_reads' HO277.out).2.2 | (with_reducible refine Kd.C_alloc ?_ _) | (with_reducible refine Kd.C_drewN ?_ _) | (with_reducible refine Kd.C_drew ?_))); (case side4 => exact (Kd.R_reads' HO277.out).2.1); rintro e w' ⟨rfl, ⟨nd, rfl⟩⟩; (try first | exact ⟨rfl, _, World.drewN_drewN _ _ _⟩ | exact ⟨rfl, _, Eq.trans (World.drewN_drewN _ _ _) (congrArg (World.drewN _) (Nat.add_assoc _ _ _))⟩)))
                    repeat (go_quiet (first | (go_at_call 75; (with_reducible refine (laws_gSame.calls k _ _ t270 _ _ t274 true _ ?side1 ?side2 ?side3 ?side4 A33.out).mono ?_); (case side1 => repeat (first | exact (Kd.R_reads' HO273.out).2.2 | (with_reducible refine Kd.C_alloc ?_ _) | (with_reducible refine Kd.C_drewN ?_ _) | (with_reducible refine Kd.C_drew ?_))); (case side2 => exact (Kd.R_reads' HO273.out).2.1); (case side3 => repeat (first | exact (Kd.R_reads' HO277.out).2.2 | (with_reducible refine Kd.C_alloc ?_ _) | (with_reducible refine Kd.C_drewN ?_ _) | (with_reducible refine Kd.C_drew ?_))); (case side4 => exact (Kd.R_reads' HO277.out).2.1); rintro e w' ⟨rfl, ⟨nd, rfl⟩⟩; (try first | exact ⟨rfl, _, World.drewN_drewN _ _ _⟩ | exact ⟨rfl, _, Eq.trans (World.drewN_drewN _ _ _) (congrArg (World.drewN _) (Nat.add_assoc _ _ _))⟩))); try go_wp2_with (first | (go_at_call 75; (with_reducible refine (laws_gSame.calls k _ _ t270 _ _ t274 true _ ?side1 ?side2 ?side3 ?side4 A33.out).mono ?_); (case side1 => repeat (first | exact (Kd.R_reads' HO273.out).2.2 | (with_reducible refine Kd.C_alloc ?_ _) | (with_reducible refine Kd.C_drewN ?_ _) | (with_reducible refine Kd.C_drew ?_))); (case side2 => exact (Kd.R_reads' HO273.out).2.1); (case side3 => repeat (first | exact (Kd.R_reads' HO277.out).2.2 | (with_reducible refine Kd.C_alloc ?_ _) | (with_reducible refine Kd.C_drewN ?_ _) | (with_reducible refine Kd.C_drew ?_))); (case side4 => exact (Kd.R_reads' HO277.out).2.1); rintro e w' ⟨rfl, ⟨nd, rfl⟩⟩; (try first | exact ⟨rfl, _, World.drewN_drewN _ _ _⟩ | exact ⟨rfl, _, Eq.trans (World.drewN_drewN _ _ _) (congrArg (World.drewN _) (Nat.add_assoc _ _ _))⟩))))
                    refine cutMeet hJ_ ?_ (by kernel_rfl)
                    exact ⟨_, ((t295 != t271)), (by first | rfl | (simp; done) | (simp [*]; done)), H', ⟨by first | omega | exact Nat.le_refl _⟩, ⟨by (with_reducible repeat (first | apply Kd.R_alloc | apply Kd.R_drewN | apply Kd.R_drew)); exact Kd.R_mono HO273.out (fun _ hk => trivial)⟩, ⟨by repeat (first | (with_reducible first | exact HB.out | apply below_alloc | apply pw_below_drewN | apply below_drew1))⟩⟩
               ·
                rw [if_neg c54] at H
                exact (laws_FnDivisorsTold.j0_no _ _ _ _ _ _ _ _ _ (H.trans (congrArg some HRT.out))).elim
             ·
              rw [if_neg c50] at H
              exact (laws_FnDivisorsTold.j0_no _ _ _ _ _ _ _ _ _ (H.trans (congrArg some HRT.out))).elim
           ·
            rw [if_neg c46] at H
            exact (laws_FnDivisorsTold.j0_no _ _ _ _ _ _ _ _ _ (H.trans (congrArg some HRT.out))).elim
         ·
          rw [if_neg c42] at H
          exact (laws_FnDivisorsTold.j0_no _ _ _ _ _ _ _ _ _ (H.trans (congrArg some HRT.out))).elim
       ·
        rw [if_neg c38] at H
        exact (laws_FnDivisorsTold.j0_no _ _ _ _ _ _ _ _ _ (H.trans (congrArg some HRT.out))).elim
     ·
      replace c34 := Bool.eq_false_iff.mpr c34
      subst c34
      have H1 : (laws_FnDivisorsTold.j0 k l1 t269 t270 t271 t278 t282 t286 t294 true) = some r := by rw [if_neg (show ¬ (false = true) by decide)] at H; exact H
      clear H
      have H := H1
      clear H1
      exact (laws_FnDivisorsTold.j0_no _ _ _ _ _ _ _ _ _ (H.trans (congrArg some HRT.out))).elim
  ·
   intro u_ wc hcut
   clear HC18
   obtain ⟨kq, x205_17, e_205, HA, HJ17, HO_6, HB⟩ := hcut
   dsimp only [cutFgt, mk0]
   rw [e_205]
   cases kq with
   | zero => exact absurd HA.out (by simp [laws_FnDivisorsTold.j0])
   | succ kj17 =>
    have H := HA.out
    clear HA
    simp only [laws_FnDivisorsTold.j0] at H
    by_cases c81 : x205_17 = true
    ·
     subst c81
     have H1 : (some false) = some r := by rw [if_pos rfl] at H; exact H
     clear H
     have H := H1
     clear H1
     first
     | exact absurd (Option.some.inj (H.trans (congrArg some HRT.out))) Bool.false_ne_true
     |
      obtain rfl := Option.some.inj H
      go_wp2
      repeat (go_quiet (fail); try go_wp2)
      go_ret
      exact ⟨by first | rfl | (simp [errW_none, errW_some] <;> rfl) | (simp [*, errW_none, errW_some] <;> rfl), by repeat (first | (with_reducible first | exact HB.out | apply below_alloc | apply pw_below_drewN | apply below_drew1))⟩
    ·
     replace c81 := Bool.eq_false_iff.mpr c81
     subst c81
     have H1 : (if t271 = true then (if (t270.length : Int) = t278 then ((laws_gSum.f kj17 t270).bind fun t299 => (if t299 = t282 then (if t294 = (wrap64 (t282 - t269)) then (if 0 < (t270.length : Int) then (if (rd t270 0) = 1 then (if 0 ≤ (wrap64 (t278 - 1)) then (if (wrap64 (t278 - 1)) < (t270.length : Int) then (laws_FnDivisorsTold.j1 kj17 l1 t269 t270 t278 t286 ((rd t270 (wrap64 (t278 - 1))) != t269)) else (none)) else (none)) else (laws_FnDivisorsTold.j1 kj17 l1 t269 t270 t278 t286 true)) else (none)) else (laws_FnDivisorsTold.j1 kj17 l1 t269 t270 t278 t286 true)) else (laws_FnDivisorsTold.j1 kj17 l1 t269 t270 t278 t286 true))) else (laws_FnDivisorsTold.j1 kj17 l1 t269 t270 t278 t286 true)) else (laws_FnDivisorsTold.j6 kj17 l1)) = some r := by rw [if_neg (show ¬ (false = true) by decide)] at H; exact H
     clear H
     have H := H1
     clear H1
     have HC82 := Aside0.mk H
     clear H
     go_upto_if 206 with (fail)
     repeat (go_quiet (fail); go_upto_if 206 with (fail))
     refine cutF mk0 [none, none, none, none, some 4, none, none, none, none, none, none, none, none, none, none, none, none, none, none, none, none, none, none, none, none, none, none, none, none, none, some 30, some 31, some 32, some 33, some 34, some 35, some 36, some 37, some 38, some 39, none, none, none, none, none, none, none, none, none, none, none, none, none, none, none, none, none, none, none, none, none, none, none, none, none, none, none, none, none, none, none, none, none, none, none, none, none, none, none, none, none, none, none, none, none, none, none, none, none, none, none, none, none, none, none, none, none, none, none, none, none, none, none, none, none, none, none, none, none, none, none, none, none, none, none, none, none, none, none, none, none, none, none, none, none, none, none, none, none, none, none, none, none, none, none, none, none, none, none, none, none, none, none, none, none, none, none, none, none, none, none, none, none, none, none, none, none, none, none, none, none, none, none, none, none, none, none, none, none, none, none, none, none, none, none, none, none, none, none, none, none, none, none, none, none, none, none, none, none, none, none, none, none, none, none, none, none, none, none, none, none, none, none, none, none, none, none, none, none, none, none, none, none, none, none, none, none, none, none, none, none, none, none, none, none, none, none, none, none, none, none, none, none, none, none, none, none, none, none, some 239, some 240, some 241] (fun u_ wc => ∃ (kq : Nat), Aside0 (laws_FnDivisorsTold.j6 kq l1 = some r) ∧ Aside0 (kq ≤ kj17) ∧ Aside0 (Below w.heap.size w wc)) ?_ ?_
     ·
      as_aux_lemma =>
       intro J_ K_ hJ_ hK_
       have H := HC82.out
       clear HC82
       by_cases c83 : t271 = true
       ·
        subst c83
        have H1 : (if (t270.length : Int) = t278 then ((laws_gSum.f kj17 t270).bind fun t299 => (if t299 = t282 then (if t294 = (wrap64 (t282 - t269)) then (if 0 < (t270.length : Int) then (if (rd t270 0) = 1 then (if 0 ≤ (wrap64 (t278 - 1)) then (if (wrap64 (t278 - 1)) < (t270.length : Int) then (laws_FnDivisorsTold.j1 kj17 l1 t269 t270 t278 t286 ((rd t270 (wrap64 (t278 - 1))) != t269)) else (none)) else (none)) else (laws_FnDivisorsTold.j1 kj17 l1 t269 t270 t278 t286 true)) else (none)) else (laws_FnDivisorsTold.j1 kj17 l1 t269 t270 t278 t286 true)) else (laws_FnDivisorsTold.j1 kj17 l1 t269 t270 t278 t286 true))) else (laws_FnDivisorsTold.j1 kj17 l1 t269 t270 t278 t286 true)) = some r := by rw [if_pos rfl] at H; exact H
        clear H
        have H := H1
        clear H1
        have HC84 := Aside0.mk H
        clear H
        go_upto_region 19 with (fail)
        repeat (go_quiet (fail); go_upto_region 19 with (fail))
        refine cutF mk0 [] (fun u_ wc => ∃ (kq : Nat) (x238_83 : Bool), (u_ 238) = .bool x238_83 ∧ Aside0 (laws_FnDivisorsTold.j1 kq l1 t269 t270 t278 t286 x238_83 = some r) ∧ Aside0 (kq ≤ kj17) ∧ Aside0 (Kd.R (Kd.int .i64) 3 wc w.heap.size (fun _ => True) v272 t270) ∧ Aside0 (Below w.heap.size w wc)) ?_ ?_
        ·
         as_aux_lemma =>
          intro J_ K_ hJ_ hK_
          have H := HC84.out
          clear HC84
          by_cases c85 : (t270.length : Int) = t278
          ·
           rw [if_pos c85] at H
           have c85b0 : ((t270.length : Int) == t278) = true := beq_iff_eq.mpr c85
           have c85b1 : ((t270.length : Int) != t278) = false := bne_eq_false_iff_eq.mpr c85
           clear c85
           (first | rw [c85b0] | (simp only [i64_w, i32_w]; rw [c85b0]) | skip)
           replace H := Option.bind_eq_some_iff.mp H
           obtain ⟨t299, A860, H⟩ := H
           replace H : (if t299 = t282 then (if t294 = (wrap64 (t282 - t269)) then (if 0 < (t270.length : Int) then (if (rd t270 0) = 1 then (if 0 ≤ (wrap64 (t278 - 1)) then (if (wrap64 (t278 - 1)) < (t270.length : Int) then (laws_FnDivisorsTold.j1 kj17 l1 t269 t270 t278 t286 ((rd t270 (wrap64 (t278 - 1))) != t269)) else (none)) else (none)) else (laws_FnDivisorsTold.j1 kj17 l1 t269 t270 t278 t286 true)) else (none)) else (laws_FnDivisorsTold.j1 kj17 l1 t269 t270 t278 t286 true)) else (laws_FnDivisorsTold.j1 kj17 l1 t269 t270 t278 t286 true)) = some r := H
           have A86 := Aside0.mk A860
           clear A860
           by_cases c87 : t299 = t282
           ·
            rw [if_pos c87] at H
            have c87b0 : (t299 == t282) = true := beq_iff_eq.mpr c87
            have c87b1 : (t299 != t282) = false := bne_eq_false_iff_eq.mpr c87
            clear c87
            by_cases c88 : t294 = (wrap64 (t282 - t269))
            ·
             rw [if_pos c88] at H
             have c88b0 : (t294 == (wrap64 (t282 - t269))) = true := beq_iff_eq.mpr c88
             have c88b1 : (t294 != (wrap64 (t282 - t269))) = false := bne_eq_false_iff_eq.mpr c88
             clear c88
             by_cases c89 : 0 < (t270.length : Int)
             ·
              rw [if_pos c89] at H
              have c89b0 : decide (0 < (t270.length : Int)) = true := decide_eq_true c89
              have c89b1 : decide (0 < t270.length) = true := decide_eq_true (by omega)
              clear c89
              by_cases c90 : (rd t270 0) = 1
              ·
               rw [if_pos c90] at H
               have c90b0 : ((rd t270 0) == 1) = true := beq_iff_eq.mpr c90
               have c90b1 : ((rd t270 0) != 1) = false := bne_eq_false_iff_eq.mpr c90
               clear c90
               obtain ⟨ji91, hji91⟩ : ∃ j_ : Int, (wrap64 (t278 - 1)) = j_ := ⟨_, rfl⟩
               replace H : (if 0 ≤ (ji91) then (if (ji91) < (t270.length : Int) then (laws_FnDivisorsTold.j1 kj17 l1 t269 t270 t278 t286 ((rd t270 (ji91)) != t269)) else (none)) else (none)) = some r := by first | (rw [hji91] at H; exact H) | (simp only [hji91] at H ⊢; exact H)
               (try rw [hji91] at A86)
               have hji91w : (IntKind.i64.wrap (t278 - 1)) = ji91 := (i64_w _).trans hji91
               by_cases c92 : 0 ≤ (ji91)
               ·
                rw [if_pos c92] at H
                have c92b0 : decide (0 ≤ (ji91)) = true := decide_eq_true c92
                clear c92
                by_cases c93 : (ji91) < (t270.length : Int)
                ·
                 rw [if_pos c93] at H
                 have c93b0 : decide ((ji91) < (t270.length : Int)) = true := decide_eq_true c93
                 clear c93
                 have H' := Aside0.mk H
                 clear H
                 obtain ⟨Ao94, co94, eo94⟩ := Kd.R_slice HO_6.out
                 subst eo94
                 go_wp2_with (first | (go_at_call 76; (with_reducible refine (laws_gSum.calls kj17 _ _ t270 t299 _ ?side1 ?side2 A86.out).mono ?_); (case side1 => repeat (first | exact (Kd.R_reads' HO_6.out).2.2 | (with_reducible refine Kd.C_alloc ?_ _) | (with_reducible refine Kd.C_drewN ?_ _) | (with_reducible refine Kd.C_drew ?_))); (case side2 => exact (Kd.R_reads' HO_6.out).2.1); rintro e w' ⟨rfl, ⟨nd, rfl⟩⟩; (try first | exact ⟨rfl, _, World.drewN_drewN _ _ _⟩ | exact ⟨rfl, _, Eq.trans (World.drewN_drewN _ _ _) (congrArg (World.drewN _) (Nat.add_assoc _ _ _))⟩); have p300 : 0 ≤ (0 : Int) := (by omega); have q300 : 0 < (t270.length : Int) := of_decide_eq_true (by first | (with_reducible assumption) | assumption); obtain ⟨ad300, e300, hx300_0⟩ := Kd.at_int (Kd.R_reads' HO_6.out).2.2 0 p300 q300; cases e300; have qi300 : (0 < t270.length) = True := eq_true (by omega); (try rw [show ((0 : Int)).toNat = 0 from rfl] at hx300_0); (try rw [Addr.add_zero'] at hx300_0); replace p300 := eq_true p300; replace q300 := eq_true q300; have p301 : 0 ≤ ((ji91) : Int) := of_decide_eq_true (by first | (with_reducible assumption) | assumption); have q301 : (ji91) < (t270.length : Int) := of_decide_eq_true (by first | (with_reducible assumption) | assumption); obtain ⟨ad301, e301, hx301_0⟩ := Kd.at_int (Kd.R_reads' HO_6.out).2.2 (ji91) p301 q301; obtain rfl : ad300 = ad301 := (by injection e301); replace p301 := eq_true p301; replace q301 := eq_true q301))
                 repeat (go_quiet (first | (go_at_call 76; (with_reducible refine (laws_gSum.calls kj17 _ _ t270 t299 _ ?side1 ?side2 A86.out).mono ?_); (case side1 => repeat (first | exact (Kd.R_reads' HO_6.out).2.2 | (with_reducible refine Kd.C_alloc ?_ _) | (with_reducible refine Kd.C_drewN ?_ _) | (with_reducible refine Kd.C_drew ?_))); (case side2 => exact (Kd.R_reads' HO_6.out).2.1); rintro e w' ⟨rfl, ⟨nd, rfl⟩⟩; (try first | exact ⟨rfl, _, World.drewN_drewN _ _ _⟩ | exact ⟨rfl, _, Eq.trans (World.drewN_drewN _ _ _) (congrArg (World.drewN _) (Nat.add_assoc _ _ _))⟩); have p300 : 0 ≤ (0 : Int) := (by omega); have q300 : 0 < (t270.length : Int) := of_decide_eq_true (by first | (with_reducible assumption) | assumption); obtain ⟨ad300, e300, hx300_0⟩ := Kd.at_int (Kd.R_reads' HO_6.out).2.2 0 p300 q300; cases e300; have qi300 : (0 < t270.length) = True := eq_true (by omega); (try rw [show ((0 : Int)).toNat = 0 from rfl] at hx300_0); (try rw [Addr.add_zero'] at hx300_0); replace p300 := eq_true p300; replace q300 := eq_true q300; have p301 : 0 ≤ ((ji91) : Int) := of_decide_eq_true (by first | (with_reducible assumption) | assumption); have q301 : (ji91) < (t270.length : Int) := of_decide_eq_true (by first | (with_reducible assumption) | assumption); obtain ⟨ad301, e301, hx301_0⟩ := Kd.at_int (Kd.R_reads' HO_6.out).2.2 (ji91) p301 q301; obtain rfl : ad300 = ad301 := (by injection e301); replace p301 := eq_true p301; replace q301 := eq_true q301)); try go_wp2_with (first | (go_at_call 76; (with_reducible refine (laws_gSum.calls kj17 _ _ t270 t299 _ ?side1 ?side2 A86.out).mono ?_); (case side1 => repeat (first | exact (Kd.R_reads' HO_6.out).2.2 | (with_reducible refine Kd.C_alloc ?_ _) | (with_reducible refine Kd.C_drewN ?_ _) | (with_reducible refine Kd.C_drew ?_))); (case side2 => exact (Kd.R_reads' HO_6.out).2.1); rintro e w' ⟨rfl, ⟨nd, rfl⟩⟩; (try first | exact ⟨rfl, _, World.drewN_drewN _ _ _⟩ | exact ⟨rfl, _, Eq.trans (World.drewN_drewN _ _ _) (congrArg (World.drewN _) (Nat.add_assoc _ _ _))⟩); have p300 : 0 ≤ (0 : Int) := (by omega); have q300 : 0 < (t270.length : Int) := of_decide_eq_true (by first | (with_reducible assumption) | assumption); obtain ⟨ad300, e300, hx300_0⟩ := Kd.at_int (Kd.R_reads' HO_6.out).2.2 0 p300 q300; cases e300; have qi300 : (0 < t270.length) = True := eq_true (by omega); (try rw [show ((0 : Int)).toNat = 0 from rfl] at hx300_0); (try rw [Addr.add_zero'] at hx300_0); replace p300 := eq_true p300; replace q300 := eq_true q300; have p301 : 0 ≤ ((ji91) : Int) := of_decide_eq_true (by first | (with_reducible assumption) | assumption); have q301 : (ji91) < (t270.length : Int) := of_decide_eq_true (by first | (with_reducible assumption) | assumption); obtain ⟨ad301, e301, hx301_0⟩ := Kd.at_int (Kd.R_reads' HO_6.out).2.2 (ji91) p301 q301; obtain rfl : ad300 = ad301 := (by injection e301); replace p301 := eq_true p301; replace q301 := eq_true q301)))
                 refine cutMeet hJ_ ?_ (by kernel_rfl)
                 exact ⟨_, (((rd t270 (ji91)) != t269)), (by first | rfl | (simp; done) | (simp only [← hji91] <;> (first | rfl | simp)) | (simp [*]; done)), H', ⟨by have := HJ17.out; first | omega | exact Nat.le_refl _⟩, ⟨by (with_reducible repeat (first | apply Kd.R_alloc | apply Kd.R_drewN | apply Kd.R_drew)); exact HO_6.out⟩, ⟨by repeat (first | (with_reducible first | exact HB.out | apply below_alloc | apply pw_below_drewN | apply below_drew1))⟩⟩
                ·
                 rw [if_neg c93] at H
                 exact absurd H (by simp)
               ·
                rw [if_neg c92] at H
                exact absurd H (by simp)
              ·
               rw [if_neg c90] at H
               exact (laws_FnDivisorsTold.j1_no _ _ _ _ _ _ (H.trans (congrArg some HRT.out))).elim
             ·
              rw [if_neg c89] at H
              exact absurd H (by simp)
            ·
             rw [if_neg c88] at H
             exact (laws_FnDivisorsTold.j1_no _ _ _ _ _ _ (H.trans (congrArg some HRT.out))).elim
           ·
            rw [if_neg c87] at H
            exact (laws_FnDivisorsTold.j1_no _ _ _ _ _ _ (H.trans (congrArg some HRT.out))).elim
          ·
           rw [if_neg c85] at H
           exact (laws_FnDivisorsTold.j1_no _ _ _ _ _ _ (H.trans (congrArg some HRT.out))).elim
        ·
         intro u_ wc hcut
         clear HC84
         obtain ⟨kq, x238_83, e_238, HA, HJ83, HO_6, HB⟩ := hcut
         dsimp only [cutFgt, mk0]
         rw [e_238]
         cases kq with
         | zero => exact absurd HA.out (by simp [laws_FnDivisorsTold.j1])
         | succ kj83 =>
          have H := HA.out
          clear HA
          simp only [laws_FnDivisorsTold.j1] at H
          by_cases c99 : x238_83 = true
          ·
           subst c99
           have H1 : (some false) = some r := by rw [if_pos rfl] at H; exact H
           clear H
           have H := H1
           clear H1
           first
           | exact absurd (Option.some.inj (H.trans (congrArg some HRT.out))) Bool.false_ne_true
           |
            obtain rfl := Option.some.inj H
            go_wp2
            repeat (go_quiet (fail); try go_wp2)
            go_ret
            exact ⟨by first | rfl | (simp [errW_none, errW_some] <;> rfl) | (simp [*, errW_none, errW_some] <;> rfl), by repeat (first | (with_reducible first | exact HB.out | apply below_alloc | apply pw_below_drewN | apply below_drew1))⟩
          ·
           replace c99 := Bool.eq_false_iff.mpr c99
           subst c99
           have H1 : (laws_FnDivisorsTold.l0 kj83 l1 t269 t270 t278 t286 0 0 t270 (t270.length : Int) 0) = some r := by rw [if_neg (show ¬ (false = true) by decide)] at H; exact H
           clear H
           have H := H1
           clear H1
           have H' := Aside0.mk H
           clear H
           obtain ⟨Ao100, co100, eo100⟩ := Kd.R_slice HO_6.out
           subst eo100
           go_wp2
           repeat (go_quiet (fail); try go_wp2)
           go_loopg [30, 31, 241] kj83 (fun kq v30 v31 v241 w' => ∃ (x30_3 : Int) (x31_3 : Int) (x241_3 : Int), v30 = .int .i64 x30_3 ∧ v31 = .int .i64 x31_3 ∧ v241 = .int .i64 x241_3 ∧ Aside0 (laws_FnDivisorsTold.l0 kq l1 t269 t270 t278 t286 x30_3 x31_3 t270 (t270.length : Int) x241_3 = some r) ∧ Aside0 (kq ≤ kj83) ∧ Aside0 (Kd.R (Kd.int .i64) 3 w' w.heap.size (fun _ => True) (.slice Ao100 t270.length co100) t270) ∧ Aside0 (Kd.R (Kd.int .i64) 3 w' w.heap.size (fun _ => True) (.slice Ao100 t270.length co100) t270) ∧ Aside0 (Below w.heap.size w w'))
           case atStart => exact ⟨(0), (0), (0), (by first | rfl | (simp; done) | (simp [*]; done)), (by first | rfl | (simp; done) | (simp [*]; done)), (by first | rfl | (simp; done) | (simp [*]; done)), H', ⟨Nat.le_refl _⟩, ⟨by (with_reducible repeat (first | apply Kd.R_alloc | apply Kd.R_drewN | apply Kd.R_drew)); exact HO_6.out⟩, ⟨by (with_reducible repeat (first | apply Kd.R_alloc | apply Kd.R_drewN | apply Kd.R_drew)); exact HO_6.out⟩, ⟨by repeat (first | (with_reducible first | exact HB.out | apply below_alloc | apply pw_below_drewN | apply below_drew1))⟩⟩
           case round =>
            clear H'
            obtain ⟨x30_3, x31_3, x241_3, rfl, rfl, rfl, HA, HK3, HO_6, HO_239, HB⟩ := hrel
            cases gk with
            | zero => exact absurd HA.out (by simp [laws_FnDivisorsTold.l0])
            | succ k3 =>
             have H := HA.out
             clear HA
             simp only [laws_FnDivisorsTold.l0] at H
             by_cases c101 : x241_3 < (t270.length : Int)
             ·
              rw [if_pos c101] at H
              have c101b0 : decide (x241_3 < (t270.length : Int)) = true := decide_eq_true c101
              clear c101
              by_cases c102 : 0 ≤ x241_3
              ·
               rw [if_pos c102] at H
               have c102b0 : decide (0 ≤ x241_3) = true := decide_eq_true c102
               clear c102
               by_cases c103 : x241_3 < (t270.length : Int)
               ·
                rw [if_pos c103] at H
                have c103b0 : decide (x241_3 < (t270.length : Int)) = true := decide_eq_true c103
                clear c103
                have HC104 := Aside0.mk H
                clear H
                have p302 : 0 ≤ (x241_3 : Int) := of_decide_eq_true (by first | (with_reducible assumption) | assumption)
                have q302 : x241_3 < (t270.length : Int) := of_decide_eq_true (by first | (with_reducible assumption) | assumption)
                obtain ⟨ad302, e302, hx302_0⟩ := Kd.at_int (Kd.R_reads' HO_239.out).2.2 x241_3 p302 q302
                cases e302
                replace p302 := eq_true p302
                replace q302 := eq_true q302
                go_upto_region 25 with (fail)
                repeat (go_quiet (fail); go_upto_region 25 with (fail))
                refine cutF mk1 [] (fun u_ wc => ∃ (kq : Nat) (x272_103 : Bool), (u_ 272) = .bool x272_103 ∧ Aside0 (laws_FnDivisorsTold.j3 kq l1 t269 t270 t278 t286 x30_3 x31_3 (rd t270 x241_3) t270 (t270.length : Int) x241_3 x272_103 = some r) ∧ Aside0 (kq ≤ k3) ∧ Aside0 (Kd.R (Kd.int .i64) 3 wc w.heap.size (fun _ => True) (.slice (some ad302) t270.length co100) t270) ∧ Aside0 (Kd.R (Kd.int .i64) 3 wc w.heap.size (fun _ => True) (.slice (some ad302) t270.length co100) t270) ∧ Aside0 (Below w.heap.size w wc)) ?_ ?_
                ·
                 as_aux_lemma =>
                  intro J_ K_ hJ_ hK_
                  have H := HC104.out
                  clear HC104
                  by_cases c105 : x241_3 < (t270.length : Int)
                  ·
                   rw [if_pos c105] at H
                   have c105b0 : decide (x241_3 < (t270.length : Int)) = true := decide_eq_true c105
                   clear c105
                   (first | rw [c105b0] | (simp only [i64_w, i32_w]; rw [c105b0]) | skip)
                   obtain ⟨ji106, hji106⟩ : ∃ j_ : Int, (wrap64 ((wrap64 (t278 - 1)) - x241_3)) = j_ := ⟨_, rfl⟩
                   replace H : (if 0 ≤ (ji106) then (if (ji106) < (t270.length : Int) then (if (wrap64 ((rd t270 x241_3) * (rd t270 (ji106)))) = t269 then (if x241_3 > 0 then (if 0 ≤ (wrap64 (x241_3 - 1)) then (if (wrap64 (x241_3 - 1)) < (t270.length : Int) then (laws_FnDivisorsTold.j3 k3 l1 t269 t270 t278 t286 x30_3 x31_3 (rd t270 x241_3) t270 (t270.length : Int) x241_3 (decide ((rd t270 (wrap64 (x241_3 - 1))) ≥ (rd t270 x241_3)))) else (none)) else (none)) else (laws_FnDivisorsTold.j3 k3 l1 t269 t270 t278 t286 x30_3 x31_3 (rd t270 x241_3) t270 (t270.length : Int) x241_3 false)) else (laws_FnDivisorsTold.j3 k3 l1 t269 t270 t278 t286 x30_3 x31_3 (rd t270 x241_3) t270 (t270.length : Int) x241_3 true)) else (none)) else (none)) = some r := by first | (rw [hji106] at H; exact H) | (simp only [hji106] at H ⊢; exact H)
                   have hji106w : (IntKind.i64.wrap ((wrap64 (t278 - 1)) - x241_3)) = ji106 := (i64_w _).trans hji106
                   by_cases c107 : 0 ≤ (ji106)
                   ·
                    rw [if_pos c107] at H
                    have c107b0 : decide (0 ≤ (ji106)) = true := decide_eq_true c107
                    clear c107
                    by_cases c108 : (ji106) < (t270.length : Int)
                    ·
                     rw [if_pos c108] at H
                     have c108b0 : decide ((ji106) < (t270.length : Int)) = true := decide_eq_true c108
                     clear c108
                     by_cases c109 : (wrap64 ((rd t270 x241_3) * (rd t270 (ji106)))) = t269
                     ·
                      rw [if_pos c109] at H
                      have c109b0 : ((wrap64 ((rd t270 x241_3) * (rd t270 (ji106)))) == t269) = true := beq_iff_eq.mpr c109
                      have c109b1 : ((wrap64 ((rd t270 x241_3) * (rd t270 (ji106)))) != t269) = false := bne_eq_false_iff_eq.mpr c109
                      clear c109
                      by_cases c110 : x241_3 > 0
                      ·
                       rw [if_pos c110] at H
                       have c110b0 : decide (0 < x241_3) = true := decide_eq_true c110
                       clear c110
                       obtain ⟨ji111, hji111⟩ : ∃ j_ : Int, (wrap64 (x241_3 - 1)) = j_ := ⟨_, rfl⟩
                       replace H : (if 0 ≤ (ji111) then (if (ji111) < (t270.length : Int) then (laws_FnDivisorsTold.j3 k3 l1 t269 t270 t278 t286 x30_3 x31_3 (rd t270 x241_3) t270 (t270.length : Int) x241_3 (decide ((rd t270 (ji111)) ≥ (rd t270 x241_3)))) else (none)) else (none)) = some r := by first | (rw [hji111] at H; exact H) | (simp only [hji111] at H ⊢; exact H)
                       have hji111w : (IntKind.i64.wrap (x241_3 - 1)) = ji111 := (i64_w _).trans hji111
                       by_cases c112 : 0 ≤ (ji111)
                       ·
                        rw [if_pos c112] at H
                        have c112b0 : decide (0 ≤ (ji111)) = true := decide_eq_true c112
                        clear c112
                        by_cases c113 : (ji111) < (t270.length : Int)
                        ·
                         rw [if_pos c113] at H
                         have c113b0 : decide ((ji111) < (t270.length : Int)) = true := decide_eq_true c113
                         clear c113
                         have H' := Aside0.mk H
                         clear H
                         have p303 : 0 ≤ (x241_3 : Int) := of_decide_eq_true (by first | (with_reducible assumption) | assumption)
                         have q303 : x241_3 < (t270.length : Int) := of_decide_eq_true (by first | (with_reducible assumption) | assumption)
                         obtain ⟨ad303, e303, hx303_0⟩ := Kd.at_int (Kd.R_reads' HO_6.out).2.2 x241_3 p303 q303
                         obtain rfl : ad302 = ad303 := (by injection e303)
                         replace p303 := eq_true p303
                         replace q303 := eq_true q303
                         have p304 : 0 ≤ ((ji106) : Int) := of_decide_eq_true (by first | (with_reducible assumption) | assumption)
                         have q304 : (ji106) < (t270.length : Int) := of_decide_eq_true (by first | (with_reducible assumption) | assumption)
                         obtain ⟨ad304, e304, hx304_0⟩ := Kd.at_int (Kd.R_reads' HO_6.out).2.2 (ji106) p304 q304
                         obtain rfl : ad302 = ad304 := (by injection e304)
                         replace p304 := eq_true p304
                         replace q304 := eq_true q304
                         have p305 : 0 ≤ ((ji111) : Int) := of_decide_eq_true (by first | (with_reducible assumption) | assumption)
                         have q305 : (ji111) < (t270.length : Int) := of_decide_eq_true (by first | (with_reducible assumption) | assumption)
                         obtain ⟨ad305, e305, hx305_0⟩ := Kd.at_int (Kd.R_reads' HO_6.out).2.2 (ji111) p305 q305
                         obtain rfl : ad302 = ad305 := (by injection e305)
                         replace p305 := eq_true p305
                         replace q305 := eq_true q305
                         go_wp2
                         repeat (go_quiet (fail); try go_wp2)
                         refine cutMeet hJ_ ?_ (by kernel_rfl)
                         exact ⟨_, (decide ((rd t270 (ji111)) ≥ (rd t270 x241_3))), (by first | rfl | (simp; done) | (simp only [← hji111] <;> (first | rfl | simp)) | (simp [*]; done)), H', ⟨by have := HJ17.out; have := HJ83.out; have := HK3.out; first | omega | exact Nat.le_refl _⟩, ⟨by (with_reducible repeat (first | apply Kd.R_alloc | apply Kd.R_drewN | apply Kd.R_drew)); exact HO_6.out⟩, ⟨by (with_reducible repeat (first | apply Kd.R_alloc | apply Kd.R_drewN | apply Kd.R_drew)); exact HO_239.out⟩, ⟨by repeat (first | (with_reducible first | exact HB.out | apply below_alloc | apply pw_below_drewN | apply below_drew1))⟩⟩
                        ·
                         rw [if_neg c113] at H
                         exact absurd H (by simp)
                       ·
                        rw [if_neg c112] at H
                        exact absurd H (by simp)
                      ·
                       rw [if_neg c110] at H
                       have c110b0 : decide (0 < x241_3) = false := decide_eq_false c110
                       clear c110
                       have H' := Aside0.mk H
                       clear H
                       have p303 : 0 ≤ (x241_3 : Int) := of_decide_eq_true (by first | (with_reducible assumption) | assumption)
                       have q303 : x241_3 < (t270.length : Int) := of_decide_eq_true (by first | (with_reducible assumption) | assumption)
                       obtain ⟨ad303, e303, hx303_0⟩ := Kd.at_int (Kd.R_reads' HO_6.out).2.2 x241_3 p303 q303
                       obtain rfl : ad302 = ad303 := (by injection e303)
                       replace p303 := eq_true p303
                       replace q303 := eq_true q303
                       have p304 : 0 ≤ ((ji106) : Int) := of_decide_eq_true (by first | (with_reducible assumption) | assumption)
                       have q304 : (ji106) < (t270.length : Int) := of_decide_eq_true (by first | (with_reducible assumption) | assumption)
                       obtain ⟨ad304, e304, hx304_0⟩ := Kd.at_int (Kd.R_reads' HO_6.out).2.2 (ji106) p304 q304
                       obtain rfl : ad302 = ad304 := (by injection e304)
                       replace p304 := eq_true p304
                       replace q304 := eq_true q304
                       go_wp2
                       repeat (go_quiet (fail); try go_wp2)
                       refine cutMeet hJ_ ?_ (by kernel_rfl)
                       exact ⟨_, (false), (by first | rfl | (simp; done) | (simp [*]; done)), H', ⟨by have := HJ17.out; have := HJ83.out; have := HK3.out; first | omega | exact Nat.le_refl _⟩, ⟨by (with_reducible repeat (first | apply Kd.R_alloc | apply Kd.R_drewN | apply Kd.R_drew)); exact HO_6.out⟩, ⟨by (with_reducible repeat (first | apply Kd.R_alloc | apply Kd.R_drewN | apply Kd.R_drew)); exact HO_239.out⟩, ⟨by repeat (first | (with_reducible first | exact HB.out | apply below_alloc | apply pw_below_drewN | apply below_drew1))⟩⟩
                     ·
                      rw [if_neg c109] at H
                      exact (laws_FnDivisorsTold.j3_no _ _ _ _ _ _ _ _ _ _ _ _ (H.trans (congrArg some HRT.out))).elim
                    ·
                     rw [if_neg c108] at H
                     exact absurd H (by simp)
                   ·
                    rw [if_neg c107] at H
                    exact absurd H (by simp)
                  ·
                   rw [if_neg c105] at H
                   exact absurd H (by simp)
                ·
                 intro u_ wc hcut
                 clear HC104
                 obtain ⟨kq, x272_103, e_272, HA, HJ103, HO_6, HO_239, HB⟩ := hcut
                 dsimp only [cutFgt, mk1]
                 rw [e_272]
                 cases kq with
                 | zero => exact absurd HA.out (by simp [laws_FnDivisorsTold.j3])
                 | succ kj103 =>
                  have H := HA.out
                  clear HA
                  simp only [laws_FnDivisorsTold.j3] at H
                  by_cases c114 : x272_103 = true
                  ·
                   subst c114
                   have H1 : (some false) = some r := by rw [if_pos rfl] at H; exact H
                   clear H
                   have H := H1
                   clear H1
                   first
                   | exact absurd (Option.some.inj (H.trans (congrArg some HRT.out))) Bool.false_ne_true
                   |
                    obtain rfl := Option.some.inj H
                    go_wp2
                    repeat (go_quiet (fail); try go_wp2)
                    go_ret
                    exact ⟨by first | rfl | (simp [errW_none, errW_some] <;> rfl) | (simp [*, errW_none, errW_some] <;> rfl), by repeat (first | (with_reducible first | exact HB.out | apply below_alloc | apply pw_below_drewN | apply below_drew1))⟩
                  ·
                   replace c114 := Bool.eq_false_iff.mpr c114
                   subst c114
                   have H1 : ((impl_TotientOf.f kj103 (rd t270 x241_3)).bind fun bt306 => ((impl_MoebiusOf.f kj103 (rd t270 x241_3)).bind fun bt308 => (if bt306.2 = true then (if bt308.2 = true then (laws_FnDivisorsTold.l0 kj103 l1 t269 t270 t278 t286 (wrap64 (x30_3 + bt306.1)) (wrap64 (x31_3 + bt308.1)) t270 (t270.length : Int) (wrap64 (x241_3 + 1))) else (some false)) else (some false)))) = some r := by rw [if_neg (show ¬ (false = true) by decide)] at H; exact H
                   clear H
                   have H := H1
                   clear H1
                   replace H := Option.bind_eq_some_iff.mp H
                   obtain ⟨⟨t306, t307⟩, A1150, H⟩ := H
                   replace H : ((impl_MoebiusOf.f kj103 (rd t270 x241_3)).bind fun bt308 => (if t307 = true then (if bt308.2 = true then (laws_FnDivisorsTold.l0 kj103 l1 t269 t270 t278 t286 (wrap64 (x30_3 + t306)) (wrap64 (x31_3 + bt308.1)) t270 (t270.length : Int) (wrap64 (x241_3 + 1))) else (some false)) else (some false))) = some r := H
                   have A115 := Aside0.mk A1150
                   clear A1150
                   replace H := Option.bind_eq_some_iff.mp H
                   obtain ⟨⟨t308, t309⟩, A1160, H⟩ := H
                   replace H : (if t307 = true then (if t309 = true then (laws_FnDivisorsTold.l0 kj103 l1 t269 t270 t278 t286 (wrap64 (x30_3 + t306)) (wrap64 (x31_3 + t308)) t270 (t270.length : Int) (wrap64 (x241_3 + 1))) else (some false)) else (some false)) = some r := H
                   have A116 := Aside0.mk A1160
                   clear A1160
                   by_cases c117 : t307 = true
                   ·
                    subst c117
                    have H1 : (if t309 = true then (laws_FnDivisorsTold.l0 kj103 l1 t269 t270 t278 t286 (wrap64 (x30_3 + t306)) (wrap64 (x31_3 + t308)) t270 (t270.length : Int) (wrap64 (x241_3 + 1))) else (some false)) = some r := by rw [if_pos rfl] at H; exact H
                    clear H
                    have H := H1
                    clear H1
                    by_cases c118 : t309 = true
                    ·
                     subst c118
                     have H1 : (laws_FnDivisorsTold.l0 kj103 l1 t269 t270 t278 t286 (wrap64 (x30_3 + t306)) (wrap64 (x31_3 + t308)) t270 (t270.length : Int) (wrap64 (x241_3 + 1))) = some r := by rw [if_pos rfl] at H; exact H
                     clear H
                     have H := H1
                     clear H1
                     have H' := Aside0.mk H
                     clear H
                     go_wp2_with (first | (go_at_call 69; (with_reducible refine (impl_TotientOf.calls kj103 (rd t270 x241_3) t306 true _ A115.out).mono ?_); rintro e w119 ⟨rfl, hb⟩; have n0_ := Aside0.mk (Kd.R_below (by (with_reducible repeat (first | apply Kd.R_alloc | apply Kd.R_drewN | apply Kd.R_drew)); exact HO_6.out) hb); have n1_ := Aside0.mk (Kd.R_below (by (with_reducible repeat (first | apply Kd.R_alloc | apply Kd.R_drewN | apply Kd.R_drew)); exact HO_239.out) hb); have n2_ := Aside0.mk (below_step (by repeat (first | (with_reducible first | exact HB.out | apply below_alloc | apply pw_below_drewN | apply below_drew1))) hb); clear HO_6; clear HO_239; clear HB; have HO_6 := n0_; have HO_239 := n1_; have HB := n2_; clear n0_ n1_ n2_; (try clear hb)) | (go_at_call 71; (with_reducible refine (impl_MoebiusOf.calls kj103 (rd t270 x241_3) t308 true _ A116.out).mono ?_); rintro e w120 ⟨rfl, hb⟩; have n0_ := Aside0.mk (Kd.R_below (by (with_reducible repeat (first | apply Kd.R_alloc | apply Kd.R_drewN | apply Kd.R_drew)); exact HO_6.out) hb); have n1_ := Aside0.mk (Kd.R_below (by (with_reducible repeat (first | apply Kd.R_alloc | apply Kd.R_drewN | apply Kd.R_drew)); exact HO_239.out) hb); have n2_ := Aside0.mk (below_step (by repeat (first | (with_reducible first | exact HB.out | apply below_alloc | apply pw_below_drewN | apply below_drew1))) hb); clear HO_6; clear HO_239; clear HB; have HO_6 := n0_; have HO_239 := n1_; have HB := n2_; clear n0_ n1_ n2_; (try clear hb)))
                     repeat (go_quiet (first | (go_at_call 69; (with_reducible refine (impl_TotientOf.calls kj103 (rd t270 x241_3) t306 true _ A115.out).mono ?_); rintro e w119 ⟨rfl, hb⟩; have n0_ := Aside0.mk (Kd.R_below (by (with_reducible repeat (first | apply Kd.R_alloc | apply Kd.R_drewN | apply Kd.R_drew)); exact HO_6.out) hb); have n1_ := Aside0.mk (Kd.R_below (by (with_reducible repeat (first | apply Kd.R_alloc | apply Kd.R_drewN | apply Kd.R_drew)); exact HO_239.out) hb); have n2_ := Aside0.mk (below_step (by repeat (first | (with_reducible first | exact HB.out | apply below_alloc | apply pw_below_drewN | apply below_drew1))) hb); clear HO_6; clear HO_239; clear HB; have HO_6 := n0_; have HO_239 := n1_; have HB := n2_; clear n0_ n1_ n2_; (try clear hb)) | (go_at_call 71; (with_reducible refine (impl_MoebiusOf.calls kj103 (rd t270 x241_3) t308 true _ A116.out).mono ?_); rintro e w120 ⟨rfl, hb⟩; have n0_ := Aside0.mk (Kd.R_below (by (with_reducible repeat (first | apply Kd.R_alloc | apply Kd.R_drewN | apply Kd.R_drew)); exact HO_6.out) hb); have n1_ := Aside0.mk (Kd.R_below (by (with_reducible repeat (first | apply Kd.R_alloc | apply Kd.R_drewN | apply Kd.R_drew)); exact HO_239.out) hb); have n2_ := Aside0.mk (below_step (by repeat (first | (with_reducible first | exact HB.out | apply below_alloc | apply pw_below_drewN | apply below_drew1))) hb); clear HO_6; clear HO_239; clear HB; have HO_6 := n0_; have HO_239 := n1_; have HB := n2_; clear n0_ n1_ n2_; (try clear hb))); try go_wp2_with (first | (go_at_call 69; (with_reducible refine (impl_TotientOf.calls kj103 (rd t270 x241_3) t306 true _ A115.out).mono ?_); rintro e w119 ⟨rfl, hb⟩; have n0_ := Aside0.mk (Kd.R_below (by (with_reducible repeat (first | apply Kd.R_alloc | apply Kd.R_drewN | apply Kd.R_drew)); exact HO_6.out) hb); have n1_ := Aside0.mk (Kd.R_below (by (with_reducible repeat (first | apply Kd.R_alloc | apply Kd.R_drewN | apply Kd.R_drew)); exact HO_239.out) hb); have n2_ := Aside0.mk (below_step (by repeat (first | (with_reducible first | exact HB.out | apply below_alloc | apply pw_below_drewN | apply below_drew1))) hb); clear HO_6; clear HO_239; clear HB; have HO_6 := n0_; have HO_239 := n1_; have HB := n2_; clear n0_ n1_ n2_; (try clear hb)) | (go_at_call 71; (with_reducible refine (impl_MoebiusOf.calls kj103 (rd t270 x241_3) t308 true _ A116.out).mono ?_); rintro e w120 ⟨rfl, hb⟩; have n0_ := Aside0.mk (Kd.R_below (by (with_reducible repeat (first | apply Kd.R_alloc | apply Kd.R_drewN | apply Kd.R_drew)); exact HO_6.out) hb); have n1_ := Aside0.mk (Kd.R_below (by (with_reducible repeat (first | apply Kd.R_alloc | apply Kd.R_drewN | apply Kd.R_drew)); exact HO_239.out) hb); have n2_ := Aside0.mk (below_step (by repeat (first | (with_reducible first | exact HB.out | apply below_alloc | apply pw_below_drewN | apply below_drew1))) hb); clear HO_6; clear HO_239; clear HB; have HO_6 := n0_; have HO_239 := n1_; have HB := n2_; clear n0_ n1_ n2_; (try clear hb))))
                     go_roundg kj103
                     case measure => have := HJ17.out; have := HJ83.out; have := HK3.out; have := HJ103.out; omega
                     case rel => exact ⟨(wrap64 (x30_3 + t306)), (wrap64 (x31_3 + t308)), (wrap64 (x241_3 + 1)), (by first | rfl | (simp; done) | (simp [*]; done)), (by first | rfl | (simp; done) | (simp [*]; done)), (by first | rfl | (simp; done) | (simp [*]; done)), H', ⟨by have := HJ17.out; have := HJ83.out; have := HK3.out; have := HJ103.out; omega⟩, ⟨by (with_reducible repeat (first | apply Kd.R_alloc | apply Kd.R_drewN | apply Kd.R_drew)); exact HO_6.out⟩, ⟨by (with_reducible repeat (first | apply Kd.R_alloc | apply Kd.R_drewN | apply Kd.R_drew)); exact HO_239.out⟩, ⟨by repeat (first | (with_reducible first | exact HB.out | apply below_alloc | apply pw_below_drewN | apply below_drew1))⟩⟩
                    ·
                     replace c118 := Bool.eq_false_iff.mpr c118
                     subst c118
                     have H1 : (some false) = some r := by rw [if_neg (show ¬ (false = true) by decide)] at H; exact H
                     clear H
                     have H := H1
                     clear H1
                     first
                     | exact absurd (Option.some.inj (H.trans (congrArg some HRT.out))) Bool.false_ne_true
                     |
                      obtain rfl := Option.some.inj H
                      go_wp2_with (first | (go_at_call 69; (with_reducible refine (impl_TotientOf.calls kj103 (rd t270 x241_3) t306 true _ A115.out).mono ?_); rintro e w121 ⟨rfl, hb⟩; have n0_ := Aside0.mk (Kd.R_below (by (with_reducible repeat (first | apply Kd.R_alloc | apply Kd.R_drewN | apply Kd.R_drew)); exact HO_6.out) hb); have n1_ := Aside0.mk (Kd.R_below (by (with_reducible repeat (first | apply Kd.R_alloc | apply Kd.R_drewN | apply Kd.R_drew)); exact HO_239.out) hb); have n2_ := Aside0.mk (below_step (by repeat (first | (with_reducible first | exact HB.out | apply below_alloc | apply pw_below_drewN | apply below_drew1))) hb); clear HO_6; clear HO_239; clear HB; have HO_6 := n0_; have HO_239 := n1_; have HB := n2_; clear n0_ n1_ n2_; (try clear hb)) | (go_at_call 71; (with_reducible refine (impl_MoebiusOf.calls kj103 (rd t270 x241_3) t308 false _ A116.out).mono ?_); rintro e w122 ⟨rfl, hb⟩; have n0_ := Aside0.mk (Kd.R_below (by (with_reducible repeat (first | apply Kd.R_alloc | apply Kd.R_drewN | apply Kd.R_drew)); exact HO_6.out) hb); have n1_ := Aside0.mk (Kd.R_below (by (with_reducible repeat (first | apply Kd.R_alloc | apply Kd.R_drewN | apply Kd.R_drew)); exact HO_239.out) hb); have n2_ := Aside0.mk (below_step (by repeat (first | (with_reducible first | exact HB.out | apply below_alloc | apply pw_below_drewN | apply below_drew1))) hb); clear HO_6; clear HO_239; clear HB; have HO_6 := n0_; have HO_239 := n1_; have HB := n2_; clear n0_ n1_ n2_; (try clear hb)))
                      repeat (go_quiet (first | (go_at_call 69; (with_reducible refine (impl_TotientOf.calls kj103 (rd t270 x241_3) t306 true _ A115.out).mono ?_); rintro e w121 ⟨rfl, hb⟩; have n0_ := Aside0.mk (Kd.R_below (by (with_reducible repeat (first | apply Kd.R_alloc | apply Kd.R_drewN | apply Kd.R_drew)); exact HO_6.out) hb); have n1_ := Aside0.mk (Kd.R_below (by (with_reducible repeat (first | apply Kd.R_alloc | apply Kd.R_drewN | apply Kd.R_drew)); exact HO_239.out) hb); have n2_ := Aside0.mk (below_step (by repeat (first | (with_reducible first | exact HB.out | apply below_alloc | apply pw_below_drewN | apply below_drew1))) hb); clear HO_6; clear HO_239; clear HB; have HO_6 := n0_; have HO_239 := n1_; have HB := n2_; clear n0_ n1_ n2_; (try clear hb)) | (go_at_call 71; (with_reducible refine (impl_MoebiusOf.calls kj103 (rd t270 x241_3) t308 false _ A116.out).mono ?_); rintro e w122 ⟨rfl, hb⟩; have n0_ := Aside0.mk (Kd.R_below (by (with_reducible repeat (first | apply Kd.R_alloc | apply Kd.R_drewN | apply Kd.R_drew)); exact HO_6.out) hb); have n1_ := Aside0.mk (Kd.R_below (by (with_reducible repeat (first | apply Kd.R_alloc | apply Kd.R_drewN | apply Kd.R_drew)); exact HO_239.out) hb); have n2_ := Aside0.mk (below_step (by repeat (first | (with_reducible first | exact HB.out | apply below_alloc | apply pw_below_drewN | apply below_drew1))) hb); clear HO_6; clear HO_239; clear HB; have HO_6 := n0_; have HO_239 := n1_; have HB := n2_; clear n0_ n1_ n2_; (try clear hb))); try go_wp2_with (first | (go_at_call 69; (with_reducible refine (impl_TotientOf.calls kj103 (rd t270 x241_3) t306 true _ A115.out).mono ?_); rintro e w121 ⟨rfl, hb⟩; have n0_ := Aside0.mk (Kd.R_below (by (with_reducible repeat (first | apply Kd.R_alloc | apply Kd.R_drewN | apply Kd.R_drew)); exact HO_6.out) hb); have n1_ := Aside0.mk (Kd.R_below (by (with_reducible repeat (first | apply Kd.R_alloc | apply Kd.R_drewN | apply Kd.R_drew)); exact HO_239.out) hb); have n2_ := Aside0.mk (below_step (by repeat (first | (with_reducible first | exact HB.out | apply below_alloc | apply pw_below_drewN | apply below_drew1))) hb); clear HO_6; clear HO_239; clear HB; have HO_6 := n0_; have HO_239 := n1_; have HB := n2_; clear n0_ n1_ n2_; (try clear hb)) | (go_at_call 71; (with_reducible refine (impl_MoebiusOf.calls kj103 (rd t270 x241_3) t308 false _ A116.out).mono ?_); rintro e w122 ⟨rfl, hb⟩; have n0_ := Aside0.mk (Kd.R_below (by (with_reducible repeat (first | apply Kd.R_alloc | apply Kd.R_drewN | apply Kd.R_drew)); exact HO_6.out) hb); have n1_ := Aside0.mk (Kd.R_below (by (with_reducible repeat (first | apply Kd.R_alloc | apply Kd.R_drewN | apply Kd.R_drew)); exact HO_239.out) hb); have n2_ := Aside0.mk (below_step (by repeat (first | (with_reducible first | exact HB.out | apply below_alloc | apply pw_below_drewN | apply below_drew1))) hb); clear HO_6; clear HO_239; clear HB; have HO_6 := n0_; have HO_239 := n1_; have HB := n2_; clear n0_ n1_ n2_; (try clear hb))))
                      go_ret
                      exact ⟨by first | rfl | (simp [errW_none, errW_some] <;> rfl) | (simp [*, errW_none, errW_some] <;> rfl), by repeat (first | (with_reducible first | exact HB.out | apply below_alloc | apply pw_below_drewN | apply below_drew1))⟩
                   ·
                    replace c117 := Bool.eq_false_iff.mpr c117
                    subst c117
                    have H1 : (some false) = some r := by rw [if_neg (show ¬ (false = true) by decide)] at H; exact H
                    clear H
                    have H := H1
                    clear H1
                    first
                    | exact absurd (Option.some.inj (H.trans (congrArg some HRT.out))) Bool.false_ne_true
                    |
                     obtain rfl := Option.some.inj H
                     go_wp2_with (first | (go_at_call 69; (with_reducible refine (impl_TotientOf.calls kj103 (rd t270 x241_3) t306 false _ A115.out).mono ?_); rintro e w123 ⟨rfl, hb⟩; have n0_ := Aside0.mk (Kd.R_below (by (with_reducible repeat (first | apply Kd.R_alloc | apply Kd.R_drewN | apply Kd.R_drew)); exact HO_6.out) hb); have n1_ := Aside0.mk (Kd.R_below (by (with_reducible repeat (first | apply Kd.R_alloc | apply Kd.R_drewN | apply Kd.R_drew)); exact HO_239.out) hb); have n2_ := Aside0.mk (below_step (by repeat (first | (with_reducible first | exact HB.out | apply below_alloc | apply pw_below_drewN | apply below_drew1))) hb); clear HO_6; clear HO_239; clear HB; have HO_6 := n0_; have HO_239 := n1_; have HB := n2_; clear n0_ n1_ n2_; (try clear hb)) | (go_at_call 71; (with_reducible refine (impl_MoebiusOf.calls kj103 (rd t270 x241_3) t308 t309 _ A116.out).mono ?_); rintro e w124 ⟨rfl, hb⟩; have n0_ := Aside0.mk (Kd.R_below (by (with_reducible repeat (first | apply Kd.R_alloc | apply Kd.R_drewN | apply Kd.R_drew)); exact HO_6.out) hb); have n1_ := Aside0.mk (Kd.R_below (by (with_reducible repeat (first | apply Kd.R_alloc | apply Kd.R_drewN | apply Kd.R_drew)); exact HO_239.out) hb); have n2_ := Aside0.mk (below_step (by repeat (first | (with_reducible first | exact HB.out | apply below_alloc | apply pw_below_drewN | apply below_drew1))) hb); clear HO_6; clear HO_239; clear HB; have HO_6 := n0_; have HO_239 := n1_; have HB := n2_; clear n0_ n1_ n2_; (try clear hb)))
                     repeat (go_quiet (first | (go_at_call 69; (with_reducible refine (impl_TotientOf.calls kj103 (rd t270 x241_3) t306 false _ A115.out).mono ?_); rintro e w123 ⟨rfl, hb⟩; have n0_ := Aside0.mk (Kd.R_below (by (with_reducible repeat (first | apply Kd.R_alloc | apply Kd.R_drewN | apply Kd.R_drew)); exact HO_6.out) hb); have n1_ := Aside0.mk (Kd.R_below (by (with_reducible repeat (first | apply Kd.R_alloc | apply Kd.R_drewN | apply Kd.R_drew)); exact HO_239.out) hb); have n2_ := Aside0.mk (below_step (by repeat (first | (with_reducible first | exact HB.out | apply below_alloc | apply pw_below_drewN | apply below_drew1))) hb); clear HO_6; clear HO_239; clear HB; have HO_6 := n0_; have HO_239 := n1_; have HB := n2_; clear n0_ n1_ n2_; (try clear hb)) | (go_at_call 71; (with_reducible refine (impl_MoebiusOf.calls kj103 (rd t270 x241_3) t308 t309 _ A116.out).mono ?_); rintro e w124 ⟨rfl, hb⟩; have n0_ := Aside0.mk (Kd.R_below (by (with_reducible repeat (first | apply Kd.R_alloc | apply Kd.R_drewN | apply Kd.R_drew)); exact HO_6.out) hb); have n1_ := Aside0.mk (Kd.R_below (by (with_reducible repeat (first | apply Kd.R_alloc | apply Kd.R_drewN | apply Kd.R_drew)); exact HO_239.out) hb); have n2_ := Aside0.mk (below_step (by repeat (first | (with_reducible first | exact HB.out | apply below_alloc | apply pw_below_drewN | apply below_drew1))) hb); clear HO_6; clear HO_239; clear HB; have HO_6 := n0_; have HO_239 := n1_; have HB := n2_; clear n0_ n1_ n2_; (try clear hb))); try go_wp2_with (first | (go_at_call 69; (with_reducible refine (impl_TotientOf.calls kj103 (rd t270 x241_3) t306 false _ A115.out).mono ?_); rintro e w123 ⟨rfl, hb⟩; have n0_ := Aside0.mk (Kd.R_below (by (with_reducible repeat (first | apply Kd.R_alloc | apply Kd.R_drewN | apply Kd.R_drew)); exact HO_6.out) hb); have n1_ := Aside0.mk (Kd.R_below (by (with_reducible repeat (first | apply Kd.R_alloc | apply Kd.R_drewN | apply Kd.R_drew)); exact HO_239.out) hb); have n2_ := Aside0.mk (below_step (by repeat (first | (with_reducible first | exact HB.out | apply below_alloc | apply pw_below_drewN | apply below_drew1))) hb); clear HO_6; clear HO_239; clear HB; have HO_6 := n0_; have HO_239 := n1_; have HB := n2_; clear n0_ n1_ n2_; (try clear hb)) | (go_at_call 71; (with_reducible refine (impl_MoebiusOf.calls kj103 (rd t270 x241_3) t308 t309 _ A116.out).mono ?_); rintro e w124 ⟨rfl, hb⟩; have n0_ := Aside0.mk (Kd.R_below (by (with_reducible repeat (first | apply Kd.R_alloc | apply Kd.R_drewN | apply Kd.R_drew)); exact HO_6.out) hb); have n1_ := Aside0.mk (Kd.R_below (by (with_reducible repeat (first | apply Kd.R_alloc | apply Kd.R_drewN | apply Kd.R_drew)); exact HO_239.out) hb); have n2_ := Aside0.mk (below_step (by repeat (first | (with_reducible first | exact HB.out | apply below_alloc | apply pw_below_drewN | apply below_drew1))) hb); clear HO_6; clear HO_239; clear HB; have HO_6 := n0_; have HO_239 := n1_; have HB := n2_; clear n0_ n1_ n2_; (try clear hb))))
                     go_ret
                     exact ⟨by first | rfl | (simp [errW_none, errW_some] <;> rfl) | (simp [*, errW_none, errW_some] <;> rfl), by repeat (first | (with_reducible first | exact HB.out | apply below_alloc | apply pw_below_drewN | apply below_drew1))⟩
               ·
                rw [if_neg c103] at H
                exact absurd H (by simp)
              ·
               rw [if_neg c102] at H
               exact absurd H (by simp)
             ·
              rw [if_neg c101] at H
              have c101b0 : decide (x241_3 < (t270.length : Int)) = false := decide_eq_false c101
              clear c101
              have HC125 := Aside0.mk H
              clear H
              go_upto_region 34 with (fail)
              repeat (go_quiet (fail); go_upto_region 34 with (fail))
              refine cutF mk0 [] (fun u_ wc => ∃ (kq : Nat) (x314_124 : Bool), (u_ 314) = .bool x314_124 ∧ Aside0 (laws_FnDivisorsTold.j4 kq l1 t269 t286 x314_124 = some r) ∧ Aside0 (kq ≤ k3) ∧ Aside0 (Below w.heap.size w wc)) ?_ ?_
              ·
               as_aux_lemma =>
                intro J_ K_ hJ_ hK_
                have H := HC125.out
                clear HC125
                by_cases c126 : x30_3 = t269
                ·
                 rw [if_pos c126] at H
                 have c126b0 : (x30_3 == t269) = true := beq_iff_eq.mpr c126
                 have c126b1 : (x30_3 != t269) = false := bne_eq_false_iff_eq.mpr c126
                 clear c126
                 (first | rw [c126b0] | (simp only [i64_w, i32_w]; rw [c126b0]) | skip)
                 by_cases c127 : t269 > 1
                 ·
                  rw [if_pos c127] at H
                  have c127b0 : decide (1 < t269) = true := decide_eq_true c127
                  clear c127
                  by_cases c128 : x31_3 = 0
                  ·
                   rw [if_pos c128] at H
                   have c128b0 : (x31_3 == 0) = true := beq_iff_eq.mpr c128
                   have c128b1 : (x31_3 != 0) = false := bne_eq_false_iff_eq.mpr c128
                   clear c128
                   by_cases c129 : t269 = 1
                   ·
                    rw [if_pos c129] at H
                    have c129b0 : (t269 == 1) = true := beq_iff_eq.mpr c129
                    have c129b1 : (t269 != 1) = false := bne_eq_false_iff_eq.mpr c129
                    clear c129
                    have H' := Aside0.mk H
                    clear H
                    go_wp2
                    repeat (go_quiet (fail); try go_wp2)
                    refine cutMeet hJ_ ?_ (by kernel_rfl)
                    exact ⟨_, ((x31_3 != 1)), (by first | rfl | (simp; done) | (simp [*]; done)), H', ⟨by have := HJ17.out; have := HJ83.out; have := HK3.out; first | omega | exact Nat.le_refl _⟩, ⟨by repeat (first | (with_reducible first | exact HB.out | apply below_alloc | apply pw_below_drewN | apply below_drew1))⟩⟩
                   ·
                    rw [if_neg c129] at H
                    have c129b0 : (t269 == 1) = false := beq_eq_false_iff_ne.mpr c129
                    have c129b1 : (t269 != 1) = true := bne_iff_ne.mpr c129
                    have H' := Aside0.mk H
                    clear H
                    go_wp2
                    repeat (go_quiet (fail); try go_wp2)
                    refine cutMeet hJ_ ?_ (by kernel_rfl)
                    exact ⟨_, (false), (by first | rfl | (simp; done) | (simp [*]; done)), H', ⟨by have := HJ17.out; have := HJ83.out; have := HK3.out; first | omega | exact Nat.le_refl _⟩, ⟨by repeat (first | (with_reducible first | exact HB.out | apply below_alloc | apply pw_below_drewN | apply below_drew1))⟩⟩
                  ·
                   rw [if_neg c128] at H
                   exact (laws_FnDivisorsTold.j4_no _ _ _ _ (H.trans (congrArg some HRT.out))).elim
                 ·
                  rw [if_neg c127] at H
                  have c127b0 : decide (1 < t269) = false := decide_eq_false c127
                  clear c127
                  by_cases c130 : t269 = 1
                  ·
                   rw [if_pos c130] at H
                   have c130b0 : (t269 == 1) = true := beq_iff_eq.mpr c130
                   have c130b1 : (t269 != 1) = false := bne_eq_false_iff_eq.mpr c130
                   clear c130
                   have H' := Aside0.mk H
                   clear H
                   go_wp2
                   repeat (go_quiet (fail); try go_wp2)
                   refine cutMeet hJ_ ?_ (by kernel_rfl)
                   exact ⟨_, ((x31_3 != 1)), (by first | rfl | (simp; done) | (simp [*]; done)), H', ⟨by have := HJ17.out; have := HJ83.out; have := HK3.out; first | omega | exact Nat.le_refl _⟩, ⟨by repeat (first | (with_reducible first | exact HB.out | apply below_alloc | apply pw_below_drewN | apply below_drew1))⟩⟩
                  ·
                   rw [if_neg c130] at H
                   have c130b0 : (t269 == 1) = false := beq_eq_false_iff_ne.mpr c130
                   have c130b1 : (t269 != 1) = true := bne_iff_ne.mpr c130
                   have H' := Aside0.mk H
                   clear H
                   go_wp2
                   repeat (go_quiet (fail); try go_wp2)
                   refine cutMeet hJ_ ?_ (by kernel_rfl)
                   exact ⟨_, (false), (by first | rfl | (simp; done) | (simp [*]; done)), H', ⟨by have := HJ17.out; have := HJ83.out; have := HK3.out; first | omega | exact Nat.le_refl _⟩, ⟨by repeat (first | (with_reducible first | exact HB.out | apply below_alloc | apply pw_below_drewN | apply below_drew1))⟩⟩
                ·
                 rw [if_neg c126] at H
                 exact (laws_FnDivisorsTold.j4_no _ _ _ _ (H.trans (congrArg some HRT.out))).elim
              ·
               intro u_ wc hcut
               clear HC125
               obtain ⟨kq, x314_124, e_314, HA, HJ124, HB⟩ := hcut
               dsimp only [cutFgt, mk0]
               rw [e_314]
               cases kq with
               | zero => exact absurd HA.out (by simp [laws_FnDivisorsTold.j4])
               | succ kj124 =>
                have H := HA.out
                clear HA
                simp only [laws_FnDivisorsTold.j4] at H
                by_cases c131 : x314_124 = true
                ·
                 subst c131
                 have H1 : (some false) = some r := by rw [if_pos rfl] at H; exact H
                 clear H
                 have H := H1
                 clear H1
                 first
                 | exact absurd (Option.some.inj (H.trans (congrArg some HRT.out))) Bool.false_ne_true
                 |
                  obtain rfl := Option.some.inj H
                  go_wp2
                  repeat (go_quiet (fail); try go_wp2)
                  go_ret
                  exact ⟨by first | rfl | (simp [errW_none, errW_some] <;> rfl) | (simp [*, errW_none, errW_some] <;> rfl), by repeat (first | (with_reducible first | exact HB.out | apply below_alloc | apply pw_below_drewN | apply below_drew1))⟩
                ·
                 replace c131 := Bool.eq_false_iff.mpr c131
                 subst c131
                 have H1 : (if t269 ≤ 600 then (laws_FnDivisorsTold.l1 kj124 l1 t269 t286 0 1) else (laws_FnDivisorsTold.j6 kj124 l1)) = some r := by rw [if_neg (show ¬ (false = true) by decide)] at H; exact H
                 clear H
                 have H := H1
                 clear H1
                 by_cases c132 : t269 ≤ 600
                 ·
                  rw [if_pos c132] at H
                  have c132b0 : decide (t269 ≤ 600) = true := decide_eq_true c132
                  clear c132
                  have H' := Aside0.mk H
                  clear H
                  go_wp2
                  repeat (go_quiet (fail); try go_wp2)
                  go_loopg [38, 39] kj124 (fun kq v38 v39 w' => ∃ (x38_5 : Int) (x39_5 : Int), v38 = .int .i64 x38_5 ∧ v39 = .int .i64 x39_5 ∧ Aside0 (laws_FnDivisorsTold.l1 kq l1 t269 t286 x38_5 x39_5 = some r) ∧ Aside0 (kq ≤ kj124) ∧ Aside0 (Below w.heap.size w w'))
                  case atStart => exact ⟨(0), (1), (by first | rfl | (simp; done) | (simp [*]; done)), (by first | rfl | (simp; done) | (simp [*]; done)), H', ⟨Nat.le_refl _⟩, ⟨by repeat (first | (with_reducible first | exact HB.out | apply below_alloc | apply pw_below_drewN | apply below_drew1))⟩⟩
                  case round =>
                   clear H'
                   obtain ⟨x38_5, x39_5, rfl, rfl, HA, HK5, HB⟩ := hrel
                   cases gk with
                   | zero => exact absurd HA.out (by simp [laws_FnDivisorsTold.l1])
                   | succ k5 =>
                    have H := HA.out
                    clear HA
                    simp only [laws_FnDivisorsTold.l1] at H
                    by_cases c133 : x39_5 ≤ t269
                    ·
                     rw [if_pos c133] at H
                     have c133b0 : decide (x39_5 ≤ t269) = true := decide_eq_true c133
                     clear c133
                     replace H := Option.bind_eq_some_iff.mp H
                     obtain ⟨t310, A1340, H⟩ := H
                     replace H : (if t310 = 1 then (laws_FnDivisorsTold.l1 k5 l1 t269 t286 (wrap64 (x38_5 + 1)) (wrap64 (x39_5 + 1))) else (laws_FnDivisorsTold.l1 k5 l1 t269 t286 x38_5 (wrap64 (x39_5 + 1)))) = some r := H
                     have A134 := Aside0.mk A1340
                     clear A1340
                     by_cases c135 : t310 = 1
                     ·
                      rw [if_pos c135] at H
                      have c135b0 : (t310 == 1) = true := beq_iff_eq.mpr c135
                      have c135b1 : (t310 != 1) = false := bne_eq_false_iff_eq.mpr c135
                      clear c135
                      have H' := Aside0.mk H
                      clear H
                      go_wp2_with (first | (go_at_call 77; (with_reducible refine (laws_gCommon.calls k5 t269 x39_5 t310 _ A134.out).mono ?_); rintro e w' ⟨rfl, ⟨nd, rfl⟩⟩; (try first | exact ⟨rfl, _, World.drewN_drewN _ _ _⟩ | exact ⟨rfl, _, Eq.trans (World.drewN_drewN _ _ _) (congrArg (World.drewN _) (Nat.add_assoc _ _ _))⟩)))
                      repeat (go_quiet (first | (go_at_call 77; (with_reducible refine (laws_gCommon.calls k5 t269 x39_5 t310 _ A134.out).mono ?_); rintro e w' ⟨rfl, ⟨nd, rfl⟩⟩; (try first | exact ⟨rfl, _, World.drewN_drewN _ _ _⟩ | exact ⟨rfl, _, Eq.trans (World.drewN_drewN _ _ _) (congrArg (World.drewN _) (Nat.add_assoc _ _ _))⟩))); try go_wp2_with (first | (go_at_call 77; (with_reducible refine (laws_gCommon.calls k5 t269 x39_5 t310 _ A134.out).mono ?_); rintro e w' ⟨rfl, ⟨nd, rfl⟩⟩; (try first | exact ⟨rfl, _, World.drewN_drewN _ _ _⟩ | exact ⟨rfl, _, Eq.trans (World.drewN_drewN _ _ _) (congrArg (World.drewN _) (Nat.add_assoc _ _ _))⟩))))
                      go_roundg k5
                      case measure => have := HJ17.out; have := HJ83.out; have := HK3.out; have := HJ124.out; have := HK5.out; omega
                      case rel => exact ⟨(wrap64 (x38_5 + 1)), (wrap64 (x39_5 + 1)), (by first | rfl | (simp; done) | (simp [*]; done)), (by first | rfl | (simp; done) | (simp [*]; done)), H', ⟨by have := HJ17.out; have := HJ83.out; have := HK3.out; have := HJ124.out; have := HK5.out; omega⟩, ⟨by repeat (first | (with_reducible first | exact HB.out | apply below_alloc | apply pw_below_drewN | apply below_drew1))⟩⟩
                     ·
                      rw [if_neg c135] at H
                      have c135b0 : (t310 == 1) = false := beq_eq_false_iff_ne.mpr c135
                      have c135b1 : (t310 != 1) = true := bne_iff_ne.mpr c135
                      have H' := Aside0.mk H
                      clear H
                      go_wp2_with (first | (go_at_call 77; (with_reducible refine (laws_gCommon.calls k5 t269 x39_5 t310 _ A134.out).mono ?_); rintro e w' ⟨rfl, ⟨nd, rfl⟩⟩; (try first | exact ⟨rfl, _, World.drewN_drewN _ _ _⟩ | exact ⟨rfl, _, Eq.trans (World.drewN_drewN _ _ _) (congrArg (World.drewN _) (Nat.add_assoc _ _ _))⟩)))
                      repeat (go_quiet (first | (go_at_call 77; (with_reducible refine (laws_gCommon.calls k5 t269 x39_5 t310 _ A134.out).mono ?_); rintro e w' ⟨rfl, ⟨nd, rfl⟩⟩; (try first | exact ⟨rfl, _, World.drewN_drewN _ _ _⟩ | exact ⟨rfl, _, Eq.trans (World.drewN_drewN _ _ _) (congrArg (World.drewN _) (Nat.add_assoc _ _ _))⟩))); try go_wp2_with (first | (go_at_call 77; (with_reducible refine (laws_gCommon.calls k5 t269 x39_5 t310 _ A134.out).mono ?_); rintro e w' ⟨rfl, ⟨nd, rfl⟩⟩; (try first | exact ⟨rfl, _, World.drewN_drewN _ _ _⟩ | exact ⟨rfl, _, Eq.trans (World.drewN_drewN _ _ _) (congrArg (World.drewN _) (Nat.add_assoc _ _ _))⟩))))
                      go_roundg k5
                      case measure => have := HJ17.out; have := HJ83.out; have := HK3.out; have := HJ124.out; have := HK5.out; omega
                      case rel => exact ⟨(x38_5), (wrap64 (x39_5 + 1)), (by first | rfl | (simp; done) | (simp [*]; done)), (by first | rfl | (simp; done) | (simp [*]; done)), H', ⟨by have := HJ17.out; have := HJ83.out; have := HK3.out; have := HJ124.out; have := HK5.out; omega⟩, ⟨by repeat (first | (with_reducible first | exact HB.out | apply below_alloc | apply pw_below_drewN | apply below_drew1))⟩⟩
                    ·
                     rw [if_neg c133] at H
                     have c133b0 : decide (x39_5 ≤ t269) = false := decide_eq_false c133
                     clear c133
                     by_cases c136 : x38_5 = t286
                     ·
                      rw [if_pos c136] at H
                      have c136b0 : (x38_5 == t286) = true := beq_iff_eq.mpr c136
                      have c136b1 : (x38_5 != t286) = false := bne_eq_false_iff_eq.mpr c136
                      clear c136
                      have H' := Aside0.mk H
                      clear H
                      go_wp2
                      repeat (go_quiet (fail); try go_wp2)
                      refine cutMeet hJ_ ?_ (by kernel_rfl)
                      exact ⟨_, H', ⟨by have := HJ17.out; have := HJ83.out; have := HK3.out; have := HJ124.out; have := HK5.out; first | omega | exact Nat.le_refl _⟩, ⟨by repeat (first | (with_reducible first | exact HB.out | apply below_alloc | apply pw_below_drewN | apply below_drew1))⟩⟩
                     ·
                      rw [if_neg c136] at H
                      have c136b0 : (x38_5 == t286) = false := beq_eq_false_iff_ne.mpr c136
                      have c136b1 : (x38_5 != t286) = true := bne_iff_ne.mpr c136
                      first
                      | exact absurd (Option.some.inj (H.trans (congrArg some HRT.out))) Bool.false_ne_true
                      |
                       obtain rfl := Option.some.inj H
                       go_wp2
                       repeat (go_quiet (fail); try go_wp2)
                       go_ret
                       exact ⟨by first | rfl | (simp [errW_none, errW_some] <;> rfl) | (simp [*, errW_none, errW_some] <;> rfl), by repeat (first | (with_reducible first | exact HB.out | apply below_alloc | apply pw_below_drewN | apply below_drew1))⟩
                 ·
                  rw [if_neg c132] at H
                  have c132b0 : decide (t269 ≤ 600) = false := decide_eq_false c132
                  clear c132
                  have H' := Aside0.mk H
                  clear H
                  go_wp2
                  repeat (go_quiet (fail); try go_wp2)
                  refine cutMeet hJ_ ?_ (by kernel_rfl)
                  exact ⟨_, H', ⟨by have := HJ17.out; have := HJ83.out; have := HK3.out; have := HJ124.out; first | omega | exact Nat.le_refl _⟩, ⟨by repeat (first | (with_reducible first | exact HB.out | apply below_alloc | apply pw_below_drewN | apply below_drew1))⟩⟩
       ·
        replace c83 := Bool.eq_false_iff.mpr c83
        subst c83
        have H1 : (laws_FnDivisorsTold.j6 kj17 l1) = some r := by rw [if_neg (show ¬ (false = true) by decide)] at H; exact H
        clear H
        have H := H1
        clear H1
        have H' := Aside0.mk H
        clear H
        go_wp2
        repeat (go_quiet (fail); try go_wp2)
        refine cutMeet hJ_ ?_ (by kernel_rfl)
        exact ⟨_, H', ⟨by have := HJ17.out; first | omega | exact Nat.le_refl _⟩, ⟨by repeat (first | (with_reducible first | exact HB.out | apply below_alloc | apply pw_below_drewN | apply below_drew1))⟩⟩
     ·
      intro u_ wc hcut
      clear HC82
      obtain ⟨kq, HA, HJ81, HB⟩ := hcut
      dsimp only [cutFgt, mk0]
      cases kq with
      | zero => exact absurd HA.out (by simp [laws_FnDivisorsTold.j6])
      | succ kj81 =>
       have H := HA.out
       clear HA
       simp only [laws_FnDivisorsTold.j6] at H
       replace H := Option.bind_eq_some_iff.mp H
       obtain ⟨⟨t311, t312⟩, A1370, H⟩ := H
       replace H : ((impl_SumWay.f kj81 t311 t312).bind fun bt313 => ((spec_SumWay.f kj81 t311 t312).bind fun bt317 => ((spec_DrawAmicableOf.f l1).bind fun t321 => ((impl_AmicableOf.f kj81 t321).bind fun bt322 => ((spec_AmicableOf.f kj81 t321).bind fun bt324 => (if (bt313.2 != bt317.2) = true then (laws_FnDivisorsTold.j7 kj81 t311 t312 bt313.1 bt313.2 t321 bt322.1 bt322.2 true) else ((laws_gSame.f kj81 bt313.1 bt317.1).bind fun t326 => (if t326 = true then (if (bt322.2 != bt324.2) = true then (laws_FnDivisorsTold.j7 kj81 t311 t312 bt313.1 bt313.2 t321 bt322.1 bt322.2 true) else (laws_FnDivisorsTold.j7 kj81 t311 t312 bt313.1 bt313.2 t321 bt322.1 bt322.2 (bt322.1 != bt324.1))) else (laws_FnDivisorsTold.j7 kj81 t311 t312 bt313.1 bt313.2 t321 bt322.1 bt322.2 true))))))))) = some r := H
       have A137 := Aside0.mk A1370
       clear A1370
       replace H := Option.bind_eq_some_iff.mp H
       obtain ⟨⟨t313, t314⟩, A1380, H⟩ := H
       replace H : ((spec_SumWay.f kj81 t311 t312).bind fun bt317 => ((spec_DrawAmicableOf.f l1).bind fun t321 => ((impl_AmicableOf.f kj81 t321).bind fun bt322 => ((spec_AmicableOf.f kj81 t321).bind fun bt324 => (if (t314 != bt317.2) = true then (laws_FnDivisorsTold.j7 kj81 t311 t312 t313 t314 t321 bt322.1 bt322.2 true) else ((laws_gSame.f kj81 t313 bt317.1).bind fun t326 => (if t326 = true then (if (bt322.2 != bt324.2) = true then (laws_FnDivisorsTold.j7 kj81 t311 t312 t313 t314 t321 bt322.1 bt322.2 true) else (laws_FnDivisorsTold.j7 kj81 t311 t312 t313 t314 t321 bt322.1 bt322.2 (bt322.1 != bt324.1))) else (laws_FnDivisorsTold.j7 kj81 t311 t312 t313 t314 t321 bt322.1 bt322.2 true)))))))) = some r := H
       have A138 := Aside0.mk A1380
       clear A1380
       replace H := Option.bind_eq_some_iff.mp H
       obtain ⟨⟨t317, t318⟩, A1390, H⟩ := H
       replace H : ((spec_DrawAmicableOf.f l1).bind fun t321 => ((impl_AmicableOf.f kj81 t321).bind fun bt322 => ((spec_AmicableOf.f kj81 t321).bind fun bt324 => (if (t314 != t318) = true then (laws_FnDivisorsTold.j7 kj81 t311 t312 t313 t314 t321 bt322.1 bt322.2 true) else ((laws_gSame.f kj81 t313 t317).bind fun t326 => (if t326 = true then (if (bt322.2 != bt324.2) = true then (laws_FnDivisorsTold.j7 kj81 t311 t312 t313 t314 t321 bt322.1 bt322.2 true) else (laws_FnDivisorsTold.j7 kj81 t311 t312 t313 t314 t321 bt322.1 bt322.2 (bt322.1 != bt324.1))) else (laws_FnDivisorsTold.j7 kj81 t311 t312 t313 t314 t321 bt322.1 bt322.2 true))))))) = some r := H
       have A139 := Aside0.mk A1390
       clear A1390
       replace H := Option.bind_eq_some_iff.mp H
       obtain ⟨t321, A1400, H⟩ := H
       replace H : ((impl_AmicableOf.f kj81 t321).bind fun bt322 => ((spec_AmicableOf.f kj81 t321).bind fun bt324 => (if (t314 != t318) = true then (laws_FnDivisorsTold.j7 kj81 t311 t312 t313 t314 t321 bt322.1 bt322.2 true) else ((laws_gSame.f kj81 t313 t317).bind fun t326 => (if t326 = true then (if (bt322.2 != bt324.2) = true then (laws_FnDivisorsTold.j7 kj81 t311 t312 t313 t314 t321 bt322.1 bt322.2 true) else (laws_FnDivisorsTold.j7 kj81 t311 t312 t313 t314 t321 bt322.1 bt322.2 (bt322.1 != bt324.1))) else (laws_FnDivisorsTold.j7 kj81 t311 t312 t313 t314 t321 bt322.1 bt322.2 true)))))) = some r := H
       have A140 := Aside0.mk A1400
       clear A1400
       replace H := Option.bind_eq_some_iff.mp H
       obtain ⟨⟨t322, t323⟩, A1410, H⟩ := H
       replace H : ((spec_AmicableOf.f kj81 t321).bind fun bt324 => (if (t314 != t318) = true then (laws_FnDivisorsTold.j7 kj81 t311 t312 t313 t314 t321 t322 t323 true) else ((laws_gSame.f kj81 t313 t317).bind fun t326 => (if t326 = true then (if (t323 != bt324.2) = true then (laws_FnDivisorsTold.j7 kj81 t311 t312 t313 t314 t321 t322 t323 true) else (laws_FnDivisorsTold.j7 kj81 t311 t312 t313 t314 t321 t322 t323 (t322 != bt324.1))) else (laws_FnDivisorsTold.j7 kj81 t311 t312 t313 t314 t321 t322 t323 true))))) = some r := H
       have A141 := Aside0.mk A1410
       clear A1410
       replace H := Option.bind_eq_some_iff.mp H
       obtain ⟨⟨t324, t325⟩, A1420, H⟩ := H
       replace H : (if (t314 != t318) = true then (laws_FnDivisorsTold.j7 kj81 t311 t312 t313 t314 t321 t322 t323 true) else ((laws_gSame.f kj81 t313 t317).bind fun t326 => (if t326 = true then (if (t323 != t325) = true then (laws_FnDivisorsTold.j7 kj81 t311 t312 t313 t314 t321 t322 t323 true) else (laws_FnDivisorsTold.j7 kj81 t311 t312 t313 t314 t321 t322 t323 (t322 != t324))) else (laws_FnDivisorsTold.j7 kj81 t311 t312 t313 t314 t321 t322 t323 true)))) = some r := H
       have A142 := Aside0.mk A1420
       clear A1420
       have HC143 := Aside0.mk H
       clear H
       go_upto_region 51 with (first | (go_at_call 92; (with_reducible refine (spec_DrawSumWay.calls _ _ l1 t311 t312 _ ?side1 ?side2 A137.out).mono ?_); (case side1 => repeat (first | exact (Kd.C_below HR1.out HB.out) | (with_reducible refine Kd.C_alloc ?_ _) | (with_reducible refine Kd.C_drewN ?_ _) | (with_reducible refine Kd.C_drew ?_))); (case side2 => exact HC1.out); rintro e w144 ⟨rfl, hb⟩; have n0_ := Aside0.mk (below_step (by repeat (first | (with_reducible first | exact HB.out | apply below_alloc | apply pw_below_drewN | apply below_drew1))) hb); clear HB; have HB := n0_; clear n0_; (try clear hb)) | (go_at_call 78; (with_reducible refine (impl_SumWay.calls kj81 t311 t312 t313 t314 _ A138.out).mono ?_); rintro e w145 ⟨v315, rfl, ho0, hb⟩; have n0_ := Aside0.mk (Kd.R_lower ho0 (below_size (by repeat (first | (with_reducible first | exact HB.out | apply below_alloc | apply pw_below_drewN | apply below_drew1))))); have n1_ := Aside0.mk (below_step (by repeat (first | (with_reducible first | exact HB.out | apply below_alloc | apply pw_below_drewN | apply below_drew1))) hb); clear HB; have HO316 := n0_; have HB := n1_; clear n0_ n1_; (try clear hb); (try clear ho0)) | (go_at_call 79; (with_reducible refine (spec_SumWay.calls kj81 t311 t312 t317 t318 _ A139.out).mono ?_); rintro e w146 ⟨v319, rfl, ho0, hb⟩; have n0_ := Aside0.mk (Kd.R_elder' (by (with_reducible repeat (first | apply Kd.R_alloc | apply Kd.R_drewN | apply Kd.R_drew)); exact HO316.out) (Kd.R_base ho0) hb); have n1_ := Aside0.mk (Kd.R_lower (Kd.R_new' ho0 (Kd.R_lt (by (with_reducible repeat (first | apply Kd.R_alloc | apply Kd.R_drewN | apply Kd.R_drew)); exact HO316.out))) (below_size (by repeat (first | (with_reducible first | exact HB.out | apply below_alloc | apply pw_below_drewN | apply below_drew1))))); have n2_ := Aside0.mk (below_step (by repeat (first | (with_reducible first | exact HB.out | apply below_alloc | apply pw_below_drewN | apply below_drew1))) hb); clear HO316; clear HB; have HO316 := n0_; have HO320 := n1_; have HB := n2_; clear n0_ n1_ n2_; (try clear hb); (try clear ho0)) | (go_at_call 93; (with_reducible refine (spec_DrawAmicableOf.calls _ _ l1 t321 _ ?side1 ?side2 A140.out).mono ?_); (case side1 => repeat (first | exact (Kd.C_below HR1.out HB.out) | (with_reducible refine Kd.C_alloc ?_ _) | (with_reducible refine Kd.C_drewN ?_ _) | (with_reducible refine Kd.C_drew ?_))); (case side2 => exact HC1.out); rintro e w147 ⟨rfl, hb⟩; have n0_ := Aside0.mk (Kd.R_below (by (with_reducible repeat (first | apply Kd.R_alloc | apply Kd.R_drewN | apply Kd.R_drew)); exact HO316.out) hb); have n1_ := Aside0.mk (Kd.R_below (by (with_reducible repeat (first | apply Kd.R_alloc | apply Kd.R_drewN | apply Kd.R_drew)); exact HO320.out) hb); have n2_ := Aside0.mk (below_step (by repeat (first | (with_reducible first | exact HB.out | apply below_alloc | apply pw_below_drewN | apply below_drew1))) hb); clear HO316; clear HO320; clear HB; have HO316 := n0_; have HO320 := n1_; have HB := n2_; clear n0_ n1_ n2_; (try clear hb)) | (go_at_call 80; (with_reducible refine (impl_AmicableOf.calls kj81 t321 t322 t323 _ A141.out).mono ?_); rintro e w148 ⟨rfl, hb⟩; have n0_ := Aside0.mk (Kd.R_below (by (with_reducible repeat (first | apply Kd.R_alloc | apply Kd.R_drewN | apply Kd.R_drew)); exact HO316.out) hb); have n1_ := Aside0.mk (Kd.R_below (by (with_reducible repeat (first | apply Kd.R_alloc | apply Kd.R_drewN | apply Kd.R_drew)); exact HO320.out) hb); have n2_ := Aside0.mk (below_step (by repeat (first | (with_reducible first | exact HB.out | apply below_alloc | apply pw_below_drewN | apply below_drew1))) hb); clear HO316; clear HO320; clear HB; have HO316 := n0_; have HO320 := n1_; have HB := n2_; clear n0_ n1_ n2_; (try clear hb)) | (go_at_call 81; (with_reducible refine (spec_AmicableOf.calls kj81 t321 t324 t325 _ A142.out).mono ?_); rintro e w149 ⟨rfl, hb⟩; have n0_ := Aside0.mk (Kd.R_below (by (with_reducible repeat (first | apply Kd.R_alloc | apply Kd.R_drewN | apply Kd.R_drew)); exact HO316.out) hb); have n1_ := Aside0.mk (Kd.R_below (by (with_reducible repeat (first | apply Kd.R_alloc | apply Kd.R_drewN | apply Kd.R_drew)); exact HO320.out) hb); have n2_ := Aside0.mk (below_step (by repeat (first | (with_reducible first | exact HB.out | apply below_alloc | apply pw_below_drewN | apply below_drew1))) hb); clear HO316; clear HO320; clear HB; have HO316 := n0_; have HO320 := n1_; have HB := n2_; clear n0_ n1_ n2_; (try clear hb)))
       repeat (go_quiet (first | (go_at_call 92; (with_reducible refine (spec_DrawSumWay.calls _ _ l1 t311 t312 _ ?side1 ?side2 A137.out).mono ?_); (case side1 => repeat (first | exact (Kd.C_below HR1.out HB.out) | (with_reducible refine Kd.C_alloc ?_ _) | (with_reducible refine Kd.C_drewN ?_ _) | (with_reducible refine Kd.C_drew ?_))); (case side2 => exact HC1.out); rintro e w144 ⟨rfl, hb⟩; have n0_ := Aside0.mk (below_step (by repeat (first | (with_reducible first | exact HB.out | apply below_alloc | apply pw_below_drewN | apply below_drew1))) hb); clear HB; have HB := n0_; clear n0_; (try clear hb)) | (go_at_call 78; (with_reducible refine (impl_SumWay.calls kj81 t311 t312 t313 t314 _ A138.out).mono ?_); rintro e w145 ⟨v315, rfl, ho0, hb⟩; have n0_ := Aside0.mk (Kd.R_lower ho0 (below_size (by repeat (first | (with_reducible first | exact HB.out | apply below_alloc | apply pw_below_drewN | apply below_drew1))))); have n1_ := Aside0.mk (below_step (by repeat (first | (with_reducible first | exact HB.out | apply below_alloc | apply pw_below_drewN | apply below_drew1))) hb); clear HB; have HO316 := n0_; have HB := n1_; clear n0_ n1_; (try clear hb); (try clear ho0)) | (go_at_call 79; (with_reducible refine (spec_SumWay.calls kj81 t311 t312 t317 t318 _ A139.out).mono ?_); rintro e w146 ⟨v319, rfl, ho0, hb⟩; have n0_ := Aside0.mk (Kd.R_elder' (by (with_reducible repeat (first | apply Kd.R_alloc | apply Kd.R_drewN | apply Kd.R_drew)); exact HO316.out) (Kd.R_base ho0) hb); have n1_ := Aside0.mk (Kd.R_lower (Kd.R_new' ho0 (Kd.R_lt (by (with_reducible repeat (first | apply Kd.R_alloc | apply Kd.R_drewN | apply Kd.R_drew)); exact HO316.out))) (below_size (by repeat (first | (with_reducible first | exact HB.out | apply below_alloc | apply pw_below_drewN | apply below_drew1))))); have n2_ := Aside0.mk (below_step (by repeat (first | (with_reducible first | exact HB.out | apply below_alloc | apply pw_below_drewN | apply below_drew1))) hb); clear HO316; clear HB; have HO316 := n0_; have HO320 := n1_; have HB := n2_; clear n0_ n1_ n2_; (try clear hb); (try clear ho0)) | (go_at_call 93; (with_reducible refine (spec_DrawAmicableOf.calls _ _ l1 t321 _ ?side1 ?side2 A140.out).mono ?_); (case side1 => repeat (first | exact (Kd.C_below HR1.out HB.out) | (with_reducible refine Kd.C_alloc ?_ _) | (with_reducible refine Kd.C_drewN ?_ _) | (with_reducible refine Kd.C_drew ?_))); (case side2 => exact HC1.out); rintro e w147 ⟨rfl, hb⟩; have n0_ := Aside0.mk (Kd.R_below (by (with_reducible repeat (first | apply Kd.R_alloc | apply Kd.R_drewN | apply Kd.R_drew)); exact HO316.out) hb); have n1_ := Aside0.mk (Kd.R_below (by (with_reducible repeat (first | apply Kd.R_alloc | apply Kd.R_drewN | apply Kd.R_drew)); exact HO320.out) hb); have n2_ := Aside0.mk (below_step (by repeat (first | (with_reducible first | exact HB.out | apply below_alloc | apply pw_below_drewN | apply below_drew1))) hb); clear HO316; clear HO320; clear HB; have HO316 := n0_; have HO320 := n1_; have HB := n2_; clear n0_ n1_ n2_; (try clear hb)) | (go_at_call 80; (with_reducible refine (impl_AmicableOf.calls kj81 t321 t322 t323 _ A141.out).mono ?_); rintro e w148 ⟨rfl, hb⟩; have n0_ := Aside0.mk (Kd.R_below (by (with_reducible repeat (first | apply Kd.R_alloc | apply Kd.R_drewN | apply Kd.R_drew)); exact HO316.out) hb); have n1_ := Aside0.mk (Kd.R_below (by (with_reducible repeat (first | apply Kd.R_alloc | apply Kd.R_drewN | apply Kd.R_drew)); exact HO320.out) hb); have n2_ := Aside0.mk (below_step (by repeat (first | (with_reducible first | exact HB.out | apply below_alloc | apply pw_below_drewN | apply below_drew1))) hb); clear HO316; clear HO320; clear HB; have HO316 := n0_; have HO320 := n1_; have HB := n2_; clear n0_ n1_ n2_; (try clear hb)) | (go_at_call 81; (with_reducible refine (spec_AmicableOf.calls kj81 t321 t324 t325 _ A142.out).mono ?_); rintro e w149 ⟨rfl, hb⟩; have n0_ := Aside0.mk (Kd.R_below (by (with_reducible repeat (first | apply Kd.R_alloc | apply Kd.R_drewN | apply Kd.R_drew)); exact HO316.out) hb); have n1_ := Aside0.mk (Kd.R_below (by (with_reducible repeat (first | apply Kd.R_alloc | apply Kd.R_drewN | apply Kd.R_drew)); exact HO320.out) hb); have n2_ := Aside0.mk (below_step (by repeat (first | (with_reducible first | exact HB.out | apply below_alloc | apply pw_below_drewN | apply below_drew1))) hb); clear HO316; clear HO320; clear HB; have HO316 := n0_; have HO320 := n1_; have HB := n2_; clear n0_ n1_ n2_; (try clear hb))); go_upto_region 51 with (first | (go_at_call 92; (with_reducible refine (spec_DrawSumWay.calls _ _ l1 t311 t312 _ ?side1 ?side2 A137.out).mono ?_); (case side1 => repeat (first | exact (Kd.C_below HR1.out HB.out) | (with_reducible refine Kd.C_alloc ?_ _) | (with_reducible refine Kd.C_drewN ?_ _) | (with_reducible refine Kd.C_drew ?_))); (case side2 => exact HC1.out); rintro e w144 ⟨rfl, hb⟩; have n0_ := Aside0.mk (below_step (by repeat (first | (with_reducible first | exact HB.out | apply below_alloc | apply pw_below_drewN | apply below_drew1))) hb); clear HB; have HB := n0_; clear n0_; (try clear hb)) | (go_at_call 78; (with_reducible refine (impl_SumWay.calls kj81 t311 t312 t313 t314 _ A138.out).mono ?_); rintro e w145 ⟨v315, rfl, ho0, hb⟩; have n0_ := Aside0.mk (Kd.R_lower ho0 (below_size (by repeat (first | (with_reducible first | exact HB.out | apply below_alloc | apply pw_below_drewN | apply below_drew1))))); have n1_ := Aside0.mk (below_step (by repeat (first | (with_reducible first | exact HB.out | apply below_alloc | apply pw_below_drewN | apply below_drew1))) hb); clear HB; have HO316 := n0_; have HB := n1_; clear n0_ n1_; (try clear hb); (try clear ho0)) | (go_at_call 79; (with_reducible refine (spec_SumWay.calls kj81 t311 t312 t317 t318 _ A139.out).mono ?_); rintro e w146 ⟨v319, rfl, ho0, hb⟩; have n0_ := Aside0.mk (Kd.R_elder' (by (with_reducible repeat (first | apply Kd.R_alloc | apply Kd.R_drewN | apply Kd.R_drew)); exact HO316.out) (Kd.R_base ho0) hb); have n1_ := Aside0.mk (Kd.R_lower (Kd.R_new' ho0 (Kd.R_lt (by (with_reducible repeat (first | apply Kd.R_alloc | apply Kd.R_drewN | apply Kd.R_drew)); exact HO316.out))) (below_size (by repeat (first | (with_reducible first | exact HB.out | apply below_alloc | apply pw_below_drewN | apply below_drew1))))); have n2_ := Aside0.mk (below_step (by repeat (first | (with_reducible first | exact HB.out | apply below_alloc | apply pw_below_drewN | apply below_drew1))) hb); clear HO316; clear HB; have HO316 := n0_; have HO320 := n1_; have HB := n2_; clear n0_ n1_ n2_; (try clear hb); (try clear ho0)) | (go_at_call 93; (with_reducible refine (spec_DrawAmicableOf.calls _ _ l1 t321 _ ?side1 ?side2 A140.out).mono ?_); (case side1 => repeat (first | exact (Kd.C_below HR1.out HB.out) | (with_reducible refine Kd.C_alloc ?_ _) | (with_reducible refine Kd.C_drewN ?_ _) | (with_reducible refine Kd.C_drew ?_))); (case side2 => exact HC1.out); rintro e w147 ⟨rfl, hb⟩; have n0_ := Aside0.mk (Kd.R_below (by (with_reducible repeat (first | apply Kd.R_alloc | apply Kd.R_drewN | apply Kd.R_drew)); exact HO316.out) hb); have n1_ := Aside0.mk (Kd.R_below (by (with_reducible repeat (first | apply Kd.R_alloc | apply Kd.R_drewN | apply Kd.R_drew)); exact HO320.out) hb); have n2_ := Aside0.mk (below_step (by repeat (first | (with_reducible first | exact HB.out | apply below_alloc | apply pw_below_drewN | apply below_drew1))) hb); clear HO316; clear HO320; clear HB; have HO316 := n0_; have HO320 := n1_; have HB := n2_; clear n0_ n1_ n2_; (try clear hb)) | (go_at_call 80; (with_reducible refine (impl_AmicableOf.calls kj81 t321 t322 t323 _ A141.out).mono ?_); rintro e w148 ⟨rfl, hb⟩; have n0_ := Aside0.mk (Kd.R_below (by (with_reducible repeat (first | apply Kd.R_alloc | apply Kd.R_drewN | apply Kd.R_drew)); exact HO316.out) hb); have n1_ := Aside0.mk (Kd.R_below (by (with_reducible repeat (first | apply Kd.R_alloc | apply Kd.R_drewN | apply Kd.R_drew)); exact HO320.out) hb); have n2_ := Aside0.mk (below_step (by repeat (first | (with_reducible first | exact HB.out | apply below_alloc | apply pw_below_drewN | apply below_drew1))) hb); clear HO316; clear HO320; clear HB; have HO316 := n0_; have HO320 := n1_; have HB := n2_; clear n0_ n1_ n2_; (try clear hb)) | (go_at_call 81; (with_reducible refine (spec_AmicableOf.calls kj81 t321 t324 t325 _ A142.out).mono ?_); rintro e w149 ⟨rfl, hb⟩; have n0_ := Aside0.mk (Kd.R_below (by (with_reducible repeat (first | apply Kd.R_alloc | apply Kd.R_drewN | apply Kd.R_drew)); exact HO316.out) hb); have n1_ := Aside0.mk (Kd.R_below (by (with_reducible repeat (first | apply Kd.R_alloc | apply Kd.R_drewN | apply Kd.R_drew)); exact HO320.out) hb); have n2_ := Aside0.mk (below_step (by repeat (first | (with_reducible first | exact HB.out | apply below_alloc | apply pw_below_drewN | apply below_drew1))) hb); clear HO316; clear HO320; clear HB; have HO316 := n0_; have HO320 := n1_; have HB := n2_; clear n0_ n1_ n2_; (try clear hb))))
       (try simp only [Act.put, List.setIfInBounds_toArray, List.set_cons_zero, List.set_cons_succ])
       refine cutF mk0 [] (fun u_ wc => ∃ (kq : Nat) (x378_142 : Bool), (u_ 378) = .bool x378_142 ∧ Aside0 (laws_FnDivisorsTold.j7 kq t311 t312 t313 t314 t321 t322 t323 x378_142 = some r) ∧ Aside0 (kq ≤ kj81) ∧ Aside0 (Kd.R (Kd.int .i64) 3 wc w.heap.size (fun _ => True) v315 t313) ∧ Aside0 (Below w.heap.size w wc)) ?_ ?_
       ·
        as_aux_lemma =>
         intro J_ K_ hJ_ hK_
         have H := HC143.out
         clear HC143
         by_cases c150 : (t314 != t318) = true
         ·
          rw [if_pos c150] at H
          exact (laws_FnDivisorsTold.j7_no _ _ _ _ _ _ _ _ (H.trans (congrArg some HRT.out))).elim
         ·
          rw [if_neg c150] at H
          have c150b0 : (t314 != t318) = false := by simpa using c150
          (try (have c150b1 : decide (t314 = t318) = true := by simpa using c150))
          (try (have c150b2 : (t314 == t318) = true := by simpa using c150))
          clear c150
          (first | rw [c150b0] | (simp only [i64_w, i32_w]; rw [c150b0]) | skip)
          replace H := Option.bind_eq_some_iff.mp H
          obtain ⟨t326, A1510, H⟩ := H
          replace H : (if t326 = true then (if (t323 != t325) = true then (laws_FnDivisorsTold.j7 kj81 t311 t312 t313 t314 t321 t322 t323 true) else (laws_FnDivisorsTold.j7 kj81 t311 t312 t313 t314 t321 t322 t323 (t322 != t324))) else (laws_FnDivisorsTold.j7 kj81 t311 t312 t313 t314 t321 t322 t323 true)) = some r := H
          have A151 := Aside0.mk A1510
          clear A1510
          by_cases c152 : t326 = true
          ·
           subst c152
           have H1 : (if (t323 != t325) = true then (laws_FnDivisorsTold.j7 kj81 t311 t312 t313 t314 t321 t322 t323 true) else (laws_FnDivisorsTold.j7 kj81 t311 t312 t313 t314 t321 t322 t323 (t322 != t324))) = some r := by rw [if_pos rfl] at H; exact H
           clear H
           have H := H1
           clear H1
           by_cases c153 : (t323 != t325) = true
           ·
            rw [if_pos c153] at H
            exact (laws_FnDivisorsTold.j7_no _ _ _ _ _ _ _ _ (H.trans (congrArg some HRT.out))).elim
           ·
            rw [if_neg c153] at H
            have c153b0 : (t323 != t325) = false := by simpa using c153
            (try (have c153b1 : decide (t323 = t325) = true := by simpa using c153))
            (try (have c153b2 : (t323 == t325) = true := by simpa using c153))
            clear c153
            have H' := Aside0.mk H
            clear H
            obtain ⟨Ao156, co156, eo156⟩ := Kd.R_slice HO316.out
            subst eo156
            obtain ⟨Ao157, co157, eo157⟩ := Kd.R_slice HO320.out
            subst eo157
            go_wp2_with (first | (go_at_call 75; (with_reducible refine (laws_gSame.calls kj81 _ _ t313 _ _ t317 true _ ?side1 ?side2 ?side3 ?side4 A151.out).mono ?_); (case side1 => repeat (first | exact (Kd.R_reads' HO316.out).2.2 | (with_reducible refine Kd.C_alloc ?_ _) | (with_reducible refine Kd.C_drewN ?_ _) | (with_reducible refine Kd.C_drew ?_))); (case side2 => exact (Kd.R_reads' HO316.out).2.1); (case side3 => repeat (first | exact (Kd.R_reads' HO320.out).2.2 | (with_reducible refine Kd.C_alloc ?_ _) | (with_reducible refine Kd.C_drewN ?_ _) | (with_reducible refine Kd.C_drew ?_))); (case side4 => exact (Kd.R_reads' HO320.out).2.1); rintro e w' ⟨rfl, ⟨nd, rfl⟩⟩; (try first | exact ⟨rfl, _, World.drewN_drewN _ _ _⟩ | exact ⟨rfl, _, Eq.trans (World.drewN_drewN _ _ _) (congrArg (World.drewN _) (Nat.add_assoc _ _ _))⟩)))
            repeat (go_quiet (first | (go_at_call 75; (with_reducible refine (laws_gSame.calls kj81 _ _ t313 _ _ t317 true _ ?side1 ?side2 ?side3 ?side4 A151.out).mono ?_); (case side1 => repeat (first | exact (Kd.R_reads' HO316.out).2.2 | (with_reducible refine Kd.C_alloc ?_ _) | (with_reducible refine Kd.C_drewN ?_ _) | (with_reducible refine Kd.C_drew ?_))); (case side2 => exact (Kd.R_reads' HO316.out).2.1); (case side3 => repeat (first | exact (Kd.R_reads' HO320.out).2.2 | (with_reducible refine Kd.C_alloc ?_ _) | (with_reducible refine Kd.C_drewN ?_ _) | (with_reducible refine Kd.C_drew ?_))); (case side4 => exact (Kd.R_reads' HO320.out).2.1); rintro e w' ⟨rfl, ⟨nd, rfl⟩⟩; (try first | exact ⟨rfl, _, World.drewN_drewN _ _ _⟩ | exact ⟨rfl, _, Eq.trans (World.drewN_drewN _ _ _) (congrArg (World.drewN _) (Nat.add_assoc _ _ _))⟩))); try go_wp2_with (first | (go_at_call 75; (with_reducible refine (laws_gSame.calls kj81 _ _ t313 _ _ t317 true _ ?side1 ?side2 ?side3 ?side4 A151.out).mono ?_); (case side1 => repeat (first | exact (Kd.R_reads' HO316.out).2.2 | (with_reducible refine Kd.C_alloc ?_ _) | (with_reducible refine Kd.C_drewN ?_ _) | (with_reducible refine Kd.C_drew ?_))); (case side2 => exact (Kd.R_reads' HO316.out).2.1); (case side3 => repeat (first | exact (Kd.R_reads' HO320.out).2.2 | (with_reducible refine Kd.C_alloc ?_ _) | (with_reducible refine Kd.C_drewN ?_ _) | (with_reducible refine Kd.C_drew ?_))); (case side4 => exact (Kd.R_reads' HO320.out).2.1); rintro e w' ⟨rfl, ⟨nd, rfl⟩⟩; (try first | exact ⟨rfl, _, World.drewN_drewN _ _ _⟩ | exact ⟨rfl, _, Eq.trans (World.drewN_drewN _ _ _) (congrArg (World.drewN _) (Nat.add_assoc _ _ _))⟩))))
            refine cutMeet hJ_ ?_ (by kernel_rfl)
            exact ⟨_, ((t322 != t324)), (by first | rfl | (simp; done) | (simp [*]; done)), H', ⟨by have := HJ17.out; have := HJ81.out; first | omega | exact Nat.le_refl _⟩, ⟨by (with_reducible repeat (first | apply Kd.R_alloc | apply Kd.R_drewN | apply Kd.R_drew)); exact Kd.R_mono HO316.out (fun _ hk => trivial)⟩, ⟨by repeat (first | (with_reducible first | exact HB.out | apply below_alloc | apply pw_below_drewN | apply below_drew1))⟩⟩
          ·
           replace c152 := Bool.eq_false_iff.mpr c152
           subst c152
           have H1 : (laws_FnDivisorsTold.j7 kj81 t311 t312 t313 t314 t321 t322 t323 true) = some r := by rw [if_neg (show ¬ (false = true) by decide)] at H; exact H
           clear H
           have H := H1
           clear H1
           exact (laws_FnDivisorsTold.j7_no _ _ _ _ _ _ _ _ (H.trans (congrArg some HRT.out))).elim
       ·
        intro u_ wc hcut
        clear HC143
        obtain ⟨kq, x378_142, e_378, HA, HJ142, HO_42, HB⟩ := hcut
        dsimp only [cutFgt, mk0]
        rw [e_378]
        cases kq with
        | zero => exact absurd HA.out (by simp [laws_FnDivisorsTold.j7])
        | succ kj142 =>
         have H := HA.out
         clear HA
         simp only [laws_FnDivisorsTold.j7] at H
         by_cases c160 : x378_142 = true
         ·
          subst c160
          have H1 : (some false) = some r := by rw [if_pos rfl] at H; exact H
          clear H
          have H := H1
          clear H1
          first
          | exact absurd (Option.some.inj (H.trans (congrArg some HRT.out))) Bool.false_ne_true
          |
           obtain rfl := Option.some.inj H
           go_wp2
           repeat (go_quiet (fail); try go_wp2)
           go_ret
           exact ⟨by first | rfl | (simp [errW_none, errW_some] <;> rfl) | (simp [*, errW_none, errW_some] <;> rfl), by repeat (first | (with_reducible first | exact HB.out | apply below_alloc | apply pw_below_drewN | apply below_drew1))⟩
         ·
          replace c160 := Bool.eq_false_iff.mpr c160
          subst c160
          have H1 : (if t314 = true then (if 0 < (t313.length : Int) then (if (rd t313 0) = t311 then (laws_FnDivisorsTold.j8 kj142 t312 t313 t321 t322 t323 (decide ((t313.length : Int) > (wrap64 (t312 + 1))))) else (laws_FnDivisorsTold.j8 kj142 t312 t313 t321 t322 t323 true)) else (none)) else (if t323 = true then (if t322 ≤ 1000000 then ((impl_AmicableOf.f kj142 t322).bind fun bt335 => (if bt335.2 = true then (if bt335.1 = t321 then (some (t322 != t321)) else (some false)) else (some false))) else (some true)) else (some true))) = some r := by rw [if_neg (show ¬ (false = true) by decide)] at H; exact H
          clear H
          have H := H1
          clear H1
          by_cases c161 : t314 = true
          ·
           subst c161
           have H1 : (if 0 < (t313.length : Int) then (if (rd t313 0) = t311 then (laws_FnDivisorsTold.j8 kj142 t312 t313 t321 t322 t323 (decide ((t313.length : Int) > (wrap64 (t312 + 1))))) else (laws_FnDivisorsTold.j8 kj142 t312 t313 t321 t322 t323 true)) else (none)) = some r := by rw [if_pos rfl] at H; exact H
           clear H
           have H := H1
           clear H1
           have HC162 := Aside0.mk H
           clear H
           go_upto_region 54 with (fail)
           repeat (go_quiet (fail); go_upto_region 54 with (fail))
           refine cutF mk0 [] (fun u_ wc => ∃ (kq : Nat) (x391_161 : Bool), (u_ 391) = .bool x391_161 ∧ Aside0 (laws_FnDivisorsTold.j8 kq t312 t313 t321 t322 t323 x391_161 = some r) ∧ Aside0 (kq ≤ kj142) ∧ Aside0 (Kd.R (Kd.int .i64) 3 wc w.heap.size (fun _ => True) v315 t313) ∧ Aside0 (Below w.heap.size w wc)) ?_ ?_
           ·
            as_aux_lemma =>
             intro J_ K_ hJ_ hK_
             have H := HC162.out
             clear HC162
             by_cases c163 : 0 < (t313.length : Int)
             ·
              rw [if_pos c163] at H
              have c163b0 : decide (0 < (t313.length : Int)) = true := decide_eq_true c163
              have c163b1 : decide (0 < t313.length) = true := decide_eq_true (by omega)
              clear c163
              (first | rw [c163b0] | (simp only [i64_w, i32_w]; rw [c163b0]) | skip)
              by_cases c164 : (rd t313 0) = t311
              ·
               rw [if_pos c164] at H
               have c164b0 : ((rd t313 0) == t311) = true := beq_iff_eq.mpr c164
               have c164b1 : ((rd t313 0) != t311) = false := bne_eq_false_iff_eq.mpr c164
               clear c164
               have H' := Aside0.mk H
               clear H
               obtain ⟨Ao165, co165, eo165⟩ := Kd.R_slice HO_42.out
               subst eo165
               have p327 : 0 ≤ (0 : Int) := (by omega)
               have q327 : 0 < (t313.length : Int) := of_decide_eq_true (by first | (with_reducible assumption) | assumption)
               obtain ⟨ad327, e327, hx327_0⟩ := Kd.at_int (Kd.R_reads' HO_42.out).2.2 0 p327 q327
               cases e327
               have qi327 : (0 < t313.length) = True := eq_true (by omega)
               (try rw [show ((0 : Int)).toNat = 0 from rfl] at hx327_0)
               (try rw [Addr.add_zero'] at hx327_0)
               replace p327 := eq_true p327
               replace q327 := eq_true q327
               go_wp2
               repeat (go_quiet (fail); try go_wp2)
               refine cutMeet hJ_ ?_ (by kernel_rfl)
               exact ⟨_, (decide ((t313.length : Int) > (wrap64 (t312 + 1)))), (by first | rfl | (simp; done) | (simp [*]; done)), H', ⟨by have := HJ17.out; have := HJ81.out; have := HJ142.out; first | omega | exact Nat.le_refl _⟩, ⟨by (with_reducible repeat (first | apply Kd.R_alloc | apply Kd.R_drewN | apply Kd.R_drew)); exact HO_42.out⟩, ⟨by repeat (first | (with_reducible first | exact HB.out | apply below_alloc | apply pw_below_drewN | apply below_drew1))⟩⟩
              ·
               rw [if_neg c164] at H
               exact (laws_FnDivisorsTold.j8_no _ _ _ _ _ _ (H.trans (congrArg some HRT.out))).elim
             ·
              rw [if_neg c163] at H
              exact absurd H (by simp)
           ·
            intro u_ wc hcut
            clear HC162
            obtain ⟨kq, x391_161, e_391, HA, HJ161, HO_42, HB⟩ := hcut
            dsimp only [cutFgt, mk0]
            rw [e_391]
            cases kq with
            | zero => exact absurd HA.out (by simp [laws_FnDivisorsTold.j8])
            | succ kj161 =>
             have H := HA.out
             clear HA
             simp only [laws_FnDivisorsTold.j8] at H
             by_cases c167 : x391_161 = true
             ·
              subst c167
              have H1 : (some false) = some r := by rw [if_pos rfl] at H; exact H
              clear H
              have H := H1
              clear H1
              first
              | exact absurd (Option.some.inj (H.trans (congrArg some HRT.out))) Bool.false_ne_true
              |
               obtain rfl := Option.some.inj H
               go_wp2
               repeat (go_quiet (fail); try go_wp2)
               go_ret
               exact ⟨by first | rfl | (simp [errW_none, errW_some] <;> rfl) | (simp [*, errW_none, errW_some] <;> rfl), by repeat (first | (with_reducible first | exact HB.out | apply below_alloc | apply pw_below_drewN | apply below_drew1))⟩
             ·
              replace c167 := Bool.eq_false_iff.mpr c167
              subst c167
              have H1 : (laws_FnDivisorsTold.l2 kj161 t312 t313 t321 t322 t323 1) = some r := by rw [if_neg (show ¬ (false = true) by decide)] at H; exact H
              clear H
              have H := H1
              clear H1
              have H' := Aside0.mk H
              clear H
              go_wp2
              repeat (go_quiet (fail); try go_wp2)
              go_loopg [51] kj161 (fun kq v51 w' => ∃ (x51_5 : Int), v51 = .int .i64 x51_5 ∧ Aside0 (laws_FnDivisorsTold.l2 kq t312 t313 t321 t322 t323 x51_5 = some r) ∧ Aside0 (kq ≤ kj161) ∧ Aside0 (Kd.R (Kd.int .i64) 3 w' w.heap.size (fun _ => True) v315 t313) ∧ Aside0 (Below w.heap.size w w'))
              case atStart => exact ⟨(1), (by first | rfl | (simp; done) | (simp [*]; done)), H', ⟨Nat.le_refl _⟩, ⟨by (with_reducible repeat (first | apply Kd.R_alloc | apply Kd.R_drewN | apply Kd.R_drew)); exact HO_42.out⟩, ⟨by repeat (first | (with_reducible first | exact HB.out | apply below_alloc | apply pw_below_drewN | apply below_drew1))⟩⟩
              case round =>
               clear H'
               obtain ⟨x51_5, rfl, HA, HK5, HO_42, HB⟩ := hrel
               cases gk with
               | zero => exact absurd HA.out (by simp [laws_FnDivisorsTold.l2])
               | succ k5 =>
                have H := HA.out
                clear HA
                simp only [laws_FnDivisorsTold.l2] at H
                by_cases c168 : x51_5 < (t313.length : Int)
                ·
                 rw [if_pos c168] at H
                 have c168b0 : decide (x51_5 < (t313.length : Int)) = true := decide_eq_true c168
                 clear c168
                 obtain ⟨ji169, hji169⟩ : ∃ j_ : Int, (wrap64 (x51_5 - 1)) = j_ := ⟨_, rfl⟩
                 replace H : (if 0 ≤ (ji169) then (if (ji169) < (t313.length : Int) then ((impl_SumStep.f k5 (rd t313 (ji169))).bind fun bt329 => (if bt329.2 = true then (if 0 ≤ x51_5 then (if bt329.1 = (rd t313 x51_5) then (laws_FnDivisorsTold.l2 k5 t312 t313 t321 t322 t323 (wrap64 (x51_5 + 1))) else (some false)) else (none)) else (some false))) else (none)) else (none)) = some r := by first | (rw [hji169] at H; exact H) | (simp only [hji169] at H ⊢; exact H)
                 have hji169w : (IntKind.i64.wrap (x51_5 - 1)) = ji169 := (i64_w _).trans hji169
                 by_cases c170 : 0 ≤ (ji169)
                 ·
                  rw [if_pos c170] at H
                  have c170b0 : decide (0 ≤ (ji169)) = true := decide_eq_true c170
                  clear c170
                  by_cases c171 : (ji169) < (t313.length : Int)
                  ·
                   rw [if_pos c171] at H
                   have c171b0 : decide ((ji169) < (t313.length : Int)) = true := decide_eq_true c171
                   clear c171
                   replace H := Option.bind_eq_some_iff.mp H
                   obtain ⟨⟨t329, t330⟩, A1720, H⟩ := H
                   replace H : (if t330 = true then (if 0 ≤ x51_5 then (if t329 = (rd t313 x51_5) then (laws_FnDivisorsTold.l2 k5 t312 t313 t321 t322 t323 (wrap64 (x51_5 + 1))) else (some false)) else (none)) else (some false)) = some r := H
                   have A172 := Aside0.mk A1720
                   clear A1720
                   by_cases c173 : t330 = true
                   ·
                    subst c173
                    have H1 : (if 0 ≤ x51_5 then (if t329 = (rd t313 x51_5) then (laws_FnDivisorsTold.l2 k5 t312 t313 t321 t322 t323 (wrap64 (x51_5 + 1))) else (some false)) else (none)) = some r := by rw [if_pos rfl] at H; exact H
                    clear H
                    have H := H1
                    clear H1
                    by_cases c174 : 0 ≤ x51_5
                    ·
                     rw [if_pos c174] at H
                     have c174b0 : decide (0 ≤ x51_5) = true := decide_eq_true c174
                     clear c174
                     by_cases c175 : t329 = (rd t313 x51_5)
                     ·
                      rw [if_pos c175] at H
                      have c175b0 : (t329 == (rd t313 x51_5)) = true := beq_iff_eq.mpr c175
                      have c175b1 : (t329 != (rd t313 x51_5)) = false := bne_eq_false_iff_eq.mpr c175
                      clear c175
                      have H' := Aside0.mk H
                      clear H
                      obtain ⟨Ao176, co176, eo176⟩ := Kd.R_slice HO_42.out
                      subst eo176
                      have p328 : 0 ≤ ((ji169) : Int) := of_decide_eq_true (by first | (with_reducible assumption) | assumption)
                      have q328 : (ji169) < (t313.length : Int) := of_decide_eq_true (by first | (with_reducible assumption) | assumption)
                      obtain ⟨ad328, e328, hx328_0⟩ := Kd.at_int (Kd.R_reads' HO_42.out).2.2 (ji169) p328 q328
                      cases e328
                      replace p328 := eq_true p328
                      replace q328 := eq_true q328
                      go_wp2_with (first | (go_at_call 73; (with_reducible refine (impl_SumStep.calls k5 (rd t313 (ji169)) t329 true _ A172.out).mono ?_); rintro e w177 ⟨rfl, hb⟩; have n0_ := Aside0.mk (Kd.R_below (by (with_reducible repeat (first | apply Kd.R_alloc | apply Kd.R_drewN | apply Kd.R_drew)); exact HO_42.out) hb); have n1_ := Aside0.mk (below_step (by repeat (first | (with_reducible first | exact HB.out | apply below_alloc | apply pw_below_drewN | apply below_drew1))) hb); clear HO_42; clear HB; have HO_42 := n0_; have HB := n1_; clear n0_ n1_; (try clear hb); have p331 : 0 ≤ (x51_5 : Int) := of_decide_eq_true (by first | (with_reducible assumption) | assumption); have q331 : x51_5 < (t313.length : Int) := of_decide_eq_true (by first | (with_reducible assumption) | assumption); obtain ⟨ad331, e331, hx331_0⟩ := Kd.at_int (Kd.R_reads' HO_42.out).2.2 x51_5 p331 q331; obtain rfl : ad328 = ad331 := (by injection e331); replace p331 := eq_true p331; replace q331 := eq_true q331))
                      repeat (go_quiet (first | (go_at_call 73; (with_reducible refine (impl_SumStep.calls k5 (rd t313 (ji169)) t329 true _ A172.out).mono ?_); rintro e w177 ⟨rfl, hb⟩; have n0_ := Aside0.mk (Kd.R_below (by (with_reducible repeat (first | apply Kd.R_alloc | apply Kd.R_drewN | apply Kd.R_drew)); exact HO_42.out) hb); have n1_ := Aside0.mk (below_step (by repeat (first | (with_reducible first | exact HB.out | apply below_alloc | apply pw_below_drewN | apply below_drew1))) hb); clear HO_42; clear HB; have HO_42 := n0_; have HB := n1_; clear n0_ n1_; (try clear hb); have p331 : 0 ≤ (x51_5 : Int) := of_decide_eq_true (by first | (with_reducible assumption) | assumption); have q331 : x51_5 < (t313.length : Int) := of_decide_eq_true (by first | (with_reducible assumption) | assumption); obtain ⟨ad331, e331, hx331_0⟩ := Kd.at_int (Kd.R_reads' HO_42.out).2.2 x51_5 p331 q331; obtain rfl : ad328 = ad331 := (by injection e331); replace p331 := eq_true p331; replace q331 := eq_true q331)); try go_wp2_with (first | (go_at_call 73; (with_reducible refine (impl_SumStep.calls k5 (rd t313 (ji169)) t329 true _ A172.out).mono ?_); rintro e w177 ⟨rfl, hb⟩; have n0_ := Aside0.mk (Kd.R_below (by (with_reducible repeat (first | apply Kd.R_alloc | apply Kd.R_drewN | apply Kd.R_drew)); exact HO_42.out) hb); have n1_ := Aside0.mk (below_step (by repeat (first | (with_reducible first | exact HB.out | apply below_alloc | apply pw_below_drewN | apply below_drew1))) hb); clear HO_42; clear HB; have HO_42 := n0_; have HB := n1_; clear n0_ n1_; (try clear hb); have p331 : 0 ≤ (x51_5 : Int) := of_decide_eq_true (by first | (with_reducible assumption) | assumption); have q331 : x51_5 < (t313.length : Int) := of_decide_eq_true (by first | (with_reducible assumption) | assumption); obtain ⟨ad331, e331, hx331_0⟩ := Kd.at_int (Kd.R_reads' HO_42.out).2.2 x51_5 p331 q331; obtain rfl : ad328 = ad331 := (by injection e331); replace p331 := eq_true p331; replace q331 := eq_true q331)))
                      go_roundg k5
                      case measure => have := HJ17.out; have := HJ81.out; have := HJ142.out; have := HJ161.out; have := HK5.out; omega
                      case rel => exact ⟨(wrap64 (x51_5 + 1)), (by first | rfl | (simp; done) | (simp [*]; done)), H', ⟨by have := HJ17.out; have := HJ81.out; have := HJ142.out; have := HJ161.out; have := HK5.out; omega⟩, ⟨by (with_reducible repeat (first | apply Kd.R_alloc | apply Kd.R_drewN | apply Kd.R_drew)); exact HO_42.out⟩, ⟨by repeat (first | (with_reducible first | exact HB.out | apply below_alloc | apply pw_below_drewN | apply below_drew1))⟩⟩
                     ·
                      rw [if_neg c175] at H
                      have c175b0 : (t329 == (rd t313 x51_5)) = false := beq_eq_false_iff_ne.mpr c175
                      have c175b1 : (t329 != (rd t313 x51_5)) = true := bne_iff_ne.mpr c175
                      first
                      | exact absurd (Option.some.inj (H.trans (congrArg some HRT.out))) Bool.false_ne_true
                      |
                       obtain rfl := Option.some.inj H
                       obtain ⟨Ao178, co178, eo178⟩ := Kd.R_slice HO_42.out
                       subst eo178
                       have p328 : 0 ≤ ((ji169) : Int) := of_decide_eq_true (by first | (with_reducible assumption) | assumption)
                       have q328 : (ji169) < (t313.length : Int) := of_decide_eq_true (by first | (with_reducible assumption) | assumption)
                       obtain ⟨ad328, e328, hx328_0⟩ := Kd.at_int (Kd.R_reads' HO_42.out).2.2 (ji169) p328 q328
                       cases e328
                       replace p328 := eq_true p328
                       replace q328 := eq_true q328
                       go_wp2_with (first | (go_at_call 73; (with_reducible refine (impl_SumStep.calls k5 (rd t313 (ji169)) t329 true _ A172.out).mono ?_); rintro e w179 ⟨rfl, hb⟩; have n0_ := Aside0.mk (Kd.R_below (by (with_reducible repeat (first | apply Kd.R_alloc | apply Kd.R_drewN | apply Kd.R_drew)); exact HO_42.out) hb); have n1_ := Aside0.mk (below_step (by repeat (first | (with_reducible first | exact HB.out | apply below_alloc | apply pw_below_drewN | apply below_drew1))) hb); clear HO_42; clear HB; have HO_42 := n0_; have HB := n1_; clear n0_ n1_; (try clear hb); have p331 : 0 ≤ (x51_5 : Int) := of_decide_eq_true (by first | (with_reducible assumption) | assumption); have q331 : x51_5 < (t313.length : Int) := of_decide_eq_true (by first | (with_reducible assumption) | assumption); obtain ⟨ad331, e331, hx331_0⟩ := Kd.at_int (Kd.R_reads' HO_42.out).2.2 x51_5 p331 q331; obtain rfl : ad328 = ad331 := (by injection e331); replace p331 := eq_true p331; replace q331 := eq_true q331))
                       repeat (go_quiet (first | (go_at_call 73; (with_reducible refine (impl_SumStep.calls k5 (rd t313 (ji169)) t329 true _ A172.out).mono ?_); rintro e w179 ⟨rfl, hb⟩; have n0_ := Aside0.mk (Kd.R_below (by (with_reducible repeat (first | apply Kd.R_alloc | apply Kd.R_drewN | apply Kd.R_drew)); exact HO_42.out) hb); have n1_ := Aside0.mk (below_step (by repeat (first | (with_reducible first | exact HB.out | apply below_alloc | apply pw_below_drewN | apply below_drew1))) hb); clear HO_42; clear HB; have HO_42 := n0_; have HB := n1_; clear n0_ n1_; (try clear hb); have p331 : 0 ≤ (x51_5 : Int) := of_decide_eq_true (by first | (with_reducible assumption) | assumption); have q331 : x51_5 < (t313.length : Int) := of_decide_eq_true (by first | (with_reducible assumption) | assumption); obtain ⟨ad331, e331, hx331_0⟩ := Kd.at_int (Kd.R_reads' HO_42.out).2.2 x51_5 p331 q331; obtain rfl : ad328 = ad331 := (by injection e331); replace p331 := eq_true p331; replace q331 := eq_true q331)); try go_wp2_with (first | (go_at_call 73; (with_reducible refine (impl_SumStep.calls k5 (rd t313 (ji169)) t329 true _ A172.out).mono ?_); rintro e w179 ⟨rfl, hb⟩; have n0_ := Aside0.mk (Kd.R_below (by (with_reducible repeat (first | apply Kd.R_alloc | apply Kd.R_drewN | apply Kd.R_drew)); exact HO_42.out) hb); have n1_ := Aside0.mk (below_step (by repeat (first | (with_reducible first | exact HB.out | apply below_alloc | apply pw_below_drewN | apply below_drew1))) hb); clear HO_42; clear HB; have HO_42 := n0_; have HB := n1_; clear n0_ n1_; (try clear hb); have p331 : 0 ≤ (x51_5 : Int) := of_decide_eq_true (by first | (with_reducible assumption) | assumption); have q331 : x51_5 < (t313.length : Int) := of_decide_eq_true (by first | (with_reducible assumption) | assumption); obtain ⟨ad331, e331, hx331_0⟩ := Kd.at_int (Kd.R_reads' HO_42.out).2.2 x51_5 p331 q331; obtain rfl : ad328 = ad331 := (by injection e331); replace p331 := eq_true p331; replace q331 := eq_true q331)))
                       go_ret
                       exact ⟨by first | rfl | (simp [errW_none, errW_some] <;> rfl) | (simp only [← hji169]; first | rfl | (simp [errW_none, errW_some] <;> rfl)) | (simp [*, errW_none, errW_some] <;> rfl), by repeat (first | (with_reducible first | exact HB.out | apply below_alloc | apply pw_below_drewN | apply below_drew1))⟩
                    ·
                     rw [if_neg c174] at H
                     exact absurd H (by simp)
                   ·
                    replace c173 := Bool.eq_false_iff.mpr c173
                    subst c173
                    have H1 : (some false) = some r := by rw [if_neg (show ¬ (false = true) by decide)] at H; exact H
                    clear H
                    have H := H1
                    clear H1
                    first
                    | exact absurd (Option.some.inj (H.trans (congrArg some HRT.out))) Bool.false_ne_true
                    |
                     obtain rfl := Option.some.inj H
                     obtain ⟨Ao180, co180, eo180⟩ := Kd.R_slice HO_42.out
                     subst eo180
                     have p328 : 0 ≤ ((ji169) : Int) := of_decide_eq_true (by first | (with_reducible assumption) | assumption)
                     have q328 : (ji169) < (t313.length : Int) := of_decide_eq_true (by first | (with_reducible assumption) | assumption)
                     obtain ⟨ad328, e328, hx328_0⟩ := Kd.at_int (Kd.R_reads' HO_42.out).2.2 (ji169) p328 q328
                     cases e328
                     replace p328 := eq_true p328
                     replace q328 := eq_true q328
                     go_wp2_with (first | (go_at_call 73; (with_reducible refine (impl_SumStep.calls k5 (rd t313 (ji169)) t329 false _ A172.out).mono ?_); rintro e w181 ⟨rfl, hb⟩; have n0_ := Aside0.mk (Kd.R_below (by (with_reducible repeat (first | apply Kd.R_alloc | apply Kd.R_drewN | apply Kd.R_drew)); exact HO_42.out) hb); have n1_ := Aside0.mk (below_step (by repeat (first | (with_reducible first | exact HB.out | apply below_alloc | apply pw_below_drewN | apply below_drew1))) hb); clear HO_42; clear HB; have HO_42 := n0_; have HB := n1_; clear n0_ n1_; (try clear hb)))
                     repeat (go_quiet (first | (go_at_call 73; (with_reducible refine (impl_SumStep.calls k5 (rd t313 (ji169)) t329 false _ A172.out).mono ?_); rintro e w181 ⟨rfl, hb⟩; have n0_ := Aside0.mk (Kd.R_below (by (with_reducible repeat (first | apply Kd.R_alloc | apply Kd.R_drewN | apply Kd.R_drew)); exact HO_42.out) hb); have n1_ := Aside0.mk (below_step (by repeat (first | (with_reducible first | exact HB.out | apply below_alloc | apply pw_below_drewN | apply below_drew1))) hb); clear HO_42; clear HB; have HO_42 := n0_; have HB := n1_; clear n0_ n1_; (try clear hb))); try go_wp2_with (first | (go_at_call 73; (with_reducible refine (impl_SumStep.calls k5 (rd t313 (ji169)) t329 false _ A172.out).mono ?_); rintro e w181 ⟨rfl, hb⟩; have n0_ := Aside0.mk (Kd.R_below (by (with_reducible repeat (first | apply Kd.R_alloc | apply Kd.R_drewN | apply Kd.R_drew)); exact HO_42.out) hb); have n1_ := Aside0.mk (below_step (by repeat (first | (with_reducible first | exact HB.out | apply below_alloc | apply pw_below_drewN | apply below_drew1))) hb); clear HO_42; clear HB; have HO_42 := n0_; have HB := n1_; clear n0_ n1_; (try clear hb))))
                     go_ret
                     exact ⟨by first | rfl | (simp [errW_none, errW_some] <;> rfl) | (simp only [← hji169]; first | rfl | (simp [errW_none, errW_some] <;> rfl)) | (simp [*, errW_none, errW_some] <;> rfl), by repeat (first | (with_reducible first | exact HB.out | apply below_alloc | apply pw_below_drewN | apply below_drew1))⟩
                  ·
                   rw [if_neg c171] at H
                   exact absurd H (by simp)
                 ·
                  rw [if_neg c170] at H
                  exact absurd H (by simp)
                ·
                 rw [if_neg c168] at H
                 have c168b0 : decide (x51_5 < (t313.length : Int)) = false := decide_eq_false c168
                 clear c168
                 obtain ⟨ji182, hji182⟩ : ∃ j_ : Int, (wrap64 ((t313.length : Int) - 1)) = j_ := ⟨_, rfl⟩
                 replace H : (if 0 ≤ (ji182) then (if (ji182) < (t313.length : Int) then (if (t313.length : Int) < (wrap64 (t312 + 1)) then (if (rd t313 (ji182)) = 0 then (laws_FnDivisorsTold.j10 k5 t321 t322 t323 false) else (laws_FnDivisorsTold.j10 k5 t321 t322 t323 (decide ((rd t313 (ji182)) ≤ 1000000)))) else (laws_FnDivisorsTold.j10 k5 t321 t322 t323 false)) else (none)) else (none)) = some r := by first | (rw [hji182] at H; exact H) | (simp only [hji182] at H ⊢; exact H)
                 have hji182w : (IntKind.i64.wrap ((t313.length : Int) - 1)) = ji182 := (i64_w _).trans hji182
                 by_cases c183 : 0 ≤ (ji182)
                 ·
                  rw [if_pos c183] at H
                  have c183b0 : decide (0 ≤ (ji182)) = true := decide_eq_true c183
                  clear c183
                  by_cases c184 : (ji182) < (t313.length : Int)
                  ·
                   rw [if_pos c184] at H
                   have c184b0 : decide ((ji182) < (t313.length : Int)) = true := decide_eq_true c184
                   clear c184
                   have HC185 := Aside0.mk H
                   clear H
                   obtain ⟨Ao186, co186, eo186⟩ := Kd.R_slice HO_42.out
                   subst eo186
                   have p332 : 0 ≤ ((ji182) : Int) := of_decide_eq_true (by first | (with_reducible assumption) | assumption)
                   have q332 : (ji182) < (t313.length : Int) := of_decide_eq_true (by first | (with_reducible assumption) | assumption)
                   obtain ⟨ad332, e332, hx332_0⟩ := Kd.at_int (Kd.R_reads' HO_42.out).2.2 (ji182) p332 q332
                   cases e332
                   replace p332 := eq_true p332
                   replace q332 := eq_true q332
                   go_upto_region 63 with (fail)
                   repeat (go_quiet (fail); go_upto_region 63 with (fail))
                   refine cutF mk0 [] (fun u_ wc => ∃ (kq : Nat) (x435_184 : Bool), (u_ 435) = .bool x435_184 ∧ Aside0 (laws_FnDivisorsTold.j10 kq t321 t322 t323 x435_184 = some r) ∧ Aside0 (kq ≤ k5) ∧ Aside0 (Below w.heap.size w wc)) ?_ ?_
                   ·
                    as_aux_lemma =>
                     intro J_ K_ hJ_ hK_
                     have H := HC185.out
                     clear HC185
                     by_cases c187 : (t313.length : Int) < (wrap64 (t312 + 1))
                     ·
                      rw [if_pos c187] at H
                      have c187b0 : decide ((t313.length : Int) < (wrap64 (t312 + 1))) = true := decide_eq_true c187
                      clear c187
                      (first | rw [c187b0] | (simp only [i64_w, i32_w]; rw [c187b0]) | skip)
                      by_cases c188 : (rd t313 (ji182)) = 0
                      ·
                       rw [if_pos c188] at H
                       have c188b0 : ((rd t313 (ji182)) == 0) = true := beq_iff_eq.mpr c188
                       have c188b1 : ((rd t313 (ji182)) != 0) = false := bne_eq_false_iff_eq.mpr c188
                       clear c188
                       have H' := Aside0.mk H
                       clear H
                       go_wp2
                       repeat (go_quiet (fail); try go_wp2)
                       refine cutMeet hJ_ ?_ (by kernel_rfl)
                       exact ⟨_, (false), (by first | rfl | (simp; done) | (simp [*]; done)), H', ⟨by have := HJ17.out; have := HJ81.out; have := HJ142.out; have := HJ161.out; have := HK5.out; first | omega | exact Nat.le_refl _⟩, ⟨by repeat (first | (with_reducible first | exact HB.out | apply below_alloc | apply pw_below_drewN | apply below_drew1))⟩⟩
                      ·
                       rw [if_neg c188] at H
                       have c188b0 : ((rd t313 (ji182)) == 0) = false := beq_eq_false_iff_ne.mpr c188
                       have c188b1 : ((rd t313 (ji182)) != 0) = true := bne_iff_ne.mpr c188
                       have H' := Aside0.mk H
                       clear H
                       go_wp2
                       repeat (go_quiet (fail); try go_wp2)
                       refine cutMeet hJ_ ?_ (by kernel_rfl)
                       exact ⟨_, (decide ((rd t313 (ji182)) ≤ 1000000)), (by first | rfl | (simp; done) | (simp only [← hji182] <;> (first | rfl | simp)) | (simp [*]; done)), H', ⟨by have := HJ17.out; have := HJ81.out; have := HJ142.out; have := HJ161.out; have := HK5.out; first | omega | exact Nat.le_refl _⟩, ⟨by repeat (first | (with_reducible first | exact HB.out | apply below_alloc | apply pw_below_drewN | apply below_drew1))⟩⟩
                     ·
                      rw [if_neg c187] at H
                      have c187b0 : decide ((t313.length : Int) < (wrap64 (t312 + 1))) = false := decide_eq_false c187
                      clear c187
                      (first | rw [c187b0] | (simp only [i64_w, i32_w]; rw [c187b0]) | skip)
                      have H' := Aside0.mk H
                      clear H
                      go_wp2
                      repeat (go_quiet (fail); try go_wp2)
                      refine cutMeet hJ_ ?_ (by kernel_rfl)
                      exact ⟨_, (false), (by first | rfl | (simp; done) | (simp [*]; done)), H', ⟨by have := HJ17.out; have := HJ81.out; have := HJ142.out; have := HJ161.out; have := HK5.out; first | omega | exact Nat.le_refl _⟩, ⟨by repeat (first | (with_reducible first | exact HB.out | apply below_alloc | apply pw_below_drewN | apply below_drew1))⟩⟩
                   ·
                    intro u_ wc hcut
                    clear HC185
                    obtain ⟨kq, x435_184, e_435, HA, HJ184, HB⟩ := hcut
                    dsimp only [cutFgt, mk0]
                    rw [e_435]
                    cases kq with
                    | zero => exact absurd HA.out (by simp [laws_FnDivisorsTold.j10])
                    | succ kj184 =>
                     have H := HA.out
                     clear HA
                     simp only [laws_FnDivisorsTold.j10] at H
                     by_cases c189 : x435_184 = true
                     ·
                      subst c189
                      have H1 : (some false) = some r := by rw [if_pos rfl] at H; exact H
                      clear H
                      have H := H1
                      clear H1
                      first
                      | exact absurd (Option.some.inj (H.trans (congrArg some HRT.out))) Bool.false_ne_true
                      |
                       obtain rfl := Option.some.inj H
                       go_wp2
                       repeat (go_quiet (fail); try go_wp2)
                       go_ret
                       exact ⟨by first | rfl | (simp [errW_none, errW_some] <;> rfl) | (simp only [← hji182]; first | rfl | (simp [errW_none, errW_some] <;> rfl)) | (simp [*, errW_none, errW_some] <;> rfl), by repeat (first | (with_reducible first | exact HB.out | apply below_alloc | apply pw_below_drewN | apply below_drew1))⟩
                     ·
                      replace c189 := Bool.eq_false_iff.mpr c189
                      subst c189
                      have H1 : (if t323 = true then (if t322 ≤ 1000000 then ((impl_AmicableOf.f kj184 t322).bind fun bt333 => (if bt333.2 = true then (if bt333.1 = t321 then (some (t322 != t321)) else (some false)) else (some false))) else (some true)) else (some true)) = some r := by rw [if_neg (show ¬ (false = true) by decide)] at H; exact H
                      clear H
                      have H := H1
                      clear H1
                      by_cases c190 : t323 = true
                      ·
                       subst c190
                       have H1 : (if t322 ≤ 1000000 then ((impl_AmicableOf.f kj184 t322).bind fun bt333 => (if bt333.2 = true then (if bt333.1 = t321 then (some (t322 != t321)) else (some false)) else (some false))) else (some true)) = some r := by rw [if_pos rfl] at H; exact H
                       clear H
                       have H := H1
                       clear H1
                       by_cases c191 : t322 ≤ 1000000
                       ·
                        rw [if_pos c191] at H
                        have c191b0 : decide (t322 ≤ 1000000) = true := decide_eq_true c191
                        clear c191
                        replace H := Option.bind_eq_some_iff.mp H
                        obtain ⟨⟨t333, t334⟩, A1920, H⟩ := H
                        replace H : (if t334 = true then (if t333 = t321 then (some (t322 != t321)) else (some false)) else (some false)) = some r := H
                        have A192 := Aside0.mk A1920
                        clear A1920
                        by_cases c193 : t334 = true
                        ·
                         subst c193
                         have H1 : (if t333 = t321 then (some (t322 != t321)) else (some false)) = some r := by rw [if_pos rfl] at H; exact H
                         clear H
                         have H := H1
                         clear H1
                         by_cases c194 : t333 = t321
                         ·
                          rw [if_pos c194] at H
                          have c194b0 : (t333 == t321) = true := beq_iff_eq.mpr c194
                          have c194b1 : (t333 != t321) = false := bne_eq_false_iff_eq.mpr c194
                          clear c194
                          first
                          | exact absurd (Option.some.inj (H.trans (congrArg some HRT.out))) Bool.false_ne_true
                          |
                           obtain rfl := Option.some.inj H
                           go_wp2_with (first | (go_at_call 80; (with_reducible refine (impl_AmicableOf.calls kj184 t322 t333 true _ A192.out).mono ?_); rintro e w195 ⟨rfl, hb⟩; have n0_ := Aside0.mk (below_step (by repeat (first | (with_reducible first | exact HB.out | apply below_alloc | apply pw_below_drewN | apply below_drew1))) hb); clear HB; have HB := n0_; clear n0_; (try clear hb)))
                           repeat (go_quiet (first | (go_at_call 80; (with_reducible refine (impl_AmicableOf.calls kj184 t322 t333 true _ A192.out).mono ?_); rintro e w195 ⟨rfl, hb⟩; have n0_ := Aside0.mk (below_step (by repeat (first | (with_reducible first | exact HB.out | apply below_alloc | apply pw_below_drewN | apply below_drew1))) hb); clear HB; have HB := n0_; clear n0_; (try clear hb))); try go_wp2_with (first | (go_at_call 80; (with_reducible refine (impl_AmicableOf.calls kj184 t322 t333 true _ A192.out).mono ?_); rintro e w195 ⟨rfl, hb⟩; have n0_ := Aside0.mk (below_step (by repeat (first | (with_reducible first | exact HB.out | apply below_alloc | apply pw_below_drewN | apply below_drew1))) hb); clear HB; have HB := n0_; clear n0_; (try clear hb))))
                           go_ret
                           exact ⟨by first | rfl | (simp [errW_none, errW_some] <;> rfl) | (simp only [← hji182]; first | rfl | (simp [errW_none, errW_some] <;> rfl)) | (simp [*, errW_none, errW_some] <;> rfl), by repeat (first | (with_reducible first | exact HB.out | apply below_alloc | apply pw_below_drewN | apply below_drew1))⟩
                         ·
                          rw [if_neg c194] at H
                          have c194b0 : (t333 == t321) = false := beq_eq_false_iff_ne.mpr c194
                          have c194b1 : (t333 != t321) = true := bne_iff_ne.mpr c194
                          first
                          | exact absurd (Option.some.inj (H.trans (congrArg some HRT.out))) Bool.false_ne_true
                          |
                           obtain rfl := Option.some.inj H
                           go_wp2_with (first | (go_at_call 80; (with_reducible refine (impl_AmicableOf.calls kj184 t322 t333 true _ A192.out).mono ?_); rintro e w196 ⟨rfl, hb⟩; have n0_ := Aside0.mk (below_step (by repeat (first | (with_reducible first | exact HB.out | apply below_alloc | apply pw_below_drewN | apply below_drew1))) hb); clear HB; have HB := n0_; clear n0_; (try clear hb)))
                           repeat (go_quiet (first | (go_at_call 80; (with_reducible refine (impl_AmicableOf.calls kj184 t322 t333 true _ A192.out).mono ?_); rintro e w196 ⟨rfl, hb⟩; have n0_ := Aside0.mk (below_step (by repeat (first | (with_reducible first | exact HB.out | apply below_alloc | apply pw_below_drewN | apply below_drew1))) hb); clear HB; have HB := n0_; clear n0_; (try clear hb))); try go_wp2_with (first | (go_at_call 80; (with_reducible refine (impl_AmicableOf.calls kj184 t322 t333 true _ A192.out).mono ?_); rintro e w196 ⟨rfl, hb⟩; have n0_ := Aside0.mk (below_step (by repeat (first | (with_reducible first | exact HB.out | apply below_alloc | apply pw_below_drewN | apply below_drew1))) hb); clear HB; have HB := n0_; clear n0_; (try clear hb))))
                           go_ret
                           exact ⟨by first | rfl | (simp [errW_none, errW_some] <;> rfl) | (simp only [← hji182]; first | rfl | (simp [errW_none, errW_some] <;> rfl)) | (simp [*, errW_none, errW_some] <;> rfl), by repeat (first | (with_reducible first | exact HB.out | apply below_alloc | apply pw_below_drewN | apply below_drew1))⟩
                        ·
                         replace c193 := Bool.eq_false_iff.mpr c193
                         subst c193
                         have H1 : (some false) = some r := by rw [if_neg (show ¬ (false = true) by decide)] at H; exact H
                         clear H
                         have H := H1
                         clear H1
                         first
                         | exact absurd (Option.some.inj (H.trans (congrArg some HRT.out))) Bool.false_ne_true
                         |
                          obtain rfl := Option.some.inj H
                          go_wp2_with (first | (go_at_call 80; (with_reducible refine (impl_AmicableOf.calls kj184 t322 t333 false _ A192.out).mono ?_); rintro e w197 ⟨rfl, hb⟩; have n0_ := Aside0.mk (below_step (by repeat (first | (with_reducible first | exact HB.out | apply below_alloc | apply pw_below_drewN | apply below_drew1))) hb); clear HB; have HB := n0_; clear n0_; (try clear hb)))
                          repeat (go_quiet (first | (go_at_call 80; (with_reducible refine (impl_AmicableOf.calls kj184 t322 t333 false _ A192.out).mono ?_); rintro e w197 ⟨rfl, hb⟩; have n0_ := Aside0.mk (below_step (by repeat (first | (with_reducible first | exact HB.out | apply below_alloc | apply pw_below_drewN | apply below_drew1))) hb); clear HB; have HB := n0_; clear n0_; (try clear hb))); try go_wp2_with (first | (go_at_call 80; (with_reducible refine (impl_AmicableOf.calls kj184 t322 t333 false _ A192.out).mono ?_); rintro e w197 ⟨rfl, hb⟩; have n0_ := Aside0.mk (below_step (by repeat (first | (with_reducible first | exact HB.out | apply below_alloc | apply pw_below_drewN | apply below_drew1))) hb); clear HB; have HB := n0_; clear n0_; (try clear hb))))
                          go_ret
                          exact ⟨by first | rfl | (simp [errW_none, errW_some] <;> rfl) | (simp only [← hji182]; first | rfl | (simp [errW_none, errW_some] <;> rfl)) | (simp [*, errW_none, errW_some] <;> rfl), by repeat (first | (with_reducible first | exact HB.out | apply below_alloc | apply pw_below_drewN | apply below_drew1))⟩
                       ·
                        rw [if_neg c191] at H
                        have c191b0 : decide (t322 ≤ 1000000) = false := decide_eq_false c191
                        clear c191
                        first
                        | exact absurd (Option.some.inj (H.trans (congrArg some HRT.out))) Bool.false_ne_true
                        |
                         obtain rfl := Option.some.inj H
                         go_wp2
                         repeat (go_quiet (fail); try go_wp2)
                         go_ret
                         exact ⟨by first | rfl | (simp [errW_none, errW_some] <;> rfl) | (simp only [← hji182]; first | rfl | (simp [errW_none, errW_some] <;> rfl)) | (simp [*, errW_none, errW_some] <;> rfl), by repeat (first | (with_reducible first | exact HB.out | apply below_alloc | apply pw_below_drewN | apply below_drew1))⟩
                      ·
                       replace c190 := Bool.eq_false_iff.mpr c190
                       subst c190
                       have H1 : (some true) = some r := by rw [if_neg (show ¬ (false = true) by decide)] at H; exact H
                       clear H
                       have H := H1
                       clear H1
                       first
                       | exact absurd (Option.some.inj (H.trans (congrArg some HRT.out))) Bool.false_ne_true
                       |
                        obtain rfl := Option.some.inj H
                        go_wp2
                        repeat (go_quiet (fail); try go_wp2)
                        go_ret
                        exact ⟨by first | rfl | (simp [errW_none, errW_some] <;> rfl) | (simp only [← hji182]; first | rfl | (simp [errW_none, errW_some] <;> rfl)) | (simp [*, errW_none, errW_some] <;> rfl), by repeat (first | (with_reducible first | exact HB.out | apply below_alloc | apply pw_below_drewN | apply below_drew1))⟩
                  ·
                   rw [if_neg c184] at H
                   exact absurd H (by simp)
                 ·
                  rw [if_neg c183] at H
                  exact absurd H (by simp)
          ·
           replace c161 := Bool.eq_false_iff.mpr c161
           subst c161
           have H1 : (if t323 = true then (if t322 ≤ 1000000 then ((impl_AmicableOf.f kj142 t322).bind fun bt335 => (if bt335.2 = true then (if bt335.1 = t321 then (some (t322 != t321)) else (some false)) else (some false))) else (some true)) else (some true)) = some r := by rw [if_neg (show ¬ (false = true) by decide)] at H; exact H
           clear H
           have H := H1
           clear H1
           by_cases c198 : t323 = true
           ·
            subst c198
            have H1 : (if t322 ≤ 1000000 then ((impl_AmicableOf.f kj142 t322).bind fun bt335 => (if bt335.2 = true then (if bt335.1 = t321 then (some (t322 != t321)) else (some false)) else (some false))) else (some true)) = some r := by rw [if_pos rfl] at H; exact H
            clear H
            have H := H1
            clear H1
            by_cases c199 : t322 ≤ 1000000
            ·
             rw [if_pos c199] at H
             have c199b0 : decide (t322 ≤ 1000000) = true := decide_eq_true c199
             clear c199
             replace H := Option.bind_eq_some_iff.mp H
             obtain ⟨⟨t335, t336⟩, A2000, H⟩ := H
             replace H : (if t336 = true then (if t335 = t321 then (some (t322 != t321)) else (some false)) else (some false)) = some r := H
             have A200 := Aside0.mk A2000
             clear A2000
             by_cases c201 : t336 = true
             ·
              subst c201
              have H1 : (if t335 = t321 then (some (t322 != t321)) else (some false)) = some r := by rw [if_pos rfl] at H; exact H
              clear H
              have H := H1
              clear H1
              by_cases c202 : t335 = t321
              ·
               rw [if_pos c202] at H
               have c202b0 : (t335 == t321) = true := beq_iff_eq.mpr c202
               have c202b1 : (t335 != t321) = false := bne_eq_false_iff_eq.mpr c202
               clear c202
               first
               | exact absurd (Option.some.inj (H.trans (congrArg some HRT.out))) Bool.false_ne_true
               |
                obtain rfl := Option.some.inj H
                go_wp2_with (first | (go_at_call 80; (with_reducible refine (impl_AmicableOf.calls kj142 t322 t335 true _ A200.out).mono ?_); rintro e w203 ⟨rfl, hb⟩; have n0_ := Aside0.mk (Kd.R_below (by (with_reducible repeat (first | apply Kd.R_alloc | apply Kd.R_drewN | apply Kd.R_drew)); exact HO_42.out) hb); have n1_ := Aside0.mk (below_step (by repeat (first | (with_reducible first | exact HB.out | apply below_alloc | apply pw_below_drewN | apply below_drew1))) hb); clear HO_42; clear HB; have HO_42 := n0_; have HB := n1_; clear n0_ n1_; (try clear hb)))
                repeat (go_quiet (first | (go_at_call 80; (with_reducible refine (impl_AmicableOf.calls kj142 t322 t335 true _ A200.out).mono ?_); rintro e w203 ⟨rfl, hb⟩; have n0_ := Aside0.mk (Kd.R_below (by (with_reducible repeat (first | apply Kd.R_alloc | apply Kd.R_drewN | apply Kd.R_drew)); exact HO_42.out) hb); have n1_ := Aside0.mk (below_step (by repeat (first | (with_reducible first | exact HB.out | apply below_alloc | apply pw_below_drewN | apply below_drew1))) hb); clear HO_42; clear HB; have HO_42 := n0_; have HB := n1_; clear n0_ n1_; (try clear hb))); try go_wp2_with (first | (go_at_call 80; (with_reducible refine (impl_AmicableOf.calls kj142 t322 t335 true _ A200.out).mono ?_); rintro e w203 ⟨rfl, hb⟩; have n0_ := Aside0.mk (Kd.R_below (by (with_reducible repeat (first | apply Kd.R_alloc | apply Kd.R_drewN | apply Kd.R_drew)); exact HO_42.out) hb); have n1_ := Aside0.mk (below_step (by repeat (first | (with_reducible first | exact HB.out | apply below_alloc | apply pw_below_drewN | apply below_drew1))) hb); clear HO_42; clear HB; have HO_42 := n0_; have HB := n1_; clear n0_ n1_; (try clear hb))))
                go_ret
                exact ⟨by first | rfl | (simp [errW_none, errW_some] <;> rfl) | (simp [*, errW_none, errW_some] <;> rfl), by repeat (first | (with_reducible first | exact HB.out | apply below_alloc | apply pw_below_drewN | apply below_drew1))⟩
              ·
               rw [if_neg c202] at H
               have c202b0 : (t335 == t321) = false := beq_eq_false_iff_ne.mpr c202
               have c202b1 : (t335 != t321) = true := bne_iff_ne.mpr c202
               first
               | exact absurd (Option.some.inj (H.trans (congrArg some HRT.out))) Bool.false_ne_true
               |
                obtain rfl := Option.some.inj H
                go_wp2_with (first | (go_at_call 80; (with_reducible refine (impl_AmicableOf.calls kj142 t322 t335 true _ A200.out).mono ?_); rintro e w204 ⟨rfl, hb⟩; have n0_ := Aside0.mk (Kd.R_below (by (with_reducible repeat (first | apply Kd.R_alloc | apply Kd.R_drewN | apply Kd.R_drew)); exact HO_42.out) hb); have n1_ := Aside0.mk (below_step (by repeat (first | (with_reducible first | exact HB.out | apply below_alloc | apply pw_below_drewN | apply below_drew1))) hb); clear HO_42; clear HB; have HO_42 := n0_; have HB := n1_; clear n0_ n1_; (try clear hb)))
                repeat (go_quiet (first | (go_at_call 80; (with_reducible refine (impl_AmicableOf.calls kj142 t322 t335 true _ A200.out).mono ?_); rintro e w204 ⟨rfl, hb⟩; have n0_ := Aside0.mk (Kd.R_below (by (with_reducible repeat (first | apply Kd.R_alloc | apply Kd.R_drewN | apply Kd.R_drew)); exact HO_42.out) hb); have n1_ := Aside0.mk (below_step (by repeat (first | (with_reducible first | exact HB.out | apply below_alloc | apply pw_below_drewN | apply below_drew1))) hb); clear HO_42; clear HB; have HO_42 := n0_; have HB := n1_; clear n0_ n1_; (try clear hb))); try go_wp2_with (first | (go_at_call 80; (with_reducible refine (impl_AmicableOf.calls kj142 t322 t335 true _ A200.out).mono ?_); rintro e w204 ⟨rfl, hb⟩; have n0_ := Aside0.mk (Kd.R_below (by (with_reducible repeat (first | apply Kd.R_alloc | apply Kd.R_drewN | apply Kd.R_drew)); exact HO_42.out) hb); have n1_ := Aside0.mk (below_step (by repeat (first | (with_reducible first | exact HB.out | apply below_alloc | apply pw_below_drewN | apply below_drew1))) hb); clear HO_42; clear HB; have HO_42 := n0_; have HB := n1_; clear n0_ n1_; (try clear hb))))
                go_ret
                exact ⟨by first | rfl | (simp [errW_none, errW_some] <;> rfl) | (simp [*, errW_none, errW_some] <;> rfl), by repeat (first | (with_reducible first | exact HB.out | apply below_alloc | apply pw_below_drewN | apply below_drew1))⟩
             ·
              replace c201 := Bool.eq_false_iff.mpr c201
              subst c201
              have H1 : (some false) = some r := by rw [if_neg (show ¬ (false = true) by decide)] at H; exact H
              clear H
              have H := H1
              clear H1
              first
              | exact absurd (Option.some.inj (H.trans (congrArg some HRT.out))) Bool.false_ne_true
              |
               obtain rfl := Option.some.inj H
               go_wp2_with (first | (go_at_call 80; (with_reducible refine (impl_AmicableOf.calls kj142 t322 t335 false _ A200.out).mono ?_); rintro e w205 ⟨rfl, hb⟩; have n0_ := Aside0.mk (Kd.R_below (by (with_reducible repeat (first | apply Kd.R_alloc | apply Kd.R_drewN | apply Kd.R_drew)); exact HO_42.out) hb); have n1_ := Aside0.mk (below_step (by repeat (first | (with_reducible first | exact HB.out | apply below_alloc | apply pw_below_drewN | apply below_drew1))) hb); clear HO_42; clear HB; have HO_42 := n0_; have HB := n1_; clear n0_ n1_; (try clear hb)))
               repeat (go_quiet (first | (go_at_call 80; (with_reducible refine (impl_AmicableOf.calls kj142 t322 t335 false _ A200.out).mono ?_); rintro e w205 ⟨rfl, hb⟩; have n0_ := Aside0.mk (Kd.R_below (by (with_reducible repeat (first | apply Kd.R_alloc | apply Kd.R_drewN | apply Kd.R_drew)); exact HO_42.out) hb); have n1_ := Aside0.mk (below_step (by repeat (first | (with_reducible first | exact HB.out | apply below_alloc | apply pw_below_drewN | apply below_drew1))) hb); clear HO_42; clear HB; have HO_42 := n0_; have HB := n1_; clear n0_ n1_; (try clear hb))); try go_wp2_with (first | (go_at_call 80; (with_reducible refine (impl_AmicableOf.calls kj142 t322 t335 false _ A200.out).mono ?_); rintro e w205 ⟨rfl, hb⟩; have n0_ := Aside0.mk (Kd.R_below (by (with_reducible repeat (first | apply Kd.R_alloc | apply Kd.R_drewN | apply Kd.R_drew)); exact HO_42.out) hb); have n1_ := Aside0.mk (below_step (by repeat (first | (with_reducible first | exact HB.out | apply below_alloc | apply pw_below_drewN | apply below_drew1))) hb); clear HO_42; clear HB; have HO_42 := n0_; have HB := n1_; clear n0_ n1_; (try clear hb))))
               go_ret
               exact ⟨by first | rfl | (simp [errW_none, errW_some] <;> rfl) | (simp [*, errW_none, errW_some] <;> rfl), by repeat (first | (with_reducible first | exact HB.out | apply below_alloc | apply pw_below_drewN | apply below_drew1))⟩
            ·
             rw [if_neg c199] at H
             have c199b0 : decide (t322 ≤ 1000000) = false := decide_eq_false c199
             clear c199
             first
             | exact absurd (Option.some.inj (H.trans (congrArg some HRT.out))) Bool.false_ne_true
             |
              obtain rfl := Option.some.inj H
              go_wp2
              repeat (go_quiet (fail); try go_wp2)
              go_ret
              exact ⟨by first | rfl | (simp [errW_none, errW_some] <;> rfl) | (simp [*, errW_none, errW_some] <;> rfl), by repeat (first | (with_reducible first | exact HB.out | apply below_alloc | apply pw_below_drewN | apply below_drew1))⟩
           ·
            replace c198 := Bool.eq_false_iff.mpr c198
            subst c198
            have H1 : (some true) = some r := by rw [if_neg (show ¬ (false = true) by decide)] at H; exact H
            clear H
            have H := H1
            clear H1
            first
            | exact absurd (Option.some.inj (H.trans (congrArg some HRT.out))) Bool.false_ne_true
            |
             obtain rfl := Option.some.inj H
             go_wp2
             repeat (go_quiet (fail); try go_wp2)
             go_ret
             exact ⟨by first | rfl | (simp [errW_none, errW_some] <;> rfl) | (simp [*, errW_none, errW_some] <;> rfl), by repeat (first | (with_reducible first | exact HB.out | apply below_alloc | apply pw_below_drewN | apply below_drew1))⟩

/-- THE ONE PURE STATEMENT of laws_FnDivisorsTold: yours. -/
def laws_FnDivisorsTold.Pure : Prop := ∀ (l0 : List Int) (l1 : List Int), l0.length ≤ maxLen → l0.length * 1 ≤ 140737488351232 → (∀ x ∈ l0, (Lit.int .u8 x).wf = true) → l1.length ≤ maxLen → l1.length * 1 ≤ 140737488351232 → (∀ x ∈ l1, (Lit.int .u8 x).wf = true) → ∃ k, laws_FnDivisorsTold.f k l0 l1 = some true
theorem laws_FnDivisorsTold.walk (P : laws_FnDivisorsTold.Pure) (a0 : Option Addr) (len0 cap0 : Nat) (z0 : List Int) (a1 : Option Addr) (len1 cap1 : Nat) (z1 : List Int) (w : World) (w0 : (a0 = none ∧ len0 = 0 ∧ cap0 = 0 ∧ z0 = []) ∨ ∃ x, a0 = some x ∧ len0 ≤ cap0 ∧ cap0 ≤ maxLen ∧ z0.length = cap0 ∧ (∀ i, i < z0.length → w.cell? (x.add i) = some (.int .u8 (z0.getD i 0))) ∧ ∀ n ∈ z0, (Lit.int .u8 n).wf = true) (y0 : len0 * 1 ≤ 140737488351232) (w1 : (a1 = none ∧ len1 = 0 ∧ cap1 = 0 ∧ z1 = []) ∨ ∃ x, a1 = some x ∧ len1 ≤ cap1 ∧ cap1 ≤ maxLen ∧ z1.length = cap1 ∧ (∀ i, i < z1.length → w.cell? (x.add i) = some (.int .u8 (z1.getD i 0))) ∧ ∀ n ∈ z1, (Lit.int .u8 n).wf = true) (y1 : len1 * 1 ≤ 140737488351232) :
  Calls Try.prog 7 #[.slice a0 len0 cap0, .slice a1 len1 cap1] w fun e w' => e = .returned (.bool true) ∧ Below w.heap.size w w' := by
 obtain ⟨l0, rfl, hr0, hm0, hw0, hc0⟩ := ReadsInt.ofRowC w0
 obtain ⟨l1, rfl, hr1, hm1, hw1, hc1⟩ := ReadsInt.ofRowC w1
 obtain ⟨k, h⟩ := P l0 l1 hm0 y0 hw0 hm1 y1 hw1
 refine (laws_FnDivisorsTold.calls k _ _ l0 _ _ l1 true w (Kd.C_of_reads (d := (0 : Int)) (h1 := fun _ => rfl) hr0) hc0 (Kd.C_of_reads (d := (0 : Int)) (h1 := fun _ => rfl) hr1) hc1 h rfl).mono ?_
 rintro e w' ⟨rfl, hd⟩
 exact ⟨rfl, hd⟩

end Go.Proofs.Ytfhfbicejddoiaa.PFnDivisorsTold
