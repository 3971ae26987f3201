-- Written for this claim by a program of this session, out of the translation and given contracts.
import Derived.Test.YtfhfbicejddoiaaPFnSquareFreex0
import Derived.Test.YtfhfbicejddoiaaPFnSquareFreex1
import Derived.Test.YtfhfbicejddoiaaPFnSquareFreex2
import Derived.Test.YtfhfbicejddoiaaPFnSquareFreex3
import Derived.Test.YtfhfbicejddoiaaPFnSquareFreex4
import Derived.Test.YtfhfbicejddoiaaPFnSquareFreex5
import Derived.Test.YtfhfbicejddoiaaPFnSquareFreex6
namespace Go.Proofs.Ytfhfbicejddoiaa.PFnSquareFree
open Go.RowKit Go.Proofs.YtfhfbicejddoiaaW.PrintWords Go.Proofs.YtfhfbicejddoiaaW.PrintLast Go.Proofs.YtfhfbicejddoiaaW.PrintMore
attribute [local go_sem] max2_int min2_int max_two min_two max_three min_three max_four min_four   -- for this text's walks alone
set_option linter.unusedVariables false
set_option linter.unusedSimpArgs false

/-! ### laws_FnSquareFree: function 4 -/
mutual
def laws_FnSquareFree.j0 : Nat → List Int → Int → Bool → Bool → Int → Int → Int → Int → Int → Bool → Option (Bool)
 | 0, _, _, _, _, _, _, _, _, _, _ => none
 | k + 1, x1, x5, x6, x7, x10, x14, x18, x22, x26, x217 => if x217 = true then (some false) else (if x7 = true then (if (x6 != (x10 == 1)) = true then (laws_FnSquareFree.j1 k x1 x5 x10 x14 x18 x22 x26 true) else (if (x6 != (x14 == x5)) = true then (laws_FnSquareFree.j1 k x1 x5 x10 x14 x18 x22 x26 true) else (if (x6 != (x18 != 0)) = true then (laws_FnSquareFree.j1 k x1 x5 x10 x14 x18 x22 x26 true) else (if (wrap64 (x10 * x10)) = 0 then (none) else (if (Int.tmod x5 (wrap64 (x10 * x10))) = 0 then (if x14 = 0 then (none) else (if (Int.tmod x5 x14) = 0 then (if x18 < (-1) then (laws_FnSquareFree.j1 k x1 x5 x10 x14 x18 x22 x26 true) else (if x18 > 1 then (laws_FnSquareFree.j1 k x1 x5 x10 x14 x18 x22 x26 true) else (laws_FnSquareFree.j1 k x1 x5 x10 x14 x18 x22 x26 (decide (x26 ≤ x5))))) else (laws_FnSquareFree.j1 k x1 x5 x10 x14 x18 x22 x26 true))) else (laws_FnSquareFree.j1 k x1 x5 x10 x14 x18 x22 x26 true)))))) else (laws_FnSquareFree.j6 k x1))
def laws_FnSquareFree.j6 : Nat → List Int → Option (Bool)
 | 0, _ => none
 | k + 1, x1 => (spec_DrawSquareFreeUpTo.f x1).bind fun t262 => ((impl_SquareFreeUpTo.f k t262).bind fun bt263 => ((spec_SquareFreeUpTo.f k t262).bind fun bt267 => ((impl_LongestSquareful.f k t262).bind fun bt271 => ((spec_LongestSquareful.f k t262).bind fun bt274 => ((impl_SumOfSigns.f k t262).bind fun bt277 => ((spec_SumOfSigns.f k t262).bind fun bt279 => ((spec_DrawSquareFreeOfRank.f x1).bind fun t281 => ((impl_SquareFreeOfRank.f k t281).bind fun bt282 => ((spec_SquareFreeOfRank.f k t281).bind fun bt284 => (if (bt263.2 != bt267.2) = true then (laws_FnSquareFree.j7 k t262 bt263.1 bt263.2 bt271.1 bt271.2.1 bt277.1 true) else ((laws_tSame.f k bt263.1 bt267.1).bind fun t286 => (if t286 = true then (if (bt271.2.2 != bt274.2.2) = true then (laws_FnSquareFree.j7 k t262 bt263.1 bt263.2 bt271.1 bt271.2.1 bt277.1 true) else (if bt271.1 = bt274.1 then (if bt271.2.1 = bt274.2.1 then (if (bt277.2 != bt279.2) = true then (laws_FnSquareFree.j7 k t262 bt263.1 bt263.2 bt271.1 bt271.2.1 bt277.1 true) else (if bt277.1 = bt279.1 then (if (bt282.2 != bt284.2) = true then (laws_FnSquareFree.j7 k t262 bt263.1 bt263.2 bt271.1 bt271.2.1 bt277.1 true) else (if bt282.1 = bt284.1 then (if (bt271.2.2 != bt263.2) = true then (laws_FnSquareFree.j7 k t262 bt263.1 bt263.2 bt271.1 bt271.2.1 bt277.1 true) else (if bt263.2 = true then (laws_FnSquareFree.j7 k t262 bt263.1 bt263.2 bt271.1 bt271.2.1 bt277.1 (bt277.2 != (decide (t262 > 0)))) else (laws_FnSquareFree.j7 k t262 bt263.1 bt263.2 bt271.1 bt271.2.1 bt277.1 (bt277.2 != false)))) else (laws_FnSquareFree.j7 k t262 bt263.1 bt263.2 bt271.1 bt271.2.1 bt277.1 true))) else (laws_FnSquareFree.j7 k t262 bt263.1 bt263.2 bt271.1 bt271.2.1 bt277.1 true))) else (laws_FnSquareFree.j7 k t262 bt263.1 bt263.2 bt271.1 bt271.2.1 bt277.1 true)) else (laws_FnSquareFree.j7 k t262 bt263.1 bt263.2 bt271.1 bt271.2.1 bt277.1 true))) else (laws_FnSquareFree.j7 k t262 bt263.1 bt263.2 bt271.1 bt271.2.1 bt277.1 true)))))))))))))
def laws_FnSquareFree.j7 : Nat → Int → List Int → Bool → Int → Int → Int → Bool → Option (Bool)
 | 0, _, _, _, _, _, _, _ => none
 | k + 1, x43, x44, x45, x48, x49, x54, x461 => if x461 = true then (some false) else (if x45 = true then ((laws_tRises.f k x44 1 x43).bind fun t287 => (if t287 = true then (if x48 > 0 then (if x49 < 1 then (laws_FnSquareFree.j8 k x43 x44 x48 x49 x54 true) else (laws_FnSquareFree.j8 k x43 x44 x48 x49 x54 (decide ((wrap64 ((wrap64 (x49 + x48)) - 1)) > x43)))) else (laws_FnSquareFree.j8 k x43 x44 x48 x49 x54 false)) else (laws_FnSquareFree.j8 k x43 x44 x48 x49 x54 true))) else (some true))
def laws_FnSquareFree.j8 : Nat → Int → List Int → Int → Int → Int → Bool → Option (Bool)
 | 0, _, _, _, _, _, _ => none
 | k + 1, x43, x44, x48, x49, x54, x482 => if x482 = true then (some false) else (laws_FnSquareFree.l1 k x43 x44 x48 x49 x54 0)
def laws_FnSquareFree.l1 : Nat → Int → List Int → Int → Int → Int → Int → Option (Bool)
 | 0, _, _, _, _, _, _ => none
 | k + 1, x43, x44, x48, x49, x54, x63 => if x63 < x48 then ((laws_tHas.f k x44 (wrap64 (x49 + x63))).bind fun t288 => (if t288 = true then (some false) else (laws_FnSquareFree.l1 k x43 x44 x48 x49 x54 (wrap64 (x63 + 1))))) else (if x43 > 0 then ((impl_CountSquareFree.f k x43).bind fun bt289 => (if bt289.2 = true then (if bt289.1 = (x44.length : Int) then (if x54 > (x44.length : Int) then (some false) else (if (wrap64 (-x54)) > (x44.length : Int) then (some false) else (if (Int.tmod (wrap64 ((x44.length : Int) - x54)) 2) = 0 then (laws_FnSquareFree.j10 k x44) else (some false)))) else (some false)) else (some false))) else (laws_FnSquareFree.j10 k x44))
def laws_FnSquareFree.j10 : Nat → List Int → Option (Bool)
 | 0, _ => none
 | k + 1, x44 => laws_FnSquareFree.l2 k x44 (x44.length : Int) 0
def laws_FnSquareFree.l2 : Nat → List Int → Int → Int → Option (Bool)
 | 0, _, _, _ => none
 | k + 1, x529, x530, x531 => if x531 < x530 then (if 0 ≤ x531 then (if x531 < (x529.length : Int) then (if x531 > 300 then (some true) else ((impl_SquareFreeOfRank.f k x531).bind fun bt292 => (if bt292.2 = true then (if bt292.1 = (rd x529 x531) then (laws_FnSquareFree.l2 k x529 x530 (wrap64 (x531 + 1))) else (some false)) else (some false)))) else (none)) else (none)) else (some true)
def laws_FnSquareFree.j1 : Nat → List Int → Int → Int → Int → Int → Int → Int → Bool → Option (Bool)
 | 0, _, _, _, _, _, _, _, _ => none
 | k + 1, x1, x5, x10, x14, x18, x22, x26, x262 => if x262 = true then (some false) else (if (wrap64 (x10 * x10)) = 0 then (none) else ((impl_IsSquareFree.f k (wrap64 (Int.tdiv x5 (wrap64 (x10 * x10))))).bind fun bt249 => ((impl_IsSquareFree.f k x14).bind fun bt251 => (if bt249.2 = true then (if bt249.1 = true then (if bt251.2 = true then (laws_FnSquareFree.j2 k x1 x5 x18 x22 x26 (!bt251.1)) else (laws_FnSquareFree.j2 k x1 x5 x18 x22 x26 true)) else (laws_FnSquareFree.j2 k x1 x5 x18 x22 x26 true)) else (laws_FnSquareFree.j2 k x1 x5 x18 x22 x26 true)))))
def laws_FnSquareFree.j2 : Nat → List Int → Int → Int → Int → Int → Bool → Option (Bool)
 | 0, _, _, _, _, _, _ => none
 | k + 1, x1, x5, x18, x22, x26, x290 => if x290 = true then (some false) else (if x26 ≤ 100000 then ((impl_IsSquareFree.f k x26).bind fun bt253 => ((impl_CountSquareFree.f k x26).bind fun bt255 => (if bt253.2 = true then (if bt253.1 = true then (if bt255.2 = true then (if bt255.1 = (wrap64 (x22 + 1)) then (laws_FnSquareFree.j3 k x1 x5 x18) else (some false)) else (some false)) else (some false)) else (some false)))) else (laws_FnSquareFree.j3 k x1 x5 x18))
def laws_FnSquareFree.j3 : Nat → List Int → Int → Int → Option (Bool)
 | 0, _, _, _ => none
 | k + 1, x1, x5, x18 => laws_FnSquareFree.l0 k x1 x5 x18 1
def laws_FnSquareFree.l0 : Nat → List Int → Int → Int → Int → Option (Bool)
 | 0, _, _, _, _ => none
 | k + 1, x1, x5, x18, x38 => if x38 ≤ 6 then ((laws_tCommon.f k x5 x38).bind fun t257 => (if t257 = 1 then (if x38 = 0 then (none) else (laws_FnSquareFree.j5 k x1 x5 x18 x38 (decide (x5 > (wrap64 (Int.tdiv 100000 x38)))))) else (laws_FnSquareFree.j5 k x1 x5 x18 x38 true))) else (laws_FnSquareFree.j6 k x1)
def laws_FnSquareFree.j5 : Nat → List Int → Int → Int → Int → Bool → Option (Bool)
 | 0, _, _, _, _, _ => none
 | k + 1, x1, x5, x18, x38, x332 => if x332 = true then (laws_FnSquareFree.l0 k x1 x5 x18 (wrap64 (x38 + 1))) else ((impl_FreeSign.f k x38).bind fun bt258 => ((impl_FreeSign.f k (wrap64 (x5 * x38))).bind fun bt260 => (if bt258.2 = true then (if bt260.2 = true then (if (wrap64 (bt258.1 * x18)) = bt260.1 then (laws_FnSquareFree.l0 k x1 x5 x18 (wrap64 (x38 + 1))) else (some false)) else (some false)) else (some false))))
end
def laws_FnSquareFree.f (k : Nat) (l0 : List Int) (l1 : List Int) : Option (Bool) := (laws_big.f l0 l1).bind fun t223 => (if t223 = true then (some true) else ((spec_DrawIsSquareFree.f l0).bind fun t224 => ((impl_IsSquareFree.f k t224).bind fun bt225 => ((spec_IsSquareFree.f k t224).bind fun bt227 => ((impl_SquarePart.f k t224).bind fun bt229 => ((spec_SquarePart.f k t224).bind fun bt231 => ((impl_KernelOf.f k t224).bind fun bt233 => ((spec_KernelOf.f k t224).bind fun bt235 => ((impl_FreeSign.f k t224).bind fun bt237 => ((spec_FreeSign.f k t224).bind fun bt239 => ((impl_CountSquareFree.f k t224).bind fun bt241 => ((spec_CountSquareFree.f k t224).bind fun bt243 => ((impl_NextSquareFree.f k t224).bind fun bt245 => ((spec_NextSquareFree.f k t224).bind fun bt247 => (if (bt225.2 != bt227.2) = true then (laws_FnSquareFree.j0 k l1 t224 bt225.1 bt225.2 bt229.1 bt233.1 bt237.1 bt241.1 bt245.1 true) else (if (bt225.1 != bt227.1) = true then (laws_FnSquareFree.j0 k l1 t224 bt225.1 bt225.2 bt229.1 bt233.1 bt237.1 bt241.1 bt245.1 true) else (if (bt229.2 != bt231.2) = true then (laws_FnSquareFree.j0 k l1 t224 bt225.1 bt225.2 bt229.1 bt233.1 bt237.1 bt241.1 bt245.1 true) else (if bt229.1 = bt231.1 then (if (bt233.2 != bt235.2) = true then (laws_FnSquareFree.j0 k l1 t224 bt225.1 bt225.2 bt229.1 bt233.1 bt237.1 bt241.1 bt245.1 true) else (if bt233.1 = bt235.1 then (if (bt237.2 != bt239.2) = true then (laws_FnSquareFree.j0 k l1 t224 bt225.1 bt225.2 bt229.1 bt233.1 bt237.1 bt241.1 bt245.1 true) else (if bt237.1 = bt239.1 then (if (bt241.2 != bt243.2) = true then (laws_FnSquareFree.j0 k l1 t224 bt225.1 bt225.2 bt229.1 bt233.1 bt237.1 bt241.1 bt245.1 true) else (if bt241.1 = bt243.1 then (if (bt245.2 != bt247.2) = true then (laws_FnSquareFree.j0 k l1 t224 bt225.1 bt225.2 bt229.1 bt233.1 bt237.1 bt241.1 bt245.1 true) else (if bt245.1 = bt247.1 then (if (bt229.2 != bt225.2) = true then (laws_FnSquareFree.j0 k l1 t224 bt225.1 bt225.2 bt229.1 bt233.1 bt237.1 bt241.1 bt245.1 true) else (if (bt233.2 != bt225.2) = true then (laws_FnSquareFree.j0 k l1 t224 bt225.1 bt225.2 bt229.1 bt233.1 bt237.1 bt241.1 bt245.1 true) else (if (bt237.2 != bt225.2) = true then (laws_FnSquareFree.j0 k l1 t224 bt225.1 bt225.2 bt229.1 bt233.1 bt237.1 bt241.1 bt245.1 true) else (if (bt241.2 != bt225.2) = true then (laws_FnSquareFree.j0 k l1 t224 bt225.1 bt225.2 bt229.1 bt233.1 bt237.1 bt241.1 bt245.1 true) else (laws_FnSquareFree.j0 k l1 t224 bt225.1 bt225.2 bt229.1 bt233.1 bt237.1 bt241.1 bt245.1 (bt245.2 != bt225.2)))))) else (laws_FnSquareFree.j0 k l1 t224 bt225.1 bt225.2 bt229.1 bt233.1 bt237.1 bt241.1 bt245.1 true))) else (laws_FnSquareFree.j0 k l1 t224 bt225.1 bt225.2 bt229.1 bt233.1 bt237.1 bt241.1 bt245.1 true))) else (laws_FnSquareFree.j0 k l1 t224 bt225.1 bt225.2 bt229.1 bt233.1 bt237.1 bt241.1 bt245.1 true))) else (laws_FnSquareFree.j0 k l1 t224 bt225.1 bt225.2 bt229.1 bt233.1 bt237.1 bt241.1 bt245.1 true))) else (laws_FnSquareFree.j0 k l1 t224 bt225.1 bt225.2 bt229.1 bt233.1 bt237.1 bt241.1 bt245.1 true)))))))))))))))))))
theorem laws_FnSquareFree.mono_l : ∀ k, (∀ y0 y1 y2 y3 y4 y5 y6 y7 y8 y9, LeO (laws_FnSquareFree.j0 k y0 y1 y2 y3 y4 y5 y6 y7 y8 y9) (laws_FnSquareFree.j0 (k + 1) y0 y1 y2 y3 y4 y5 y6 y7 y8 y9)) ∧ (∀ y0, LeO (laws_FnSquareFree.j6 k y0) (laws_FnSquareFree.j6 (k + 1) y0)) ∧ (∀ y0 y1 y2 y3 y4 y5 y6, LeO (laws_FnSquareFree.j7 k y0 y1 y2 y3 y4 y5 y6) (laws_FnSquareFree.j7 (k + 1) y0 y1 y2 y3 y4 y5 y6)) ∧ (∀ y0 y1 y2 y3 y4 y5, LeO (laws_FnSquareFree.j8 k y0 y1 y2 y3 y4 y5) (laws_FnSquareFree.j8 (k + 1) y0 y1 y2 y3 y4 y5)) ∧ (∀ y0 y1 y2 y3 y4 y5, LeO (laws_FnSquareFree.l1 k y0 y1 y2 y3 y4 y5) (laws_FnSquareFree.l1 (k + 1) y0 y1 y2 y3 y4 y5)) ∧ (∀ y0, LeO (laws_FnSquareFree.j10 k y0) (laws_FnSquareFree.j10 (k + 1) y0)) ∧ (∀ y0 y1 y2, LeO (laws_FnSquareFree.l2 k y0 y1 y2) (laws_FnSquareFree.l2 (k + 1) y0 y1 y2)) ∧ (∀ y0 y1 y2 y3 y4 y5 y6 y7, LeO (laws_FnSquareFree.j1 k y0 y1 y2 y3 y4 y5 y6 y7) (laws_FnSquareFree.j1 (k + 1) y0 y1 y2 y3 y4 y5 y6 y7)) ∧ (∀ y0 y1 y2 y3 y4 y5, LeO (laws_FnSquareFree.j2 k y0 y1 y2 y3 y4 y5) (laws_FnSquareFree.j2 (k + 1) y0 y1 y2 y3 y4 y5)) ∧ (∀ y0 y1 y2, LeO (laws_FnSquareFree.j3 k y0 y1 y2) (laws_FnSquareFree.j3 (k + 1) y0 y1 y2)) ∧ (∀ y0 y1 y2 y3, LeO (laws_FnSquareFree.l0 k y0 y1 y2 y3) (laws_FnSquareFree.l0 (k + 1) y0 y1 y2 y3)) ∧ (∀ y0 y1 y2 y3 y4, LeO (laws_FnSquareFree.j5 k y0 y1 y2 y3 y4) (laws_FnSquareFree.j5 (k + 1) y0 y1 y2 y3 y4))
 | 0 => ⟨fun _ _ _ _ _ _ _ _ _ _ r h => by simp [laws_FnSquareFree.j0] at h, fun _ r h => by simp [laws_FnSquareFree.j6] at h, fun _ _ _ _ _ _ _ r h => by simp [laws_FnSquareFree.j7] at h, fun _ _ _ _ _ _ r h => by simp [laws_FnSquareFree.j8] at h, fun _ _ _ _ _ _ r h => by simp [laws_FnSquareFree.l1] at h, fun _ r h => by simp [laws_FnSquareFree.j10] at h, fun _ _ _ r h => by simp [laws_FnSquareFree.l2] at h, fun _ _ _ _ _ _ _ _ r h => by simp [laws_FnSquareFree.j1] at h, fun _ _ _ _ _ _ r h => by simp [laws_FnSquareFree.j2] at h, fun _ _ _ r h => by simp [laws_FnSquareFree.j3] at h, fun _ _ _ _ r h => by simp [laws_FnSquareFree.l0] at h, fun _ _ _ _ _ r h => by simp [laws_FnSquareFree.j5] at h⟩
 | k + 1 => by
  obtain ⟨ih0, ih1, ih2, ih3, ih4, ih5, ih6, ih7, ih8, ih9, ih10, ih11⟩ := laws_FnSquareFree.mono_l k
  refine ⟨?_, ?_, ?_, ?_, ?_, ?_, ?_, ?_, ?_, ?_, ?_, ?_⟩
  ·
   intro y0 y1 y2 y3 y4 y5 y6 y7 y8 y9
   unfold laws_FnSquareFree.j0
   repeat' first
   | (with_reducible first | exact ih0 _ _ _ _ _ _ _ _ _ _ | exact ih1 _ | exact ih2 _ _ _ _ _ _ _ | exact ih3 _ _ _ _ _ _ | exact ih4 _ _ _ _ _ _ | exact ih5 _ | exact ih6 _ _ _ | exact ih7 _ _ _ _ _ _ _ _ | exact ih8 _ _ _ _ _ _ | exact ih9 _ _ _ | exact ih10 _ _ _ _ | exact ih11 _ _ _ _ _ | exact impl_CountSquareFree.mono _ _ | exact impl_FreeSign.mono _ _ | exact impl_IsSquareFree.mono _ _ | exact impl_KernelOf.mono _ _ | exact impl_LongestSquareful.mono _ _ | exact impl_NextSquareFree.mono _ _ | exact impl_SquareFreeOfRank.mono _ _ | exact impl_SquareFreeUpTo.mono _ _ | exact impl_SquarePart.mono _ _ | exact impl_SumOfSigns.mono _ _ | exact laws_tCommon.mono _ _ _ | exact laws_tHas.mono _ _ _ | exact laws_tRises.mono _ _ _ _ | exact laws_tSame.mono _ _ _ | exact spec_CountSquareFree.mono _ _ | exact spec_FreeSign.mono _ _ | exact spec_IsSquareFree.mono _ _ | exact spec_KernelOf.mono _ _ | exact spec_LongestSquareful.mono _ _ | exact spec_NextSquareFree.mono _ _ | exact spec_SquareFreeOfRank.mono _ _ | exact spec_SquareFreeUpTo.mono _ _ | exact spec_SquarePart.mono _ _ | exact spec_SumOfSigns.mono _ _ | exact LeO.refl _ | exact LeO.none _ | refine LeO.ite ?_ ?_ | refine LeO.bind ?_ (fun _ => ?_))
  ·
   intro y0
   unfold laws_FnSquareFree.j6
   repeat' first
   | (with_reducible first | exact ih0 _ _ _ _ _ _ _ _ _ _ | exact ih1 _ | exact ih2 _ _ _ _ _ _ _ | exact ih3 _ _ _ _ _ _ | exact ih4 _ _ _ _ _ _ | exact ih5 _ | exact ih6 _ _ _ | exact ih7 _ _ _ _ _ _ _ _ | exact ih8 _ _ _ _ _ _ | exact ih9 _ _ _ | exact ih10 _ _ _ _ | exact ih11 _ _ _ _ _ | exact impl_CountSquareFree.mono _ _ | exact impl_FreeSign.mono _ _ | exact impl_IsSquareFree.mono _ _ | exact impl_KernelOf.mono _ _ | exact impl_LongestSquareful.mono _ _ | exact impl_NextSquareFree.mono _ _ | exact impl_SquareFreeOfRank.mono _ _ | exact impl_SquareFreeUpTo.mono _ _ | exact impl_SquarePart.mono _ _ | exact impl_SumOfSigns.mono _ _ | exact laws_tCommon.mono _ _ _ | exact laws_tHas.mono _ _ _ | exact laws_tRises.mono _ _ _ _ | exact laws_tSame.mono _ _ _ | exact spec_CountSquareFree.mono _ _ | exact spec_FreeSign.mono _ _ | exact spec_IsSquareFree.mono _ _ | exact spec_KernelOf.mono _ _ | exact spec_LongestSquareful.mono _ _ | exact spec_NextSquareFree.mono _ _ | exact spec_SquareFreeOfRank.mono _ _ | exact spec_SquareFreeUpTo.mono _ _ | exact spec_SquarePart.mono _ _ | exact spec_SumOfSigns.mono _ _ | exact LeO.refl _ | exact LeO.none _ | refine LeO.ite ?_ ?_ | refine LeO.bind ?_ (fun _ => ?_))
  ·
   intro y0 y1 y2 y3 y4 y5 y6
   unfold laws_FnSquareFree.j7
   repeat' first
   | (with_reducible first | exact ih0 _ _ _ _ _ _ _ _ _ _ | exact ih1 _ | exact ih2 _ _ _ _ _ _ _ | exact ih3 _ _ _ _ _ _ | exact ih4 _ _ _ _ _ _ | exact ih5 _ | exact ih6 _ _ _ | exact ih7 _ _ _ _ _ _ _ _ | exact ih8 _ _ _ _ _ _ | exact ih9 _ _ _ | exact ih10 _ _ _ _ | exact ih11 _ _ _ _ _ | exact impl_CountSquareFree.mono _ _ | exact impl_FreeSign.mono _ _ | exact impl_IsSquareFree.mono _ _ | exact impl_KernelOf.mono _ _ | exact impl_LongestSquareful.mono _ _ | exact impl_NextSquareFree.mono _ _ | exact impl_SquareFreeOfRank.mono _ _ | exact impl_SquareFreeUpTo.mono _ _ | exact impl_SquarePart.mono _ _ | exact impl_SumOfSigns.mono _ _ | exact laws_tCommon.mono _ _ _ | exact laws_tHas.mono _ _ _ | exact laws_tRises.mono _ _ _ _ | exact laws_tSame.mono _ _ _ | exact spec_CountSquareFree.mono _ _ | exact spec_FreeSign.mono _ _ | exact spec_IsSquareFree.mono _ _ | exact spec_KernelOf.mono _ _ | exact spec_LongestSquareful.mono _ _ | exact spec_NextSquareFree.mono _ _ | exact spec_SquareFreeOfRank.mono _ _ | exact spec_SquareFreeUpTo.mono _ _ | exact spec_SquarePart.mono _ _ | exact spec_SumOfSigns.mono _ _ | exact LeO.refl _ | exact LeO.none _ | refine LeO.ite ?_ ?_ | refine LeO.bind ?_ (fun _ => ?_))
  ·
   intro y0 y1 y2 y3 y4 y5
   unfold laws_FnSquareFree.j8
   repeat' first
   | (with_reducible first | exact ih0 _ _ _ _ _ _ _ _ _ _ | exact ih1 _ | exact ih2 _ _ _ _ _ _ _ | exact ih3 _ _ _ _ _ _ | exact ih4 _ _ _ _ _ _ | exact ih5 _ | exact ih6 _ _ _ | exact ih7 _ _ _ _ _ _ _ _ | exact ih8 _ _ _ _ _ _ | exact ih9 _ _ _ | exact ih10 _ _ _ _ | exact ih11 _ _ _ _ _ | exact impl_CountSquareFree.mono _ _ | exact impl_FreeSign.mono _ _ | exact impl_IsSquareFree.mono _ _ | exact impl_KernelOf.mono _ _ | exact impl_LongestSquareful.mono _ _ | exact impl_NextSquareFree.mono _ _ | exact impl_SquareFreeOfRank.mono _ _ | exact impl_SquareFreeUpTo.mono _ _ | exact impl_SquarePart.mono _ _ | exact impl_SumOfSigns.mono _ _ | exact laws_tCommon.mono _ _ _ | exact laws_tHas.mono _ _ _ | exact laws_tRises.mono _ _ _ _ | exact laws_tSame.mono _ _ _ | exact spec_CountSquareFree.mono _ _ | exact spec_FreeSign.mono _ _ | exact spec_IsSquareFree.mono _ _ | exact spec_KernelOf.mono _ _ | exact spec_LongestSquareful.mono _ _ | exact spec_NextSquareFree.mono _ _ | exact spec_SquareFreeOfRank.mono _ _ | exact spec_SquareFreeUpTo.mono _ _ | exact spec_SquarePart.mono _ _ | exact spec_SumOfSigns.mono _ _ | exact LeO.refl _ | exact LeO.none _ | refine LeO.ite ?_ ?_ | refine LeO.bind ?_ (fun _ => ?_))
  ·
   intro y0 y1 y2 y3 y4 y5
   unfold laws_FnSquareFree.l1
   repeat' first
   | (with_reducible first | exact ih0 _ _ _ _ _ _ _ _ _ _ | exact ih1 _ | exact ih2 _ _ _ _ _ _ _ | exact ih3 _ _ _ _ _ _ | exact ih4 _ _ _ _ _ _ | exact ih5 _ | exact ih6 _ _ _ | exact ih7 _ _ _ _ _ _ _ _ | exact ih8 _ _ _ _ _ _ | exact ih9 _ _ _ | exact ih10 _ _ _ _ | exact ih11 _ _ _ _ _ | exact impl_CountSquareFree.mono _ _ | exact impl_FreeSign.mono _ _ | exact impl_IsSquareFree.mono _ _ | exact impl_KernelOf.mono _ _ | exact impl_LongestSquareful.mono _ _ | exact impl_NextSquareFree.mono _ _ | exact impl_SquareFreeOfRank.mono _ _ | exact impl_SquareFreeUpTo.mono _ _ | exact impl_SquarePart.mono _ _ | exact impl_SumOfSigns.mono _ _ | exact laws_tCommon.mono _ _ _ | exact laws_tHas.mono _ _ _ | exact laws_tRises.mono _ _ _ _ | exact laws_tSame.mono _ _ _ | exact spec_CountSquareFree.mono _ _ | exact spec_FreeSign.mono _ _ | exact spec_IsSquareFree.mono _ _ | exact spec_KernelOf.mono _ _ | exact spec_LongestSquareful.mono _ _ | exact spec_NextSquareFree.mono _ _ | exact spec_SquareFreeOfRank.mono _ _ | exact spec_SquareFreeUpTo.mono _ _ | exact spec_SquarePart.mono _ _ | exact spec_SumOfSigns.mono _ _ | exact LeO.refl _ | exact LeO.none _ | refine LeO.ite ?_ ?_ | refine LeO.bind ?_ (fun _ => ?_))
  ·
   intro y0
   unfold laws_FnSquareFree.j10
   repeat' first
   | (with_reducible first | exact ih0 _ _ _ _ _ _ _ _ _ _ | exact ih1 _ | exact ih2 _ _ _ _ _ _ _ | exact ih3 _ _ _ _ _ _ | exact ih4 _ _ _ _ _ _ | exact ih5 _ | exact ih6 _ _ _ | exact ih7 _ _ _ _ _ _ _ _ | exact ih8 _ _ _ _ _ _ | exact ih9 _ _ _ | exact ih10 _ _ _ _ | exact ih11 _ _ _ _ _ | exact impl_CountSquareFree.mono _ _ | exact impl_FreeSign.mono _ _ | exact impl_IsSquareFree.mono _ _ | exact impl_KernelOf.mono _ _ | exact impl_LongestSquareful.mono _ _ | exact impl_NextSquareFree.mono _ _ | exact impl_SquareFreeOfRank.mono _ _ | exact impl_SquareFreeUpTo.mono _ _ | exact impl_SquarePart.mono _ _ | exact impl_SumOfSigns.mono _ _ | exact laws_tCommon.mono _ _ _ | exact laws_tHas.mono _ _ _ | exact laws_tRises.mono _ _ _ _ | exact laws_tSame.mono _ _ _ | exact spec_CountSquareFree.mono _ _ | exact spec_FreeSign.mono _ _ | exact spec_IsSquareFree.mono _ _ | exact spec_KernelOf.mono _ _ | exact spec_LongestSquareful.mono _ _ | exact spec_NextSquareFree.mono _ _ | exact spec_SquareFreeOfRank.mono _ _ | exact spec_SquareFreeUpTo.mono _ _ | exact spec_SquarePart.mono _ _ | exact spec_SumOfSigns.mono _ _ | exact LeO.refl _ | exact LeO.none _ | refine LeO.ite ?_ ?_ | refine LeO.bind ?_ (fun _ => ?_))
  ·
   intro y0 y1 y2
   unfold laws_FnSquareFree.l2
   repeat' first
   | (with_reducible first | exact ih0 _ _ _ _ _ _ _ _ _ _ | exact ih1 _ | exact ih2 _ _ _ _ _ _ _ | exact ih3 _ _ _ _ _ _ | exact ih4 _ _ _ _ _ _ | exact ih5 _ | exact ih6 _ _ _ | exact ih7 _ _ _ _ _ _ _ _ | exact ih8 _ _ _ _ _ _ | exact ih9 _ _ _ | exact ih10 _ _ _ _ | exact ih11 _ _ _ _ _ | exact impl_CountSquareFree.mono _ _ | exact impl_FreeSign.mono _ _ | exact impl_IsSquareFree.mono _ _ | exact impl_KernelOf.mono _ _ | exact impl_LongestSquareful.mono _ _ | exact impl_NextSquareFree.mono _ _ | exact impl_SquareFreeOfRank.mono _ _ | exact impl_SquareFreeUpTo.mono _ _ | exact impl_SquarePart.mono _ _ | exact impl_SumOfSigns.mono _ _ | exact laws_tCommon.mono _ _ _ | exact laws_tHas.mono _ _ _ | exact laws_tRises.mono _ _ _ _ | exact laws_tSame.mono _ _ _ | exact spec_CountSquareFree.mono _ _ | exact spec_FreeSign.mono _ _ | exact spec_IsSquareFree.mono _ _ | exact spec_KernelOf.mono _ _ | exact spec_LongestSquareful.mono _ _ | exact spec_NextSquareFree.mono _ _ | exact spec_SquareFreeOfRank.mono _ _ | exact spec_SquareFreeUpTo.mono _ _ | exact spec_SquarePart.mono _ _ | exact spec_SumOfSigns.mono _ _ | exact LeO.refl _ | exact LeO.none _ | refine LeO.ite ?_ ?_ | refine LeO.bind ?_ (fun _ => ?_))
  ·
   intro y0 y1 y2 y3 y4 y5 y6 y7
   unfold laws_FnSquareFree.j1
   repeat' first
   | (with_reducible first | exact ih0 _ _ _ _ _ _ _ _ _ _ | exact ih1 _ | exact ih2 _ _ _ _ _ _ _ | exact ih3 _ _ _ _ _ _ | exact ih4 _ _ _ _ _ _ | exact ih5 _ | exact ih6 _ _ _ | exact ih7 _ _ _ _ _ _ _ _ | exact ih8 _ _ _ _ _ _ | exact ih9 _ _ _ | exact ih10 _ _ _ _ | exact ih11 _ _ _ _ _ | exact impl_CountSquareFree.mono _ _ | exact impl_FreeSign.mono _ _ | exact impl_IsSquareFree.mono _ _ | exact impl_KernelOf.mono _ _ | exact impl_LongestSquareful.mono _ _ | exact impl_NextSquareFree.mono _ _ | exact impl_SquareFreeOfRank.mono _ _ | exact impl_SquareFreeUpTo.mono _ _ | exact impl_SquarePart.mono _ _ | exact impl_SumOfSigns.mono _ _ | exact laws_tCommon.mono _ _ _ | exact laws_tHas.mono _ _ _ | exact laws_tRises.mono _ _ _ _ | exact laws_tSame.mono _ _ _ | exact spec_CountSquareFree.mono _ _ | exact spec_FreeSign.mono _ _ | exact spec_IsSquareFree.mono _ _ | exact spec_KernelOf.mono _ _ | exact spec_LongestSquareful.mono _ _ | exact spec_NextSquareFree.mono _ _ | exact spec_SquareFreeOfRank.mono _ _ | exact spec_SquareFreeUpTo.mono _ _ | exact spec_SquarePart.mono _ _ | exact spec_SumOfSigns.mono _ _ | exact LeO.refl _ | exact LeO.none _ | refine LeO.ite ?_ ?_ | refine LeO.bind ?_ (fun _ => ?_))
  ·
   intro y0 y1 y2 y3 y4 y5
   unfold laws_FnSquareFree.j2
   repeat' first
   | (with_reducible first | exact ih0 _ _ _ _ _ _ _ _ _ _ | exact ih1 _ | exact ih2 _ _ _ _ _ _ _ | exact ih3 _ _ _ _ _ _ | exact ih4 _ _ _ _ _ _ | exact ih5 _ | exact ih6 _ _ _ | exact ih7 _ _ _ _ _ _ _ _ | exact ih8 _ _ _ _ _ _ | exact ih9 _ _ _ | exact ih10 _ _ _ _ | exact ih11 _ _ _ _ _ | exact impl_CountSquareFree.mono _ _ | exact impl_FreeSign.mono _ _ | exact impl_IsSquareFree.mono _ _ | exact impl_KernelOf.mono _ _ | exact impl_LongestSquareful.mono _ _ | exact impl_NextSquareFree.mono _ _ | exact impl_SquareFreeOfRank.mono _ _ | exact impl_SquareFreeUpTo.mono _ _ | exact impl_SquarePart.mono _ _ | exact impl_SumOfSigns.mono _ _ | exact laws_tCommon.mono _ _ _ | exact laws_tHas.mono _ _ _ | exact laws_tRises.mono _ _ _ _ | exact laws_tSame.mono _ _ _ | exact spec_CountSquareFree.mono _ _ | exact spec_FreeSign.mono _ _ | exact spec_IsSquareFree.mono _ _ | exact spec_KernelOf.mono _ _ | exact spec_LongestSquareful.mono _ _ | exact spec_NextSquareFree.mono _ _ | exact spec_SquareFreeOfRank.mono _ _ | exact spec_SquareFreeUpTo.mono _ _ | exact spec_SquarePart.mono _ _ | exact spec_SumOfSigns.mono _ _ | exact LeO.refl _ | exact LeO.none _ | refine LeO.ite ?_ ?_ | refine LeO.bind ?_ (fun _ => ?_))
  ·
   intro y0 y1 y2
   unfold laws_FnSquareFree.j3
   repeat' first
   | (with_reducible first | exact ih0 _ _ _ _ _ _ _ _ _ _ | exact ih1 _ | exact ih2 _ _ _ _ _ _ _ | exact ih3 _ _ _ _ _ _ | exact ih4 _ _ _ _ _ _ | exact ih5 _ | exact ih6 _ _ _ | exact ih7 _ _ _ _ _ _ _ _ | exact ih8 _ _ _ _ _ _ | exact ih9 _ _ _ | exact ih10 _ _ _ _ | exact ih11 _ _ _ _ _ | exact impl_CountSquareFree.mono _ _ | exact impl_FreeSign.mono _ _ | exact impl_IsSquareFree.mono _ _ | exact impl_KernelOf.mono _ _ | exact impl_LongestSquareful.mono _ _ | exact impl_NextSquareFree.mono _ _ | exact impl_SquareFreeOfRank.mono _ _ | exact impl_SquareFreeUpTo.mono _ _ | exact impl_SquarePart.mono _ _ | exact impl_SumOfSigns.mono _ _ | exact laws_tCommon.mono _ _ _ | exact laws_tHas.mono _ _ _ | exact laws_tRises.mono _ _ _ _ | exact laws_tSame.mono _ _ _ | exact spec_CountSquareFree.mono _ _ | exact spec_FreeSign.mono _ _ | exact spec_IsSquareFree.mono _ _ | exact spec_KernelOf.mono _ _ | exact spec_LongestSquareful.mono _ _ | exact spec_NextSquareFree.mono _ _ | exact spec_SquareFreeOfRank.mono _ _ | exact spec_SquareFreeUpTo.mono _ _ | exact spec_SquarePart.mono _ _ | exact spec_SumOfSigns.mono _ _ | exact LeO.refl _ | exact LeO.none _ | refine LeO.ite ?_ ?_ | refine LeO.bind ?_ (fun _ => ?_))
  ·
   intro y0 y1 y2 y3
   unfold laws_FnSquareFree.l0
   repeat' first
   | (with_reducible first | exact ih0 _ _ _ _ _ _ _ _ _ _ | exact ih1 _ | exact ih2 _ _ _ _ _ _ _ | exact ih3 _ _ _ _ _ _ | exact ih4 _ _ _ _ _ _ | exact ih5 _ | exact ih6 _ _ _ | exact ih7 _ _ _ _ _ _ _ _ | exact ih8 _ _ _ _ _ _ | exact ih9 _ _ _ | exact ih10 _ _ _ _ | exact ih11 _ _ _ _ _ | exact impl_CountSquareFree.mono _ _ | exact impl_FreeSign.mono _ _ | exact impl_IsSquareFree.mono _ _ | exact impl_KernelOf.mono _ _ | exact impl_LongestSquareful.mono _ _ | exact impl_NextSquareFree.mono _ _ | exact impl_SquareFreeOfRank.mono _ _ | exact impl_SquareFreeUpTo.mono _ _ | exact impl_SquarePart.mono _ _ | exact impl_SumOfSigns.mono _ _ | exact laws_tCommon.mono _ _ _ | exact laws_tHas.mono _ _ _ | exact laws_tRises.mono _ _ _ _ | exact laws_tSame.mono _ _ _ | exact spec_CountSquareFree.mono _ _ | exact spec_FreeSign.mono _ _ | exact spec_IsSquareFree.mono _ _ | exact spec_KernelOf.mono _ _ | exact spec_LongestSquareful.mono _ _ | exact spec_NextSquareFree.mono _ _ | exact spec_SquareFreeOfRank.mono _ _ | exact spec_SquareFreeUpTo.mono _ _ | exact spec_SquarePart.mono _ _ | exact spec_SumOfSigns.mono _ _ | exact LeO.refl _ | exact LeO.none _ | refine LeO.ite ?_ ?_ | refine LeO.bind ?_ (fun _ => ?_))
  ·
   intro y0 y1 y2 y3 y4
   unfold laws_FnSquareFree.j5
   repeat' first
   | (with_reducible first | exact ih0 _ _ _ _ _ _ _ _ _ _ | exact ih1 _ | exact ih2 _ _ _ _ _ _ _ | exact ih3 _ _ _ _ _ _ | exact ih4 _ _ _ _ _ _ | exact ih5 _ | exact ih6 _ _ _ | exact ih7 _ _ _ _ _ _ _ _ | exact ih8 _ _ _ _ _ _ | exact ih9 _ _ _ | exact ih10 _ _ _ _ | exact ih11 _ _ _ _ _ | exact impl_CountSquareFree.mono _ _ | exact impl_FreeSign.mono _ _ | exact impl_IsSquareFree.mono _ _ | exact impl_KernelOf.mono _ _ | exact impl_LongestSquareful.mono _ _ | exact impl_NextSquareFree.mono _ _ | exact impl_SquareFreeOfRank.mono _ _ | exact impl_SquareFreeUpTo.mono _ _ | exact impl_SquarePart.mono _ _ | exact impl_SumOfSigns.mono _ _ | exact laws_tCommon.mono _ _ _ | exact laws_tHas.mono _ _ _ | exact laws_tRises.mono _ _ _ _ | exact laws_tSame.mono _ _ _ | exact spec_CountSquareFree.mono _ _ | exact spec_FreeSign.mono _ _ | exact spec_IsSquareFree.mono _ _ | exact spec_KernelOf.mono _ _ | exact spec_LongestSquareful.mono _ _ | exact spec_NextSquareFree.mono _ _ | exact spec_SquareFreeOfRank.mono _ _ | exact spec_SquareFreeUpTo.mono _ _ | exact spec_SquarePart.mono _ _ | exact spec_SumOfSigns.mono _ _ | exact LeO.refl _ | exact LeO.none _ | refine LeO.ite ?_ ?_ | refine LeO.bind ?_ (fun _ => ?_))
theorem laws_FnSquareFree.mono : ∀ a0 a1 k, LeO (laws_FnSquareFree.f k a0 a1) (laws_FnSquareFree.f (k + 1) a0 a1) := by
 intro a0 a1 k
 obtain ⟨ih0, ih1, ih2, ih3, ih4, ih5, ih6, ih7, ih8, ih9, ih10, ih11⟩ := laws_FnSquareFree.mono_l k
 unfold laws_FnSquareFree.f
 repeat' first
   | (with_reducible first | exact ih0 _ _ _ _ _ _ _ _ _ _ | exact ih1 _ | exact ih2 _ _ _ _ _ _ _ | exact ih3 _ _ _ _ _ _ | exact ih4 _ _ _ _ _ _ | exact ih5 _ | exact ih6 _ _ _ | exact ih7 _ _ _ _ _ _ _ _ | exact ih8 _ _ _ _ _ _ | exact ih9 _ _ _ | exact ih10 _ _ _ _ | exact ih11 _ _ _ _ _ | exact impl_CountSquareFree.mono _ _ | exact impl_FreeSign.mono _ _ | exact impl_IsSquareFree.mono _ _ | exact impl_KernelOf.mono _ _ | exact impl_LongestSquareful.mono _ _ | exact impl_NextSquareFree.mono _ _ | exact impl_SquareFreeOfRank.mono _ _ | exact impl_SquareFreeUpTo.mono _ _ | exact impl_SquarePart.mono _ _ | exact impl_SumOfSigns.mono _ _ | exact laws_tCommon.mono _ _ _ | exact laws_tHas.mono _ _ _ | exact laws_tRises.mono _ _ _ _ | exact laws_tSame.mono _ _ _ | exact spec_CountSquareFree.mono _ _ | exact spec_FreeSign.mono _ _ | exact spec_IsSquareFree.mono _ _ | exact spec_KernelOf.mono _ _ | exact spec_LongestSquareful.mono _ _ | exact spec_NextSquareFree.mono _ _ | exact spec_SquareFreeOfRank.mono _ _ | exact spec_SquareFreeUpTo.mono _ _ | exact spec_SquarePart.mono _ _ | exact spec_SumOfSigns.mono _ _ | exact LeO.refl _ | exact LeO.none _ | refine LeO.ite ?_ ?_ | refine LeO.bind ?_ (fun _ => ?_))
theorem laws_FnSquareFree.j0_no : ∀ k y0 y1 y2 y3 y4 y5 y6 y7 y8, laws_FnSquareFree.j0 k y0 y1 y2 y3 y4 y5 y6 y7 y8 true = some true → False := by
 intro k y0 y1 y2 y3 y4 y5 y6 y7 y8 h
 cases k with
 | zero => simp [laws_FnSquareFree.j0] at h
 | succ k => simp [laws_FnSquareFree.j0] at h
theorem laws_FnSquareFree.j7_no : ∀ k y0 y1 y2 y3 y4 y5, laws_FnSquareFree.j7 k y0 y1 y2 y3 y4 y5 true = some true → False := by
 intro k y0 y1 y2 y3 y4 y5 h
 cases k with
 | zero => simp [laws_FnSquareFree.j7] at h
 | succ k => simp [laws_FnSquareFree.j7] at h
theorem laws_FnSquareFree.j8_no : ∀ k y0 y1 y2 y3 y4, laws_FnSquareFree.j8 k y0 y1 y2 y3 y4 true = some true → False := by
 intro k y0 y1 y2 y3 y4 h
 cases k with
 | zero => simp [laws_FnSquareFree.j8] at h
 | succ k => simp [laws_FnSquareFree.j8] at h
theorem laws_FnSquareFree.j1_no : ∀ k y0 y1 y2 y3 y4 y5 y6, laws_FnSquareFree.j1 k y0 y1 y2 y3 y4 y5 y6 true = some true → False := by
 intro k y0 y1 y2 y3 y4 y5 y6 h
 cases k with
 | zero => simp [laws_FnSquareFree.j1] at h
 | succ k => simp [laws_FnSquareFree.j1] at h
theorem laws_FnSquareFree.j2_no : ∀ k y0 y1 y2 y3 y4, laws_FnSquareFree.j2 k y0 y1 y2 y3 y4 true = some true → False := by
 intro k y0 y1 y2 y3 y4 h
 cases k with
 | zero => simp [laws_FnSquareFree.j2] at h
 | succ k => simp [laws_FnSquareFree.j2] at h
/-- A frame of which some slots (by two masks) hold whatever u says. -/
def cutFgt (u : Nat → Value) : List (Option Nat) → List Value → List Value
 | some n :: m, _ :: l => u n :: cutFgt u m l
 | none :: m, v :: l => v :: cutFgt u m l
 | _, l => l
theorem cutF {P : Program} {s : Code} {K : Act → World → Prop} {Q' : Exit → Act → World → Prop} {w : World} {L : List Value} {fr} (m m2 : List (Option Nat)) (R : (Nat → Value) → World → Prop)
  (first : ∀ (J K' : Act → World → Prop), (∀ u w', R u w' → J ⟨(cutFgt u m2 (cutFgt u m L)).toArray, fr⟩ w') → (∀ a' w', Met J a' w' → K' a' w') → s.wp P (Exit.then K' Q') ⟨L.toArray, fr⟩ w)
  (rest : ∀ u w', R u w' → K ⟨(cutFgt u m2 (cutFgt u m L)).toArray, fr⟩ w') : s.wp P (Exit.then K Q') ⟨L.toArray, fr⟩ w := by
 refine wp_cut (fun a' w' => ∃ u, R u w' ∧ a' = ⟨(cutFgt u m2 (cutFgt u m L)).toArray, fr⟩) ?_ ?_
 ·
  rintro _ w' ⟨u, h, rfl⟩
  exact rest u w' h
 ·
  intro J K' h1 h2
  exact first J K' (fun u w' h => h1 _ _ ⟨u, h, rfl⟩) h2
theorem cutMeet {J : Act → World → Prop} {R : (Nat → Value) → World → Prop} {m m2 : List (Option Nat)} {L0 L : List Value} {fr} {w' : World} (h : ∀ u w', R u w' → J ⟨(cutFgt u m2 (cutFgt u m L0)).toArray, fr⟩ w') (hr : R (fun n => L.getD n (.bool false)) w') (he : cutFgt (fun n => L.getD n (.bool false)) m2 (cutFgt (fun n => L.getD n (.bool false)) m L0) = L) : Met J ⟨L.toArray, fr⟩ w' := by
 have := h _ _ hr
 rw [he] at this
 exact this
def mk0 : List (Option Nat) := [none, none, none, none, none, none, none, none, none, none, none, none, none, none, none, none, none, none, none, none, none, none, none, none, none, none, none, none, none, none, none, none, none, none, none, none, none, none, none, none, none, none, none, none, none, none, none, none, none, none, none, none, none, none, none, none, none, none, none, none, none, none, none, none, none, none, none, none, none, none, some 70, some 71, some 72, some 73, some 74, some 75, some 76, some 77, some 78, some 79, some 80, some 81, some 82, some 83, some 84, some 85, some 86, some 87, some 88, some 89, some 90, some 91, some 92, some 93, some 94, some 95, some 96, some 97, some 98, some 99, some 100, some 101, some 102, some 103, some 104, some 105, some 106, some 107, some 108, some 109, some 110, some 111, some 112, some 113, some 114, some 115, some 116, some 117, some 118, some 119, some 120, some 121, some 122, some 123, some 124, some 125, some 126, some 127, some 128, some 129, some 130, some 131, some 132, some 133, some 134, some 135, some 136, some 137, some 138, some 139, some 140, some 141, some 142, some 143, some 144, some 145, some 146, some 147, some 148, some 149, some 150, some 151, some 152, some 153, some 154, some 155, some 156, some 157, some 158, some 159, some 160, some 161, some 162, some 163, some 164, some 165, some 166, some 167, some 168, some 169, some 170, some 171, some 172, some 173, some 174, some 175, some 176, some 177, some 178, some 179, some 180, some 181, some 182, some 183, some 184, some 185, some 186, some 187, some 188, some 189, some 190, some 191, some 192, some 193, some 194, some 195, some 196, some 197, some 198, some 199, some 200, some 201, some 202, some 203, some 204, some 205, some 206, some 207, some 208, some 209, some 210, some 211, some 212, some 213, some 214, some 215, some 216, some 217, some 218, some 219, some 220, some 221, some 222, some 223, some 224, some 225, some 226, some 227, some 228, some 229, some 230, some 231, some 232, some 233, some 234, some 235, some 236, some 237, some 238, some 239, some 240, some 241, some 242, some 243, some 244, some 245, some 246, some 247, some 248, some 249, some 250, some 251, some 252, some 253, some 254, some 255, some 256, some 257, some 258, some 259, some 260, some 261, some 262, some 263, some 264, some 265, some 266, some 267, some 268, some 269, some 270, some 271, some 272, some 273, some 274, some 275, some 276, some 277, some 278, some 279, some 280, some 281, some 282, some 283, some 284, some 285, some 286, some 287, some 288, some 289, some 290, some 291, some 292, some 293, some 294, some 295, some 296, some 297, some 298, some 299, some 300, some 301, some 302, some 303, some 304, some 305, some 306, some 307, some 308, some 309, some 310, some 311, some 312, some 313, some 314, some 315, some 316, some 317, some 318, some 319, some 320, some 321, some 322, some 323, some 324, some 325, some 326, some 327, some 328, some 329, some 330, some 331, some 332, some 333, some 334, some 335, some 336, some 337, some 338, some 339, some 340, some 341, some 342, some 343, some 344, some 345, some 346, some 347, some 348, some 349, some 350, some 351, some 352, some 353, some 354, some 355, some 356, some 357, some 358, some 359, some 360, some 361, some 362, some 363, some 364, some 365, some 366, some 367, some 368, some 369, some 370, some 371, some 372, some 373, some 374, some 375, some 376, some 377, some 378, some 379, some 380, some 381, some 382, some 383, some 384, some 385, some 386, some 387, some 388, some 389, some 390, some 391, some 392, some 393, some 394, some 395, some 396, some 397, some 398, some 399, some 400, some 401, some 402, some 403, some 404, some 405, some 406, some 407, some 408, some 409, some 410, some 411, some 412, some 413, some 414, some 415, some 416, some 417, some 418, some 419, some 420, some 421, some 422, some 423, some 424, some 425, some 426, some 427, some 428, some 429, some 430, some 431, some 432, some 433, some 434, some 435, some 436, some 437, some 438, some 439, some 440, some 441, some 442, some 443, some 444, some 445, some 446, some 447, some 448, some 449, some 450, some 451, some 452, some 453, some 454, some 455, some 456, some 457, some 458, some 459, some 460, some 461, some 462, some 463, some 464, some 465, some 466, some 467, some 468, some 469, some 470, some 471, some 472, some 473, some 474, some 475, some 476, some 477, some 478, some 479, some 480, some 481, some 482, some 483, some 484, some 485, some 486, some 487, some 488, some 489, some 490, some 491, some 492, some 493, some 494, some 495, some 496, some 497, some 498, some 499, some 500, some 501, some 502, some 503, some 504, some 505, some 506, some 507, some 508, some 509, some 510, some 511, some 512, some 513, some 514, some 515, some 516, some 517, some 518, some 519, some 520, some 521, some 522, some 523, some 524, some 525, some 526, some 527, some 528, none, none, none, some 532, some 533, some 534, some 535, some 536, some 537, some 538, some 539, some 540, some 541, some 542, some 543, some 544, some 545, some 546, some 547, some 548, some 549, some 550]
def mk1 : List (Option Nat) := [none, none, none, none, none, none, none, none, none, none, none, none, none, none, none, none, none, none, none, none, none, none, none, none, none, none, none, none, none, none, none, none, none, none, none, none, none, none, none, none, none, none, none, none, none, none, none, none, none, none, none, none, none, none, none, none, none, none, none, none, none, none, none, none, none, none, none, none, none, none, none, none, none, none, none, none, none, none, none, none, none, none, none, none, none, none, none, none, none, none, none, none, none, none, none, none, none, none, none, none, none, none, none, none, none, none, none, none, none, none, none, none, none, none, none, none, none, none, none, none, none, none, none, none, none, none, none, none, none, none, none, none, none, none, none, none, none, none, none, none, none, none, none, none, none, none, none, none, none, none, none, none, none, none, none, none, none, none, none, none, none, none, none, none, none, none, none, none, none, none, none, none, none, none, none, none, none, none, none, none, none, none, none, none, none, none, none, none, none, none, none, none, none, none, none, none, none, none, none, none, none, none, none, none, none, none, none, none, none, none, none, none, none, none, none, none, none, none, none, none, none, none, none, none, none, none, none, none, none, none, none, none, none, none, none, none, none, none, none, none, none, none, none, none, none, none, none, none, none, none, none, none, none, none, none, none, none, none, none, none, none, none, none, none, none, none, none, none, none, none, none, none, none, none, none, none, none, none, none, none, none, none, none, none, none, none, none, none, none, none, none, none, none, none, none, none, none, none, none, none, none, none, none, none, none, none, none, none, none, none, none, none, none, none, none, none, none, none, none, some 319, some 320, some 321, some 322, some 323, some 324, some 325, some 326, some 327, some 328, some 329, some 330, some 331, some 332, some 333, some 334, some 335, some 336, some 337, some 338, some 339, some 340, some 341, some 342, some 343, some 344, some 345, some 346, some 347, some 348, some 349, some 350, some 351, some 352, some 353, some 354, some 355, some 356, some 357, none, none, none, none, none, none, none, none, none, none, none, none, none, none, none, none, none, none, none, none, none, none, none, none, none, none, none, none, none, none, none, none, none, none, none, none, none, none, none, none, none, none, none, none, none, none, none, none, none, none, none, none, none, none, none, none, none, none, none, none, none, none, none, none, none, none, none, none, none, none, none, none, none, none, none, none, none, none, none, none, none, none, none, none, none, none, none, none, none, none, none, none, none, none, none, none, none, none, none, none, none, none, none, none, none, none, none, none, none, none, none, none, none, none, none, none, none, none, none, none, none, none, none, none, none, none, none, none, none, none, none, none, none, none, none, none, none, none, none, none, none, none, none, none, none, none, none, none, none, none, none, none, none, none, none, none, none, none, none, none, none, none, none, none, none, none, none, none, none, none, none, none, none, none, none, none, none, none, none, none, none, none, none, none, none, none, none, none, none, none, none, none, none]
set_option maxHeartbeats 200000000 in
set_option maxRecDepth 100000 in
theorem laws_FnSquareFree.calls (k : Nat) (A0 : Option Addr) (c0 : Nat) (l0 : List Int) (A1 : Option Addr) (c1 : Nat) (l1 : List Int) (r : Bool) (w : World) (hr0 : Kd.C (Kd.int .u8) w A0 l0.length l0) (hc0 : l0.length ≤ c0) (hr1 : Kd.C (Kd.int .u8) w A1 l1.length l1) (hc1 : l1.length ≤ c1) (h : laws_FnSquareFree.f k l0 l1 = some r) (hr_ : r = true) :
  Calls Try.prog 4 #[.slice A0 l0.length c0, .slice A1 l1.length c1] w fun e w' => e = .returned (.bool r) ∧ Below w.heap.size w w' := by
 have HRT := Aside0.mk hr_
 clear hr_
 have HR0 := Aside0.mk hr0
 have HC0 := Aside0.mk hc0
 clear hr0 hc0
 have HR1 := Aside0.mk hr1
 have HC1 := Aside0.mk hc1
 clear hr1 hc1
 have HB := Aside0.mk (Below.refl w.heap.size w)
 have H : ((laws_big.f l0 l1).bind fun t223 => (if t223 = true then (some true) else ((spec_DrawIsSquareFree.f l0).bind fun t224 => ((impl_IsSquareFree.f k t224).bind fun bt225 => ((spec_IsSquareFree.f k t224).bind fun bt227 => ((impl_SquarePart.f k t224).bind fun bt229 => ((spec_SquarePart.f k t224).bind fun bt231 => ((impl_KernelOf.f k t224).bind fun bt233 => ((spec_KernelOf.f k t224).bind fun bt235 => ((impl_FreeSign.f k t224).bind fun bt237 => ((spec_FreeSign.f k t224).bind fun bt239 => ((impl_CountSquareFree.f k t224).bind fun bt241 => ((spec_CountSquareFree.f k t224).bind fun bt243 => ((impl_NextSquareFree.f k t224).bind fun bt245 => ((spec_NextSquareFree.f k t224).bind fun bt247 => (if (bt225.2 != bt227.2) = true then (laws_FnSquareFree.j0 k l1 t224 bt225.1 bt225.2 bt229.1 bt233.1 bt237.1 bt241.1 bt245.1 true) else (if (bt225.1 != bt227.1) = true then (laws_FnSquareFree.j0 k l1 t224 bt225.1 bt225.2 bt229.1 bt233.1 bt237.1 bt241.1 bt245.1 true) else (if (bt229.2 != bt231.2) = true then (laws_FnSquareFree.j0 k l1 t224 bt225.1 bt225.2 bt229.1 bt233.1 bt237.1 bt241.1 bt245.1 true) else (if bt229.1 = bt231.1 then (if (bt233.2 != bt235.2) = true then (laws_FnSquareFree.j0 k l1 t224 bt225.1 bt225.2 bt229.1 bt233.1 bt237.1 bt241.1 bt245.1 true) else (if bt233.1 = bt235.1 then (if (bt237.2 != bt239.2) = true then (laws_FnSquareFree.j0 k l1 t224 bt225.1 bt225.2 bt229.1 bt233.1 bt237.1 bt241.1 bt245.1 true) else (if bt237.1 = bt239.1 then (if (bt241.2 != bt243.2) = true then (laws_FnSquareFree.j0 k l1 t224 bt225.1 bt225.2 bt229.1 bt233.1 bt237.1 bt241.1 bt245.1 true) else (if bt241.1 = bt243.1 then (if (bt245.2 != bt247.2) = true then (laws_FnSquareFree.j0 k l1 t224 bt225.1 bt225.2 bt229.1 bt233.1 bt237.1 bt241.1 bt245.1 true) else (if bt245.1 = bt247.1 then (if (bt229.2 != bt225.2) = true then (laws_FnSquareFree.j0 k l1 t224 bt225.1 bt225.2 bt229.1 bt233.1 bt237.1 bt241.1 bt245.1 true) else (if (bt233.2 != bt225.2) = true then (laws_FnSquareFree.j0 k l1 t224 bt225.1 bt225.2 bt229.1 bt233.1 bt237.1 bt241.1 bt245.1 true) else (if (bt237.2 != bt225.2) = true then (laws_FnSquareFree.j0 k l1 t224 bt225.1 bt225.2 bt229.1 bt233.1 bt237.1 bt241.1 bt245.1 true) else (if (bt241.2 != bt225.2) = true then (laws_FnSquareFree.j0 k l1 t224 bt225.1 bt225.2 bt229.1 bt233.1 bt237.1 bt241.1 bt245.1 true) else (laws_FnSquareFree.j0 k l1 t224 bt225.1 bt225.2 bt229.1 bt233.1 bt237.1 bt241.1 bt245.1 (bt245.2 != bt225.2)))))) else (laws_FnSquareFree.j0 k l1 t224 bt225.1 bt225.2 bt229.1 bt233.1 bt237.1 bt241.1 bt245.1 true))) else (laws_FnSquareFree.j0 k l1 t224 bt225.1 bt225.2 bt229.1 bt233.1 bt237.1 bt241.1 bt245.1 true))) else (laws_FnSquareFree.j0 k l1 t224 bt225.1 bt225.2 bt229.1 bt233.1 bt237.1 bt241.1 bt245.1 true))) else (laws_FnSquareFree.j0 k l1 t224 bt225.1 bt225.2 bt229.1 bt233.1 bt237.1 bt241.1 bt245.1 true))) else (laws_FnSquareFree.j0 k l1 t224 bt225.1 bt225.2 bt229.1 bt233.1 bt237.1 bt241.1 bt245.1 true)))))))))))))))))))) = some r := h
 clear h
 replace H := Option.bind_eq_some_iff.mp H
 obtain ⟨t223, A30, H⟩ := H
 replace H : (if t223 = true then (some true) else ((spec_DrawIsSquareFree.f l0).bind fun t224 => ((impl_IsSquareFree.f k t224).bind fun bt225 => ((spec_IsSquareFree.f k t224).bind fun bt227 => ((impl_SquarePart.f k t224).bind fun bt229 => ((spec_SquarePart.f k t224).bind fun bt231 => ((impl_KernelOf.f k t224).bind fun bt233 => ((spec_KernelOf.f k t224).bind fun bt235 => ((impl_FreeSign.f k t224).bind fun bt237 => ((spec_FreeSign.f k t224).bind fun bt239 => ((impl_CountSquareFree.f k t224).bind fun bt241 => ((spec_CountSquareFree.f k t224).bind fun bt243 => ((impl_NextSquareFree.f k t224).bind fun bt245 => ((spec_NextSquareFree.f k t224).bind fun bt247 => (if (bt225.2 != bt227.2) = true then (laws_FnSquareFree.j0 k l1 t224 bt225.1 bt225.2 bt229.1 bt233.1 bt237.1 bt241.1 bt245.1 true) else (if (bt225.1 != bt227.1) = true then (laws_FnSquareFree.j0 k l1 t224 bt225.1 bt225.2 bt229.1 bt233.1 bt237.1 bt241.1 bt245.1 true) else (if (bt229.2 != bt231.2) = true then (laws_FnSquareFree.j0 k l1 t224 bt225.1 bt225.2 bt229.1 bt233.1 bt237.1 bt241.1 bt245.1 true) else (if bt229.1 = bt231.1 then (if (bt233.2 != bt235.2) = true then (laws_FnSquareFree.j0 k l1 t224 bt225.1 bt225.2 bt229.1 bt233.1 bt237.1 bt241.1 bt245.1 true) else (if bt233.1 = bt235.1 then (if (bt237.2 != bt239.2) = true then (laws_FnSquareFree.j0 k l1 t224 bt225.1 bt225.2 bt229.1 bt233.1 bt237.1 bt241.1 bt245.1 true) else (if bt237.1 = bt239.1 then (if (bt241.2 != bt243.2) = true then (laws_FnSquareFree.j0 k l1 t224 bt225.1 bt225.2 bt229.1 bt233.1 bt237.1 bt241.1 bt245.1 true) else (if bt241.1 = bt243.1 then (if (bt245.2 != bt247.2) = true then (laws_FnSquareFree.j0 k l1 t224 bt225.1 bt225.2 bt229.1 bt233.1 bt237.1 bt241.1 bt245.1 true) else (if bt245.1 = bt247.1 then (if (bt229.2 != bt225.2) = true then (laws_FnSquareFree.j0 k l1 t224 bt225.1 bt225.2 bt229.1 bt233.1 bt237.1 bt241.1 bt245.1 true) else (if (bt233.2 != bt225.2) = true then (laws_FnSquareFree.j0 k l1 t224 bt225.1 bt225.2 bt229.1 bt233.1 bt237.1 bt241.1 bt245.1 true) else (if (bt237.2 != bt225.2) = true then (laws_FnSquareFree.j0 k l1 t224 bt225.1 bt225.2 bt229.1 bt233.1 bt237.1 bt241.1 bt245.1 true) else (if (bt241.2 != bt225.2) = true then (laws_FnSquareFree.j0 k l1 t224 bt225.1 bt225.2 bt229.1 bt233.1 bt237.1 bt241.1 bt245.1 true) else (laws_FnSquareFree.j0 k l1 t224 bt225.1 bt225.2 bt229.1 bt233.1 bt237.1 bt241.1 bt245.1 (bt245.2 != bt225.2)))))) else (laws_FnSquareFree.j0 k l1 t224 bt225.1 bt225.2 bt229.1 bt233.1 bt237.1 bt241.1 bt245.1 true))) else (laws_FnSquareFree.j0 k l1 t224 bt225.1 bt225.2 bt229.1 bt233.1 bt237.1 bt241.1 bt245.1 true))) else (laws_FnSquareFree.j0 k l1 t224 bt225.1 bt225.2 bt229.1 bt233.1 bt237.1 bt241.1 bt245.1 true))) else (laws_FnSquareFree.j0 k l1 t224 bt225.1 bt225.2 bt229.1 bt233.1 bt237.1 bt241.1 bt245.1 true))) else (laws_FnSquareFree.j0 k l1 t224 bt225.1 bt225.2 bt229.1 bt233.1 bt237.1 bt241.1 bt245.1 true))))))))))))))))))) = some r := H
 have A3 := Aside0.mk A30
 clear A30
 by_cases c4 : t223 = true
 ·
  subst c4
  have H1 : (some true) = some r := by rw [if_pos rfl] at H; exact H
  clear H
  have H := H1
  clear H1
  first
  | exact absurd (Option.some.inj (H.trans (congrArg some HRT.out))) Bool.false_ne_true
  |
   obtain rfl := Option.some.inj H
   go_enter Try.func4, Try.ntmps4
   go_wp2_with (first | ((with_reducible refine gate_callee (f := 11) rfl ?_); refine goesL_ (some 72) rfl rfl Try.func11 (by kernel_rfl) rfl #[.slice A0 l0.length c0, .slice A1 l1.length c1] rfl (by (try simp only [List.map_toArray, List.map_cons, List.map_nil]); first | done | rfl | (simp only [List.length_drop, List.length_take]; rfl)) ?_; (with_reducible refine (laws_big.calls _ _ l0 _ _ l1 true _ ?side1 ?side2 ?side3 ?side4 A3.out).mono ?_); (case side1 => repeat (first | exact HR0.out | (with_reducible refine Kd.C_alloc ?_ _) | (with_reducible refine Kd.C_drewN ?_ _) | (with_reducible refine Kd.C_drew ?_))); (case side2 => exact HC0.out); (case side3 => repeat (first | exact HR1.out | (with_reducible refine Kd.C_alloc ?_ _) | (with_reducible refine Kd.C_drewN ?_ _) | (with_reducible refine Kd.C_drew ?_))); (case side4 => exact HC1.out); rintro e w' ⟨rfl, ⟨nd, rfl⟩⟩; refine ⟨_, rfl, ?_⟩))
   go_ret
   exact ⟨by first | rfl | (simp [errW_none, errW_some] <;> rfl) | (simp [*, errW_none, errW_some] <;> rfl), by repeat (first | (with_reducible first | exact HB.out | apply below_alloc | apply pw_below_drewN | apply below_drew1))⟩
 ·
  replace c4 := Bool.eq_false_iff.mpr c4
  subst c4
  have H1 : ((spec_DrawIsSquareFree.f l0).bind fun t224 => ((impl_IsSquareFree.f k t224).bind fun bt225 => ((spec_IsSquareFree.f k t224).bind fun bt227 => ((impl_SquarePart.f k t224).bind fun bt229 => ((spec_SquarePart.f k t224).bind fun bt231 => ((impl_KernelOf.f k t224).bind fun bt233 => ((spec_KernelOf.f k t224).bind fun bt235 => ((impl_FreeSign.f k t224).bind fun bt237 => ((spec_FreeSign.f k t224).bind fun bt239 => ((impl_CountSquareFree.f k t224).bind fun bt241 => ((spec_CountSquareFree.f k t224).bind fun bt243 => ((impl_NextSquareFree.f k t224).bind fun bt245 => ((spec_NextSquareFree.f k t224).bind fun bt247 => (if (bt225.2 != bt227.2) = true then (laws_FnSquareFree.j0 k l1 t224 bt225.1 bt225.2 bt229.1 bt233.1 bt237.1 bt241.1 bt245.1 true) else (if (bt225.1 != bt227.1) = true then (laws_FnSquareFree.j0 k l1 t224 bt225.1 bt225.2 bt229.1 bt233.1 bt237.1 bt241.1 bt245.1 true) else (if (bt229.2 != bt231.2) = true then (laws_FnSquareFree.j0 k l1 t224 bt225.1 bt225.2 bt229.1 bt233.1 bt237.1 bt241.1 bt245.1 true) else (if bt229.1 = bt231.1 then (if (bt233.2 != bt235.2) = true then (laws_FnSquareFree.j0 k l1 t224 bt225.1 bt225.2 bt229.1 bt233.1 bt237.1 bt241.1 bt245.1 true) else (if bt233.1 = bt235.1 then (if (bt237.2 != bt239.2) = true then (laws_FnSquareFree.j0 k l1 t224 bt225.1 bt225.2 bt229.1 bt233.1 bt237.1 bt241.1 bt245.1 true) else (if bt237.1 = bt239.1 then (if (bt241.2 != bt243.2) = true then (laws_FnSquareFree.j0 k l1 t224 bt225.1 bt225.2 bt229.1 bt233.1 bt237.1 bt241.1 bt245.1 true) else (if bt241.1 = bt243.1 then (if (bt245.2 != bt247.2) = true then (laws_FnSquareFree.j0 k l1 t224 bt225.1 bt225.2 bt229.1 bt233.1 bt237.1 bt241.1 bt245.1 true) else (if bt245.1 = bt247.1 then (if (bt229.2 != bt225.2) = true then (laws_FnSquareFree.j0 k l1 t224 bt225.1 bt225.2 bt229.1 bt233.1 bt237.1 bt241.1 bt245.1 true) else (if (bt233.2 != bt225.2) = true then (laws_FnSquareFree.j0 k l1 t224 bt225.1 bt225.2 bt229.1 bt233.1 bt237.1 bt241.1 bt245.1 true) else (if (bt237.2 != bt225.2) = true then (laws_FnSquareFree.j0 k l1 t224 bt225.1 bt225.2 bt229.1 bt233.1 bt237.1 bt241.1 bt245.1 true) else (if (bt241.2 != bt225.2) = true then (laws_FnSquareFree.j0 k l1 t224 bt225.1 bt225.2 bt229.1 bt233.1 bt237.1 bt241.1 bt245.1 true) else (laws_FnSquareFree.j0 k l1 t224 bt225.1 bt225.2 bt229.1 bt233.1 bt237.1 bt241.1 bt245.1 (bt245.2 != bt225.2)))))) else (laws_FnSquareFree.j0 k l1 t224 bt225.1 bt225.2 bt229.1 bt233.1 bt237.1 bt241.1 bt245.1 true))) else (laws_FnSquareFree.j0 k l1 t224 bt225.1 bt225.2 bt229.1 bt233.1 bt237.1 bt241.1 bt245.1 true))) else (laws_FnSquareFree.j0 k l1 t224 bt225.1 bt225.2 bt229.1 bt233.1 bt237.1 bt241.1 bt245.1 true))) else (laws_FnSquareFree.j0 k l1 t224 bt225.1 bt225.2 bt229.1 bt233.1 bt237.1 bt241.1 bt245.1 true))) else (laws_FnSquareFree.j0 k l1 t224 bt225.1 bt225.2 bt229.1 bt233.1 bt237.1 bt241.1 bt245.1 true)))))))))))))))))) = some r := by rw [if_neg (show ¬ (false = true) by decide)] at H; exact H
  clear H
  have H := H1
  clear H1
  replace H := Option.bind_eq_some_iff.mp H
  obtain ⟨t224, A50, H⟩ := H
  replace H : ((impl_IsSquareFree.f k t224).bind fun bt225 => ((spec_IsSquareFree.f k t224).bind fun bt227 => ((impl_SquarePart.f k t224).bind fun bt229 => ((spec_SquarePart.f k t224).bind fun bt231 => ((impl_KernelOf.f k t224).bind fun bt233 => ((spec_KernelOf.f k t224).bind fun bt235 => ((impl_FreeSign.f k t224).bind fun bt237 => ((spec_FreeSign.f k t224).bind fun bt239 => ((impl_CountSquareFree.f k t224).bind fun bt241 => ((spec_CountSquareFree.f k t224).bind fun bt243 => ((impl_NextSquareFree.f k t224).bind fun bt245 => ((spec_NextSquareFree.f k t224).bind fun bt247 => (if (bt225.2 != bt227.2) = true then (laws_FnSquareFree.j0 k l1 t224 bt225.1 bt225.2 bt229.1 bt233.1 bt237.1 bt241.1 bt245.1 true) else (if (bt225.1 != bt227.1) = true then (laws_FnSquareFree.j0 k l1 t224 bt225.1 bt225.2 bt229.1 bt233.1 bt237.1 bt241.1 bt245.1 true) else (if (bt229.2 != bt231.2) = true then (laws_FnSquareFree.j0 k l1 t224 bt225.1 bt225.2 bt229.1 bt233.1 bt237.1 bt241.1 bt245.1 true) else (if bt229.1 = bt231.1 then (if (bt233.2 != bt235.2) = true then (laws_FnSquareFree.j0 k l1 t224 bt225.1 bt225.2 bt229.1 bt233.1 bt237.1 bt241.1 bt245.1 true) else (if bt233.1 = bt235.1 then (if (bt237.2 != bt239.2) = true then (laws_FnSquareFree.j0 k l1 t224 bt225.1 bt225.2 bt229.1 bt233.1 bt237.1 bt241.1 bt245.1 true) else (if bt237.1 = bt239.1 then (if (bt241.2 != bt243.2) = true then (laws_FnSquareFree.j0 k l1 t224 bt225.1 bt225.2 bt229.1 bt233.1 bt237.1 bt241.1 bt245.1 true) else (if bt241.1 = bt243.1 then (if (bt245.2 != bt247.2) = true then (laws_FnSquareFree.j0 k l1 t224 bt225.1 bt225.2 bt229.1 bt233.1 bt237.1 bt241.1 bt245.1 true) else (if bt245.1 = bt247.1 then (if (bt229.2 != bt225.2) = true then (laws_FnSquareFree.j0 k l1 t224 bt225.1 bt225.2 bt229.1 bt233.1 bt237.1 bt241.1 bt245.1 true) else (if (bt233.2 != bt225.2) = true then (laws_FnSquareFree.j0 k l1 t224 bt225.1 bt225.2 bt229.1 bt233.1 bt237.1 bt241.1 bt245.1 true) else (if (bt237.2 != bt225.2) = true then (laws_FnSquareFree.j0 k l1 t224 bt225.1 bt225.2 bt229.1 bt233.1 bt237.1 bt241.1 bt245.1 true) else (if (bt241.2 != bt225.2) = true then (laws_FnSquareFree.j0 k l1 t224 bt225.1 bt225.2 bt229.1 bt233.1 bt237.1 bt241.1 bt245.1 true) else (laws_FnSquareFree.j0 k l1 t224 bt225.1 bt225.2 bt229.1 bt233.1 bt237.1 bt241.1 bt245.1 (bt245.2 != bt225.2)))))) else (laws_FnSquareFree.j0 k l1 t224 bt225.1 bt225.2 bt229.1 bt233.1 bt237.1 bt241.1 bt245.1 true))) else (laws_FnSquareFree.j0 k l1 t224 bt225.1 bt225.2 bt229.1 bt233.1 bt237.1 bt241.1 bt245.1 true))) else (laws_FnSquareFree.j0 k l1 t224 bt225.1 bt225.2 bt229.1 bt233.1 bt237.1 bt241.1 bt245.1 true))) else (laws_FnSquareFree.j0 k l1 t224 bt225.1 bt225.2 bt229.1 bt233.1 bt237.1 bt241.1 bt245.1 true))) else (laws_FnSquareFree.j0 k l1 t224 bt225.1 bt225.2 bt229.1 bt233.1 bt237.1 bt241.1 bt245.1 true))))))))))))))))) = some r := H
  have A5 := Aside0.mk A50
  clear A50
  replace H := Option.bind_eq_some_iff.mp H
  obtain ⟨⟨t225, t226⟩, A60, H⟩ := H
  replace H : ((spec_IsSquareFree.f k t224).bind fun bt227 => ((impl_SquarePart.f k t224).bind fun bt229 => ((spec_SquarePart.f k t224).bind fun bt231 => ((impl_KernelOf.f k t224).bind fun bt233 => ((spec_KernelOf.f k t224).bind fun bt235 => ((impl_FreeSign.f k t224).bind fun bt237 => ((spec_FreeSign.f k t224).bind fun bt239 => ((impl_CountSquareFree.f k t224).bind fun bt241 => ((spec_CountSquareFree.f k t224).bind fun bt243 => ((impl_NextSquareFree.f k t224).bind fun bt245 => ((spec_NextSquareFree.f k t224).bind fun bt247 => (if (t226 != bt227.2) = true then (laws_FnSquareFree.j0 k l1 t224 t225 t226 bt229.1 bt233.1 bt237.1 bt241.1 bt245.1 true) else (if (t225 != bt227.1) = true then (laws_FnSquareFree.j0 k l1 t224 t225 t226 bt229.1 bt233.1 bt237.1 bt241.1 bt245.1 true) else (if (bt229.2 != bt231.2) = true then (laws_FnSquareFree.j0 k l1 t224 t225 t226 bt229.1 bt233.1 bt237.1 bt241.1 bt245.1 true) else (if bt229.1 = bt231.1 then (if (bt233.2 != bt235.2) = true then (laws_FnSquareFree.j0 k l1 t224 t225 t226 bt229.1 bt233.1 bt237.1 bt241.1 bt245.1 true) else (if bt233.1 = bt235.1 then (if (bt237.2 != bt239.2) = true then (laws_FnSquareFree.j0 k l1 t224 t225 t226 bt229.1 bt233.1 bt237.1 bt241.1 bt245.1 true) else (if bt237.1 = bt239.1 then (if (bt241.2 != bt243.2) = true then (laws_FnSquareFree.j0 k l1 t224 t225 t226 bt229.1 bt233.1 bt237.1 bt241.1 bt245.1 true) else (if bt241.1 = bt243.1 then (if (bt245.2 != bt247.2) = true then (laws_FnSquareFree.j0 k l1 t224 t225 t226 bt229.1 bt233.1 bt237.1 bt241.1 bt245.1 true) else (if bt245.1 = bt247.1 then (if (bt229.2 != t226) = true then (laws_FnSquareFree.j0 k l1 t224 t225 t226 bt229.1 bt233.1 bt237.1 bt241.1 bt245.1 true) else (if (bt233.2 != t226) = true then (laws_FnSquareFree.j0 k l1 t224 t225 t226 bt229.1 bt233.1 bt237.1 bt241.1 bt245.1 true) else (if (bt237.2 != t226) = true then (laws_FnSquareFree.j0 k l1 t224 t225 t226 bt229.1 bt233.1 bt237.1 bt241.1 bt245.1 true) else (if (bt241.2 != t226) = true then (laws_FnSquareFree.j0 k l1 t224 t225 t226 bt229.1 bt233.1 bt237.1 bt241.1 bt245.1 true) else (laws_FnSquareFree.j0 k l1 t224 t225 t226 bt229.1 bt233.1 bt237.1 bt241.1 bt245.1 (bt245.2 != t226)))))) else (laws_FnSquareFree.j0 k l1 t224 t225 t226 bt229.1 bt233.1 bt237.1 bt241.1 bt245.1 true))) else (laws_FnSquareFree.j0 k l1 t224 t225 t226 bt229.1 bt233.1 bt237.1 bt241.1 bt245.1 true))) else (laws_FnSquareFree.j0 k l1 t224 t225 t226 bt229.1 bt233.1 bt237.1 bt241.1 bt245.1 true))) else (laws_FnSquareFree.j0 k l1 t224 t225 t226 bt229.1 bt233.1 bt237.1 bt241.1 bt245.1 true))) else (laws_FnSquareFree.j0 k l1 t224 t225 t226 bt229.1 bt233.1 bt237.1 bt241.1 bt245.1 true)))))))))))))))) = some r := H
  have A6 := Aside0.mk A60
  clear A60
  replace H := Option.bind_eq_some_iff.mp H
  obtain ⟨⟨t227, t228⟩, A70, H⟩ := H
  replace H : ((impl_SquarePart.f k t224).bind fun bt229 => ((spec_SquarePart.f k t224).bind fun bt231 => ((impl_KernelOf.f k t224).bind fun bt233 => ((spec_KernelOf.f k t224).bind fun bt235 => ((impl_FreeSign.f k t224).bind fun bt237 => ((spec_FreeSign.f k t224).bind fun bt239 => ((impl_CountSquareFree.f k t224).bind fun bt241 => ((spec_CountSquareFree.f k t224).bind fun bt243 => ((impl_NextSquareFree.f k t224).bind fun bt245 => ((spec_NextSquareFree.f k t224).bind fun bt247 => (if (t226 != t228) = true then (laws_FnSquareFree.j0 k l1 t224 t225 t226 bt229.1 bt233.1 bt237.1 bt241.1 bt245.1 true) else (if (t225 != t227) = true then (laws_FnSquareFree.j0 k l1 t224 t225 t226 bt229.1 bt233.1 bt237.1 bt241.1 bt245.1 true) else (if (bt229.2 != bt231.2) = true then (laws_FnSquareFree.j0 k l1 t224 t225 t226 bt229.1 bt233.1 bt237.1 bt241.1 bt245.1 true) else (if bt229.1 = bt231.1 then (if (bt233.2 != bt235.2) = true then (laws_FnSquareFree.j0 k l1 t224 t225 t226 bt229.1 bt233.1 bt237.1 bt241.1 bt245.1 true) else (if bt233.1 = bt235.1 then (if (bt237.2 != bt239.2) = true then (laws_FnSquareFree.j0 k l1 t224 t225 t226 bt229.1 bt233.1 bt237.1 bt241.1 bt245.1 true) else (if bt237.1 = bt239.1 then (if (bt241.2 != bt243.2) = true then (laws_FnSquareFree.j0 k l1 t224 t225 t226 bt229.1 bt233.1 bt237.1 bt241.1 bt245.1 true) else (if bt241.1 = bt243.1 then (if (bt245.2 != bt247.2) = true then (laws_FnSquareFree.j0 k l1 t224 t225 t226 bt229.1 bt233.1 bt237.1 bt241.1 bt245.1 true) else (if bt245.1 = bt247.1 then (if (bt229.2 != t226) = true then (laws_FnSquareFree.j0 k l1 t224 t225 t226 bt229.1 bt233.1 bt237.1 bt241.1 bt245.1 true) else (if (bt233.2 != t226) = true then (laws_FnSquareFree.j0 k l1 t224 t225 t226 bt229.1 bt233.1 bt237.1 bt241.1 bt245.1 true) else (if (bt237.2 != t226) = true then (laws_FnSquareFree.j0 k l1 t224 t225 t226 bt229.1 bt233.1 bt237.1 bt241.1 bt245.1 true) else (if (bt241.2 != t226) = true then (laws_FnSquareFree.j0 k l1 t224 t225 t226 bt229.1 bt233.1 bt237.1 bt241.1 bt245.1 true) else (laws_FnSquareFree.j0 k l1 t224 t225 t226 bt229.1 bt233.1 bt237.1 bt241.1 bt245.1 (bt245.2 != t226)))))) else (laws_FnSquareFree.j0 k l1 t224 t225 t226 bt229.1 bt233.1 bt237.1 bt241.1 bt245.1 true))) else (laws_FnSquareFree.j0 k l1 t224 t225 t226 bt229.1 bt233.1 bt237.1 bt241.1 bt245.1 true))) else (laws_FnSquareFree.j0 k l1 t224 t225 t226 bt229.1 bt233.1 bt237.1 bt241.1 bt245.1 true))) else (laws_FnSquareFree.j0 k l1 t224 t225 t226 bt229.1 bt233.1 bt237.1 bt241.1 bt245.1 true))) else (laws_FnSquareFree.j0 k l1 t224 t225 t226 bt229.1 bt233.1 bt237.1 bt241.1 bt245.1 true))))))))))))))) = some r := H
  have A7 := Aside0.mk A70
  clear A70
  replace H := Option.bind_eq_some_iff.mp H
  obtain ⟨⟨t229, t230⟩, A80, H⟩ := H
  replace H : ((spec_SquarePart.f k t224).bind fun bt231 => ((impl_KernelOf.f k t224).bind fun bt233 => ((spec_KernelOf.f k t224).bind fun bt235 => ((impl_FreeSign.f k t224).bind fun bt237 => ((spec_FreeSign.f k t224).bind fun bt239 => ((impl_CountSquareFree.f k t224).bind fun bt241 => ((spec_CountSquareFree.f k t224).bind fun bt243 => ((impl_NextSquareFree.f k t224).bind fun bt245 => ((spec_NextSquareFree.f k t224).bind fun bt247 => (if (t226 != t228) = true then (laws_FnSquareFree.j0 k l1 t224 t225 t226 t229 bt233.1 bt237.1 bt241.1 bt245.1 true) else (if (t225 != t227) = true then (laws_FnSquareFree.j0 k l1 t224 t225 t226 t229 bt233.1 bt237.1 bt241.1 bt245.1 true) else (if (t230 != bt231.2) = true then (laws_FnSquareFree.j0 k l1 t224 t225 t226 t229 bt233.1 bt237.1 bt241.1 bt245.1 true) else (if t229 = bt231.1 then (if (bt233.2 != bt235.2) = true then (laws_FnSquareFree.j0 k l1 t224 t225 t226 t229 bt233.1 bt237.1 bt241.1 bt245.1 true) else (if bt233.1 = bt235.1 then (if (bt237.2 != bt239.2) = true then (laws_FnSquareFree.j0 k l1 t224 t225 t226 t229 bt233.1 bt237.1 bt241.1 bt245.1 true) else (if bt237.1 = bt239.1 then (if (bt241.2 != bt243.2) = true then (laws_FnSquareFree.j0 k l1 t224 t225 t226 t229 bt233.1 bt237.1 bt241.1 bt245.1 true) else (if bt241.1 = bt243.1 then (if (bt245.2 != bt247.2) = true then (laws_FnSquareFree.j0 k l1 t224 t225 t226 t229 bt233.1 bt237.1 bt241.1 bt245.1 true) else (if bt245.1 = bt247.1 then (if (t230 != t226) = true then (laws_FnSquareFree.j0 k l1 t224 t225 t226 t229 bt233.1 bt237.1 bt241.1 bt245.1 true) else (if (bt233.2 != t226) = true then (laws_FnSquareFree.j0 k l1 t224 t225 t226 t229 bt233.1 bt237.1 bt241.1 bt245.1 true) else (if (bt237.2 != t226) = true then (laws_FnSquareFree.j0 k l1 t224 t225 t226 t229 bt233.1 bt237.1 bt241.1 bt245.1 true) else (if (bt241.2 != t226) = true then (laws_FnSquareFree.j0 k l1 t224 t225 t226 t229 bt233.1 bt237.1 bt241.1 bt245.1 true) else (laws_FnSquareFree.j0 k l1 t224 t225 t226 t229 bt233.1 bt237.1 bt241.1 bt245.1 (bt245.2 != t226)))))) else (laws_FnSquareFree.j0 k l1 t224 t225 t226 t229 bt233.1 bt237.1 bt241.1 bt245.1 true))) else (laws_FnSquareFree.j0 k l1 t224 t225 t226 t229 bt233.1 bt237.1 bt241.1 bt245.1 true))) else (laws_FnSquareFree.j0 k l1 t224 t225 t226 t229 bt233.1 bt237.1 bt241.1 bt245.1 true))) else (laws_FnSquareFree.j0 k l1 t224 t225 t226 t229 bt233.1 bt237.1 bt241.1 bt245.1 true))) else (laws_FnSquareFree.j0 k l1 t224 t225 t226 t229 bt233.1 bt237.1 bt241.1 bt245.1 true)))))))))))))) = some r := H
  have A8 := Aside0.mk A80
  clear A80
  replace H := Option.bind_eq_some_iff.mp H
  obtain ⟨⟨t231, t232⟩, A90, H⟩ := H
  replace H : ((impl_KernelOf.f k t224).bind fun bt233 => ((spec_KernelOf.f k t224).bind fun bt235 => ((impl_FreeSign.f k t224).bind fun bt237 => ((spec_FreeSign.f k t224).bind fun bt239 => ((impl_CountSquareFree.f k t224).bind fun bt241 => ((spec_CountSquareFree.f k t224).bind fun bt243 => ((impl_NextSquareFree.f k t224).bind fun bt245 => ((spec_NextSquareFree.f k t224).bind fun bt247 => (if (t226 != t228) = true then (laws_FnSquareFree.j0 k l1 t224 t225 t226 t229 bt233.1 bt237.1 bt241.1 bt245.1 true) else (if (t225 != t227) = true then (laws_FnSquareFree.j0 k l1 t224 t225 t226 t229 bt233.1 bt237.1 bt241.1 bt245.1 true) else (if (t230 != t232) = true then (laws_FnSquareFree.j0 k l1 t224 t225 t226 t229 bt233.1 bt237.1 bt241.1 bt245.1 true) else (if t229 = t231 then (if (bt233.2 != bt235.2) = true then (laws_FnSquareFree.j0 k l1 t224 t225 t226 t229 bt233.1 bt237.1 bt241.1 bt245.1 true) else (if bt233.1 = bt235.1 then (if (bt237.2 != bt239.2) = true then (laws_FnSquareFree.j0 k l1 t224 t225 t226 t229 bt233.1 bt237.1 bt241.1 bt245.1 true) else (if bt237.1 = bt239.1 then (if (bt241.2 != bt243.2) = true then (laws_FnSquareFree.j0 k l1 t224 t225 t226 t229 bt233.1 bt237.1 bt241.1 bt245.1 true) else (if bt241.1 = bt243.1 then (if (bt245.2 != bt247.2) = true then (laws_FnSquareFree.j0 k l1 t224 t225 t226 t229 bt233.1 bt237.1 bt241.1 bt245.1 true) else (if bt245.1 = bt247.1 then (if (t230 != t226) = true then (laws_FnSquareFree.j0 k l1 t224 t225 t226 t229 bt233.1 bt237.1 bt241.1 bt245.1 true) else (if (bt233.2 != t226) = true then (laws_FnSquareFree.j0 k l1 t224 t225 t226 t229 bt233.1 bt237.1 bt241.1 bt245.1 true) else (if (bt237.2 != t226) = true then (laws_FnSquareFree.j0 k l1 t224 t225 t226 t229 bt233.1 bt237.1 bt241.1 bt245.1 true) else (if (bt241.2 != t226) = true then (laws_FnSquareFree.j0 k l1 t224 t225 t226 t229 bt233.1 bt237.1 bt241.1 bt245.1 true) else (laws_FnSquareFree.j0 k l1 t224 t225 t226 t229 bt233.1 bt237.1 bt241.1 bt245.1 (bt245.2 != t226)))))) else (laws_FnSquareFree.j0 k l1 t224 t225 t226 t229 bt233.1 bt237.1 bt241.1 bt245.1 true))) else (laws_FnSquareFree.j0 k l1 t224 t225 t226 t229 bt233.1 bt237.1 bt241.1 bt245.1 true))) else (laws_FnSquareFree.j0 k l1 t224 t225 t226 t229 bt233.1 bt237.1 bt241.1 bt245.1 true))) else (laws_FnSquareFree.j0 k l1 t224 t225 t226 t229 bt233.1 bt237.1 bt241.1 bt245.1 true))) else (laws_FnSquareFree.j0 k l1 t224 t225 t226 t229 bt233.1 bt237.1 bt241.1 bt245.1 true))))))))))))) = some r := H
  have A9 := Aside0.mk A90
  clear A90
  replace H := Option.bind_eq_some_iff.mp H
  obtain ⟨⟨t233, t234⟩, A100, H⟩ := H
  replace H : ((spec_KernelOf.f k t224).bind fun bt235 => ((impl_FreeSign.f k t224).bind fun bt237 => ((spec_FreeSign.f k t224).bind fun bt239 => ((impl_CountSquareFree.f k t224).bind fun bt241 => ((spec_CountSquareFree.f k t224).bind fun bt243 => ((impl_NextSquareFree.f k t224).bind fun bt245 => ((spec_NextSquareFree.f k t224).bind fun bt247 => (if (t226 != t228) = true then (laws_FnSquareFree.j0 k l1 t224 t225 t226 t229 t233 bt237.1 bt241.1 bt245.1 true) else (if (t225 != t227) = true then (laws_FnSquareFree.j0 k l1 t224 t225 t226 t229 t233 bt237.1 bt241.1 bt245.1 true) else (if (t230 != t232) = true then (laws_FnSquareFree.j0 k l1 t224 t225 t226 t229 t233 bt237.1 bt241.1 bt245.1 true) else (if t229 = t231 then (if (t234 != bt235.2) = true then (laws_FnSquareFree.j0 k l1 t224 t225 t226 t229 t233 bt237.1 bt241.1 bt245.1 true) else (if t233 = bt235.1 then (if (bt237.2 != bt239.2) = true then (laws_FnSquareFree.j0 k l1 t224 t225 t226 t229 t233 bt237.1 bt241.1 bt245.1 true) else (if bt237.1 = bt239.1 then (if (bt241.2 != bt243.2) = true then (laws_FnSquareFree.j0 k l1 t224 t225 t226 t229 t233 bt237.1 bt241.1 bt245.1 true) else (if bt241.1 = bt243.1 then (if (bt245.2 != bt247.2) = true then (laws_FnSquareFree.j0 k l1 t224 t225 t226 t229 t233 bt237.1 bt241.1 bt245.1 true) else (if bt245.1 = bt247.1 then (if (t230 != t226) = true then (laws_FnSquareFree.j0 k l1 t224 t225 t226 t229 t233 bt237.1 bt241.1 bt245.1 true) else (if (t234 != t226) = true then (laws_FnSquareFree.j0 k l1 t224 t225 t226 t229 t233 bt237.1 bt241.1 bt245.1 true) else (if (bt237.2 != t226) = true then (laws_FnSquareFree.j0 k l1 t224 t225 t226 t229 t233 bt237.1 bt241.1 bt245.1 true) else (if (bt241.2 != t226) = true then (laws_FnSquareFree.j0 k l1 t224 t225 t226 t229 t233 bt237.1 bt241.1 bt245.1 true) else (laws_FnSquareFree.j0 k l1 t224 t225 t226 t229 t233 bt237.1 bt241.1 bt245.1 (bt245.2 != t226)))))) else (laws_FnSquareFree.j0 k l1 t224 t225 t226 t229 t233 bt237.1 bt241.1 bt245.1 true))) else (laws_FnSquareFree.j0 k l1 t224 t225 t226 t229 t233 bt237.1 bt241.1 bt245.1 true))) else (laws_FnSquareFree.j0 k l1 t224 t225 t226 t229 t233 bt237.1 bt241.1 bt245.1 true))) else (laws_FnSquareFree.j0 k l1 t224 t225 t226 t229 t233 bt237.1 bt241.1 bt245.1 true))) else (laws_FnSquareFree.j0 k l1 t224 t225 t226 t229 t233 bt237.1 bt241.1 bt245.1 true)))))))))))) = some r := H
  have A10 := Aside0.mk A100
  clear A100
  replace H := Option.bind_eq_some_iff.mp H
  obtain ⟨⟨t235, t236⟩, A110, H⟩ := H
  replace H : ((impl_FreeSign.f k t224).bind fun bt237 => ((spec_FreeSign.f k t224).bind fun bt239 => ((impl_CountSquareFree.f k t224).bind fun bt241 => ((spec_CountSquareFree.f k t224).bind fun bt243 => ((impl_NextSquareFree.f k t224).bind fun bt245 => ((spec_NextSquareFree.f k t224).bind fun bt247 => (if (t226 != t228) = true then (laws_FnSquareFree.j0 k l1 t224 t225 t226 t229 t233 bt237.1 bt241.1 bt245.1 true) else (if (t225 != t227) = true then (laws_FnSquareFree.j0 k l1 t224 t225 t226 t229 t233 bt237.1 bt241.1 bt245.1 true) else (if (t230 != t232) = true then (laws_FnSquareFree.j0 k l1 t224 t225 t226 t229 t233 bt237.1 bt241.1 bt245.1 true) else (if t229 = t231 then (if (t234 != t236) = true then (laws_FnSquareFree.j0 k l1 t224 t225 t226 t229 t233 bt237.1 bt241.1 bt245.1 true) else (if t233 = t235 then (if (bt237.2 != bt239.2) = true then (laws_FnSquareFree.j0 k l1 t224 t225 t226 t229 t233 bt237.1 bt241.1 bt245.1 true) else (if bt237.1 = bt239.1 then (if (bt241.2 != bt243.2) = true then (laws_FnSquareFree.j0 k l1 t224 t225 t226 t229 t233 bt237.1 bt241.1 bt245.1 true) else (if bt241.1 = bt243.1 then (if (bt245.2 != bt247.2) = true then (laws_FnSquareFree.j0 k l1 t224 t225 t226 t229 t233 bt237.1 bt241.1 bt245.1 true) else (if bt245.1 = bt247.1 then (if (t230 != t226) = true then (laws_FnSquareFree.j0 k l1 t224 t225 t226 t229 t233 bt237.1 bt241.1 bt245.1 true) else (if (t234 != t226) = true then (laws_FnSquareFree.j0 k l1 t224 t225 t226 t229 t233 bt237.1 bt241.1 bt245.1 true) else (if (bt237.2 != t226) = true then (laws_FnSquareFree.j0 k l1 t224 t225 t226 t229 t233 bt237.1 bt241.1 bt245.1 true) else (if (bt241.2 != t226) = true then (laws_FnSquareFree.j0 k l1 t224 t225 t226 t229 t233 bt237.1 bt241.1 bt245.1 true) else (laws_FnSquareFree.j0 k l1 t224 t225 t226 t229 t233 bt237.1 bt241.1 bt245.1 (bt245.2 != t226)))))) else (laws_FnSquareFree.j0 k l1 t224 t225 t226 t229 t233 bt237.1 bt241.1 bt245.1 true))) else (laws_FnSquareFree.j0 k l1 t224 t225 t226 t229 t233 bt237.1 bt241.1 bt245.1 true))) else (laws_FnSquareFree.j0 k l1 t224 t225 t226 t229 t233 bt237.1 bt241.1 bt245.1 true))) else (laws_FnSquareFree.j0 k l1 t224 t225 t226 t229 t233 bt237.1 bt241.1 bt245.1 true))) else (laws_FnSquareFree.j0 k l1 t224 t225 t226 t229 t233 bt237.1 bt241.1 bt245.1 true))))))))))) = some r := H
  have A11 := Aside0.mk A110
  clear A110
  replace H := Option.bind_eq_some_iff.mp H
  obtain ⟨⟨t237, t238⟩, A120, H⟩ := H
  replace H : ((spec_FreeSign.f k t224).bind fun bt239 => ((impl_CountSquareFree.f k t224).bind fun bt241 => ((spec_CountSquareFree.f k t224).bind fun bt243 => ((impl_NextSquareFree.f k t224).bind fun bt245 => ((spec_NextSquareFree.f k t224).bind fun bt247 => (if (t226 != t228) = true then (laws_FnSquareFree.j0 k l1 t224 t225 t226 t229 t233 t237 bt241.1 bt245.1 true) else (if (t225 != t227) = true then (laws_FnSquareFree.j0 k l1 t224 t225 t226 t229 t233 t237 bt241.1 bt245.1 true) else (if (t230 != t232) = true then (laws_FnSquareFree.j0 k l1 t224 t225 t226 t229 t233 t237 bt241.1 bt245.1 true) else (if t229 = t231 then (if (t234 != t236) = true then (laws_FnSquareFree.j0 k l1 t224 t225 t226 t229 t233 t237 bt241.1 bt245.1 true) else (if t233 = t235 then (if (t238 != bt239.2) = true then (laws_FnSquareFree.j0 k l1 t224 t225 t226 t229 t233 t237 bt241.1 bt245.1 true) else (if t237 = bt239.1 then (if (bt241.2 != bt243.2) = true then (laws_FnSquareFree.j0 k l1 t224 t225 t226 t229 t233 t237 bt241.1 bt245.1 true) else (if bt241.1 = bt243.1 then (if (bt245.2 != bt247.2) = true then (laws_FnSquareFree.j0 k l1 t224 t225 t226 t229 t233 t237 bt241.1 bt245.1 true) else (if bt245.1 = bt247.1 then (if (t230 != t226) = true then (laws_FnSquareFree.j0 k l1 t224 t225 t226 t229 t233 t237 bt241.1 bt245.1 true) else (if (t234 != t226) = true then (laws_FnSquareFree.j0 k l1 t224 t225 t226 t229 t233 t237 bt241.1 bt245.1 true) else (if (t238 != t226) = true then (laws_FnSquareFree.j0 k l1 t224 t225 t226 t229 t233 t237 bt241.1 bt245.1 true) else (if (bt241.2 != t226) = true then (laws_FnSquareFree.j0 k l1 t224 t225 t226 t229 t233 t237 bt241.1 bt245.1 true) else (laws_FnSquareFree.j0 k l1 t224 t225 t226 t229 t233 t237 bt241.1 bt245.1 (bt245.2 != t226)))))) else (laws_FnSquareFree.j0 k l1 t224 t225 t226 t229 t233 t237 bt241.1 bt245.1 true))) else (laws_FnSquareFree.j0 k l1 t224 t225 t226 t229 t233 t237 bt241.1 bt245.1 true))) else (laws_FnSquareFree.j0 k l1 t224 t225 t226 t229 t233 t237 bt241.1 bt245.1 true))) else (laws_FnSquareFree.j0 k l1 t224 t225 t226 t229 t233 t237 bt241.1 bt245.1 true))) else (laws_FnSquareFree.j0 k l1 t224 t225 t226 t229 t233 t237 bt241.1 bt245.1 true)))))))))) = some r := H
  have A12 := Aside0.mk A120
  clear A120
  replace H := Option.bind_eq_some_iff.mp H
  obtain ⟨⟨t239, t240⟩, A130, H⟩ := H
  replace H : ((impl_CountSquareFree.f k t224).bind fun bt241 => ((spec_CountSquareFree.f k t224).bind fun bt243 => ((impl_NextSquareFree.f k t224).bind fun bt245 => ((spec_NextSquareFree.f k t224).bind fun bt247 => (if (t226 != t228) = true then (laws_FnSquareFree.j0 k l1 t224 t225 t226 t229 t233 t237 bt241.1 bt245.1 true) else (if (t225 != t227) = true then (laws_FnSquareFree.j0 k l1 t224 t225 t226 t229 t233 t237 bt241.1 bt245.1 true) else (if (t230 != t232) = true then (laws_FnSquareFree.j0 k l1 t224 t225 t226 t229 t233 t237 bt241.1 bt245.1 true) else (if t229 = t231 then (if (t234 != t236) = true then (laws_FnSquareFree.j0 k l1 t224 t225 t226 t229 t233 t237 bt241.1 bt245.1 true) else (if t233 = t235 then (if (t238 != t240) = true then (laws_FnSquareFree.j0 k l1 t224 t225 t226 t229 t233 t237 bt241.1 bt245.1 true) else (if t237 = t239 then (if (bt241.2 != bt243.2) = true then (laws_FnSquareFree.j0 k l1 t224 t225 t226 t229 t233 t237 bt241.1 bt245.1 true) else (if bt241.1 = bt243.1 then (if (bt245.2 != bt247.2) = true then (laws_FnSquareFree.j0 k l1 t224 t225 t226 t229 t233 t237 bt241.1 bt245.1 true) else (if bt245.1 = bt247.1 then (if (t230 != t226) = true then (laws_FnSquareFree.j0 k l1 t224 t225 t226 t229 t233 t237 bt241.1 bt245.1 true) else (if (t234 != t226) = true then (laws_FnSquareFree.j0 k l1 t224 t225 t226 t229 t233 t237 bt241.1 bt245.1 true) else (if (t238 != t226) = true then (laws_FnSquareFree.j0 k l1 t224 t225 t226 t229 t233 t237 bt241.1 bt245.1 true) else (if (bt241.2 != t226) = true then (laws_FnSquareFree.j0 k l1 t224 t225 t226 t229 t233 t237 bt241.1 bt245.1 true) else (laws_FnSquareFree.j0 k l1 t224 t225 t226 t229 t233 t237 bt241.1 bt245.1 (bt245.2 != t226)))))) else (laws_FnSquareFree.j0 k l1 t224 t225 t226 t229 t233 t237 bt241.1 bt245.1 true))) else (laws_FnSquareFree.j0 k l1 t224 t225 t226 t229 t233 t237 bt241.1 bt245.1 true))) else (laws_FnSquareFree.j0 k l1 t224 t225 t226 t229 t233 t237 bt241.1 bt245.1 true))) else (laws_FnSquareFree.j0 k l1 t224 t225 t226 t229 t233 t237 bt241.1 bt245.1 true))) else (laws_FnSquareFree.j0 k l1 t224 t225 t226 t229 t233 t237 bt241.1 bt245.1 true))))))))) = some r := H
  have A13 := Aside0.mk A130
  clear A130
  replace H := Option.bind_eq_some_iff.mp H
  obtain ⟨⟨t241, t242⟩, A140, H⟩ := H
  replace H : ((spec_CountSquareFree.f k t224).bind fun bt243 => ((impl_NextSquareFree.f k t224).bind fun bt245 => ((spec_NextSquareFree.f k t224).bind fun bt247 => (if (t226 != t228) = true then (laws_FnSquareFree.j0 k l1 t224 t225 t226 t229 t233 t237 t241 bt245.1 true) else (if (t225 != t227) = true then (laws_FnSquareFree.j0 k l1 t224 t225 t226 t229 t233 t237 t241 bt245.1 true) else (if (t230 != t232) = true then (laws_FnSquareFree.j0 k l1 t224 t225 t226 t229 t233 t237 t241 bt245.1 true) else (if t229 = t231 then (if (t234 != t236) = true then (laws_FnSquareFree.j0 k l1 t224 t225 t226 t229 t233 t237 t241 bt245.1 true) else (if t233 = t235 then (if (t238 != t240) = true then (laws_FnSquareFree.j0 k l1 t224 t225 t226 t229 t233 t237 t241 bt245.1 true) else (if t237 = t239 then (if (t242 != bt243.2) = true then (laws_FnSquareFree.j0 k l1 t224 t225 t226 t229 t233 t237 t241 bt245.1 true) else (if t241 = bt243.1 then (if (bt245.2 != bt247.2) = true then (laws_FnSquareFree.j0 k l1 t224 t225 t226 t229 t233 t237 t241 bt245.1 true) else (if bt245.1 = bt247.1 then (if (t230 != t226) = true then (laws_FnSquareFree.j0 k l1 t224 t225 t226 t229 t233 t237 t241 bt245.1 true) else (if (t234 != t226) = true then (laws_FnSquareFree.j0 k l1 t224 t225 t226 t229 t233 t237 t241 bt245.1 true) else (if (t238 != t226) = true then (laws_FnSquareFree.j0 k l1 t224 t225 t226 t229 t233 t237 t241 bt245.1 true) else (if (t242 != t226) = true then (laws_FnSquareFree.j0 k l1 t224 t225 t226 t229 t233 t237 t241 bt245.1 true) else (laws_FnSquareFree.j0 k l1 t224 t225 t226 t229 t233 t237 t241 bt245.1 (bt245.2 != t226)))))) else (laws_FnSquareFree.j0 k l1 t224 t225 t226 t229 t233 t237 t241 bt245.1 true))) else (laws_FnSquareFree.j0 k l1 t224 t225 t226 t229 t233 t237 t241 bt245.1 true))) else (laws_FnSquareFree.j0 k l1 t224 t225 t226 t229 t233 t237 t241 bt245.1 true))) else (laws_FnSquareFree.j0 k l1 t224 t225 t226 t229 t233 t237 t241 bt245.1 true))) else (laws_FnSquareFree.j0 k l1 t224 t225 t226 t229 t233 t237 t241 bt245.1 true)))))))) = some r := H
  have A14 := Aside0.mk A140
  clear A140
  replace H := Option.bind_eq_some_iff.mp H
  obtain ⟨⟨t243, t244⟩, A150, H⟩ := H
  replace H : ((impl_NextSquareFree.f k t224).bind fun bt245 => ((spec_NextSquareFree.f k t224).bind fun bt247 => (if (t226 != t228) = true then (laws_FnSquareFree.j0 k l1 t224 t225 t226 t229 t233 t237 t241 bt245.1 true) else (if (t225 != t227) = true then (laws_FnSquareFree.j0 k l1 t224 t225 t226 t229 t233 t237 t241 bt245.1 true) else (if (t230 != t232) = true then (laws_FnSquareFree.j0 k l1 t224 t225 t226 t229 t233 t237 t241 bt245.1 true) else (if t229 = t231 then (if (t234 != t236) = true then (laws_FnSquareFree.j0 k l1 t224 t225 t226 t229 t233 t237 t241 bt245.1 true) else (if t233 = t235 then (if (t238 != t240) = true then (laws_FnSquareFree.j0 k l1 t224 t225 t226 t229 t233 t237 t241 bt245.1 true) else (if t237 = t239 then (if (t242 != t244) = true then (laws_FnSquareFree.j0 k l1 t224 t225 t226 t229 t233 t237 t241 bt245.1 true) else (if t241 = t243 then (if (bt245.2 != bt247.2) = true then (laws_FnSquareFree.j0 k l1 t224 t225 t226 t229 t233 t237 t241 bt245.1 true) else (if bt245.1 = bt247.1 then (if (t230 != t226) = true then (laws_FnSquareFree.j0 k l1 t224 t225 t226 t229 t233 t237 t241 bt245.1 true) else (if (t234 != t226) = true then (laws_FnSquareFree.j0 k l1 t224 t225 t226 t229 t233 t237 t241 bt245.1 true) else (if (t238 != t226) = true then (laws_FnSquareFree.j0 k l1 t224 t225 t226 t229 t233 t237 t241 bt245.1 true) else (if (t242 != t226) = true then (laws_FnSquareFree.j0 k l1 t224 t225 t226 t229 t233 t237 t241 bt245.1 true) else (laws_FnSquareFree.j0 k l1 t224 t225 t226 t229 t233 t237 t241 bt245.1 (bt245.2 != t226)))))) else (laws_FnSquareFree.j0 k l1 t224 t225 t226 t229 t233 t237 t241 bt245.1 true))) else (laws_FnSquareFree.j0 k l1 t224 t225 t226 t229 t233 t237 t241 bt245.1 true))) else (laws_FnSquareFree.j0 k l1 t224 t225 t226 t229 t233 t237 t241 bt245.1 true))) else (laws_FnSquareFree.j0 k l1 t224 t225 t226 t229 t233 t237 t241 bt245.1 true))) else (laws_FnSquareFree.j0 k l1 t224 t225 t226 t229 t233 t237 t241 bt245.1 true))))))) = some r := H
  have A15 := Aside0.mk A150
  clear A150
  replace H := Option.bind_eq_some_iff.mp H
  obtain ⟨⟨t245, t246⟩, A160, H⟩ := H
  replace H : ((spec_NextSquareFree.f k t224).bind fun bt247 => (if (t226 != t228) = true then (laws_FnSquareFree.j0 k l1 t224 t225 t226 t229 t233 t237 t241 t245 true) else (if (t225 != t227) = true then (laws_FnSquareFree.j0 k l1 t224 t225 t226 t229 t233 t237 t241 t245 true) else (if (t230 != t232) = true then (laws_FnSquareFree.j0 k l1 t224 t225 t226 t229 t233 t237 t241 t245 true) else (if t229 = t231 then (if (t234 != t236) = true then (laws_FnSquareFree.j0 k l1 t224 t225 t226 t229 t233 t237 t241 t245 true) else (if t233 = t235 then (if (t238 != t240) = true then (laws_FnSquareFree.j0 k l1 t224 t225 t226 t229 t233 t237 t241 t245 true) else (if t237 = t239 then (if (t242 != t244) = true then (laws_FnSquareFree.j0 k l1 t224 t225 t226 t229 t233 t237 t241 t245 true) else (if t241 = t243 then (if (t246 != bt247.2) = true then (laws_FnSquareFree.j0 k l1 t224 t225 t226 t229 t233 t237 t241 t245 true) else (if t245 = bt247.1 then (if (t230 != t226) = true then (laws_FnSquareFree.j0 k l1 t224 t225 t226 t229 t233 t237 t241 t245 true) else (if (t234 != t226) = true then (laws_FnSquareFree.j0 k l1 t224 t225 t226 t229 t233 t237 t241 t245 true) else (if (t238 != t226) = true then (laws_FnSquareFree.j0 k l1 t224 t225 t226 t229 t233 t237 t241 t245 true) else (if (t242 != t226) = true then (laws_FnSquareFree.j0 k l1 t224 t225 t226 t229 t233 t237 t241 t245 true) else (laws_FnSquareFree.j0 k l1 t224 t225 t226 t229 t233 t237 t241 t245 (t246 != t226)))))) else (laws_FnSquareFree.j0 k l1 t224 t225 t226 t229 t233 t237 t241 t245 true))) else (laws_FnSquareFree.j0 k l1 t224 t225 t226 t229 t233 t237 t241 t245 true))) else (laws_FnSquareFree.j0 k l1 t224 t225 t226 t229 t233 t237 t241 t245 true))) else (laws_FnSquareFree.j0 k l1 t224 t225 t226 t229 t233 t237 t241 t245 true))) else (laws_FnSquareFree.j0 k l1 t224 t225 t226 t229 t233 t237 t241 t245 true)))))) = some r := H
  have A16 := Aside0.mk A160
  clear A160
  replace H := Option.bind_eq_some_iff.mp H
  obtain ⟨⟨t247, t248⟩, A170, H⟩ := H
  replace H : (if (t226 != t228) = true then (laws_FnSquareFree.j0 k l1 t224 t225 t226 t229 t233 t237 t241 t245 true) else (if (t225 != t227) = true then (laws_FnSquareFree.j0 k l1 t224 t225 t226 t229 t233 t237 t241 t245 true) else (if (t230 != t232) = true then (laws_FnSquareFree.j0 k l1 t224 t225 t226 t229 t233 t237 t241 t245 true) else (if t229 = t231 then (if (t234 != t236) = true then (laws_FnSquareFree.j0 k l1 t224 t225 t226 t229 t233 t237 t241 t245 true) else (if t233 = t235 then (if (t238 != t240) = true then (laws_FnSquareFree.j0 k l1 t224 t225 t226 t229 t233 t237 t241 t245 true) else (if t237 = t239 then (if (t242 != t244) = true then (laws_FnSquareFree.j0 k l1 t224 t225 t226 t229 t233 t237 t241 t245 true) else (if t241 = t243 then (if (t246 != t248) = true then (laws_FnSquareFree.j0 k l1 t224 t225 t226 t229 t233 t237 t241 t245 true) else (if t245 = t247 then (if (t230 != t226) = true then (laws_FnSquareFree.j0 k l1 t224 t225 t226 t229 t233 t237 t241 t245 true) else (if (t234 != t226) = true then (laws_FnSquareFree.j0 k l1 t224 t225 t226 t229 t233 t237 t241 t245 true) else (if (t238 != t226) = true then (laws_FnSquareFree.j0 k l1 t224 t225 t226 t229 t233 t237 t241 t245 true) else (if (t242 != t226) = true then (laws_FnSquareFree.j0 k l1 t224 t225 t226 t229 t233 t237 t241 t245 true) else (laws_FnSquareFree.j0 k l1 t224 t225 t226 t229 t233 t237 t241 t245 (t246 != t226)))))) else (laws_FnSquareFree.j0 k l1 t224 t225 t226 t229 t233 t237 t241 t245 true))) else (laws_FnSquareFree.j0 k l1 t224 t225 t226 t229 t233 t237 t241 t245 true))) else (laws_FnSquareFree.j0 k l1 t224 t225 t226 t229 t233 t237 t241 t245 true))) else (laws_FnSquareFree.j0 k l1 t224 t225 t226 t229 t233 t237 t241 t245 true))) else (laws_FnSquareFree.j0 k l1 t224 t225 t226 t229 t233 t237 t241 t245 true))))) = some r := H
  have A17 := Aside0.mk A170
  clear A170
  have HC18 := Aside0.mk H
  clear H
  go_enter Try.func4, Try.ntmps4
  go_upto_region 16 with (first | ((with_reducible refine gate_callee (f := 11) rfl ?_); refine goesL_ (some 72) rfl rfl Try.func11 (by kernel_rfl) rfl #[.slice A0 l0.length c0, .slice A1 l1.length c1] rfl (by (try simp only [List.map_toArray, List.map_cons, List.map_nil]); first | done | rfl | (simp only [List.length_drop, List.length_take]; rfl)) ?_; (with_reducible refine (laws_big.calls _ _ l0 _ _ l1 false _ ?side1 ?side2 ?side3 ?side4 A3.out).mono ?_); (case side1 => repeat (first | exact HR0.out | (with_reducible refine Kd.C_alloc ?_ _) | (with_reducible refine Kd.C_drewN ?_ _) | (with_reducible refine Kd.C_drew ?_))); (case side2 => exact HC0.out); (case side3 => repeat (first | exact HR1.out | (with_reducible refine Kd.C_alloc ?_ _) | (with_reducible refine Kd.C_drewN ?_ _) | (with_reducible refine Kd.C_drew ?_))); (case side4 => exact HC1.out); rintro e w' ⟨rfl, ⟨nd, rfl⟩⟩; refine ⟨_, rfl, ?_⟩) | ((with_reducible refine gate_callee (f := 39) rfl ?_); refine goesL_ (some 74) rfl rfl Try.func39 (by kernel_rfl) rfl #[.slice A0 l0.length c0] rfl (by (try simp only [List.map_toArray, List.map_cons, List.map_nil]); first | done | rfl | (simp only [List.length_drop, List.length_take]; rfl)) ?_; (with_reducible refine (spec_DrawIsSquareFree.calls _ _ l0 t224 _ ?side1 ?side2 A5.out).mono ?_); (case side1 => repeat (first | exact HR0.out | (with_reducible refine Kd.C_alloc ?_ _) | (with_reducible refine Kd.C_drewN ?_ _) | (with_reducible refine Kd.C_drew ?_))); (case side2 => exact HC0.out); rintro e w19 ⟨rfl, hb⟩; refine ⟨_, rfl, ?_⟩; have n0_ := Aside0.mk (below_step (by repeat (first | (with_reducible first | exact HB.out | apply below_alloc | apply pw_below_drewN | apply below_drew1))) hb); clear HB; have HB := n0_; clear n0_; (try clear hb)) | ((with_reducible refine gate_callee (f := 40) rfl ?_); refine goesL_ (some 77) rfl rfl Try.func40 (by kernel_rfl) rfl #[.int .i64 t224] rfl (by (try simp only [List.map_toArray, List.map_cons, List.map_nil]); first | done | rfl | (simp only [List.length_drop, List.length_take]; rfl)) ?_; (with_reducible refine (impl_IsSquareFree.calls k t224 t225 t226 _ A6.out).mono ?_); rintro e w20 ⟨rfl, hb⟩; refine ⟨_, rfl, ?_⟩; have n0_ := Aside0.mk (below_step (by repeat (first | (with_reducible first | exact HB.out | apply below_alloc | apply pw_below_drewN | apply below_drew1))) hb); clear HB; have HB := n0_; clear n0_; (try clear hb)) | ((with_reducible refine gate_callee (f := 41) rfl ?_); refine goesL_ (some 82) rfl rfl Try.func41 (by kernel_rfl) rfl #[.int .i64 t224] rfl (by (try simp only [List.map_toArray, List.map_cons, List.map_nil]); first | done | rfl | (simp only [List.length_drop, List.length_take]; rfl)) ?_; (with_reducible refine (spec_IsSquareFree.calls k t224 t227 t228 _ A7.out).mono ?_); rintro e w' ⟨rfl, ⟨nd, rfl⟩⟩; refine ⟨_, rfl, ?_⟩) | ((with_reducible refine gate_callee (f := 42) rfl ?_); refine goesL_ (some 87) rfl rfl Try.func42 (by kernel_rfl) rfl #[.int .i64 t224] rfl (by (try simp only [List.map_toArray, List.map_cons, List.map_nil]); first | done | rfl | (simp only [List.length_drop, List.length_take]; rfl)) ?_; (with_reducible refine (impl_SquarePart.calls k t224 t229 t230 _ A8.out).mono ?_); rintro e w' ⟨rfl, ⟨nd, rfl⟩⟩; refine ⟨_, rfl, ?_⟩) | ((with_reducible refine gate_callee (f := 43) rfl ?_); refine goesL_ (some 92) rfl rfl Try.func43 (by kernel_rfl) rfl #[.int .i64 t224] rfl (by (try simp only [List.map_toArray, List.map_cons, List.map_nil]); first | done | rfl | (simp only [List.length_drop, List.length_take]; rfl)) ?_; (with_reducible refine (spec_SquarePart.calls k t224 t231 t232 _ A9.out).mono ?_); rintro e w' ⟨rfl, ⟨nd, rfl⟩⟩; refine ⟨_, rfl, ?_⟩) | ((with_reducible refine gate_callee (f := 44) rfl ?_); refine goesL_ (some 97) rfl rfl Try.func44 (by kernel_rfl) rfl #[.int .i64 t224] rfl (by (try simp only [List.map_toArray, List.map_cons, List.map_nil]); first | done | rfl | (simp only [List.length_drop, List.length_take]; rfl)) ?_; (with_reducible refine (impl_KernelOf.calls k t224 t233 t234 _ A10.out).mono ?_); rintro e w21 ⟨rfl, hb⟩; refine ⟨_, rfl, ?_⟩; have n0_ := Aside0.mk (below_step (by repeat (first | (with_reducible first | exact HB.out | apply below_alloc | apply pw_below_drewN | apply below_drew1))) hb); clear HB; have HB := n0_; clear n0_; (try clear hb)) | ((with_reducible refine gate_callee (f := 45) rfl ?_); refine goesL_ (some 102) rfl rfl Try.func45 (by kernel_rfl) rfl #[.int .i64 t224] rfl (by (try simp only [List.map_toArray, List.map_cons, List.map_nil]); first | done | rfl | (simp only [List.length_drop, List.length_take]; rfl)) ?_; (with_reducible refine (spec_KernelOf.calls k t224 t235 t236 _ A11.out).mono ?_); rintro e w' ⟨rfl, ⟨nd, rfl⟩⟩; refine ⟨_, rfl, ?_⟩) | ((with_reducible refine gate_callee (f := 46) rfl ?_); refine goesL_ (some 107) rfl rfl Try.func46 (by kernel_rfl) rfl #[.int .i64 t224] rfl (by (try simp only [List.map_toArray, List.map_cons, List.map_nil]); first | done | rfl | (simp only [List.length_drop, List.length_take]; rfl)) ?_; (with_reducible refine (impl_FreeSign.calls k t224 t237 t238 _ A12.out).mono ?_); rintro e w22 ⟨rfl, hb⟩; refine ⟨_, rfl, ?_⟩; have n0_ := Aside0.mk (below_step (by repeat (first | (with_reducible first | exact HB.out | apply below_alloc | apply pw_below_drewN | apply below_drew1))) hb); clear HB; have HB := n0_; clear n0_; (try clear hb)) | ((with_reducible refine gate_callee (f := 47) rfl ?_); refine goesL_ (some 112) rfl rfl Try.func47 (by kernel_rfl) rfl #[.int .i64 t224] rfl (by (try simp only [List.map_toArray, List.map_cons, List.map_nil]); first | done | rfl | (simp only [List.length_drop, List.length_take]; rfl)) ?_; (with_reducible refine (spec_FreeSign.calls k t224 t239 t240 _ A13.out).mono ?_); rintro e w' ⟨rfl, ⟨nd, rfl⟩⟩; refine ⟨_, rfl, ?_⟩) | ((with_reducible refine gate_callee (f := 48) rfl ?_); refine goesL_ (some 117) rfl rfl Try.func48 (by kernel_rfl) rfl #[.int .i64 t224] rfl (by (try simp only [List.map_toArray, List.map_cons, List.map_nil]); first | done | rfl | (simp only [List.length_drop, List.length_take]; rfl)) ?_; (with_reducible refine (impl_CountSquareFree.calls k t224 t241 t242 _ A14.out).mono ?_); rintro e w23 ⟨rfl, hb⟩; refine ⟨_, rfl, ?_⟩; have n0_ := Aside0.mk (below_step (by repeat (first | (with_reducible first | exact HB.out | apply below_alloc | apply pw_below_drewN | apply below_drew1))) hb); clear HB; have HB := n0_; clear n0_; (try clear hb)) | ((with_reducible refine gate_callee (f := 49) rfl ?_); refine goesL_ (some 122) rfl rfl Try.func49 (by kernel_rfl) rfl #[.int .i64 t224] rfl (by (try simp only [List.map_toArray, List.map_cons, List.map_nil]); first | done | rfl | (simp only [List.length_drop, List.length_take]; rfl)) ?_; (with_reducible refine (spec_CountSquareFree.calls k t224 t243 t244 _ A15.out).mono ?_); rintro e w' ⟨rfl, ⟨nd, rfl⟩⟩; refine ⟨_, rfl, ?_⟩) | ((with_reducible refine gate_callee (f := 50) rfl ?_); refine goesL_ (some 127) rfl rfl Try.func50 (by kernel_rfl) rfl #[.int .i64 t224] rfl (by (try simp only [List.map_toArray, List.map_cons, List.map_nil]); first | done | rfl | (simp only [List.length_drop, List.length_take]; rfl)) ?_; (with_reducible refine (impl_NextSquareFree.calls k t224 t245 t246 _ A16.out).mono ?_); rintro e w24 ⟨rfl, hb⟩; refine ⟨_, rfl, ?_⟩; have n0_ := Aside0.mk (below_step (by repeat (first | (with_reducible first | exact HB.out | apply below_alloc | apply pw_below_drewN | apply below_drew1))) hb); clear HB; have HB := n0_; clear n0_; (try clear hb)) | ((with_reducible refine gate_callee (f := 51) rfl ?_); refine goesL_ (some 132) rfl rfl Try.func51 (by kernel_rfl) rfl #[.int .i64 t224] rfl (by (try simp only [List.map_toArray, List.map_cons, List.map_nil]); first | done | rfl | (simp only [List.length_drop, List.length_take]; rfl)) ?_; (with_reducible refine (spec_NextSquareFree.calls k t224 t247 t248 _ A17.out).mono ?_); rintro e w' ⟨rfl, ⟨nd, rfl⟩⟩; refine ⟨_, rfl, ?_⟩))
  (try simp only [Act.put, List.setIfInBounds_toArray, List.set_cons_zero, List.set_cons_succ])
  refine cutF mk0 [] (fun u_ wc => ∃ (kq : Nat) (x217_17 : Bool), (u_ 217) = .bool x217_17 ∧ Aside0 (laws_FnSquareFree.j0 kq l1 t224 t225 t226 t229 t233 t237 t241 t245 x217_17 = some r) ∧ Aside0 (kq ≤ k) ∧ Aside0 (Below w.heap.size w wc)) ?_ ?_
  ·
   as_aux_lemma =>
    intro J_ K_ hJ_ hK_
    have H := HC18.out
    clear HC18
    by_cases c25 : (t226 != t228) = true
    ·
     rw [if_pos c25] at H
     exact (laws_FnSquareFree.j0_no _ _ _ _ _ _ _ _ _ _ (H.trans (congrArg some HRT.out))).elim
    ·
     rw [if_neg c25] at H
     have c25b0 : (t226 != t228) = false := by simpa using c25
     (try (have c25b1 : decide (t226 = t228) = true := by simpa using c25))
     (try (have c25b2 : (t226 == t228) = true := by simpa using c25))
     clear c25
     (first | rw [c25b0] | (simp only [i64_w, i32_w]; rw [c25b0]) | skip)
     by_cases c26 : (t225 != t227) = true
     ·
      rw [if_pos c26] at H
      exact (laws_FnSquareFree.j0_no _ _ _ _ _ _ _ _ _ _ (H.trans (congrArg some HRT.out))).elim
     ·
      rw [if_neg c26] at H
      have c26b0 : (t225 != t227) = false := by simpa using c26
      (try (have c26b1 : decide (t225 = t227) = true := by simpa using c26))
      (try (have c26b2 : (t225 == t227) = true := by simpa using c26))
      clear c26
      by_cases c27 : (t230 != t232) = true
      ·
       rw [if_pos c27] at H
       exact (laws_FnSquareFree.j0_no _ _ _ _ _ _ _ _ _ _ (H.trans (congrArg some HRT.out))).elim
      ·
       rw [if_neg c27] at H
       have c27b0 : (t230 != t232) = false := by simpa using c27
       (try (have c27b1 : decide (t230 = t232) = true := by simpa using c27))
       (try (have c27b2 : (t230 == t232) = true := by simpa using c27))
       clear c27
       by_cases c28 : t229 = t231
       ·
        rw [if_pos c28] at H
        have c28b0 : (t229 == t231) = true := beq_iff_eq.mpr c28
        have c28b1 : (t229 != t231) = false := bne_eq_false_iff_eq.mpr c28
        clear c28
        by_cases c29 : (t234 != t236) = true
        ·
         rw [if_pos c29] at H
         exact (laws_FnSquareFree.j0_no _ _ _ _ _ _ _ _ _ _ (H.trans (congrArg some HRT.out))).elim
        ·
         rw [if_neg c29] at H
         have c29b0 : (t234 != t236) = false := by simpa using c29
         (try (have c29b1 : decide (t234 = t236) = true := by simpa using c29))
         (try (have c29b2 : (t234 == t236) = true := by simpa using c29))
         clear c29
         by_cases c30 : t233 = t235
         ·
          rw [if_pos c30] at H
          have c30b0 : (t233 == t235) = true := beq_iff_eq.mpr c30
          have c30b1 : (t233 != t235) = false := bne_eq_false_iff_eq.mpr c30
          clear c30
          by_cases c31 : (t238 != t240) = true
          ·
           rw [if_pos c31] at H
           exact (laws_FnSquareFree.j0_no _ _ _ _ _ _ _ _ _ _ (H.trans (congrArg some HRT.out))).elim
          ·
           rw [if_neg c31] at H
           have c31b0 : (t238 != t240) = false := by simpa using c31
           (try (have c31b1 : decide (t238 = t240) = true := by simpa using c31))
           (try (have c31b2 : (t238 == t240) = true := by simpa using c31))
           clear c31
           by_cases c32 : t237 = t239
           ·
            rw [if_pos c32] at H
            have c32b0 : (t237 == t239) = true := beq_iff_eq.mpr c32
            have c32b1 : (t237 != t239) = false := bne_eq_false_iff_eq.mpr c32
            clear c32
            by_cases c33 : (t242 != t244) = true
            ·
             rw [if_pos c33] at H
             exact (laws_FnSquareFree.j0_no _ _ _ _ _ _ _ _ _ _ (H.trans (congrArg some HRT.out))).elim
            ·
             rw [if_neg c33] at H
             have c33b0 : (t242 != t244) = false := by simpa using c33
             (try (have c33b1 : decide (t242 = t244) = true := by simpa using c33))
             (try (have c33b2 : (t242 == t244) = true := by simpa using c33))
             clear c33
             by_cases c34 : t241 = t243
             ·
              rw [if_pos c34] at H
              have c34b0 : (t241 == t243) = true := beq_iff_eq.mpr c34
              have c34b1 : (t241 != t243) = false := bne_eq_false_iff_eq.mpr c34
              clear c34
              by_cases c35 : (t246 != t248) = true
              ·
               rw [if_pos c35] at H
               exact (laws_FnSquareFree.j0_no _ _ _ _ _ _ _ _ _ _ (H.trans (congrArg some HRT.out))).elim
              ·
               rw [if_neg c35] at H
               have c35b0 : (t246 != t248) = false := by simpa using c35
               (try (have c35b1 : decide (t246 = t248) = true := by simpa using c35))
               (try (have c35b2 : (t246 == t248) = true := by simpa using c35))
               clear c35
               by_cases c36 : t245 = t247
               ·
                rw [if_pos c36] at H
                have c36b0 : (t245 == t247) = true := beq_iff_eq.mpr c36
                have c36b1 : (t245 != t247) = false := bne_eq_false_iff_eq.mpr c36
                clear c36
                by_cases c37 : (t230 != t226) = true
                ·
                 rw [if_pos c37] at H
                 exact (laws_FnSquareFree.j0_no _ _ _ _ _ _ _ _ _ _ (H.trans (congrArg some HRT.out))).elim
                ·
                 rw [if_neg c37] at H
                 have c37b0 : (t230 != t226) = false := by simpa using c37
                 (try (have c37b1 : decide (t230 = t226) = true := by simpa using c37))
                 (try (have c37b2 : (t230 == t226) = true := by simpa using c37))
                 clear c37
                 by_cases c38 : (t234 != t226) = true
                 ·
                  rw [if_pos c38] at H
                  exact (laws_FnSquareFree.j0_no _ _ _ _ _ _ _ _ _ _ (H.trans (congrArg some HRT.out))).elim
                 ·
                  rw [if_neg c38] at H
                  have c38b0 : (t234 != t226) = false := by simpa using c38
                  (try (have c38b1 : decide (t234 = t226) = true := by simpa using c38))
                  (try (have c38b2 : (t234 == t226) = true := by simpa using c38))
                  clear c38
                  by_cases c39 : (t238 != t226) = true
                  ·
                   rw [if_pos c39] at H
                   exact (laws_FnSquareFree.j0_no _ _ _ _ _ _ _ _ _ _ (H.trans (congrArg some HRT.out))).elim
                  ·
                   rw [if_neg c39] at H
                   have c39b0 : (t238 != t226) = false := by simpa using c39
                   (try (have c39b1 : decide (t238 = t226) = true := by simpa using c39))
                   (try (have c39b2 : (t238 == t226) = true := by simpa using c39))
                   clear c39
                   by_cases c40 : (t242 != t226) = true
                   ·
                    rw [if_pos c40] at H
                    exact (laws_FnSquareFree.j0_no _ _ _ _ _ _ _ _ _ _ (H.trans (congrArg some HRT.out))).elim
                   ·
                    rw [if_neg c40] at H
                    have c40b0 : (t242 != t226) = false := by simpa using c40
                    (try (have c40b1 : decide (t242 = t226) = true := by simpa using c40))
                    (try (have c40b2 : (t242 == t226) = true := by simpa using c40))
                    clear c40
                    have H' := Aside0.mk H
                    clear H
                    go_wp2
                    refine cutMeet hJ_ ?_ (by kernel_rfl)
                    exact ⟨_, ((t246 != t226)), (by first | rfl | (simp; done) | (simp [*]; done)), H', ⟨by first | omega | exact Nat.le_refl _⟩, ⟨by repeat (first | (with_reducible first | exact HB.out | apply below_alloc | apply pw_below_drewN | apply below_drew1))⟩⟩
               ·
                rw [if_neg c36] at H
                exact (laws_FnSquareFree.j0_no _ _ _ _ _ _ _ _ _ _ (H.trans (congrArg some HRT.out))).elim
             ·
              rw [if_neg c34] at H
              exact (laws_FnSquareFree.j0_no _ _ _ _ _ _ _ _ _ _ (H.trans (congrArg some HRT.out))).elim
           ·
            rw [if_neg c32] at H
            exact (laws_FnSquareFree.j0_no _ _ _ _ _ _ _ _ _ _ (H.trans (congrArg some HRT.out))).elim
         ·
          rw [if_neg c30] at H
          exact (laws_FnSquareFree.j0_no _ _ _ _ _ _ _ _ _ _ (H.trans (congrArg some HRT.out))).elim
       ·
        rw [if_neg c28] at H
        exact (laws_FnSquareFree.j0_no _ _ _ _ _ _ _ _ _ _ (H.trans (congrArg some HRT.out))).elim
  ·
   intro u_ wc hcut
   clear HC18
   obtain ⟨kq, x217_17, e_217, HA, HJ17, HB⟩ := hcut
   dsimp only [cutFgt, mk0]
   rw [e_217]
   cases kq with
   | zero => exact absurd HA.out (by simp [laws_FnSquareFree.j0])
   | succ kj17 =>
    have H := HA.out
    clear HA
    simp only [laws_FnSquareFree.j0] at H
    by_cases c41 : x217_17 = true
    ·
     subst c41
     have H1 : (some false) = some r := by rw [if_pos rfl] at H; exact H
     clear H
     have H := H1
     clear H1
     first
     | exact absurd (Option.some.inj (H.trans (congrArg some HRT.out))) Bool.false_ne_true
     |
      obtain rfl := Option.some.inj H
      go_wp2
      go_ret
      exact ⟨by first | rfl | (simp [errW_none, errW_some] <;> rfl) | (simp [*, errW_none, errW_some] <;> rfl), by repeat (first | (with_reducible first | exact HB.out | apply below_alloc | apply pw_below_drewN | apply below_drew1))⟩
    ·
     replace c41 := Bool.eq_false_iff.mpr c41
     subst c41
     have H1 : (if t226 = true then (if (t225 != (t229 == 1)) = true then (laws_FnSquareFree.j1 kj17 l1 t224 t229 t233 t237 t241 t245 true) else (if (t225 != (t233 == t224)) = true then (laws_FnSquareFree.j1 kj17 l1 t224 t229 t233 t237 t241 t245 true) else (if (t225 != (t237 != 0)) = true then (laws_FnSquareFree.j1 kj17 l1 t224 t229 t233 t237 t241 t245 true) else (if (wrap64 (t229 * t229)) = 0 then (none) else (if (Int.tmod t224 (wrap64 (t229 * t229))) = 0 then (if t233 = 0 then (none) else (if (Int.tmod t224 t233) = 0 then (if t237 < (-1) then (laws_FnSquareFree.j1 kj17 l1 t224 t229 t233 t237 t241 t245 true) else (if t237 > 1 then (laws_FnSquareFree.j1 kj17 l1 t224 t229 t233 t237 t241 t245 true) else (laws_FnSquareFree.j1 kj17 l1 t224 t229 t233 t237 t241 t245 (decide (t245 ≤ t224))))) else (laws_FnSquareFree.j1 kj17 l1 t224 t229 t233 t237 t241 t245 true))) else (laws_FnSquareFree.j1 kj17 l1 t224 t229 t233 t237 t241 t245 true)))))) else (laws_FnSquareFree.j6 kj17 l1)) = some r := by rw [if_neg (show ¬ (false = true) by decide)] at H; exact H
     clear H
     have H := H1
     clear H1
     have HC42 := Aside0.mk H
     clear H
     go_upto_if 218 with (fail)
     refine cutF mk0 [none, none, none, none, some 4, none, none, none, none, none, none, none, none, none, none, none, none, none, none, none, none, none, none, none, none, none, none, none, none, none, some 30, some 31, some 32, some 33, some 34, some 35, some 36, some 37, some 38, some 39, some 40, some 41, some 42] (fun u_ wc => ∃ (kq : Nat), Aside0 (laws_FnSquareFree.j6 kq l1 = some r) ∧ Aside0 (kq ≤ kj17) ∧ Aside0 (Below w.heap.size w wc)) ?_ ?_
     ·
      as_aux_lemma =>
       intro J_ K_ hJ_ hK_
       have H := HC42.out
       clear HC42
       by_cases c43 : t226 = true
       ·
        subst c43
        have H1 : (if (t225 != (t229 == 1)) = true then (laws_FnSquareFree.j1 kj17 l1 t224 t229 t233 t237 t241 t245 true) else (if (t225 != (t233 == t224)) = true then (laws_FnSquareFree.j1 kj17 l1 t224 t229 t233 t237 t241 t245 true) else (if (t225 != (t237 != 0)) = true then (laws_FnSquareFree.j1 kj17 l1 t224 t229 t233 t237 t241 t245 true) else (if (wrap64 (t229 * t229)) = 0 then (none) else (if (Int.tmod t224 (wrap64 (t229 * t229))) = 0 then (if t233 = 0 then (none) else (if (Int.tmod t224 t233) = 0 then (if t237 < (-1) then (laws_FnSquareFree.j1 kj17 l1 t224 t229 t233 t237 t241 t245 true) else (if t237 > 1 then (laws_FnSquareFree.j1 kj17 l1 t224 t229 t233 t237 t241 t245 true) else (laws_FnSquareFree.j1 kj17 l1 t224 t229 t233 t237 t241 t245 (decide (t245 ≤ t224))))) else (laws_FnSquareFree.j1 kj17 l1 t224 t229 t233 t237 t241 t245 true))) else (laws_FnSquareFree.j1 kj17 l1 t224 t229 t233 t237 t241 t245 true)))))) = some r := by rw [if_pos rfl] at H; exact H
        clear H
        have H := H1
        clear H1
        have HC44 := Aside0.mk H
        clear H
        go_upto_region 19 with (fail)
        refine cutF mk0 [] (fun u_ wc => ∃ (kq : Nat) (x262_43 : Bool), (u_ 262) = .bool x262_43 ∧ Aside0 (laws_FnSquareFree.j1 kq l1 t224 t229 t233 t237 t241 t245 x262_43 = some r) ∧ Aside0 (kq ≤ kj17) ∧ Aside0 (Below w.heap.size w wc)) ?_ ?_
        ·
         as_aux_lemma =>
          intro J_ K_ hJ_ hK_
          have H := HC44.out
          clear HC44
          by_cases c45 : (t225 != (t229 == 1)) = true
          ·
           rw [if_pos c45] at H
           exact (laws_FnSquareFree.j1_no _ _ _ _ _ _ _ _ (H.trans (congrArg some HRT.out))).elim
          ·
           rw [if_neg c45] at H
           have c45b0 : (t225 != (t229 == 1)) = false := by simpa using c45
           (try (have c45b1 : decide (t225 = (t229 == 1)) = true := by simpa using c45))
           (try (have c45b2 : (t225 == (t229 == 1)) = true := by simpa using c45))
           clear c45
           (first | rw [c45b0] | (simp only [i64_w, i32_w]; rw [c45b0]) | skip)
           by_cases c46 : (t225 != (t233 == t224)) = true
           ·
            rw [if_pos c46] at H
            exact (laws_FnSquareFree.j1_no _ _ _ _ _ _ _ _ (H.trans (congrArg some HRT.out))).elim
           ·
            rw [if_neg c46] at H
            have c46b0 : (t225 != (t233 == t224)) = false := by simpa using c46
            (try (have c46b1 : decide (t225 = (t233 == t224)) = true := by simpa using c46))
            (try (have c46b2 : (t225 == (t233 == t224)) = true := by simpa using c46))
            clear c46
            by_cases c47 : (t225 != (t237 != 0)) = true
            ·
             rw [if_pos c47] at H
             exact (laws_FnSquareFree.j1_no _ _ _ _ _ _ _ _ (H.trans (congrArg some HRT.out))).elim
            ·
             rw [if_neg c47] at H
             have c47b0 : (t225 != (t237 != 0)) = false := by simpa using c47
             (try (have c47b1 : decide (t225 = (t237 != 0)) = true := by simpa using c47))
             (try (have c47b2 : (t225 == (t237 != 0)) = true := by simpa using c47))
             clear c47
             by_cases c48 : (wrap64 (t229 * t229)) = 0
             ·
              rw [if_pos c48] at H
              exact absurd H (by simp)
             ·
              rw [if_neg c48] at H
              have c48b0 : ((wrap64 (t229 * t229)) == 0) = false := beq_eq_false_iff_ne.mpr c48
              have c48b1 : ((wrap64 (t229 * t229)) != 0) = true := bne_iff_ne.mpr c48
              by_cases c49 : (Int.tmod t224 (wrap64 (t229 * t229))) = 0
              ·
               rw [if_pos c49] at H
               have c49b0 : ((Int.tmod t224 (wrap64 (t229 * t229))) == 0) = true := beq_iff_eq.mpr c49
               have c49b1 : ((Int.tmod t224 (wrap64 (t229 * t229))) != 0) = false := bne_eq_false_iff_eq.mpr c49
               clear c49
               by_cases c50 : t233 = 0
               ·
                rw [if_pos c50] at H
                exact absurd H (by simp)
               ·
                rw [if_neg c50] at H
                have c50b0 : (t233 == 0) = false := beq_eq_false_iff_ne.mpr c50
                have c50b1 : (t233 != 0) = true := bne_iff_ne.mpr c50
                by_cases c51 : (Int.tmod t224 t233) = 0
                ·
                 rw [if_pos c51] at H
                 have c51b0 : ((Int.tmod t224 t233) == 0) = true := beq_iff_eq.mpr c51
                 have c51b1 : ((Int.tmod t224 t233) != 0) = false := bne_eq_false_iff_eq.mpr c51
                 clear c51
                 by_cases c52 : t237 < (-1)
                 ·
                  rw [if_pos c52] at H
                  exact (laws_FnSquareFree.j1_no _ _ _ _ _ _ _ _ (H.trans (congrArg some HRT.out))).elim
                 ·
                  rw [if_neg c52] at H
                  have c52b0 : decide (t237 < (-1)) = false := decide_eq_false c52
                  clear c52
                  by_cases c53 : t237 > 1
                  ·
                   rw [if_pos c53] at H
                   exact (laws_FnSquareFree.j1_no _ _ _ _ _ _ _ _ (H.trans (congrArg some HRT.out))).elim
                  ·
                   rw [if_neg c53] at H
                   have c53b0 : decide (1 < t237) = false := decide_eq_false c53
                   clear c53
                   have H' := Aside0.mk H
                   clear H
                   go_wp2
                   refine cutMeet hJ_ ?_ (by kernel_rfl)
                   exact ⟨_, (decide (t245 ≤ t224)), (by first | rfl | (simp; done) | (simp [*]; done)), H', ⟨by have := HJ17.out; first | omega | exact Nat.le_refl _⟩, ⟨by repeat (first | (with_reducible first | exact HB.out | apply below_alloc | apply pw_below_drewN | apply below_drew1))⟩⟩
                ·
                 rw [if_neg c51] at H
                 exact (laws_FnSquareFree.j1_no _ _ _ _ _ _ _ _ (H.trans (congrArg some HRT.out))).elim
              ·
               rw [if_neg c49] at H
               exact (laws_FnSquareFree.j1_no _ _ _ _ _ _ _ _ (H.trans (congrArg some HRT.out))).elim
        ·
         intro u_ wc hcut
         clear HC44
         obtain ⟨kq, x262_43, e_262, HA, HJ43, HB⟩ := hcut
         dsimp only [cutFgt, mk0]
         rw [e_262]
         cases kq with
         | zero => exact absurd HA.out (by simp [laws_FnSquareFree.j1])
         | succ kj43 =>
          have H := HA.out
          clear HA
          simp only [laws_FnSquareFree.j1] at H
          by_cases c54 : x262_43 = true
          ·
           subst c54
           have H1 : (some false) = some r := by rw [if_pos rfl] at H; exact H
           clear H
           have H := H1
           clear H1
           first
           | exact absurd (Option.some.inj (H.trans (congrArg some HRT.out))) Bool.false_ne_true
           |
            obtain rfl := Option.some.inj H
            go_wp2
            go_ret
            exact ⟨by first | rfl | (simp [errW_none, errW_some] <;> rfl) | (simp [*, errW_none, errW_some] <;> rfl), by repeat (first | (with_reducible first | exact HB.out | apply below_alloc | apply pw_below_drewN | apply below_drew1))⟩
          ·
           replace c54 := Bool.eq_false_iff.mpr c54
           subst c54
           have H1 : (if (wrap64 (t229 * t229)) = 0 then (none) else ((impl_IsSquareFree.f kj43 (wrap64 (Int.tdiv t224 (wrap64 (t229 * t229))))).bind fun bt249 => ((impl_IsSquareFree.f kj43 t233).bind fun bt251 => (if bt249.2 = true then (if bt249.1 = true then (if bt251.2 = true then (laws_FnSquareFree.j2 kj43 l1 t224 t237 t241 t245 (!bt251.1)) else (laws_FnSquareFree.j2 kj43 l1 t224 t237 t241 t245 true)) else (laws_FnSquareFree.j2 kj43 l1 t224 t237 t241 t245 true)) else (laws_FnSquareFree.j2 kj43 l1 t224 t237 t241 t245 true))))) = some r := by rw [if_neg (show ¬ (false = true) by decide)] at H; exact H
           clear H
           have H := H1
           clear H1
           by_cases c55 : (wrap64 (t229 * t229)) = 0
           ·
            rw [if_pos c55] at H
            exact absurd H (by simp)
           ·
            rw [if_neg c55] at H
            have c55b0 : ((wrap64 (t229 * t229)) == 0) = false := beq_eq_false_iff_ne.mpr c55
            have c55b1 : ((wrap64 (t229 * t229)) != 0) = true := bne_iff_ne.mpr c55
            replace H := Option.bind_eq_some_iff.mp H
            obtain ⟨⟨t249, t250⟩, A560, H⟩ := H
            replace H : ((impl_IsSquareFree.f kj43 t233).bind fun bt251 => (if t250 = true then (if t249 = true then (if bt251.2 = true then (laws_FnSquareFree.j2 kj43 l1 t224 t237 t241 t245 (!bt251.1)) else (laws_FnSquareFree.j2 kj43 l1 t224 t237 t241 t245 true)) else (laws_FnSquareFree.j2 kj43 l1 t224 t237 t241 t245 true)) else (laws_FnSquareFree.j2 kj43 l1 t224 t237 t241 t245 true))) = some r := H
            have A56 := Aside0.mk A560
            clear A560
            replace H := Option.bind_eq_some_iff.mp H
            obtain ⟨⟨t251, t252⟩, A570, H⟩ := H
            replace H : (if t250 = true then (if t249 = true then (if t252 = true then (laws_FnSquareFree.j2 kj43 l1 t224 t237 t241 t245 (!t251)) else (laws_FnSquareFree.j2 kj43 l1 t224 t237 t241 t245 true)) else (laws_FnSquareFree.j2 kj43 l1 t224 t237 t241 t245 true)) else (laws_FnSquareFree.j2 kj43 l1 t224 t237 t241 t245 true)) = some r := H
            have A57 := Aside0.mk A570
            clear A570
            have HC58 := Aside0.mk H
            clear H
            go_upto_region 23 with (first | ((with_reducible refine gate_callee (f := 40) rfl ?_); refine goesL_ (some 269) rfl rfl Try.func40 (by kernel_rfl) rfl #[.int .i64 (wrap64 (Int.tdiv t224 (wrap64 (t229 * t229))))] rfl (by (try simp only [List.map_toArray, List.map_cons, List.map_nil]); first | done | rfl | (simp only [List.length_drop, List.length_take]; rfl)) ?_; (with_reducible refine (impl_IsSquareFree.calls kj43 (wrap64 (Int.tdiv t224 (wrap64 (t229 * t229)))) t249 t250 _ A56.out).mono ?_); rintro e w59 ⟨rfl, hb⟩; refine ⟨_, rfl, ?_⟩; have n0_ := Aside0.mk (below_step (by repeat (first | (with_reducible first | exact HB.out | apply below_alloc | apply pw_below_drewN | apply below_drew1))) hb); clear HB; have HB := n0_; clear n0_; (try clear hb)) | ((with_reducible refine gate_callee (f := 40) rfl ?_); refine goesL_ (some 274) rfl rfl Try.func40 (by kernel_rfl) rfl #[.int .i64 t233] rfl (by (try simp only [List.map_toArray, List.map_cons, List.map_nil]); first | done | rfl | (simp only [List.length_drop, List.length_take]; rfl)) ?_; (with_reducible refine (impl_IsSquareFree.calls kj43 t233 t251 t252 _ A57.out).mono ?_); rintro e w60 ⟨rfl, hb⟩; refine ⟨_, rfl, ?_⟩; have n0_ := Aside0.mk (below_step (by repeat (first | (with_reducible first | exact HB.out | apply below_alloc | apply pw_below_drewN | apply below_drew1))) hb); clear HB; have HB := n0_; clear n0_; (try clear hb)))
            (try simp only [Act.put, List.setIfInBounds_toArray, List.set_cons_zero, List.set_cons_succ])
            refine cutF mk0 [] (fun u_ wc => ∃ (kq : Nat) (x290_57 : Bool), (u_ 290) = .bool x290_57 ∧ Aside0 (laws_FnSquareFree.j2 kq l1 t224 t237 t241 t245 x290_57 = some r) ∧ Aside0 (kq ≤ kj43) ∧ Aside0 (Below w.heap.size w wc)) ?_ ?_
            ·
             as_aux_lemma =>
              intro J_ K_ hJ_ hK_
              have H := HC58.out
              clear HC58
              by_cases c61 : t250 = true
              ·
               subst c61
               have H1 : (if t249 = true then (if t252 = true then (laws_FnSquareFree.j2 kj43 l1 t224 t237 t241 t245 (!t251)) else (laws_FnSquareFree.j2 kj43 l1 t224 t237 t241 t245 true)) else (laws_FnSquareFree.j2 kj43 l1 t224 t237 t241 t245 true)) = some r := by rw [if_pos rfl] at H; exact H
               clear H
               have H := H1
               clear H1
               by_cases c62 : t249 = true
               ·
                subst c62
                have H1 : (if t252 = true then (laws_FnSquareFree.j2 kj43 l1 t224 t237 t241 t245 (!t251)) else (laws_FnSquareFree.j2 kj43 l1 t224 t237 t241 t245 true)) = some r := by rw [if_pos rfl] at H; exact H
                clear H
                have H := H1
                clear H1
                by_cases c63 : t252 = true
                ·
                 subst c63
                 have H1 : (laws_FnSquareFree.j2 kj43 l1 t224 t237 t241 t245 (!t251)) = some r := by rw [if_pos rfl] at H; exact H
                 clear H
                 have H := H1
                 clear H1
                 have H' := Aside0.mk H
                 clear H
                 go_wp2
                 refine cutMeet hJ_ ?_ (by kernel_rfl)
                 exact ⟨_, (!t251), (by first | rfl | (simp; done) | (simp [*]; done)), H', ⟨by have := HJ17.out; have := HJ43.out; first | omega | exact Nat.le_refl _⟩, ⟨by repeat (first | (with_reducible first | exact HB.out | apply below_alloc | apply pw_below_drewN | apply below_drew1))⟩⟩
                ·
                 replace c63 := Bool.eq_false_iff.mpr c63
                 subst c63
                 have H1 : (laws_FnSquareFree.j2 kj43 l1 t224 t237 t241 t245 true) = some r := by rw [if_neg (show ¬ (false = true) by decide)] at H; exact H
                 clear H
                 have H := H1
                 clear H1
                 exact (laws_FnSquareFree.j2_no _ _ _ _ _ _ (H.trans (congrArg some HRT.out))).elim
               ·
                replace c62 := Bool.eq_false_iff.mpr c62
                subst c62
                have H1 : (laws_FnSquareFree.j2 kj43 l1 t224 t237 t241 t245 true) = some r := by rw [if_neg (show ¬ (false = true) by decide)] at H; exact H
                clear H
                have H := H1
                clear H1
                exact (laws_FnSquareFree.j2_no _ _ _ _ _ _ (H.trans (congrArg some HRT.out))).elim
              ·
               replace c61 := Bool.eq_false_iff.mpr c61
               subst c61
               have H1 : (laws_FnSquareFree.j2 kj43 l1 t224 t237 t241 t245 true) = some r := by rw [if_neg (show ¬ (false = true) by decide)] at H; exact H
               clear H
               have H := H1
               clear H1
               exact (laws_FnSquareFree.j2_no _ _ _ _ _ _ (H.trans (congrArg some HRT.out))).elim
            ·
             intro u_ wc hcut
             clear HC58
             obtain ⟨kq, x290_57, e_290, HA, HJ57, HB⟩ := hcut
             dsimp only [cutFgt, mk0]
             rw [e_290]
             cases kq with
             | zero => exact absurd HA.out (by simp [laws_FnSquareFree.j2])
             | succ kj57 =>
              have H := HA.out
              clear HA
              simp only [laws_FnSquareFree.j2] at H
              by_cases c64 : x290_57 = true
              ·
               subst c64
               have H1 : (some false) = some r := by rw [if_pos rfl] at H; exact H
               clear H
               have H := H1
               clear H1
               first
               | exact absurd (Option.some.inj (H.trans (congrArg some HRT.out))) Bool.false_ne_true
               |
                obtain rfl := Option.some.inj H
                go_wp2
                go_ret
                exact ⟨by first | rfl | (simp [errW_none, errW_some] <;> rfl) | (simp [*, errW_none, errW_some] <;> rfl), by repeat (first | (with_reducible first | exact HB.out | apply below_alloc | apply pw_below_drewN | apply below_drew1))⟩
              ·
               replace c64 := Bool.eq_false_iff.mpr c64
               subst c64
               have H1 : (if t245 ≤ 100000 then ((impl_IsSquareFree.f kj57 t245).bind fun bt253 => ((impl_CountSquareFree.f kj57 t245).bind fun bt255 => (if bt253.2 = true then (if bt253.1 = true then (if bt255.2 = true then (if bt255.1 = (wrap64 (t241 + 1)) then (laws_FnSquareFree.j3 kj57 l1 t224 t237) else (some false)) else (some false)) else (some false)) else (some false)))) else (laws_FnSquareFree.j3 kj57 l1 t224 t237)) = some r := by rw [if_neg (show ¬ (false = true) by decide)] at H; exact H
               clear H
               have H := H1
               clear H1
               have HC65 := Aside0.mk H
               clear H
               go_upto_if 292 with (fail)
               refine cutF mk0 [none, none, none, none, some 4, none, none, none, none, none, none, none, none, none, none, none, none, none, none, none, none, none, none, none, none, none, none, none, none, none, none, none, none, none, some 34, some 35, some 36, some 37] (fun u_ wc => ∃ (kq : Nat), Aside0 (laws_FnSquareFree.j3 kq l1 t224 t237 = some r) ∧ Aside0 (kq ≤ kj57) ∧ Aside0 (Below w.heap.size w wc)) ?_ ?_
               ·
                as_aux_lemma =>
                 intro J_ K_ hJ_ hK_
                 have H := HC65.out
                 clear HC65
                 by_cases c66 : t245 ≤ 100000
                 ·
                  rw [if_pos c66] at H
                  have c66b0 : decide (t245 ≤ 100000) = true := decide_eq_true c66
                  clear c66
                  (first | rw [c66b0] | (simp only [i64_w, i32_w]; rw [c66b0]) | skip)
                  replace H := Option.bind_eq_some_iff.mp H
                  obtain ⟨⟨t253, t254⟩, A670, H⟩ := H
                  replace H : ((impl_CountSquareFree.f kj57 t245).bind fun bt255 => (if t254 = true then (if t253 = true then (if bt255.2 = true then (if bt255.1 = (wrap64 (t241 + 1)) then (laws_FnSquareFree.j3 kj57 l1 t224 t237) else (some false)) else (some false)) else (some false)) else (some false))) = some r := H
                  have A67 := Aside0.mk A670
                  clear A670
                  replace H := Option.bind_eq_some_iff.mp H
                  obtain ⟨⟨t255, t256⟩, A680, H⟩ := H
                  replace H : (if t254 = true then (if t253 = true then (if t256 = true then (if t255 = (wrap64 (t241 + 1)) then (laws_FnSquareFree.j3 kj57 l1 t224 t237) else (some false)) else (some false)) else (some false)) else (some false)) = some r := H
                  have A68 := Aside0.mk A680
                  clear A680
                  by_cases c69 : t254 = true
                  ·
                   subst c69
                   have H1 : (if t253 = true then (if t256 = true then (if t255 = (wrap64 (t241 + 1)) then (laws_FnSquareFree.j3 kj57 l1 t224 t237) else (some false)) else (some false)) else (some false)) = some r := by rw [if_pos rfl] at H; exact H
                   clear H
                   have H := H1
                   clear H1
                   by_cases c70 : t253 = true
                   ·
                    subst c70
                    have H1 : (if t256 = true then (if t255 = (wrap64 (t241 + 1)) then (laws_FnSquareFree.j3 kj57 l1 t224 t237) else (some false)) else (some false)) = some r := by rw [if_pos rfl] at H; exact H
                    clear H
                    have H := H1
                    clear H1
                    by_cases c71 : t256 = true
                    ·
                     subst c71
                     have H1 : (if t255 = (wrap64 (t241 + 1)) then (laws_FnSquareFree.j3 kj57 l1 t224 t237) else (some false)) = some r := by rw [if_pos rfl] at H; exact H
                     clear H
                     have H := H1
                     clear H1
                     by_cases c72 : t255 = (wrap64 (t241 + 1))
                     ·
                      rw [if_pos c72] at H
                      have c72b0 : (t255 == (wrap64 (t241 + 1))) = true := beq_iff_eq.mpr c72
                      have c72b1 : (t255 != (wrap64 (t241 + 1))) = false := bne_eq_false_iff_eq.mpr c72
                      clear c72
                      have H' := Aside0.mk H
                      clear H
                      go_wp2_with (first | ((with_reducible refine gate_callee (f := 40) rfl ?_); refine goesL_ (some 295) rfl rfl Try.func40 (by kernel_rfl) rfl #[.int .i64 t245] rfl (by (try simp only [List.map_toArray, List.map_cons, List.map_nil]); first | done | rfl | (simp only [List.length_drop, List.length_take]; rfl)) ?_; (with_reducible refine (impl_IsSquareFree.calls kj57 t245 true true _ A67.out).mono ?_); rintro e w73 ⟨rfl, hb⟩; refine ⟨_, rfl, ?_⟩; have n0_ := Aside0.mk (below_step (by repeat (first | (with_reducible first | exact HB.out | apply below_alloc | apply pw_below_drewN | apply below_drew1))) hb); clear HB; have HB := n0_; clear n0_; (try clear hb)) | ((with_reducible refine gate_callee (f := 48) rfl ?_); refine goesL_ (some 300) rfl rfl Try.func48 (by kernel_rfl) rfl #[.int .i64 t245] rfl (by (try simp only [List.map_toArray, List.map_cons, List.map_nil]); first | done | rfl | (simp only [List.length_drop, List.length_take]; rfl)) ?_; (with_reducible refine (impl_CountSquareFree.calls kj57 t245 t255 true _ A68.out).mono ?_); rintro e w74 ⟨rfl, hb⟩; refine ⟨_, rfl, ?_⟩; have n0_ := Aside0.mk (below_step (by repeat (first | (with_reducible first | exact HB.out | apply below_alloc | apply pw_below_drewN | apply below_drew1))) hb); clear HB; have HB := n0_; clear n0_; (try clear hb)))
                      refine cutMeet hJ_ ?_ (by kernel_rfl)
                      exact ⟨_, H', ⟨by have := HJ17.out; have := HJ43.out; have := HJ57.out; first | omega | exact Nat.le_refl _⟩, ⟨by repeat (first | (with_reducible first | exact HB.out | apply below_alloc | apply pw_below_drewN | apply below_drew1))⟩⟩
                     ·
                      rw [if_neg c72] at H
                      have c72b0 : (t255 == (wrap64 (t241 + 1))) = false := beq_eq_false_iff_ne.mpr c72
                      have c72b1 : (t255 != (wrap64 (t241 + 1))) = true := bne_iff_ne.mpr c72
                      first
                      | exact absurd (Option.some.inj (H.trans (congrArg some HRT.out))) Bool.false_ne_true
                      |
                       obtain rfl := Option.some.inj H
                       go_wp2_with (first | ((with_reducible refine gate_callee (f := 40) rfl ?_); refine goesL_ (some 295) rfl rfl Try.func40 (by kernel_rfl) rfl #[.int .i64 t245] rfl (by (try simp only [List.map_toArray, List.map_cons, List.map_nil]); first | done | rfl | (simp only [List.length_drop, List.length_take]; rfl)) ?_; (with_reducible refine (impl_IsSquareFree.calls kj57 t245 true true _ A67.out).mono ?_); rintro e w75 ⟨rfl, hb⟩; refine ⟨_, rfl, ?_⟩; have n0_ := Aside0.mk (below_step (by repeat (first | (with_reducible first | exact HB.out | apply below_alloc | apply pw_below_drewN | apply below_drew1))) hb); clear HB; have HB := n0_; clear n0_; (try clear hb)) | ((with_reducible refine gate_callee (f := 48) rfl ?_); refine goesL_ (some 300) rfl rfl Try.func48 (by kernel_rfl) rfl #[.int .i64 t245] rfl (by (try simp only [List.map_toArray, List.map_cons, List.map_nil]); first | done | rfl | (simp only [List.length_drop, List.length_take]; rfl)) ?_; (with_reducible refine (impl_CountSquareFree.calls kj57 t245 t255 true _ A68.out).mono ?_); rintro e w76 ⟨rfl, hb⟩; refine ⟨_, rfl, ?_⟩; have n0_ := Aside0.mk (below_step (by repeat (first | (with_reducible first | exact HB.out | apply below_alloc | apply pw_below_drewN | apply below_drew1))) hb); clear HB; have HB := n0_; clear n0_; (try clear hb)))
                       go_ret
                       exact ⟨by first | rfl | (simp [errW_none, errW_some] <;> rfl) | (simp [*, errW_none, errW_some] <;> rfl), by repeat (first | (with_reducible first | exact HB.out | apply below_alloc | apply pw_below_drewN | apply below_drew1))⟩
                    ·
                     replace c71 := Bool.eq_false_iff.mpr c71
                     subst c71
                     have H1 : (some false) = some r := by rw [if_neg (show ¬ (false = true) by decide)] at H; exact H
                     clear H
                     have H := H1
                     clear H1
                     first
                     | exact absurd (Option.some.inj (H.trans (congrArg some HRT.out))) Bool.false_ne_true
                     |
                      obtain rfl := Option.some.inj H
                      go_wp2_with (first | ((with_reducible refine gate_callee (f := 40) rfl ?_); refine goesL_ (some 295) rfl rfl Try.func40 (by kernel_rfl) rfl #[.int .i64 t245] rfl (by (try simp only [List.map_toArray, List.map_cons, List.map_nil]); first | done | rfl | (simp only [List.length_drop, List.length_take]; rfl)) ?_; (with_reducible refine (impl_IsSquareFree.calls kj57 t245 true true _ A67.out).mono ?_); rintro e w77 ⟨rfl, hb⟩; refine ⟨_, rfl, ?_⟩; have n0_ := Aside0.mk (below_step (by repeat (first | (with_reducible first | exact HB.out | apply below_alloc | apply pw_below_drewN | apply below_drew1))) hb); clear HB; have HB := n0_; clear n0_; (try clear hb)) | ((with_reducible refine gate_callee (f := 48) rfl ?_); refine goesL_ (some 300) rfl rfl Try.func48 (by kernel_rfl) rfl #[.int .i64 t245] rfl (by (try simp only [List.map_toArray, List.map_cons, List.map_nil]); first | done | rfl | (simp only [List.length_drop, List.length_take]; rfl)) ?_; (with_reducible refine (impl_CountSquareFree.calls kj57 t245 t255 false _ A68.out).mono ?_); rintro e w78 ⟨rfl, hb⟩; refine ⟨_, rfl, ?_⟩; have n0_ := Aside0.mk (below_step (by repeat (first | (with_reducible first | exact HB.out | apply below_alloc | apply pw_below_drewN | apply below_drew1))) hb); clear HB; have HB := n0_; clear n0_; (try clear hb)))
                      go_ret
                      exact ⟨by first | rfl | (simp [errW_none, errW_some] <;> rfl) | (simp [*, errW_none, errW_some] <;> rfl), by repeat (first | (with_reducible first | exact HB.out | apply below_alloc | apply pw_below_drewN | apply below_drew1))⟩
                   ·
                    replace c70 := Bool.eq_false_iff.mpr c70
                    subst c70
                    have H1 : (some false) = some r := by rw [if_neg (show ¬ (false = true) by decide)] at H; exact H
                    clear H
                    have H := H1
                    clear H1
                    first
                    | exact absurd (Option.some.inj (H.trans (congrArg some HRT.out))) Bool.false_ne_true
                    |
                     obtain rfl := Option.some.inj H
                     go_wp2_with (first | ((with_reducible refine gate_callee (f := 40) rfl ?_); refine goesL_ (some 295) rfl rfl Try.func40 (by kernel_rfl) rfl #[.int .i64 t245] rfl (by (try simp only [List.map_toArray, List.map_cons, List.map_nil]); first | done | rfl | (simp only [List.length_drop, List.length_take]; rfl)) ?_; (with_reducible refine (impl_IsSquareFree.calls kj57 t245 false true _ A67.out).mono ?_); rintro e w79 ⟨rfl, hb⟩; refine ⟨_, rfl, ?_⟩; have n0_ := Aside0.mk (below_step (by repeat (first | (with_reducible first | exact HB.out | apply below_alloc | apply pw_below_drewN | apply below_drew1))) hb); clear HB; have HB := n0_; clear n0_; (try clear hb)) | ((with_reducible refine gate_callee (f := 48) rfl ?_); refine goesL_ (some 300) rfl rfl Try.func48 (by kernel_rfl) rfl #[.int .i64 t245] rfl (by (try simp only [List.map_toArray, List.map_cons, List.map_nil]); first | done | rfl | (simp only [List.length_drop, List.length_take]; rfl)) ?_; (with_reducible refine (impl_CountSquareFree.calls kj57 t245 t255 t256 _ A68.out).mono ?_); rintro e w80 ⟨rfl, hb⟩; refine ⟨_, rfl, ?_⟩; have n0_ := Aside0.mk (below_step (by repeat (first | (with_reducible first | exact HB.out | apply below_alloc | apply pw_below_drewN | apply below_drew1))) hb); clear HB; have HB := n0_; clear n0_; (try clear hb)))
                     go_ret
                     exact ⟨by first | rfl | (simp [errW_none, errW_some] <;> rfl) | (simp [*, errW_none, errW_some] <;> rfl), by repeat (first | (with_reducible first | exact HB.out | apply below_alloc | apply pw_below_drewN | apply below_drew1))⟩
                  ·
                   replace c69 := Bool.eq_false_iff.mpr c69
                   subst c69
                   have H1 : (some false) = some r := by rw [if_neg (show ¬ (false = true) by decide)] at H; exact H
                   clear H
                   have H := H1
                   clear H1
                   first
                   | exact absurd (Option.some.inj (H.trans (congrArg some HRT.out))) Bool.false_ne_true
                   |
                    obtain rfl := Option.some.inj H
                    go_wp2_with (first | ((with_reducible refine gate_callee (f := 40) rfl ?_); refine goesL_ (some 295) rfl rfl Try.func40 (by kernel_rfl) rfl #[.int .i64 t245] rfl (by (try simp only [List.map_toArray, List.map_cons, List.map_nil]); first | done | rfl | (simp only [List.length_drop, List.length_take]; rfl)) ?_; (with_reducible refine (impl_IsSquareFree.calls kj57 t245 t253 false _ A67.out).mono ?_); rintro e w81 ⟨rfl, hb⟩; refine ⟨_, rfl, ?_⟩; have n0_ := Aside0.mk (below_step (by repeat (first | (with_reducible first | exact HB.out | apply below_alloc | apply pw_below_drewN | apply below_drew1))) hb); clear HB; have HB := n0_; clear n0_; (try clear hb)) | ((with_reducible refine gate_callee (f := 48) rfl ?_); refine goesL_ (some 300) rfl rfl Try.func48 (by kernel_rfl) rfl #[.int .i64 t245] rfl (by (try simp only [List.map_toArray, List.map_cons, List.map_nil]); first | done | rfl | (simp only [List.length_drop, List.length_take]; rfl)) ?_; (with_reducible refine (impl_CountSquareFree.calls kj57 t245 t255 t256 _ A68.out).mono ?_); rintro e w82 ⟨rfl, hb⟩; refine ⟨_, rfl, ?_⟩; have n0_ := Aside0.mk (below_step (by repeat (first | (with_reducible first | exact HB.out | apply below_alloc | apply pw_below_drewN | apply below_drew1))) hb); clear HB; have HB := n0_; clear n0_; (try clear hb)))
                    go_ret
                    exact ⟨by first | rfl | (simp [errW_none, errW_some] <;> rfl) | (simp [*, errW_none, errW_some] <;> rfl), by repeat (first | (with_reducible first | exact HB.out | apply below_alloc | apply pw_below_drewN | apply below_drew1))⟩
                 ·
                  rw [if_neg c66] at H
                  have c66b0 : decide (t245 ≤ 100000) = false := decide_eq_false c66
                  clear c66
                  (first | rw [c66b0] | (simp only [i64_w, i32_w]; rw [c66b0]) | skip)
                  have H' := Aside0.mk H
                  clear H
                  go_wp2
                  refine cutMeet hJ_ ?_ (by kernel_rfl)
                  exact ⟨_, H', ⟨by have := HJ17.out; have := HJ43.out; have := HJ57.out; first | omega | exact Nat.le_refl _⟩, ⟨by repeat (first | (with_reducible first | exact HB.out | apply below_alloc | apply pw_below_drewN | apply below_drew1))⟩⟩
               ·
                intro u_ wc hcut
                clear HC65
                obtain ⟨kq, HA, HJ64, HB⟩ := hcut
                dsimp only [cutFgt, mk0]
                cases kq with
                | zero => exact absurd HA.out (by simp [laws_FnSquareFree.j3])
                | succ kj64 =>
                 have H := HA.out
                 clear HA
                 simp only [laws_FnSquareFree.j3] at H
                 have H' := Aside0.mk H
                 clear H
                 go_wp2
                 go_loopg [38] kj64 (fun kq v38 w' => ∃ (x38_5 : Int), v38 = .int .i64 x38_5 ∧ Aside0 (laws_FnSquareFree.l0 kq l1 t224 t237 x38_5 = some r) ∧ Aside0 (kq ≤ kj64) ∧ Aside0 (Below w.heap.size w w'))
                 case atStart => exact ⟨(1), (by first | rfl | (simp; done) | (simp [*]; done)), H', ⟨Nat.le_refl _⟩, ⟨by repeat (first | (with_reducible first | exact HB.out | apply below_alloc | apply pw_below_drewN | apply below_drew1))⟩⟩
                 case round =>
                  clear H'
                  obtain ⟨x38_5, rfl, HA, HK5, HB⟩ := hrel
                  cases gk with
                  | zero => exact absurd HA.out (by simp [laws_FnSquareFree.l0])
                  | succ k5 =>
                   have H := HA.out
                   clear HA
                   simp only [laws_FnSquareFree.l0] at H
                   by_cases c83 : x38_5 ≤ 6
                   ·
                    rw [if_pos c83] at H
                    have c83b0 : decide (x38_5 ≤ 6) = true := decide_eq_true c83
                    clear c83
                    have HC84 := Aside0.mk H
                    clear H
                    go_upto_region 33 with (fail)
                    refine cutF mk1 [] (fun u_ wc => ∃ (kq : Nat) (x332_83 : Bool), (u_ 332) = .bool x332_83 ∧ Aside0 (laws_FnSquareFree.j5 kq l1 t224 t237 x38_5 x332_83 = some r) ∧ Aside0 (kq ≤ k5) ∧ Aside0 (Below w.heap.size w wc)) ?_ ?_
                    ·
                     as_aux_lemma =>
                      intro J_ K_ hJ_ hK_
                      have H := HC84.out
                      clear HC84
                      replace H := Option.bind_eq_some_iff.mp H
                      obtain ⟨t257, A850, H⟩ := H
                      replace H : (if t257 = 1 then (if x38_5 = 0 then (none) else (laws_FnSquareFree.j5 k5 l1 t224 t237 x38_5 (decide (t224 > (wrap64 (Int.tdiv 100000 x38_5)))))) else (laws_FnSquareFree.j5 k5 l1 t224 t237 x38_5 true)) = some r := H
                      have A85 := Aside0.mk A850
                      clear A850
                      by_cases c86 : t257 = 1
                      ·
                       rw [if_pos c86] at H
                       have c86b0 : (t257 == 1) = true := beq_iff_eq.mpr c86
                       have c86b1 : (t257 != 1) = false := bne_eq_false_iff_eq.mpr c86
                       clear c86
                       (first | rw [c86b0] | (simp only [i64_w, i32_w]; rw [c86b0]) | skip)
                       by_cases c87 : x38_5 = 0
                       ·
                        rw [if_pos c87] at H
                        exact absurd H (by simp)
                       ·
                        rw [if_neg c87] at H
                        have c87b0 : (x38_5 == 0) = false := beq_eq_false_iff_ne.mpr c87
                        have c87b1 : (x38_5 != 0) = true := bne_iff_ne.mpr c87
                        have H' := Aside0.mk H
                        clear H
                        go_wp2_with (first | ((with_reducible refine gate_callee (f := 52) rfl ?_); refine goesL_ (some 325) rfl rfl Try.func52 (by kernel_rfl) rfl #[.int .i64 t224, .int .i64 x38_5] rfl (by (try simp only [List.map_toArray, List.map_cons, List.map_nil]); first | done | rfl | (simp only [List.length_drop, List.length_take]; rfl)) ?_; (with_reducible refine (laws_tCommon.calls k5 t224 x38_5 t257 _ A85.out).mono ?_); rintro e w' ⟨rfl, ⟨nd, rfl⟩⟩; refine ⟨_, rfl, ?_⟩))
                        refine cutMeet hJ_ ?_ (by kernel_rfl)
                        exact ⟨_, (decide (t224 > (wrap64 (Int.tdiv 100000 x38_5)))), (by first | rfl | (simp; done) | (simp [*]; done)), H', ⟨by have := HJ17.out; have := HJ43.out; have := HJ57.out; have := HJ64.out; have := HK5.out; first | omega | exact Nat.le_refl _⟩, ⟨by repeat (first | (with_reducible first | exact HB.out | apply below_alloc | apply pw_below_drewN | apply below_drew1))⟩⟩
                      ·
                       rw [if_neg c86] at H
                       have c86b0 : (t257 == 1) = false := beq_eq_false_iff_ne.mpr c86
                       have c86b1 : (t257 != 1) = true := bne_iff_ne.mpr c86
                       (first | rw [c86b0] | (simp only [i64_w, i32_w]; rw [c86b0]) | skip)
                       have H' := Aside0.mk H
                       clear H
                       go_wp2_with (first | ((with_reducible refine gate_callee (f := 52) rfl ?_); refine goesL_ (some 325) rfl rfl Try.func52 (by kernel_rfl) rfl #[.int .i64 t224, .int .i64 x38_5] rfl (by (try simp only [List.map_toArray, List.map_cons, List.map_nil]); first | done | rfl | (simp only [List.length_drop, List.length_take]; rfl)) ?_; (with_reducible refine (laws_tCommon.calls k5 t224 x38_5 t257 _ A85.out).mono ?_); rintro e w' ⟨rfl, ⟨nd, rfl⟩⟩; refine ⟨_, rfl, ?_⟩))
                       refine cutMeet hJ_ ?_ (by kernel_rfl)
                       exact ⟨_, (true), (by first | rfl | (simp; done) | (simp [*]; done)), H', ⟨by have := HJ17.out; have := HJ43.out; have := HJ57.out; have := HJ64.out; have := HK5.out; first | omega | exact Nat.le_refl _⟩, ⟨by repeat (first | (with_reducible first | exact HB.out | apply below_alloc | apply pw_below_drewN | apply below_drew1))⟩⟩
                    ·
                     intro u_ wc hcut
                     clear HC84
                     obtain ⟨kq, x332_83, e_332, HA, HJ83, HB⟩ := hcut
                     dsimp only [cutFgt, mk1]
                     rw [e_332]
                     cases kq with
                     | zero => exact absurd HA.out (by simp [laws_FnSquareFree.j5])
                     | succ kj83 =>
                      have H := HA.out
                      clear HA
                      simp only [laws_FnSquareFree.j5] at H
                      by_cases c88 : x332_83 = true
                      ·
                       subst c88
                       have H1 : (laws_FnSquareFree.l0 kj83 l1 t224 t237 (wrap64 (x38_5 + 1))) = some r := by rw [if_pos rfl] at H; exact H
                       clear H
                       have H := H1
                       clear H1
                       have H' := Aside0.mk H
                       clear H
                       go_wp2
                       go_roundg kj83
                       case measure => have := HJ17.out; have := HJ43.out; have := HJ57.out; have := HJ64.out; have := HK5.out; have := HJ83.out; omega
                       case rel => exact ⟨(wrap64 (x38_5 + 1)), (by first | rfl | (simp; done) | (simp [*]; done)), H', ⟨by have := HJ17.out; have := HJ43.out; have := HJ57.out; have := HJ64.out; have := HK5.out; have := HJ83.out; omega⟩, ⟨by repeat (first | (with_reducible first | exact HB.out | apply below_alloc | apply pw_below_drewN | apply below_drew1))⟩⟩
                      ·
                       replace c88 := Bool.eq_false_iff.mpr c88
                       subst c88
                       have H1 : ((impl_FreeSign.f kj83 x38_5).bind fun bt258 => ((impl_FreeSign.f kj83 (wrap64 (t224 * x38_5))).bind fun bt260 => (if bt258.2 = true then (if bt260.2 = true then (if (wrap64 (bt258.1 * t237)) = bt260.1 then (laws_FnSquareFree.l0 kj83 l1 t224 t237 (wrap64 (x38_5 + 1))) else (some false)) else (some false)) else (some false)))) = some r := by rw [if_neg (show ¬ (false = true) by decide)] at H; exact H
                       clear H
                       have H := H1
                       clear H1
                       replace H := Option.bind_eq_some_iff.mp H
                       obtain ⟨⟨t258, t259⟩, A890, H⟩ := H
                       replace H : ((impl_FreeSign.f kj83 (wrap64 (t224 * x38_5))).bind fun bt260 => (if t259 = true then (if bt260.2 = true then (if (wrap64 (t258 * t237)) = bt260.1 then (laws_FnSquareFree.l0 kj83 l1 t224 t237 (wrap64 (x38_5 + 1))) else (some false)) else (some false)) else (some false))) = some r := H
                       have A89 := Aside0.mk A890
                       clear A890
                       replace H := Option.bind_eq_some_iff.mp H
                       obtain ⟨⟨t260, t261⟩, A900, H⟩ := H
                       replace H : (if t259 = true then (if t261 = true then (if (wrap64 (t258 * t237)) = t260 then (laws_FnSquareFree.l0 kj83 l1 t224 t237 (wrap64 (x38_5 + 1))) else (some false)) else (some false)) else (some false)) = some r := H
                       have A90 := Aside0.mk A900
                       clear A900
                       by_cases c91 : t259 = true
                       ·
                        subst c91
                        have H1 : (if t261 = true then (if (wrap64 (t258 * t237)) = t260 then (laws_FnSquareFree.l0 kj83 l1 t224 t237 (wrap64 (x38_5 + 1))) else (some false)) else (some false)) = some r := by rw [if_pos rfl] at H; exact H
                        clear H
                        have H := H1
                        clear H1
                        by_cases c92 : t261 = true
                        ·
                         subst c92
                         have H1 : (if (wrap64 (t258 * t237)) = t260 then (laws_FnSquareFree.l0 kj83 l1 t224 t237 (wrap64 (x38_5 + 1))) else (some false)) = some r := by rw [if_pos rfl] at H; exact H
                         clear H
                         have H := H1
                         clear H1
                         by_cases c93 : (wrap64 (t258 * t237)) = t260
                         ·
                          rw [if_pos c93] at H
                          have c93b0 : ((wrap64 (t258 * t237)) == t260) = true := beq_iff_eq.mpr c93
                          have c93b1 : ((wrap64 (t258 * t237)) != t260) = false := bne_eq_false_iff_eq.mpr c93
                          clear c93
                          have H' := Aside0.mk H
                          clear H
                          go_wp2_with (first | ((with_reducible refine gate_callee (f := 46) rfl ?_); refine goesL_ (some 335) rfl rfl Try.func46 (by kernel_rfl) rfl #[.int .i64 x38_5] rfl (by (try simp only [List.map_toArray, List.map_cons, List.map_nil]); first | done | rfl | (simp only [List.length_drop, List.length_take]; rfl)) ?_; (with_reducible refine (impl_FreeSign.calls kj83 x38_5 t258 true _ A89.out).mono ?_); rintro e w94 ⟨rfl, hb⟩; refine ⟨_, rfl, ?_⟩; have n0_ := Aside0.mk (below_step (by repeat (first | (with_reducible first | exact HB.out | apply below_alloc | apply pw_below_drewN | apply below_drew1))) hb); clear HB; have HB := n0_; clear n0_; (try clear hb)) | ((with_reducible refine gate_callee (f := 46) rfl ?_); refine goesL_ (some 342) rfl rfl Try.func46 (by kernel_rfl) rfl #[.int .i64 (wrap64 (t224 * x38_5))] rfl (by (try simp only [List.map_toArray, List.map_cons, List.map_nil]); first | done | rfl | (simp only [List.length_drop, List.length_take]; rfl)) ?_; (with_reducible refine (impl_FreeSign.calls kj83 (wrap64 (t224 * x38_5)) t260 true _ A90.out).mono ?_); rintro e w95 ⟨rfl, hb⟩; refine ⟨_, rfl, ?_⟩; have n0_ := Aside0.mk (below_step (by repeat (first | (with_reducible first | exact HB.out | apply below_alloc | apply pw_below_drewN | apply below_drew1))) hb); clear HB; have HB := n0_; clear n0_; (try clear hb)))
                          go_roundg kj83
                          case measure => have := HJ17.out; have := HJ43.out; have := HJ57.out; have := HJ64.out; have := HK5.out; have := HJ83.out; omega
                          case rel => exact ⟨(wrap64 (x38_5 + 1)), (by first | rfl | (simp; done) | (simp [*]; done)), H', ⟨by have := HJ17.out; have := HJ43.out; have := HJ57.out; have := HJ64.out; have := HK5.out; have := HJ83.out; omega⟩, ⟨by repeat (first | (with_reducible first | exact HB.out | apply below_alloc | apply pw_below_drewN | apply below_drew1))⟩⟩
                         ·
                          rw [if_neg c93] at H
                          have c93b0 : ((wrap64 (t258 * t237)) == t260) = false := beq_eq_false_iff_ne.mpr c93
                          have c93b1 : ((wrap64 (t258 * t237)) != t260) = true := bne_iff_ne.mpr c93
                          first
                          | exact absurd (Option.some.inj (H.trans (congrArg some HRT.out))) Bool.false_ne_true
                          |
                           obtain rfl := Option.some.inj H
                           go_wp2_with (first | ((with_reducible refine gate_callee (f := 46) rfl ?_); refine goesL_ (some 335) rfl rfl Try.func46 (by kernel_rfl) rfl #[.int .i64 x38_5] rfl (by (try simp only [List.map_toArray, List.map_cons, List.map_nil]); first | done | rfl | (simp only [List.length_drop, List.length_take]; rfl)) ?_; (with_reducible refine (impl_FreeSign.calls kj83 x38_5 t258 true _ A89.out).mono ?_); rintro e w96 ⟨rfl, hb⟩; refine ⟨_, rfl, ?_⟩; have n0_ := Aside0.mk (below_step (by repeat (first | (with_reducible first | exact HB.out | apply below_alloc | apply pw_below_drewN | apply below_drew1))) hb); clear HB; have HB := n0_; clear n0_; (try clear hb)) | ((with_reducible refine gate_callee (f := 46) rfl ?_); refine goesL_ (some 342) rfl rfl Try.func46 (by kernel_rfl) rfl #[.int .i64 (wrap64 (t224 * x38_5))] rfl (by (try simp only [List.map_toArray, List.map_cons, List.map_nil]); first | done | rfl | (simp only [List.length_drop, List.length_take]; rfl)) ?_; (with_reducible refine (impl_FreeSign.calls kj83 (wrap64 (t224 * x38_5)) t260 true _ A90.out).mono ?_); rintro e w97 ⟨rfl, hb⟩; refine ⟨_, rfl, ?_⟩; have n0_ := Aside0.mk (below_step (by repeat (first | (with_reducible first | exact HB.out | apply below_alloc | apply pw_below_drewN | apply below_drew1))) hb); clear HB; have HB := n0_; clear n0_; (try clear hb)))
                           go_ret
                           exact ⟨by first | rfl | (simp [errW_none, errW_some] <;> rfl) | (simp [*, errW_none, errW_some] <;> rfl), by repeat (first | (with_reducible first | exact HB.out | apply below_alloc | apply pw_below_drewN | apply below_drew1))⟩
                        ·
                         replace c92 := Bool.eq_false_iff.mpr c92
                         subst c92
                         have H1 : (some false) = some r := by rw [if_neg (show ¬ (false = true) by decide)] at H; exact H
                         clear H
                         have H := H1
                         clear H1
                         first
                         | exact absurd (Option.some.inj (H.trans (congrArg some HRT.out))) Bool.false_ne_true
                         |
                          obtain rfl := Option.some.inj H
                          go_wp2_with (first | ((with_reducible refine gate_callee (f := 46) rfl ?_); refine goesL_ (some 335) rfl rfl Try.func46 (by kernel_rfl) rfl #[.int .i64 x38_5] rfl (by (try simp only [List.map_toArray, List.map_cons, List.map_nil]); first | done | rfl | (simp only [List.length_drop, List.length_take]; rfl)) ?_; (with_reducible refine (impl_FreeSign.calls kj83 x38_5 t258 true _ A89.out).mono ?_); rintro e w98 ⟨rfl, hb⟩; refine ⟨_, rfl, ?_⟩; have n0_ := Aside0.mk (below_step (by repeat (first | (with_reducible first | exact HB.out | apply below_alloc | apply pw_below_drewN | apply below_drew1))) hb); clear HB; have HB := n0_; clear n0_; (try clear hb)) | ((with_reducible refine gate_callee (f := 46) rfl ?_); refine goesL_ (some 342) rfl rfl Try.func46 (by kernel_rfl) rfl #[.int .i64 (wrap64 (t224 * x38_5))] rfl (by (try simp only [List.map_toArray, List.map_cons, List.map_nil]); first | done | rfl | (simp only [List.length_drop, List.length_take]; rfl)) ?_; (with_reducible refine (impl_FreeSign.calls kj83 (wrap64 (t224 * x38_5)) t260 false _ A90.out).mono ?_); rintro e w99 ⟨rfl, hb⟩; refine ⟨_, rfl, ?_⟩; have n0_ := Aside0.mk (below_step (by repeat (first | (with_reducible first | exact HB.out | apply below_alloc | apply pw_below_drewN | apply below_drew1))) hb); clear HB; have HB := n0_; clear n0_; (try clear hb)))
                          go_ret
                          exact ⟨by first | rfl | (simp [errW_none, errW_some] <;> rfl) | (simp [*, errW_none, errW_some] <;> rfl), by repeat (first | (with_reducible first | exact HB.out | apply below_alloc | apply pw_below_drewN | apply below_drew1))⟩
                       ·
                        replace c91 := Bool.eq_false_iff.mpr c91
                        subst c91
                        have H1 : (some false) = some r := by rw [if_neg (show ¬ (false = true) by decide)] at H; exact H
                        clear H
                        have H := H1
                        clear H1
                        first
                        | exact absurd (Option.some.inj (H.trans (congrArg some HRT.out))) Bool.false_ne_true
                        |
                         obtain rfl := Option.some.inj H
                         go_wp2_with (first | ((with_reducible refine gate_callee (f := 46) rfl ?_); refine goesL_ (some 335) rfl rfl Try.func46 (by kernel_rfl) rfl #[.int .i64 x38_5] rfl (by (try simp only [List.map_toArray, List.map_cons, List.map_nil]); first | done | rfl | (simp only [List.length_drop, List.length_take]; rfl)) ?_; (with_reducible refine (impl_FreeSign.calls kj83 x38_5 t258 false _ A89.out).mono ?_); rintro e w100 ⟨rfl, hb⟩; refine ⟨_, rfl, ?_⟩; have n0_ := Aside0.mk (below_step (by repeat (first | (with_reducible first | exact HB.out | apply below_alloc | apply pw_below_drewN | apply below_drew1))) hb); clear HB; have HB := n0_; clear n0_; (try clear hb)) | ((with_reducible refine gate_callee (f := 46) rfl ?_); refine goesL_ (some 342) rfl rfl Try.func46 (by kernel_rfl) rfl #[.int .i64 (wrap64 (t224 * x38_5))] rfl (by (try simp only [List.map_toArray, List.map_cons, List.map_nil]); first | done | rfl | (simp only [List.length_drop, List.length_take]; rfl)) ?_; (with_reducible refine (impl_FreeSign.calls kj83 (wrap64 (t224 * x38_5)) t260 t261 _ A90.out).mono ?_); rintro e w101 ⟨rfl, hb⟩; refine ⟨_, rfl, ?_⟩; have n0_ := Aside0.mk (below_step (by repeat (first | (with_reducible first | exact HB.out | apply below_alloc | apply pw_below_drewN | apply below_drew1))) hb); clear HB; have HB := n0_; clear n0_; (try clear hb)))
                         go_ret
                         exact ⟨by first | rfl | (simp [errW_none, errW_some] <;> rfl) | (simp [*, errW_none, errW_some] <;> rfl), by repeat (first | (with_reducible first | exact HB.out | apply below_alloc | apply pw_below_drewN | apply below_drew1))⟩
                   ·
                    rw [if_neg c83] at H
                    have c83b0 : decide (x38_5 ≤ 6) = false := decide_eq_false c83
                    clear c83
                    have H' := Aside0.mk H
                    clear H
                    go_wp2
                    refine cutMeet hJ_ ?_ (by kernel_rfl)
                    exact ⟨_, H', ⟨by have := HJ17.out; have := HJ43.out; have := HJ57.out; have := HJ64.out; have := HK5.out; first | omega | exact Nat.le_refl _⟩, ⟨by repeat (first | (with_reducible first | exact HB.out | apply below_alloc | apply pw_below_drewN | apply below_drew1))⟩⟩
       ·
        replace c43 := Bool.eq_false_iff.mpr c43
        subst c43
        have H1 : (laws_FnSquareFree.j6 kj17 l1) = some r := by rw [if_neg (show ¬ (false = true) by decide)] at H; exact H
        clear H
        have H := H1
        clear H1
        have H' := Aside0.mk H
        clear H
        go_wp2
        refine cutMeet hJ_ ?_ (by kernel_rfl)
        exact ⟨_, H', ⟨by have := HJ17.out; first | omega | exact Nat.le_refl _⟩, ⟨by repeat (first | (with_reducible first | exact HB.out | apply below_alloc | apply pw_below_drewN | apply below_drew1))⟩⟩
     ·
      intro u_ wc hcut
      clear HC42
      obtain ⟨kq, HA, HJ41, HB⟩ := hcut
      dsimp only [cutFgt, mk0]
      cases kq with
      | zero => exact absurd HA.out (by simp [laws_FnSquareFree.j6])
      | succ kj41 =>
       have H := HA.out
       clear HA
       simp only [laws_FnSquareFree.j6] at H
       replace H := Option.bind_eq_some_iff.mp H
       obtain ⟨t262, A1020, H⟩ := H
       replace H : ((impl_SquareFreeUpTo.f kj41 t262).bind fun bt263 => ((spec_SquareFreeUpTo.f kj41 t262).bind fun bt267 => ((impl_LongestSquareful.f kj41 t262).bind fun bt271 => ((spec_LongestSquareful.f kj41 t262).bind fun bt274 => ((impl_SumOfSigns.f kj41 t262).bind fun bt277 => ((spec_SumOfSigns.f kj41 t262).bind fun bt279 => ((spec_DrawSquareFreeOfRank.f l1).bind fun t281 => ((impl_SquareFreeOfRank.f kj41 t281).bind fun bt282 => ((spec_SquareFreeOfRank.f kj41 t281).bind fun bt284 => (if (bt263.2 != bt267.2) = true then (laws_FnSquareFree.j7 kj41 t262 bt263.1 bt263.2 bt271.1 bt271.2.1 bt277.1 true) else ((laws_tSame.f kj41 bt263.1 bt267.1).bind fun t286 => (if t286 = true then (if (bt271.2.2 != bt274.2.2) = true then (laws_FnSquareFree.j7 kj41 t262 bt263.1 bt263.2 bt271.1 bt271.2.1 bt277.1 true) else (if bt271.1 = bt274.1 then (if bt271.2.1 = bt274.2.1 then (if (bt277.2 != bt279.2) = true then (laws_FnSquareFree.j7 kj41 t262 bt263.1 bt263.2 bt271.1 bt271.2.1 bt277.1 true) else (if bt277.1 = bt279.1 then (if (bt282.2 != bt284.2) = true then (laws_FnSquareFree.j7 kj41 t262 bt263.1 bt263.2 bt271.1 bt271.2.1 bt277.1 true) else (if bt282.1 = bt284.1 then (if (bt271.2.2 != bt263.2) = true then (laws_FnSquareFree.j7 kj41 t262 bt263.1 bt263.2 bt271.1 bt271.2.1 bt277.1 true) else (if bt263.2 = true then (laws_FnSquareFree.j7 kj41 t262 bt263.1 bt263.2 bt271.1 bt271.2.1 bt277.1 (bt277.2 != (decide (t262 > 0)))) else (laws_FnSquareFree.j7 kj41 t262 bt263.1 bt263.2 bt271.1 bt271.2.1 bt277.1 (bt277.2 != false)))) else (laws_FnSquareFree.j7 kj41 t262 bt263.1 bt263.2 bt271.1 bt271.2.1 bt277.1 true))) else (laws_FnSquareFree.j7 kj41 t262 bt263.1 bt263.2 bt271.1 bt271.2.1 bt277.1 true))) else (laws_FnSquareFree.j7 kj41 t262 bt263.1 bt263.2 bt271.1 bt271.2.1 bt277.1 true)) else (laws_FnSquareFree.j7 kj41 t262 bt263.1 bt263.2 bt271.1 bt271.2.1 bt277.1 true))) else (laws_FnSquareFree.j7 kj41 t262 bt263.1 bt263.2 bt271.1 bt271.2.1 bt277.1 true))))))))))))) = some r := H
       have A102 := Aside0.mk A1020
       clear A1020
       replace H := Option.bind_eq_some_iff.mp H
       obtain ⟨⟨t263, t264⟩, A1030, H⟩ := H
       replace H : ((spec_SquareFreeUpTo.f kj41 t262).bind fun bt267 => ((impl_LongestSquareful.f kj41 t262).bind fun bt271 => ((spec_LongestSquareful.f kj41 t262).bind fun bt274 => ((impl_SumOfSigns.f kj41 t262).bind fun bt277 => ((spec_SumOfSigns.f kj41 t262).bind fun bt279 => ((spec_DrawSquareFreeOfRank.f l1).bind fun t281 => ((impl_SquareFreeOfRank.f kj41 t281).bind fun bt282 => ((spec_SquareFreeOfRank.f kj41 t281).bind fun bt284 => (if (t264 != bt267.2) = true then (laws_FnSquareFree.j7 kj41 t262 t263 t264 bt271.1 bt271.2.1 bt277.1 true) else ((laws_tSame.f kj41 t263 bt267.1).bind fun t286 => (if t286 = true then (if (bt271.2.2 != bt274.2.2) = true then (laws_FnSquareFree.j7 kj41 t262 t263 t264 bt271.1 bt271.2.1 bt277.1 true) else (if bt271.1 = bt274.1 then (if bt271.2.1 = bt274.2.1 then (if (bt277.2 != bt279.2) = true then (laws_FnSquareFree.j7 kj41 t262 t263 t264 bt271.1 bt271.2.1 bt277.1 true) else (if bt277.1 = bt279.1 then (if (bt282.2 != bt284.2) = true then (laws_FnSquareFree.j7 kj41 t262 t263 t264 bt271.1 bt271.2.1 bt277.1 true) else (if bt282.1 = bt284.1 then (if (bt271.2.2 != t264) = true then (laws_FnSquareFree.j7 kj41 t262 t263 t264 bt271.1 bt271.2.1 bt277.1 true) else (if t264 = true then (laws_FnSquareFree.j7 kj41 t262 t263 t264 bt271.1 bt271.2.1 bt277.1 (bt277.2 != (decide (t262 > 0)))) else (laws_FnSquareFree.j7 kj41 t262 t263 t264 bt271.1 bt271.2.1 bt277.1 (bt277.2 != false)))) else (laws_FnSquareFree.j7 kj41 t262 t263 t264 bt271.1 bt271.2.1 bt277.1 true))) else (laws_FnSquareFree.j7 kj41 t262 t263 t264 bt271.1 bt271.2.1 bt277.1 true))) else (laws_FnSquareFree.j7 kj41 t262 t263 t264 bt271.1 bt271.2.1 bt277.1 true)) else (laws_FnSquareFree.j7 kj41 t262 t263 t264 bt271.1 bt271.2.1 bt277.1 true))) else (laws_FnSquareFree.j7 kj41 t262 t263 t264 bt271.1 bt271.2.1 bt277.1 true)))))))))))) = some r := H
       have A103 := Aside0.mk A1030
       clear A1030
       replace H := Option.bind_eq_some_iff.mp H
       obtain ⟨⟨t267, t268⟩, A1040, H⟩ := H
       replace H : ((impl_LongestSquareful.f kj41 t262).bind fun bt271 => ((spec_LongestSquareful.f kj41 t262).bind fun bt274 => ((impl_SumOfSigns.f kj41 t262).bind fun bt277 => ((spec_SumOfSigns.f kj41 t262).bind fun bt279 => ((spec_DrawSquareFreeOfRank.f l1).bind fun t281 => ((impl_SquareFreeOfRank.f kj41 t281).bind fun bt282 => ((spec_SquareFreeOfRank.f kj41 t281).bind fun bt284 => (if (t264 != t268) = true then (laws_FnSquareFree.j7 kj41 t262 t263 t264 bt271.1 bt271.2.1 bt277.1 true) else ((laws_tSame.f kj41 t263 t267).bind fun t286 => (if t286 = true then (if (bt271.2.2 != bt274.2.2) = true then (laws_FnSquareFree.j7 kj41 t262 t263 t264 bt271.1 bt271.2.1 bt277.1 true) else (if bt271.1 = bt274.1 then (if bt271.2.1 = bt274.2.1 then (if (bt277.2 != bt279.2) = true then (laws_FnSquareFree.j7 kj41 t262 t263 t264 bt271.1 bt271.2.1 bt277.1 true) else (if bt277.1 = bt279.1 then (if (bt282.2 != bt284.2) = true then (laws_FnSquareFree.j7 kj41 t262 t263 t264 bt271.1 bt271.2.1 bt277.1 true) else (if bt282.1 = bt284.1 then (if (bt271.2.2 != t264) = true then (laws_FnSquareFree.j7 kj41 t262 t263 t264 bt271.1 bt271.2.1 bt277.1 true) else (if t264 = true then (laws_FnSquareFree.j7 kj41 t262 t263 t264 bt271.1 bt271.2.1 bt277.1 (bt277.2 != (decide (t262 > 0)))) else (laws_FnSquareFree.j7 kj41 t262 t263 t264 bt271.1 bt271.2.1 bt277.1 (bt277.2 != false)))) else (laws_FnSquareFree.j7 kj41 t262 t263 t264 bt271.1 bt271.2.1 bt277.1 true))) else (laws_FnSquareFree.j7 kj41 t262 t263 t264 bt271.1 bt271.2.1 bt277.1 true))) else (laws_FnSquareFree.j7 kj41 t262 t263 t264 bt271.1 bt271.2.1 bt277.1 true)) else (laws_FnSquareFree.j7 kj41 t262 t263 t264 bt271.1 bt271.2.1 bt277.1 true))) else (laws_FnSquareFree.j7 kj41 t262 t263 t264 bt271.1 bt271.2.1 bt277.1 true))))))))))) = some r := H
       have A104 := Aside0.mk A1040
       clear A1040
       replace H := Option.bind_eq_some_iff.mp H
       obtain ⟨⟨t271, t272, t273⟩, A1050, H⟩ := H
       replace H : ((spec_LongestSquareful.f kj41 t262).bind fun bt274 => ((impl_SumOfSigns.f kj41 t262).bind fun bt277 => ((spec_SumOfSigns.f kj41 t262).bind fun bt279 => ((spec_DrawSquareFreeOfRank.f l1).bind fun t281 => ((impl_SquareFreeOfRank.f kj41 t281).bind fun bt282 => ((spec_SquareFreeOfRank.f kj41 t281).bind fun bt284 => (if (t264 != t268) = true then (laws_FnSquareFree.j7 kj41 t262 t263 t264 t271 t272 bt277.1 true) else ((laws_tSame.f kj41 t263 t267).bind fun t286 => (if t286 = true then (if (t273 != bt274.2.2) = true then (laws_FnSquareFree.j7 kj41 t262 t263 t264 t271 t272 bt277.1 true) else (if t271 = bt274.1 then (if t272 = bt274.2.1 then (if (bt277.2 != bt279.2) = true then (laws_FnSquareFree.j7 kj41 t262 t263 t264 t271 t272 bt277.1 true) else (if bt277.1 = bt279.1 then (if (bt282.2 != bt284.2) = true then (laws_FnSquareFree.j7 kj41 t262 t263 t264 t271 t272 bt277.1 true) else (if bt282.1 = bt284.1 then (if (t273 != t264) = true then (laws_FnSquareFree.j7 kj41 t262 t263 t264 t271 t272 bt277.1 true) else (if t264 = true then (laws_FnSquareFree.j7 kj41 t262 t263 t264 t271 t272 bt277.1 (bt277.2 != (decide (t262 > 0)))) else (laws_FnSquareFree.j7 kj41 t262 t263 t264 t271 t272 bt277.1 (bt277.2 != false)))) else (laws_FnSquareFree.j7 kj41 t262 t263 t264 t271 t272 bt277.1 true))) else (laws_FnSquareFree.j7 kj41 t262 t263 t264 t271 t272 bt277.1 true))) else (laws_FnSquareFree.j7 kj41 t262 t263 t264 t271 t272 bt277.1 true)) else (laws_FnSquareFree.j7 kj41 t262 t263 t264 t271 t272 bt277.1 true))) else (laws_FnSquareFree.j7 kj41 t262 t263 t264 t271 t272 bt277.1 true)))))))))) = some r := H
       have A105 := Aside0.mk A1050
       clear A1050
       replace H := Option.bind_eq_some_iff.mp H
       obtain ⟨⟨t274, t275, t276⟩, A1060, H⟩ := H
       replace H : ((impl_SumOfSigns.f kj41 t262).bind fun bt277 => ((spec_SumOfSigns.f kj41 t262).bind fun bt279 => ((spec_DrawSquareFreeOfRank.f l1).bind fun t281 => ((impl_SquareFreeOfRank.f kj41 t281).bind fun bt282 => ((spec_SquareFreeOfRank.f kj41 t281).bind fun bt284 => (if (t264 != t268) = true then (laws_FnSquareFree.j7 kj41 t262 t263 t264 t271 t272 bt277.1 true) else ((laws_tSame.f kj41 t263 t267).bind fun t286 => (if t286 = true then (if (t273 != t276) = true then (laws_FnSquareFree.j7 kj41 t262 t263 t264 t271 t272 bt277.1 true) else (if t271 = t274 then (if t272 = t275 then (if (bt277.2 != bt279.2) = true then (laws_FnSquareFree.j7 kj41 t262 t263 t264 t271 t272 bt277.1 true) else (if bt277.1 = bt279.1 then (if (bt282.2 != bt284.2) = true then (laws_FnSquareFree.j7 kj41 t262 t263 t264 t271 t272 bt277.1 true) else (if bt282.1 = bt284.1 then (if (t273 != t264) = true then (laws_FnSquareFree.j7 kj41 t262 t263 t264 t271 t272 bt277.1 true) else (if t264 = true then (laws_FnSquareFree.j7 kj41 t262 t263 t264 t271 t272 bt277.1 (bt277.2 != (decide (t262 > 0)))) else (laws_FnSquareFree.j7 kj41 t262 t263 t264 t271 t272 bt277.1 (bt277.2 != false)))) else (laws_FnSquareFree.j7 kj41 t262 t263 t264 t271 t272 bt277.1 true))) else (laws_FnSquareFree.j7 kj41 t262 t263 t264 t271 t272 bt277.1 true))) else (laws_FnSquareFree.j7 kj41 t262 t263 t264 t271 t272 bt277.1 true)) else (laws_FnSquareFree.j7 kj41 t262 t263 t264 t271 t272 bt277.1 true))) else (laws_FnSquareFree.j7 kj41 t262 t263 t264 t271 t272 bt277.1 true))))))))) = some r := H
       have A106 := Aside0.mk A1060
       clear A1060
       replace H := Option.bind_eq_some_iff.mp H
       obtain ⟨⟨t277, t278⟩, A1070, H⟩ := H
       replace H : ((spec_SumOfSigns.f kj41 t262).bind fun bt279 => ((spec_DrawSquareFreeOfRank.f l1).bind fun t281 => ((impl_SquareFreeOfRank.f kj41 t281).bind fun bt282 => ((spec_SquareFreeOfRank.f kj41 t281).bind fun bt284 => (if (t264 != t268) = true then (laws_FnSquareFree.j7 kj41 t262 t263 t264 t271 t272 t277 true) else ((laws_tSame.f kj41 t263 t267).bind fun t286 => (if t286 = true then (if (t273 != t276) = true then (laws_FnSquareFree.j7 kj41 t262 t263 t264 t271 t272 t277 true) else (if t271 = t274 then (if t272 = t275 then (if (t278 != bt279.2) = true then (laws_FnSquareFree.j7 kj41 t262 t263 t264 t271 t272 t277 true) else (if t277 = bt279.1 then (if (bt282.2 != bt284.2) = true then (laws_FnSquareFree.j7 kj41 t262 t263 t264 t271 t272 t277 true) else (if bt282.1 = bt284.1 then (if (t273 != t264) = true then (laws_FnSquareFree.j7 kj41 t262 t263 t264 t271 t272 t277 true) else (if t264 = true then (laws_FnSquareFree.j7 kj41 t262 t263 t264 t271 t272 t277 (t278 != (decide (t262 > 0)))) else (laws_FnSquareFree.j7 kj41 t262 t263 t264 t271 t272 t277 (t278 != false)))) else (laws_FnSquareFree.j7 kj41 t262 t263 t264 t271 t272 t277 true))) else (laws_FnSquareFree.j7 kj41 t262 t263 t264 t271 t272 t277 true))) else (laws_FnSquareFree.j7 kj41 t262 t263 t264 t271 t272 t277 true)) else (laws_FnSquareFree.j7 kj41 t262 t263 t264 t271 t272 t277 true))) else (laws_FnSquareFree.j7 kj41 t262 t263 t264 t271 t272 t277 true)))))))) = some r := H
       have A107 := Aside0.mk A1070
       clear A1070
       replace H := Option.bind_eq_some_iff.mp H
       obtain ⟨⟨t279, t280⟩, A1080, H⟩ := H
       replace H : ((spec_DrawSquareFreeOfRank.f l1).bind fun t281 => ((impl_SquareFreeOfRank.f kj41 t281).bind fun bt282 => ((spec_SquareFreeOfRank.f kj41 t281).bind fun bt284 => (if (t264 != t268) = true then (laws_FnSquareFree.j7 kj41 t262 t263 t264 t271 t272 t277 true) else ((laws_tSame.f kj41 t263 t267).bind fun t286 => (if t286 = true then (if (t273 != t276) = true then (laws_FnSquareFree.j7 kj41 t262 t263 t264 t271 t272 t277 true) else (if t271 = t274 then (if t272 = t275 then (if (t278 != t280) = true then (laws_FnSquareFree.j7 kj41 t262 t263 t264 t271 t272 t277 true) else (if t277 = t279 then (if (bt282.2 != bt284.2) = true then (laws_FnSquareFree.j7 kj41 t262 t263 t264 t271 t272 t277 true) else (if bt282.1 = bt284.1 then (if (t273 != t264) = true then (laws_FnSquareFree.j7 kj41 t262 t263 t264 t271 t272 t277 true) else (if t264 = true then (laws_FnSquareFree.j7 kj41 t262 t263 t264 t271 t272 t277 (t278 != (decide (t262 > 0)))) else (laws_FnSquareFree.j7 kj41 t262 t263 t264 t271 t272 t277 (t278 != false)))) else (laws_FnSquareFree.j7 kj41 t262 t263 t264 t271 t272 t277 true))) else (laws_FnSquareFree.j7 kj41 t262 t263 t264 t271 t272 t277 true))) else (laws_FnSquareFree.j7 kj41 t262 t263 t264 t271 t272 t277 true)) else (laws_FnSquareFree.j7 kj41 t262 t263 t264 t271 t272 t277 true))) else (laws_FnSquareFree.j7 kj41 t262 t263 t264 t271 t272 t277 true))))))) = some r := H
       have A108 := Aside0.mk A1080
       clear A1080
       replace H := Option.bind_eq_some_iff.mp H
       obtain ⟨t281, A1090, H⟩ := H
       replace H : ((impl_SquareFreeOfRank.f kj41 t281).bind fun bt282 => ((spec_SquareFreeOfRank.f kj41 t281).bind fun bt284 => (if (t264 != t268) = true then (laws_FnSquareFree.j7 kj41 t262 t263 t264 t271 t272 t277 true) else ((laws_tSame.f kj41 t263 t267).bind fun t286 => (if t286 = true then (if (t273 != t276) = true then (laws_FnSquareFree.j7 kj41 t262 t263 t264 t271 t272 t277 true) else (if t271 = t274 then (if t272 = t275 then (if (t278 != t280) = true then (laws_FnSquareFree.j7 kj41 t262 t263 t264 t271 t272 t277 true) else (if t277 = t279 then (if (bt282.2 != bt284.2) = true then (laws_FnSquareFree.j7 kj41 t262 t263 t264 t271 t272 t277 true) else (if bt282.1 = bt284.1 then (if (t273 != t264) = true then (laws_FnSquareFree.j7 kj41 t262 t263 t264 t271 t272 t277 true) else (if t264 = true then (laws_FnSquareFree.j7 kj41 t262 t263 t264 t271 t272 t277 (t278 != (decide (t262 > 0)))) else (laws_FnSquareFree.j7 kj41 t262 t263 t264 t271 t272 t277 (t278 != false)))) else (laws_FnSquareFree.j7 kj41 t262 t263 t264 t271 t272 t277 true))) else (laws_FnSquareFree.j7 kj41 t262 t263 t264 t271 t272 t277 true))) else (laws_FnSquareFree.j7 kj41 t262 t263 t264 t271 t272 t277 true)) else (laws_FnSquareFree.j7 kj41 t262 t263 t264 t271 t272 t277 true))) else (laws_FnSquareFree.j7 kj41 t262 t263 t264 t271 t272 t277 true)))))) = some r := H
       have A109 := Aside0.mk A1090
       clear A1090
       replace H := Option.bind_eq_some_iff.mp H
       obtain ⟨⟨t282, t283⟩, A1100, H⟩ := H
       replace H : ((spec_SquareFreeOfRank.f kj41 t281).bind fun bt284 => (if (t264 != t268) = true then (laws_FnSquareFree.j7 kj41 t262 t263 t264 t271 t272 t277 true) else ((laws_tSame.f kj41 t263 t267).bind fun t286 => (if t286 = true then (if (t273 != t276) = true then (laws_FnSquareFree.j7 kj41 t262 t263 t264 t271 t272 t277 true) else (if t271 = t274 then (if t272 = t275 then (if (t278 != t280) = true then (laws_FnSquareFree.j7 kj41 t262 t263 t264 t271 t272 t277 true) else (if t277 = t279 then (if (t283 != bt284.2) = true then (laws_FnSquareFree.j7 kj41 t262 t263 t264 t271 t272 t277 true) else (if t282 = bt284.1 then (if (t273 != t264) = true then (laws_FnSquareFree.j7 kj41 t262 t263 t264 t271 t272 t277 true) else (if t264 = true then (laws_FnSquareFree.j7 kj41 t262 t263 t264 t271 t272 t277 (t278 != (decide (t262 > 0)))) else (laws_FnSquareFree.j7 kj41 t262 t263 t264 t271 t272 t277 (t278 != false)))) else (laws_FnSquareFree.j7 kj41 t262 t263 t264 t271 t272 t277 true))) else (laws_FnSquareFree.j7 kj41 t262 t263 t264 t271 t272 t277 true))) else (laws_FnSquareFree.j7 kj41 t262 t263 t264 t271 t272 t277 true)) else (laws_FnSquareFree.j7 kj41 t262 t263 t264 t271 t272 t277 true))) else (laws_FnSquareFree.j7 kj41 t262 t263 t264 t271 t272 t277 true))))) = some r := H
       have A110 := Aside0.mk A1100
       clear A1100
       replace H := Option.bind_eq_some_iff.mp H
       obtain ⟨⟨t284, t285⟩, A1110, H⟩ := H
       replace H : (if (t264 != t268) = true then (laws_FnSquareFree.j7 kj41 t262 t263 t264 t271 t272 t277 true) else ((laws_tSame.f kj41 t263 t267).bind fun t286 => (if t286 = true then (if (t273 != t276) = true then (laws_FnSquareFree.j7 kj41 t262 t263 t264 t271 t272 t277 true) else (if t271 = t274 then (if t272 = t275 then (if (t278 != t280) = true then (laws_FnSquareFree.j7 kj41 t262 t263 t264 t271 t272 t277 true) else (if t277 = t279 then (if (t283 != t285) = true then (laws_FnSquareFree.j7 kj41 t262 t263 t264 t271 t272 t277 true) else (if t282 = t284 then (if (t273 != t264) = true then (laws_FnSquareFree.j7 kj41 t262 t263 t264 t271 t272 t277 true) else (if t264 = true then (laws_FnSquareFree.j7 kj41 t262 t263 t264 t271 t272 t277 (t278 != (decide (t262 > 0)))) else (laws_FnSquareFree.j7 kj41 t262 t263 t264 t271 t272 t277 (t278 != false)))) else (laws_FnSquareFree.j7 kj41 t262 t263 t264 t271 t272 t277 true))) else (laws_FnSquareFree.j7 kj41 t262 t263 t264 t271 t272 t277 true))) else (laws_FnSquareFree.j7 kj41 t262 t263 t264 t271 t272 t277 true)) else (laws_FnSquareFree.j7 kj41 t262 t263 t264 t271 t272 t277 true))) else (laws_FnSquareFree.j7 kj41 t262 t263 t264 t271 t272 t277 true)))) = some r := H
       have A111 := Aside0.mk A1110
       clear A1110
       have HC112 := Aside0.mk H
       clear H
       go_upto_region 48 with (first | ((with_reducible refine gate_callee (f := 53) rfl ?_); refine goesL_ (some 359) rfl rfl Try.func53 (by kernel_rfl) rfl #[.slice A1 l1.length c1] rfl (by (try simp only [List.map_toArray, List.map_cons, List.map_nil]); first | done | rfl | (simp only [List.length_drop, List.length_take]; rfl)) ?_; (with_reducible refine (spec_DrawSquareFreeUpTo.calls _ _ l1 t262 _ ?side1 ?side2 A102.out).mono ?_); (case side1 => repeat (first | exact (Kd.C_below HR1.out HB.out) | (with_reducible refine Kd.C_alloc ?_ _) | (with_reducible refine Kd.C_drewN ?_ _) | (with_reducible refine Kd.C_drew ?_))); (case side2 => exact HC1.out); rintro e w113 ⟨rfl, hb⟩; refine ⟨_, rfl, ?_⟩; have n0_ := Aside0.mk (below_step (by repeat (first | (with_reducible first | exact HB.out | apply below_alloc | apply pw_below_drewN | apply below_drew1))) hb); clear HB; have HB := n0_; clear n0_; (try clear hb)) | ((with_reducible refine gate_callee (f := 54) rfl ?_); refine goesL_ (some 362) rfl rfl Try.func54 (by kernel_rfl) rfl #[.int .i64 t262] rfl (by (try simp only [List.map_toArray, List.map_cons, List.map_nil]); first | done | rfl | (simp only [List.length_drop, List.length_take]; rfl)) ?_; (with_reducible refine (impl_SquareFreeUpTo.calls kj41 t262 t263 t264 _ A103.out).mono ?_); rintro e w114 ⟨v265, rfl, ho0, hb⟩; refine ⟨_, rfl, ?_⟩; have n0_ := Aside0.mk (Kd.R_lower ho0 (below_size (by repeat (first | (with_reducible first | exact HB.out | apply below_alloc | apply pw_below_drewN | apply below_drew1))))); have n1_ := Aside0.mk (below_step (by repeat (first | (with_reducible first | exact HB.out | apply below_alloc | apply pw_below_drewN | apply below_drew1))) hb); clear HB; have HO266 := n0_; have HB := n1_; clear n0_ n1_; (try clear hb); (try clear ho0)) | ((with_reducible refine gate_callee (f := 55) rfl ?_); refine goesL_ (some 367) rfl rfl Try.func55 (by kernel_rfl) rfl #[.int .i64 t262] rfl (by (try simp only [List.map_toArray, List.map_cons, List.map_nil]); first | done | rfl | (simp only [List.length_drop, List.length_take]; rfl)) ?_; (with_reducible refine (spec_SquareFreeUpTo.calls kj41 t262 t267 t268 _ A104.out).mono ?_); rintro e w115 ⟨v269, rfl, ho0, hb⟩; refine ⟨_, rfl, ?_⟩; have n0_ := Aside0.mk (Kd.R_elder' (by (with_reducible repeat (first | apply Kd.R_alloc | apply Kd.R_drewN | apply Kd.R_drew)); exact HO266.out) (Kd.R_base ho0) hb); have n1_ := Aside0.mk (Kd.R_lower (Kd.R_new' ho0 (Kd.R_lt (by (with_reducible repeat (first | apply Kd.R_alloc | apply Kd.R_drewN | apply Kd.R_drew)); exact HO266.out))) (below_size (by repeat (first | (with_reducible first | exact HB.out | apply below_alloc | apply pw_below_drewN | apply below_drew1))))); have n2_ := Aside0.mk (below_step (by repeat (first | (with_reducible first | exact HB.out | apply below_alloc | apply pw_below_drewN | apply below_drew1))) hb); clear HO266; clear HB; have HO266 := n0_; have HO270 := n1_; have HB := n2_; clear n0_ n1_ n2_; (try clear hb); (try clear ho0)) | ((with_reducible refine gate_callee (f := 56) rfl ?_); refine goesL_ (some 372) rfl rfl Try.func56 (by kernel_rfl) rfl #[.int .i64 t262] rfl (by (try simp only [List.map_toArray, List.map_cons, List.map_nil]); first | done | rfl | (simp only [List.length_drop, List.length_take]; rfl)) ?_; (with_reducible refine (impl_LongestSquareful.calls kj41 t262 t271 t272 t273 _ A105.out).mono ?_); rintro e w116 ⟨rfl, hb⟩; refine ⟨_, rfl, ?_⟩; have n0_ := Aside0.mk (Kd.R_below (by (with_reducible repeat (first | apply Kd.R_alloc | apply Kd.R_drewN | apply Kd.R_drew)); exact HO266.out) hb); have n1_ := Aside0.mk (Kd.R_below (by (with_reducible repeat (first | apply Kd.R_alloc | apply Kd.R_drewN | apply Kd.R_drew)); exact HO270.out) hb); have n2_ := Aside0.mk (below_step (by repeat (first | (with_reducible first | exact HB.out | apply below_alloc | apply pw_below_drewN | apply below_drew1))) hb); clear HO266; clear HO270; clear HB; have HO266 := n0_; have HO270 := n1_; have HB := n2_; clear n0_ n1_ n2_; (try clear hb)) | ((with_reducible refine gate_callee (f := 57) rfl ?_); refine goesL_ (some 378) rfl rfl Try.func57 (by kernel_rfl) rfl #[.int .i64 t262] rfl (by (try simp only [List.map_toArray, List.map_cons, List.map_nil]); first | done | rfl | (simp only [List.length_drop, List.length_take]; rfl)) ?_; (with_reducible refine (spec_LongestSquareful.calls kj41 t262 t274 t275 t276 _ A106.out).mono ?_); rintro e w' ⟨rfl, ⟨nd, rfl⟩⟩; refine ⟨_, rfl, ?_⟩) | ((with_reducible refine gate_callee (f := 58) rfl ?_); refine goesL_ (some 384) rfl rfl Try.func58 (by kernel_rfl) rfl #[.int .i64 t262] rfl (by (try simp only [List.map_toArray, List.map_cons, List.map_nil]); first | done | rfl | (simp only [List.length_drop, List.length_take]; rfl)) ?_; (with_reducible refine (impl_SumOfSigns.calls kj41 t262 t277 t278 _ A107.out).mono ?_); rintro e w117 ⟨rfl, hb⟩; refine ⟨_, rfl, ?_⟩; have n0_ := Aside0.mk (Kd.R_below (by (with_reducible repeat (first | apply Kd.R_alloc | apply Kd.R_drewN | apply Kd.R_drew)); exact HO266.out) hb); have n1_ := Aside0.mk (Kd.R_below (by (with_reducible repeat (first | apply Kd.R_alloc | apply Kd.R_drewN | apply Kd.R_drew)); exact HO270.out) hb); have n2_ := Aside0.mk (below_step (by repeat (first | (with_reducible first | exact HB.out | apply below_alloc | apply pw_below_drewN | apply below_drew1))) hb); clear HO266; clear HO270; clear HB; have HO266 := n0_; have HO270 := n1_; have HB := n2_; clear n0_ n1_ n2_; (try clear hb)) | ((with_reducible refine gate_callee (f := 59) rfl ?_); refine goesL_ (some 389) rfl rfl Try.func59 (by kernel_rfl) rfl #[.int .i64 t262] rfl (by (try simp only [List.map_toArray, List.map_cons, List.map_nil]); first | done | rfl | (simp only [List.length_drop, List.length_take]; rfl)) ?_; (with_reducible refine (spec_SumOfSigns.calls kj41 t262 t279 t280 _ A108.out).mono ?_); rintro e w' ⟨rfl, ⟨nd, rfl⟩⟩; refine ⟨_, rfl, ?_⟩) | ((with_reducible refine gate_callee (f := 60) rfl ?_); refine goesL_ (some 393) rfl rfl Try.func60 (by kernel_rfl) rfl #[.slice A1 l1.length c1] rfl (by (try simp only [List.map_toArray, List.map_cons, List.map_nil]); first | done | rfl | (simp only [List.length_drop, List.length_take]; rfl)) ?_; (with_reducible refine (spec_DrawSquareFreeOfRank.calls _ _ l1 t281 _ ?side1 ?side2 A109.out).mono ?_); (case side1 => repeat (first | exact (Kd.C_below HR1.out (by repeat (first | (with_reducible first | exact HB.out | apply below_alloc | apply pw_below_drewN | apply below_drew1)))) | (with_reducible refine Kd.C_alloc ?_ _) | (with_reducible refine Kd.C_drewN ?_ _) | (with_reducible refine Kd.C_drew ?_))); (case side2 => exact HC1.out); rintro e w118 ⟨rfl, hb⟩; refine ⟨_, rfl, ?_⟩; have n0_ := Aside0.mk (Kd.R_below (by (with_reducible repeat (first | apply Kd.R_alloc | apply Kd.R_drewN | apply Kd.R_drew)); exact HO266.out) hb); have n1_ := Aside0.mk (Kd.R_below (by (with_reducible repeat (first | apply Kd.R_alloc | apply Kd.R_drewN | apply Kd.R_drew)); exact HO270.out) hb); have n2_ := Aside0.mk (below_step (by repeat (first | (with_reducible first | exact HB.out | apply below_alloc | apply pw_below_drewN | apply below_drew1))) hb); clear HO266; clear HO270; clear HB; have HO266 := n0_; have HO270 := n1_; have HB := n2_; clear n0_ n1_ n2_; (try clear hb)) | ((with_reducible refine gate_callee (f := 61) rfl ?_); refine goesL_ (some 396) rfl rfl Try.func61 (by kernel_rfl) rfl #[.int .i64 t281] rfl (by (try simp only [List.map_toArray, List.map_cons, List.map_nil]); first | done | rfl | (simp only [List.length_drop, List.length_take]; rfl)) ?_; (with_reducible refine (impl_SquareFreeOfRank.calls kj41 t281 t282 t283 _ A110.out).mono ?_); rintro e w119 ⟨rfl, hb⟩; refine ⟨_, rfl, ?_⟩; have n0_ := Aside0.mk (Kd.R_below (by (with_reducible repeat (first | apply Kd.R_alloc | apply Kd.R_drewN | apply Kd.R_drew)); exact HO266.out) hb); have n1_ := Aside0.mk (Kd.R_below (by (with_reducible repeat (first | apply Kd.R_alloc | apply Kd.R_drewN | apply Kd.R_drew)); exact HO270.out) hb); have n2_ := Aside0.mk (below_step (by repeat (first | (with_reducible first | exact HB.out | apply below_alloc | apply pw_below_drewN | apply below_drew1))) hb); clear HO266; clear HO270; clear HB; have HO266 := n0_; have HO270 := n1_; have HB := n2_; clear n0_ n1_ n2_; (try clear hb)) | ((with_reducible refine gate_callee (f := 62) rfl ?_); refine goesL_ (some 401) rfl rfl Try.func62 (by kernel_rfl) rfl #[.int .i64 t281] rfl (by (try simp only [List.map_toArray, List.map_cons, List.map_nil]); first | done | rfl | (simp only [List.length_drop, List.length_take]; rfl)) ?_; (with_reducible refine (spec_SquareFreeOfRank.calls kj41 t281 t284 t285 _ A111.out).mono ?_); rintro e w' ⟨rfl, ⟨nd, rfl⟩⟩; refine ⟨_, rfl, ?_⟩))
       (try simp only [Act.put, List.setIfInBounds_toArray, List.set_cons_zero, List.set_cons_succ])
       refine cutF mk0 [] (fun u_ wc => ∃ (kq : Nat) (x461_111 : Bool), (u_ 461) = .bool x461_111 ∧ Aside0 (laws_FnSquareFree.j7 kq t262 t263 t264 t271 t272 t277 x461_111 = some r) ∧ Aside0 (kq ≤ kj41) ∧ Aside0 (Kd.R (Kd.int .i64) 3 wc w.heap.size (fun _ => True) v265 t263) ∧ Aside0 (Below w.heap.size w wc)) ?_ ?_
       ·
        as_aux_lemma =>
         intro J_ K_ hJ_ hK_
         have H := HC112.out
         clear HC112
         by_cases c120 : (t264 != t268) = true
         ·
          rw [if_pos c120] at H
          exact (laws_FnSquareFree.j7_no _ _ _ _ _ _ _ (H.trans (congrArg some HRT.out))).elim
         ·
          rw [if_neg c120] at H
          have c120b0 : (t264 != t268) = false := by simpa using c120
          (try (have c120b1 : decide (t264 = t268) = true := by simpa using c120))
          (try (have c120b2 : (t264 == t268) = true := by simpa using c120))
          clear c120
          (first | rw [c120b0] | (simp only [i64_w, i32_w]; rw [c120b0]) | skip)
          replace H := Option.bind_eq_some_iff.mp H
          obtain ⟨t286, A1210, H⟩ := H
          replace H : (if t286 = true then (if (t273 != t276) = true then (laws_FnSquareFree.j7 kj41 t262 t263 t264 t271 t272 t277 true) else (if t271 = t274 then (if t272 = t275 then (if (t278 != t280) = true then (laws_FnSquareFree.j7 kj41 t262 t263 t264 t271 t272 t277 true) else (if t277 = t279 then (if (t283 != t285) = true then (laws_FnSquareFree.j7 kj41 t262 t263 t264 t271 t272 t277 true) else (if t282 = t284 then (if (t273 != t264) = true then (laws_FnSquareFree.j7 kj41 t262 t263 t264 t271 t272 t277 true) else (if t264 = true then (laws_FnSquareFree.j7 kj41 t262 t263 t264 t271 t272 t277 (t278 != (decide (t262 > 0)))) else (laws_FnSquareFree.j7 kj41 t262 t263 t264 t271 t272 t277 (t278 != false)))) else (laws_FnSquareFree.j7 kj41 t262 t263 t264 t271 t272 t277 true))) else (laws_FnSquareFree.j7 kj41 t262 t263 t264 t271 t272 t277 true))) else (laws_FnSquareFree.j7 kj41 t262 t263 t264 t271 t272 t277 true)) else (laws_FnSquareFree.j7 kj41 t262 t263 t264 t271 t272 t277 true))) else (laws_FnSquareFree.j7 kj41 t262 t263 t264 t271 t272 t277 true)) = some r := H
          have A121 := Aside0.mk A1210
          clear A1210
          by_cases c122 : t286 = true
          ·
           subst c122
           have H1 : (if (t273 != t276) = true then (laws_FnSquareFree.j7 kj41 t262 t263 t264 t271 t272 t277 true) else (if t271 = t274 then (if t272 = t275 then (if (t278 != t280) = true then (laws_FnSquareFree.j7 kj41 t262 t263 t264 t271 t272 t277 true) else (if t277 = t279 then (if (t283 != t285) = true then (laws_FnSquareFree.j7 kj41 t262 t263 t264 t271 t272 t277 true) else (if t282 = t284 then (if (t273 != t264) = true then (laws_FnSquareFree.j7 kj41 t262 t263 t264 t271 t272 t277 true) else (if t264 = true then (laws_FnSquareFree.j7 kj41 t262 t263 t264 t271 t272 t277 (t278 != (decide (t262 > 0)))) else (laws_FnSquareFree.j7 kj41 t262 t263 t264 t271 t272 t277 (t278 != false)))) else (laws_FnSquareFree.j7 kj41 t262 t263 t264 t271 t272 t277 true))) else (laws_FnSquareFree.j7 kj41 t262 t263 t264 t271 t272 t277 true))) else (laws_FnSquareFree.j7 kj41 t262 t263 t264 t271 t272 t277 true)) else (laws_FnSquareFree.j7 kj41 t262 t263 t264 t271 t272 t277 true))) = some r := by rw [if_pos rfl] at H; exact H
           clear H
           have H := H1
           clear H1
           by_cases c123 : (t273 != t276) = true
           ·
            rw [if_pos c123] at H
            exact (laws_FnSquareFree.j7_no _ _ _ _ _ _ _ (H.trans (congrArg some HRT.out))).elim
           ·
            rw [if_neg c123] at H
            have c123b0 : (t273 != t276) = false := by simpa using c123
            (try (have c123b1 : decide (t273 = t276) = true := by simpa using c123))
            (try (have c123b2 : (t273 == t276) = true := by simpa using c123))
            clear c123
            by_cases c126 : t271 = t274
            ·
             rw [if_pos c126] at H
             have c126b0 : (t271 == t274) = true := beq_iff_eq.mpr c126
             have c126b1 : (t271 != t274) = false := bne_eq_false_iff_eq.mpr c126
             clear c126
             by_cases c127 : t272 = t275
             ·
              rw [if_pos c127] at H
              have c127b0 : (t272 == t275) = true := beq_iff_eq.mpr c127
              have c127b1 : (t272 != t275) = false := bne_eq_false_iff_eq.mpr c127
              clear c127
              by_cases c128 : (t278 != t280) = true
              ·
               rw [if_pos c128] at H
               exact (laws_FnSquareFree.j7_no _ _ _ _ _ _ _ (H.trans (congrArg some HRT.out))).elim
              ·
               rw [if_neg c128] at H
               have c128b0 : (t278 != t280) = false := by simpa using c128
               (try (have c128b1 : decide (t278 = t280) = true := by simpa using c128))
               (try (have c128b2 : (t278 == t280) = true := by simpa using c128))
               clear c128
               by_cases c131 : t277 = t279
               ·
                rw [if_pos c131] at H
                have c131b0 : (t277 == t279) = true := beq_iff_eq.mpr c131
                have c131b1 : (t277 != t279) = false := bne_eq_false_iff_eq.mpr c131
                clear c131
                by_cases c132 : (t283 != t285) = true
                ·
                 rw [if_pos c132] at H
                 exact (laws_FnSquareFree.j7_no _ _ _ _ _ _ _ (H.trans (congrArg some HRT.out))).elim
                ·
                 rw [if_neg c132] at H
                 have c132b0 : (t283 != t285) = false := by simpa using c132
                 (try (have c132b1 : decide (t283 = t285) = true := by simpa using c132))
                 (try (have c132b2 : (t283 == t285) = true := by simpa using c132))
                 clear c132
                 by_cases c135 : t282 = t284
                 ·
                  rw [if_pos c135] at H
                  have c135b0 : (t282 == t284) = true := beq_iff_eq.mpr c135
                  have c135b1 : (t282 != t284) = false := bne_eq_false_iff_eq.mpr c135
                  clear c135
                  by_cases c136 : (t273 != t264) = true
                  ·
                   rw [if_pos c136] at H
                   exact (laws_FnSquareFree.j7_no _ _ _ _ _ _ _ (H.trans (congrArg some HRT.out))).elim
                  ·
                   rw [if_neg c136] at H
                   have c136b0 : (t273 != t264) = false := by simpa using c136
                   (try (have c136b1 : decide (t273 = t264) = true := by simpa using c136))
                   (try (have c136b2 : (t273 == t264) = true := by simpa using c136))
                   clear c136
                   by_cases c139 : t264 = true
                   ·
                    subst c139
                    have H1 : (laws_FnSquareFree.j7 kj41 t262 t263 true t271 t272 t277 (t278 != (decide (t262 > 0)))) = some r := by rw [if_pos rfl] at H; exact H
                    clear H
                    have H := H1
                    clear H1
                    have H' := Aside0.mk H
                    clear H
                    obtain ⟨Ao140, co140, eo140⟩ := Kd.R_slice HO266.out
                    subst eo140
                    obtain ⟨Ao141, co141, eo141⟩ := Kd.R_slice HO270.out
                    subst eo141
                    go_wp2_with (first | (go_at_call 19; (with_reducible refine (laws_tSame.calls kj41 _ _ t263 _ _ t267 true _ ?side1 ?side2 ?side3 ?side4 A121.out).mono ?_); (case side1 => repeat (first | exact (Kd.R_reads' HO266.out).2.2 | (with_reducible refine Kd.C_alloc ?_ _) | (with_reducible refine Kd.C_drewN ?_ _) | (with_reducible refine Kd.C_drew ?_))); (case side2 => exact (Kd.R_reads' HO266.out).2.1); (case side3 => repeat (first | exact (Kd.R_reads' HO270.out).2.2 | (with_reducible refine Kd.C_alloc ?_ _) | (with_reducible refine Kd.C_drewN ?_ _) | (with_reducible refine Kd.C_drew ?_))); (case side4 => exact (Kd.R_reads' HO270.out).2.1); rintro e w' ⟨rfl, ⟨nd, rfl⟩⟩))
                    refine cutMeet hJ_ ?_ (by kernel_rfl)
                    exact ⟨_, ((t278 != (decide (t262 > 0)))), (by first | rfl | (simp; done) | (simp [*]; done)), H', ⟨by have := HJ17.out; have := HJ41.out; first | omega | exact Nat.le_refl _⟩, ⟨by (with_reducible repeat (first | apply Kd.R_alloc | apply Kd.R_drewN | apply Kd.R_drew)); exact Kd.R_mono HO266.out (fun _ hk => trivial)⟩, ⟨by repeat (first | (with_reducible first | exact HB.out | apply below_alloc | apply pw_below_drewN | apply below_drew1))⟩⟩
                   ·
                    replace c139 := Bool.eq_false_iff.mpr c139
                    subst c139
                    have H1 : (laws_FnSquareFree.j7 kj41 t262 t263 false t271 t272 t277 (t278 != false)) = some r := by rw [if_neg (show ¬ (false = true) by decide)] at H; exact H
                    clear H
                    have H := H1
                    clear H1
                    have H' := Aside0.mk H
                    clear H
                    obtain ⟨Ao142, co142, eo142⟩ := Kd.R_slice HO266.out
                    subst eo142
                    obtain ⟨Ao143, co143, eo143⟩ := Kd.R_slice HO270.out
                    subst eo143
                    go_wp2_with (first | (go_at_call 19; (with_reducible refine (laws_tSame.calls kj41 _ _ t263 _ _ t267 true _ ?side1 ?side2 ?side3 ?side4 A121.out).mono ?_); (case side1 => repeat (first | exact (Kd.R_reads' HO266.out).2.2 | (with_reducible refine Kd.C_alloc ?_ _) | (with_reducible refine Kd.C_drewN ?_ _) | (with_reducible refine Kd.C_drew ?_))); (case side2 => exact (Kd.R_reads' HO266.out).2.1); (case side3 => repeat (first | exact (Kd.R_reads' HO270.out).2.2 | (with_reducible refine Kd.C_alloc ?_ _) | (with_reducible refine Kd.C_drewN ?_ _) | (with_reducible refine Kd.C_drew ?_))); (case side4 => exact (Kd.R_reads' HO270.out).2.1); rintro e w' ⟨rfl, ⟨nd, rfl⟩⟩))
                    refine cutMeet hJ_ ?_ (by kernel_rfl)
                    exact ⟨_, ((t278 != false)), (by first | rfl | (simp; done) | (simp [*]; done)), H', ⟨by have := HJ17.out; have := HJ41.out; first | omega | exact Nat.le_refl _⟩, ⟨by (with_reducible repeat (first | apply Kd.R_alloc | apply Kd.R_drewN | apply Kd.R_drew)); exact Kd.R_mono HO266.out (fun _ hk => trivial)⟩, ⟨by repeat (first | (with_reducible first | exact HB.out | apply below_alloc | apply pw_below_drewN | apply below_drew1))⟩⟩
                 ·
                  rw [if_neg c135] at H
                  exact (laws_FnSquareFree.j7_no _ _ _ _ _ _ _ (H.trans (congrArg some HRT.out))).elim
               ·
                rw [if_neg c131] at H
                exact (laws_FnSquareFree.j7_no _ _ _ _ _ _ _ (H.trans (congrArg some HRT.out))).elim
             ·
              rw [if_neg c127] at H
              exact (laws_FnSquareFree.j7_no _ _ _ _ _ _ _ (H.trans (congrArg some HRT.out))).elim
            ·
             rw [if_neg c126] at H
             exact (laws_FnSquareFree.j7_no _ _ _ _ _ _ _ (H.trans (congrArg some HRT.out))).elim
          ·
           replace c122 := Bool.eq_false_iff.mpr c122
           subst c122
           have H1 : (laws_FnSquareFree.j7 kj41 t262 t263 t264 t271 t272 t277 true) = some r := by rw [if_neg (show ¬ (false = true) by decide)] at H; exact H
           clear H
           have H := H1
           clear H1
           exact (laws_FnSquareFree.j7_no _ _ _ _ _ _ _ (H.trans (congrArg some HRT.out))).elim
       ·
        intro u_ wc hcut
        clear HC112
        obtain ⟨kq, x461_111, e_461, HA, HJ111, HO_44, HB⟩ := hcut
        dsimp only [cutFgt, mk0]
        rw [e_461]
        cases kq with
        | zero => exact absurd HA.out (by simp [laws_FnSquareFree.j7])
        | succ kj111 =>
         have H := HA.out
         clear HA
         simp only [laws_FnSquareFree.j7] at H
         by_cases c154 : x461_111 = true
         ·
          subst c154
          have H1 : (some false) = some r := by rw [if_pos rfl] at H; exact H
          clear H
          have H := H1
          clear H1
          first
          | exact absurd (Option.some.inj (H.trans (congrArg some HRT.out))) Bool.false_ne_true
          |
           obtain rfl := Option.some.inj H
           go_wp2
           go_ret
           exact ⟨by first | rfl | (simp [errW_none, errW_some] <;> rfl) | (simp [*, errW_none, errW_some] <;> rfl), by repeat (first | (with_reducible first | exact HB.out | apply below_alloc | apply pw_below_drewN | apply below_drew1))⟩
         ·
          replace c154 := Bool.eq_false_iff.mpr c154
          subst c154
          have H1 : (if t264 = true then ((laws_tRises.f kj111 t263 1 t262).bind fun t287 => (if t287 = true then (if t271 > 0 then (if t272 < 1 then (laws_FnSquareFree.j8 kj111 t262 t263 t271 t272 t277 true) else (laws_FnSquareFree.j8 kj111 t262 t263 t271 t272 t277 (decide ((wrap64 ((wrap64 (t272 + t271)) - 1)) > t262)))) else (laws_FnSquareFree.j8 kj111 t262 t263 t271 t272 t277 false)) else (laws_FnSquareFree.j8 kj111 t262 t263 t271 t272 t277 true))) else (some true)) = some r := by rw [if_neg (show ¬ (false = true) by decide)] at H; exact H
          clear H
          have H := H1
          clear H1
          by_cases c155 : t264 = true
          ·
           subst c155
           have H1 : ((laws_tRises.f kj111 t263 1 t262).bind fun t287 => (if t287 = true then (if t271 > 0 then (if t272 < 1 then (laws_FnSquareFree.j8 kj111 t262 t263 t271 t272 t277 true) else (laws_FnSquareFree.j8 kj111 t262 t263 t271 t272 t277 (decide ((wrap64 ((wrap64 (t272 + t271)) - 1)) > t262)))) else (laws_FnSquareFree.j8 kj111 t262 t263 t271 t272 t277 false)) else (laws_FnSquareFree.j8 kj111 t262 t263 t271 t272 t277 true))) = some r := by rw [if_pos rfl] at H; exact H
           clear H
           have H := H1
           clear H1
           have HC156 := Aside0.mk H
           clear H
           go_upto_region 51 with (fail)
           refine cutF mk0 [] (fun u_ wc => ∃ (kq : Nat) (x482_155 : Bool), (u_ 482) = .bool x482_155 ∧ Aside0 (laws_FnSquareFree.j8 kq t262 t263 t271 t272 t277 x482_155 = some r) ∧ Aside0 (kq ≤ kj111) ∧ Aside0 (Kd.R (Kd.int .i64) 3 wc w.heap.size (fun _ => True) v265 t263) ∧ Aside0 (Below w.heap.size w wc)) ?_ ?_
           ·
            as_aux_lemma =>
             intro J_ K_ hJ_ hK_
             have H := HC156.out
             clear HC156
             replace H := Option.bind_eq_some_iff.mp H
             obtain ⟨t287, A1570, H⟩ := H
             replace H : (if t287 = true then (if t271 > 0 then (if t272 < 1 then (laws_FnSquareFree.j8 kj111 t262 t263 t271 t272 t277 true) else (laws_FnSquareFree.j8 kj111 t262 t263 t271 t272 t277 (decide ((wrap64 ((wrap64 (t272 + t271)) - 1)) > t262)))) else (laws_FnSquareFree.j8 kj111 t262 t263 t271 t272 t277 false)) else (laws_FnSquareFree.j8 kj111 t262 t263 t271 t272 t277 true)) = some r := H
             have A157 := Aside0.mk A1570
             clear A1570
             by_cases c158 : t287 = true
             ·
              subst c158
              have H1 : (if t271 > 0 then (if t272 < 1 then (laws_FnSquareFree.j8 kj111 t262 t263 t271 t272 t277 true) else (laws_FnSquareFree.j8 kj111 t262 t263 t271 t272 t277 (decide ((wrap64 ((wrap64 (t272 + t271)) - 1)) > t262)))) else (laws_FnSquareFree.j8 kj111 t262 t263 t271 t272 t277 false)) = some r := by rw [if_pos rfl] at H; exact H
              clear H
              have H := H1
              clear H1
              by_cases c159 : t271 > 0
              ·
               rw [if_pos c159] at H
               have c159b0 : decide (0 < t271) = true := decide_eq_true c159
               clear c159
               (first | rw [c159b0] | (simp only [i64_w, i32_w]; rw [c159b0]) | skip)
               by_cases c160 : t272 < 1
               ·
                rw [if_pos c160] at H
                exact (laws_FnSquareFree.j8_no _ _ _ _ _ _ (H.trans (congrArg some HRT.out))).elim
               ·
                rw [if_neg c160] at H
                have c160b0 : decide (t272 < 1) = false := decide_eq_false c160
                clear c160
                have H' := Aside0.mk H
                clear H
                obtain ⟨Ao162, co162, eo162⟩ := Kd.R_slice HO_44.out
                subst eo162
                go_wp2_with (first | ((with_reducible refine gate_callee (f := 23) rfl ?_); refine goesL_ (some 465) rfl rfl Try.func23 (by kernel_rfl) rfl #[.slice Ao162 t263.length co162, .int .i64 1, .int .i64 t262] rfl (by (try simp only [List.map_toArray, List.map_cons, List.map_nil]); first | done | rfl | (simp only [List.length_drop, List.length_take]; rfl)) ?_; (with_reducible refine (laws_tRises.calls kj111 _ _ t263 1 t262 true _ ?side1 ?side2 A157.out).mono ?_); (case side1 => repeat (first | exact (Kd.R_reads' HO_44.out).2.2 | (with_reducible refine Kd.C_alloc ?_ _) | (with_reducible refine Kd.C_drewN ?_ _) | (with_reducible refine Kd.C_drew ?_))); (case side2 => exact (Kd.R_reads' HO_44.out).2.1); rintro e w' ⟨rfl, ⟨nd, rfl⟩⟩; refine ⟨_, rfl, ?_⟩))
                refine cutMeet hJ_ ?_ (by kernel_rfl)
                exact ⟨_, (decide ((wrap64 ((wrap64 (t272 + t271)) - 1)) > t262)), (by first | rfl | (simp; done) | (simp [*]; done)), H', ⟨by have := HJ17.out; have := HJ41.out; have := HJ111.out; first | omega | exact Nat.le_refl _⟩, ⟨by (with_reducible repeat (first | apply Kd.R_alloc | apply Kd.R_drewN | apply Kd.R_drew)); exact HO_44.out⟩, ⟨by repeat (first | (with_reducible first | exact HB.out | apply below_alloc | apply pw_below_drewN | apply below_drew1))⟩⟩
              ·
               rw [if_neg c159] at H
               have c159b0 : decide (0 < t271) = false := decide_eq_false c159
               clear c159
               (first | rw [c159b0] | (simp only [i64_w, i32_w]; rw [c159b0]) | skip)
               have H' := Aside0.mk H
               clear H
               obtain ⟨Ao163, co163, eo163⟩ := Kd.R_slice HO_44.out
               subst eo163
               go_wp2_with (first | ((with_reducible refine gate_callee (f := 23) rfl ?_); refine goesL_ (some 465) rfl rfl Try.func23 (by kernel_rfl) rfl #[.slice Ao163 t263.length co163, .int .i64 1, .int .i64 t262] rfl (by (try simp only [List.map_toArray, List.map_cons, List.map_nil]); first | done | rfl | (simp only [List.length_drop, List.length_take]; rfl)) ?_; (with_reducible refine (laws_tRises.calls kj111 _ _ t263 1 t262 true _ ?side1 ?side2 A157.out).mono ?_); (case side1 => repeat (first | exact (Kd.R_reads' HO_44.out).2.2 | (with_reducible refine Kd.C_alloc ?_ _) | (with_reducible refine Kd.C_drewN ?_ _) | (with_reducible refine Kd.C_drew ?_))); (case side2 => exact (Kd.R_reads' HO_44.out).2.1); rintro e w' ⟨rfl, ⟨nd, rfl⟩⟩; refine ⟨_, rfl, ?_⟩))
               refine cutMeet hJ_ ?_ (by kernel_rfl)
               exact ⟨_, (false), (by first | rfl | (simp; done) | (simp [*]; done)), H', ⟨by have := HJ17.out; have := HJ41.out; have := HJ111.out; first | omega | exact Nat.le_refl _⟩, ⟨by (with_reducible repeat (first | apply Kd.R_alloc | apply Kd.R_drewN | apply Kd.R_drew)); exact HO_44.out⟩, ⟨by repeat (first | (with_reducible first | exact HB.out | apply below_alloc | apply pw_below_drewN | apply below_drew1))⟩⟩
             ·
              replace c158 := Bool.eq_false_iff.mpr c158
              subst c158
              have H1 : (laws_FnSquareFree.j8 kj111 t262 t263 t271 t272 t277 true) = some r := by rw [if_neg (show ¬ (false = true) by decide)] at H; exact H
              clear H
              have H := H1
              clear H1
              exact (laws_FnSquareFree.j8_no _ _ _ _ _ _ (H.trans (congrArg some HRT.out))).elim
           ·
            intro u_ wc hcut
            clear HC156
            obtain ⟨kq, x482_155, e_482, HA, HJ155, HO_44, HB⟩ := hcut
            dsimp only [cutFgt, mk0]
            rw [e_482]
            cases kq with
            | zero => exact absurd HA.out (by simp [laws_FnSquareFree.j8])
            | succ kj155 =>
             have H := HA.out
             clear HA
             simp only [laws_FnSquareFree.j8] at H
             by_cases c165 : x482_155 = true
             ·
              subst c165
              have H1 : (some false) = some r := by rw [if_pos rfl] at H; exact H
              clear H
              have H := H1
              clear H1
              first
              | exact absurd (Option.some.inj (H.trans (congrArg some HRT.out))) Bool.false_ne_true
              |
               obtain rfl := Option.some.inj H
               go_wp2
               go_ret
               exact ⟨by first | rfl | (simp [errW_none, errW_some] <;> rfl) | (simp [*, errW_none, errW_some] <;> rfl), by repeat (first | (with_reducible first | exact HB.out | apply below_alloc | apply pw_below_drewN | apply below_drew1))⟩
             ·
              replace c165 := Bool.eq_false_iff.mpr c165
              subst c165
              have H1 : (laws_FnSquareFree.l1 kj155 t262 t263 t271 t272 t277 0) = some r := by rw [if_neg (show ¬ (false = true) by decide)] at H; exact H
              clear H
              have H := H1
              clear H1
              have H' := Aside0.mk H
              clear H
              go_wp2
              go_loopg [63] kj155 (fun kq v63 w' => ∃ (x63_5 : Int), v63 = .int .i64 x63_5 ∧ Aside0 (laws_FnSquareFree.l1 kq t262 t263 t271 t272 t277 x63_5 = some r) ∧ Aside0 (kq ≤ kj155) ∧ Aside0 (Kd.R (Kd.int .i64) 3 w' w.heap.size (fun _ => True) v265 t263) ∧ Aside0 (Below w.heap.size w w'))
              case atStart => exact ⟨(0), (by first | rfl | (simp; done) | (simp [*]; done)), H', ⟨Nat.le_refl _⟩, ⟨by (with_reducible repeat (first | apply Kd.R_alloc | apply Kd.R_drewN | apply Kd.R_drew)); exact HO_44.out⟩, ⟨by repeat (first | (with_reducible first | exact HB.out | apply below_alloc | apply pw_below_drewN | apply below_drew1))⟩⟩
              case round =>
               clear H'
               obtain ⟨x63_5, rfl, HA, HK5, HO_44, HB⟩ := hrel
               cases gk with
               | zero => exact absurd HA.out (by simp [laws_FnSquareFree.l1])
               | succ k5 =>
                have H := HA.out
                clear HA
                simp only [laws_FnSquareFree.l1] at H
                by_cases c166 : x63_5 < t271
                ·
                 rw [if_pos c166] at H
                 have c166b0 : decide (x63_5 < t271) = true := decide_eq_true c166
                 clear c166
                 replace H := Option.bind_eq_some_iff.mp H
                 obtain ⟨t288, A1670, H⟩ := H
                 replace H : (if t288 = true then (some false) else (laws_FnSquareFree.l1 k5 t262 t263 t271 t272 t277 (wrap64 (x63_5 + 1)))) = some r := H
                 have A167 := Aside0.mk A1670
                 clear A1670
                 by_cases c168 : t288 = true
                 ·
                  subst c168
                  have H1 : (some false) = some r := by rw [if_pos rfl] at H; exact H
                  clear H
                  have H := H1
                  clear H1
                  first
                  | exact absurd (Option.some.inj (H.trans (congrArg some HRT.out))) Bool.false_ne_true
                  |
                   obtain rfl := Option.some.inj H
                   obtain ⟨Ao169, co169, eo169⟩ := Kd.R_slice HO_44.out
                   subst eo169
                   go_wp2_with (first | ((with_reducible refine gate_callee (f := 24) rfl ?_); refine goesL_ (some 492) rfl rfl Try.func24 (by kernel_rfl) rfl #[.slice Ao169 t263.length co169, .int .i64 (wrap64 (t272 + x63_5))] rfl (by (try simp only [List.map_toArray, List.map_cons, List.map_nil]); first | done | rfl | (simp only [List.length_drop, List.length_take]; rfl)) ?_; (with_reducible refine (laws_tHas.calls k5 _ _ t263 (wrap64 (t272 + x63_5)) true _ ?side1 ?side2 A167.out).mono ?_); (case side1 => repeat (first | exact (Kd.R_reads' HO_44.out).2.2 | (with_reducible refine Kd.C_alloc ?_ _) | (with_reducible refine Kd.C_drewN ?_ _) | (with_reducible refine Kd.C_drew ?_))); (case side2 => exact (Kd.R_reads' HO_44.out).2.1); rintro e w' ⟨rfl, ⟨nd, rfl⟩⟩; refine ⟨_, rfl, ?_⟩))
                   go_ret
                   exact ⟨by first | rfl | (simp [errW_none, errW_some] <;> rfl) | (simp [*, errW_none, errW_some] <;> rfl), by repeat (first | (with_reducible first | exact HB.out | apply below_alloc | apply pw_below_drewN | apply below_drew1))⟩
                 ·
                  replace c168 := Bool.eq_false_iff.mpr c168
                  subst c168
                  have H1 : (laws_FnSquareFree.l1 k5 t262 t263 t271 t272 t277 (wrap64 (x63_5 + 1))) = some r := by rw [if_neg (show ¬ (false = true) by decide)] at H; exact H
                  clear H
                  have H := H1
                  clear H1
                  have H' := Aside0.mk H
                  clear H
                  obtain ⟨Ao170, co170, eo170⟩ := Kd.R_slice HO_44.out
                  subst eo170
                  go_wp2_with (first | ((with_reducible refine gate_callee (f := 24) rfl ?_); refine goesL_ (some 492) rfl rfl Try.func24 (by kernel_rfl) rfl #[.slice Ao170 t263.length co170, .int .i64 (wrap64 (t272 + x63_5))] rfl (by (try simp only [List.map_toArray, List.map_cons, List.map_nil]); first | done | rfl | (simp only [List.length_drop, List.length_take]; rfl)) ?_; (with_reducible refine (laws_tHas.calls k5 _ _ t263 (wrap64 (t272 + x63_5)) false _ ?side1 ?side2 A167.out).mono ?_); (case side1 => repeat (first | exact (Kd.R_reads' HO_44.out).2.2 | (with_reducible refine Kd.C_alloc ?_ _) | (with_reducible refine Kd.C_drewN ?_ _) | (with_reducible refine Kd.C_drew ?_))); (case side2 => exact (Kd.R_reads' HO_44.out).2.1); rintro e w' ⟨rfl, ⟨nd, rfl⟩⟩; refine ⟨_, rfl, ?_⟩))
                  go_roundg k5
                  case measure => have := HJ17.out; have := HJ41.out; have := HJ111.out; have := HJ155.out; have := HK5.out; omega
                  case rel => exact ⟨(wrap64 (x63_5 + 1)), (by first | rfl | (simp; done) | (simp [*]; done)), H', ⟨by have := HJ17.out; have := HJ41.out; have := HJ111.out; have := HJ155.out; have := HK5.out; omega⟩, ⟨by (with_reducible repeat (first | apply Kd.R_alloc | apply Kd.R_drewN | apply Kd.R_drew)); exact HO_44.out⟩, ⟨by repeat (first | (with_reducible first | exact HB.out | apply below_alloc | apply pw_below_drewN | apply below_drew1))⟩⟩
                ·
                 rw [if_neg c166] at H
                 have c166b0 : decide (x63_5 < t271) = false := decide_eq_false c166
                 clear c166
                 have HC171 := Aside0.mk H
                 clear H
                 go_upto_if 494 with (fail)
                 refine cutF mk0 [none, none, none, none, some 4, none, none, none, none, none, none, none, none, none, none, none, none, none, none, none, none, none, none, none, none, none, none, none, none, none, none, none, none, none, none, none, none, none, none, none, none, none, none, none, none, none, none, none, none, none, none, none, none, none, none, none, none, none, none, none, none, none, none, none, some 64, some 65] (fun u_ wc => ∃ (kq : Nat), Aside0 (laws_FnSquareFree.j10 kq t263 = some r) ∧ Aside0 (kq ≤ k5) ∧ Aside0 (Kd.R (Kd.int .i64) 3 wc w.heap.size (fun _ => True) v265 t263) ∧ Aside0 (Below w.heap.size w wc)) ?_ ?_
                 ·
                  as_aux_lemma =>
                   intro J_ K_ hJ_ hK_
                   have H := HC171.out
                   clear HC171
                   by_cases c172 : t262 > 0
                   ·
                    rw [if_pos c172] at H
                    have c172b0 : decide (0 < t262) = true := decide_eq_true c172
                    clear c172
                    (first | rw [c172b0] | (simp only [i64_w, i32_w]; rw [c172b0]) | skip)
                    replace H := Option.bind_eq_some_iff.mp H
                    obtain ⟨⟨t289, t290⟩, A1730, H⟩ := H
                    replace H : (if t290 = true then (if t289 = (t263.length : Int) then (if t277 > (t263.length : Int) then (some false) else (if (wrap64 (-t277)) > (t263.length : Int) then (some false) else (if (Int.tmod (wrap64 ((t263.length : Int) - t277)) 2) = 0 then (laws_FnSquareFree.j10 k5 t263) else (some false)))) else (some false)) else (some false)) = some r := H
                    have A173 := Aside0.mk A1730
                    clear A1730
                    by_cases c174 : t290 = true
                    ·
                     subst c174
                     have H1 : (if t289 = (t263.length : Int) then (if t277 > (t263.length : Int) then (some false) else (if (wrap64 (-t277)) > (t263.length : Int) then (some false) else (if (Int.tmod (wrap64 ((t263.length : Int) - t277)) 2) = 0 then (laws_FnSquareFree.j10 k5 t263) else (some false)))) else (some false)) = some r := by rw [if_pos rfl] at H; exact H
                     clear H
                     have H := H1
                     clear H1
                     by_cases c175 : t289 = (t263.length : Int)
                     ·
                      rw [if_pos c175] at H
                      have c175b0 : (t289 == (t263.length : Int)) = true := beq_iff_eq.mpr c175
                      have c175b1 : (t289 != (t263.length : Int)) = false := bne_eq_false_iff_eq.mpr c175
                      clear c175
                      by_cases c176 : t277 > (t263.length : Int)
                      ·
                       rw [if_pos c176] at H
                       have c176b0 : decide ((t263.length : Int) < t277) = true := decide_eq_true c176
                       clear c176
                       first
                       | exact absurd (Option.some.inj (H.trans (congrArg some HRT.out))) Bool.false_ne_true
                       |
                        obtain rfl := Option.some.inj H
                        go_wp2_with (first | ((with_reducible refine gate_callee (f := 48) rfl ?_); refine goesL_ (some 497) rfl rfl Try.func48 (by kernel_rfl) rfl #[.int .i64 t262] rfl (by (try simp only [List.map_toArray, List.map_cons, List.map_nil]); first | done | rfl | (simp only [List.length_drop, List.length_take]; rfl)) ?_; (with_reducible refine (impl_CountSquareFree.calls k5 t262 t289 true _ A173.out).mono ?_); rintro e w177 ⟨rfl, hb⟩; refine ⟨_, rfl, ?_⟩; have n0_ := Aside0.mk (Kd.R_below (by (with_reducible repeat (first | apply Kd.R_alloc | apply Kd.R_drewN | apply Kd.R_drew)); exact HO_44.out) hb); have n1_ := Aside0.mk (below_step (by repeat (first | (with_reducible first | exact HB.out | apply below_alloc | apply pw_below_drewN | apply below_drew1))) hb); clear HO_44; clear HB; have HO_44 := n0_; have HB := n1_; clear n0_ n1_; (try clear hb); obtain ⟨Ao178, co178, eo178⟩ := Kd.R_slice HO_44.out; subst eo178))
                        go_ret
                        exact ⟨by first | rfl | (simp [errW_none, errW_some] <;> rfl) | (simp [*, errW_none, errW_some] <;> rfl), by repeat (first | (with_reducible first | exact HB.out | apply below_alloc | apply pw_below_drewN | apply below_drew1))⟩
                      ·
                       rw [if_neg c176] at H
                       have c176b0 : decide ((t263.length : Int) < t277) = false := decide_eq_false c176
                       clear c176
                       by_cases c179 : (wrap64 (-t277)) > (t263.length : Int)
                       ·
                        rw [if_pos c179] at H
                        have c179b0 : decide ((t263.length : Int) < (wrap64 (-t277))) = true := decide_eq_true c179
                        clear c179
                        first
                        | exact absurd (Option.some.inj (H.trans (congrArg some HRT.out))) Bool.false_ne_true
                        |
                         obtain rfl := Option.some.inj H
                         go_wp2_with (first | ((with_reducible refine gate_callee (f := 48) rfl ?_); refine goesL_ (some 497) rfl rfl Try.func48 (by kernel_rfl) rfl #[.int .i64 t262] rfl (by (try simp only [List.map_toArray, List.map_cons, List.map_nil]); first | done | rfl | (simp only [List.length_drop, List.length_take]; rfl)) ?_; (with_reducible refine (impl_CountSquareFree.calls k5 t262 t289 true _ A173.out).mono ?_); rintro e w180 ⟨rfl, hb⟩; refine ⟨_, rfl, ?_⟩; have n0_ := Aside0.mk (Kd.R_below (by (with_reducible repeat (first | apply Kd.R_alloc | apply Kd.R_drewN | apply Kd.R_drew)); exact HO_44.out) hb); have n1_ := Aside0.mk (below_step (by repeat (first | (with_reducible first | exact HB.out | apply below_alloc | apply pw_below_drewN | apply below_drew1))) hb); clear HO_44; clear HB; have HO_44 := n0_; have HB := n1_; clear n0_ n1_; (try clear hb); obtain ⟨Ao181, co181, eo181⟩ := Kd.R_slice HO_44.out; subst eo181))
                         go_ret
                         exact ⟨by first | rfl | (simp [errW_none, errW_some] <;> rfl) | (simp [*, errW_none, errW_some] <;> rfl), by repeat (first | (with_reducible first | exact HB.out | apply below_alloc | apply pw_below_drewN | apply below_drew1))⟩
                       ·
                        rw [if_neg c179] at H
                        have c179b0 : decide ((t263.length : Int) < (wrap64 (-t277))) = false := decide_eq_false c179
                        clear c179
                        by_cases c182 : (Int.tmod (wrap64 ((t263.length : Int) - t277)) 2) = 0
                        ·
                         rw [if_pos c182] at H
                         have c182b0 : ((Int.tmod (wrap64 ((t263.length : Int) - t277)) 2) == 0) = true := beq_iff_eq.mpr c182
                         have c182b1 : ((Int.tmod (wrap64 ((t263.length : Int) - t277)) 2) != 0) = false := bne_eq_false_iff_eq.mpr c182
                         clear c182
                         have H' := Aside0.mk H
                         clear H
                         go_wp2_with (first | ((with_reducible refine gate_callee (f := 48) rfl ?_); refine goesL_ (some 497) rfl rfl Try.func48 (by kernel_rfl) rfl #[.int .i64 t262] rfl (by (try simp only [List.map_toArray, List.map_cons, List.map_nil]); first | done | rfl | (simp only [List.length_drop, List.length_take]; rfl)) ?_; (with_reducible refine (impl_CountSquareFree.calls k5 t262 t289 true _ A173.out).mono ?_); rintro e w183 ⟨rfl, hb⟩; refine ⟨_, rfl, ?_⟩; have n0_ := Aside0.mk (Kd.R_below (by (with_reducible repeat (first | apply Kd.R_alloc | apply Kd.R_drewN | apply Kd.R_drew)); exact HO_44.out) hb); have n1_ := Aside0.mk (below_step (by repeat (first | (with_reducible first | exact HB.out | apply below_alloc | apply pw_below_drewN | apply below_drew1))) hb); clear HO_44; clear HB; have HO_44 := n0_; have HB := n1_; clear n0_ n1_; (try clear hb); obtain ⟨Ao184, co184, eo184⟩ := Kd.R_slice HO_44.out; subst eo184))
                         refine cutMeet hJ_ ?_ (by kernel_rfl)
                         exact ⟨_, H', ⟨by have := HJ17.out; have := HJ41.out; have := HJ111.out; have := HJ155.out; have := HK5.out; first | omega | exact Nat.le_refl _⟩, ⟨by (with_reducible repeat (first | apply Kd.R_alloc | apply Kd.R_drewN | apply Kd.R_drew)); exact HO_44.out⟩, ⟨by repeat (first | (with_reducible first | exact HB.out | apply below_alloc | apply pw_below_drewN | apply below_drew1))⟩⟩
                        ·
                         rw [if_neg c182] at H
                         have c182b0 : ((Int.tmod (wrap64 ((t263.length : Int) - t277)) 2) == 0) = false := beq_eq_false_iff_ne.mpr c182
                         have c182b1 : ((Int.tmod (wrap64 ((t263.length : Int) - t277)) 2) != 0) = true := bne_iff_ne.mpr c182
                         first
                         | exact absurd (Option.some.inj (H.trans (congrArg some HRT.out))) Bool.false_ne_true
                         |
                          obtain rfl := Option.some.inj H
                          go_wp2_with (first | ((with_reducible refine gate_callee (f := 48) rfl ?_); refine goesL_ (some 497) rfl rfl Try.func48 (by kernel_rfl) rfl #[.int .i64 t262] rfl (by (try simp only [List.map_toArray, List.map_cons, List.map_nil]); first | done | rfl | (simp only [List.length_drop, List.length_take]; rfl)) ?_; (with_reducible refine (impl_CountSquareFree.calls k5 t262 t289 true _ A173.out).mono ?_); rintro e w185 ⟨rfl, hb⟩; refine ⟨_, rfl, ?_⟩; have n0_ := Aside0.mk (Kd.R_below (by (with_reducible repeat (first | apply Kd.R_alloc | apply Kd.R_drewN | apply Kd.R_drew)); exact HO_44.out) hb); have n1_ := Aside0.mk (below_step (by repeat (first | (with_reducible first | exact HB.out | apply below_alloc | apply pw_below_drewN | apply below_drew1))) hb); clear HO_44; clear HB; have HO_44 := n0_; have HB := n1_; clear n0_ n1_; (try clear hb); obtain ⟨Ao186, co186, eo186⟩ := Kd.R_slice HO_44.out; subst eo186))
                          go_ret
                          exact ⟨by first | rfl | (simp [errW_none, errW_some] <;> rfl) | (simp [*, errW_none, errW_some] <;> rfl), by repeat (first | (with_reducible first | exact HB.out | apply below_alloc | apply pw_below_drewN | apply below_drew1))⟩
                     ·
                      rw [if_neg c175] at H
                      have c175b0 : (t289 == (t263.length : Int)) = false := beq_eq_false_iff_ne.mpr c175
                      have c175b1 : (t289 != (t263.length : Int)) = true := bne_iff_ne.mpr c175
                      first
                      | exact absurd (Option.some.inj (H.trans (congrArg some HRT.out))) Bool.false_ne_true
                      |
                       obtain rfl := Option.some.inj H
                       go_wp2_with (first | ((with_reducible refine gate_callee (f := 48) rfl ?_); refine goesL_ (some 497) rfl rfl Try.func48 (by kernel_rfl) rfl #[.int .i64 t262] rfl (by (try simp only [List.map_toArray, List.map_cons, List.map_nil]); first | done | rfl | (simp only [List.length_drop, List.length_take]; rfl)) ?_; (with_reducible refine (impl_CountSquareFree.calls k5 t262 t289 true _ A173.out).mono ?_); rintro e w187 ⟨rfl, hb⟩; refine ⟨_, rfl, ?_⟩; have n0_ := Aside0.mk (Kd.R_below (by (with_reducible repeat (first | apply Kd.R_alloc | apply Kd.R_drewN | apply Kd.R_drew)); exact HO_44.out) hb); have n1_ := Aside0.mk (below_step (by repeat (first | (with_reducible first | exact HB.out | apply below_alloc | apply pw_below_drewN | apply below_drew1))) hb); clear HO_44; clear HB; have HO_44 := n0_; have HB := n1_; clear n0_ n1_; (try clear hb); obtain ⟨Ao188, co188, eo188⟩ := Kd.R_slice HO_44.out; subst eo188))
                       go_ret
                       exact ⟨by first | rfl | (simp [errW_none, errW_some] <;> rfl) | (simp [*, errW_none, errW_some] <;> rfl), by repeat (first | (with_reducible first | exact HB.out | apply below_alloc | apply pw_below_drewN | apply below_drew1))⟩
                    ·
                     replace c174 := Bool.eq_false_iff.mpr c174
                     subst c174
                     have H1 : (some false) = some r := by rw [if_neg (show ¬ (false = true) by decide)] at H; exact H
                     clear H
                     have H := H1
                     clear H1
                     first
                     | exact absurd (Option.some.inj (H.trans (congrArg some HRT.out))) Bool.false_ne_true
                     |
                      obtain rfl := Option.some.inj H
                      go_wp2_with (first | ((with_reducible refine gate_callee (f := 48) rfl ?_); refine goesL_ (some 497) rfl rfl Try.func48 (by kernel_rfl) rfl #[.int .i64 t262] rfl (by (try simp only [List.map_toArray, List.map_cons, List.map_nil]); first | done | rfl | (simp only [List.length_drop, List.length_take]; rfl)) ?_; (with_reducible refine (impl_CountSquareFree.calls k5 t262 t289 false _ A173.out).mono ?_); rintro e w189 ⟨rfl, hb⟩; refine ⟨_, rfl, ?_⟩; have n0_ := Aside0.mk (Kd.R_below (by (with_reducible repeat (first | apply Kd.R_alloc | apply Kd.R_drewN | apply Kd.R_drew)); exact HO_44.out) hb); have n1_ := Aside0.mk (below_step (by repeat (first | (with_reducible first | exact HB.out | apply below_alloc | apply pw_below_drewN | apply below_drew1))) hb); clear HO_44; clear HB; have HO_44 := n0_; have HB := n1_; clear n0_ n1_; (try clear hb)))
                      go_ret
                      exact ⟨by first | rfl | (simp [errW_none, errW_some] <;> rfl) | (simp [*, errW_none, errW_some] <;> rfl), by repeat (first | (with_reducible first | exact HB.out | apply below_alloc | apply pw_below_drewN | apply below_drew1))⟩
                   ·
                    rw [if_neg c172] at H
                    have c172b0 : decide (0 < t262) = false := decide_eq_false c172
                    clear c172
                    (first | rw [c172b0] | (simp only [i64_w, i32_w]; rw [c172b0]) | skip)
                    have H' := Aside0.mk H
                    clear H
                    go_wp2
                    refine cutMeet hJ_ ?_ (by kernel_rfl)
                    exact ⟨_, H', ⟨by have := HJ17.out; have := HJ41.out; have := HJ111.out; have := HJ155.out; have := HK5.out; first | omega | exact Nat.le_refl _⟩, ⟨by (with_reducible repeat (first | apply Kd.R_alloc | apply Kd.R_drewN | apply Kd.R_drew)); exact HO_44.out⟩, ⟨by repeat (first | (with_reducible first | exact HB.out | apply below_alloc | apply pw_below_drewN | apply below_drew1))⟩⟩
                 ·
                  intro u_ wc hcut
                  clear HC171
                  obtain ⟨kq, HA, HJ170, HO_44, HB⟩ := hcut
                  dsimp only [cutFgt, mk0]
                  cases kq with
                  | zero => exact absurd HA.out (by simp [laws_FnSquareFree.j10])
                  | succ kj170 =>
                   have H := HA.out
                   clear HA
                   simp only [laws_FnSquareFree.j10] at H
                   have H' := Aside0.mk H
                   clear H
                   obtain ⟨Ao190, co190, eo190⟩ := Kd.R_slice HO_44.out
                   subst eo190
                   go_wp2
                   go_loopg [531] kj170 (fun kq v531 w' => ∃ (x531_7 : Int), v531 = .int .i64 x531_7 ∧ Aside0 (laws_FnSquareFree.l2 kq t263 (t263.length : Int) x531_7 = some r) ∧ Aside0 (kq ≤ kj170) ∧ Aside0 (Kd.R (Kd.int .i64) 3 w' w.heap.size (fun _ => True) (.slice Ao190 t263.length co190) t263) ∧ Aside0 (Below w.heap.size w w'))
                   case atStart => exact ⟨(0), (by first | rfl | (simp; done) | (simp [*]; done)), H', ⟨Nat.le_refl _⟩, ⟨by (with_reducible repeat (first | apply Kd.R_alloc | apply Kd.R_drewN | apply Kd.R_drew)); exact HO_44.out⟩, ⟨by repeat (first | (with_reducible first | exact HB.out | apply below_alloc | apply pw_below_drewN | apply below_drew1))⟩⟩
                   case round =>
                    clear H'
                    obtain ⟨x531_7, rfl, HA, HK7, HO_529, HB⟩ := hrel
                    cases gk with
                    | zero => exact absurd HA.out (by simp [laws_FnSquareFree.l2])
                    | succ k7 =>
                     have H := HA.out
                     clear HA
                     simp only [laws_FnSquareFree.l2] at H
                     by_cases c191 : x531_7 < (t263.length : Int)
                     ·
                      rw [if_pos c191] at H
                      have c191b0 : decide (x531_7 < (t263.length : Int)) = true := decide_eq_true c191
                      clear c191
                      by_cases c192 : 0 ≤ x531_7
                      ·
                       rw [if_pos c192] at H
                       have c192b0 : decide (0 ≤ x531_7) = true := decide_eq_true c192
                       clear c192
                       by_cases c193 : x531_7 < (t263.length : Int)
                       ·
                        rw [if_pos c193] at H
                        have c193b0 : decide (x531_7 < (t263.length : Int)) = true := decide_eq_true c193
                        clear c193
                        by_cases c194 : x531_7 > 300
                        ·
                         rw [if_pos c194] at H
                         have c194b0 : decide (300 < x531_7) = true := decide_eq_true c194
                         clear c194
                         first
                         | exact absurd (Option.some.inj (H.trans (congrArg some HRT.out))) Bool.false_ne_true
                         |
                          obtain rfl := Option.some.inj H
                          have p291 : 0 ≤ (x531_7 : Int) := of_decide_eq_true (by first | (with_reducible assumption) | assumption)
                          have q291 : x531_7 < (t263.length : Int) := of_decide_eq_true (by first | (with_reducible assumption) | assumption)
                          obtain ⟨ad291, e291, hx291_0⟩ := Kd.at_int (Kd.R_reads' HO_529.out).2.2 x531_7 p291 q291
                          cases e291
                          replace p291 := eq_true p291
                          replace q291 := eq_true q291
                          go_wp2
                          go_ret
                          exact ⟨by first | rfl | (simp [errW_none, errW_some] <;> rfl) | (simp [*, errW_none, errW_some] <;> rfl), by repeat (first | (with_reducible first | exact HB.out | apply below_alloc | apply pw_below_drewN | apply below_drew1))⟩
                        ·
                         rw [if_neg c194] at H
                         have c194b0 : decide (300 < x531_7) = false := decide_eq_false c194
                         clear c194
                         replace H := Option.bind_eq_some_iff.mp H
                         obtain ⟨⟨t292, t293⟩, A1950, H⟩ := H
                         replace H : (if t293 = true then (if t292 = (rd t263 x531_7) then (laws_FnSquareFree.l2 k7 t263 (t263.length : Int) (wrap64 (x531_7 + 1))) else (some false)) else (some false)) = some r := H
                         have A195 := Aside0.mk A1950
                         clear A1950
                         by_cases c196 : t293 = true
                         ·
                          subst c196
                          have H1 : (if t292 = (rd t263 x531_7) then (laws_FnSquareFree.l2 k7 t263 (t263.length : Int) (wrap64 (x531_7 + 1))) else (some false)) = some r := by rw [if_pos rfl] at H; exact H
                          clear H
                          have H := H1
                          clear H1
                          by_cases c197 : t292 = (rd t263 x531_7)
                          ·
                           rw [if_pos c197] at H
                           have c197b0 : (t292 == (rd t263 x531_7)) = true := beq_iff_eq.mpr c197
                           have c197b1 : (t292 != (rd t263 x531_7)) = false := bne_eq_false_iff_eq.mpr c197
                           clear c197
                           have H' := Aside0.mk H
                           clear H
                           have p291 : 0 ≤ (x531_7 : Int) := of_decide_eq_true (by first | (with_reducible assumption) | assumption)
                           have q291 : x531_7 < (t263.length : Int) := of_decide_eq_true (by first | (with_reducible assumption) | assumption)
                           obtain ⟨ad291, e291, hx291_0⟩ := Kd.at_int (Kd.R_reads' HO_529.out).2.2 x531_7 p291 q291
                           cases e291
                           replace p291 := eq_true p291
                           replace q291 := eq_true q291
                           go_wp2_with (first | ((with_reducible refine gate_callee (f := 61) rfl ?_); refine goesL_ (some 540) rfl rfl Try.func61 (by kernel_rfl) rfl #[.int .i64 x531_7] rfl (by (try simp only [List.map_toArray, List.map_cons, List.map_nil]); first | done | rfl | (simp only [List.length_drop, List.length_take]; rfl)) ?_; (with_reducible refine (impl_SquareFreeOfRank.calls k7 x531_7 t292 true _ A195.out).mono ?_); rintro e w198 ⟨rfl, hb⟩; refine ⟨_, rfl, ?_⟩; have n0_ := Aside0.mk (Kd.R_below (by (with_reducible repeat (first | apply Kd.R_alloc | apply Kd.R_drewN | apply Kd.R_drew)); exact HO_529.out) hb); have n1_ := Aside0.mk (below_step (by repeat (first | (with_reducible first | exact HB.out | apply below_alloc | apply pw_below_drewN | apply below_drew1))) hb); clear HO_529; clear HB; have HO_529 := n0_; have HB := n1_; clear n0_ n1_; (try clear hb)))
                           go_roundg k7
                           case measure => have := HJ17.out; have := HJ41.out; have := HJ111.out; have := HJ155.out; have := HK5.out; have := HJ170.out; have := HK7.out; omega
                           case rel => exact ⟨(wrap64 (x531_7 + 1)), (by first | rfl | (simp; done) | (simp [*]; done)), H', ⟨by have := HJ17.out; have := HJ41.out; have := HJ111.out; have := HJ155.out; have := HK5.out; have := HJ170.out; have := HK7.out; omega⟩, ⟨by (with_reducible repeat (first | apply Kd.R_alloc | apply Kd.R_drewN | apply Kd.R_drew)); exact HO_529.out⟩, ⟨by repeat (first | (with_reducible first | exact HB.out | apply below_alloc | apply pw_below_drewN | apply below_drew1))⟩⟩
                          ·
                           rw [if_neg c197] at H
                           have c197b0 : (t292 == (rd t263 x531_7)) = false := beq_eq_false_iff_ne.mpr c197
                           have c197b1 : (t292 != (rd t263 x531_7)) = true := bne_iff_ne.mpr c197
                           first
                           | exact absurd (Option.some.inj (H.trans (congrArg some HRT.out))) Bool.false_ne_true
                           |
                            obtain rfl := Option.some.inj H
                            have p291 : 0 ≤ (x531_7 : Int) := of_decide_eq_true (by first | (with_reducible assumption) | assumption)
                            have q291 : x531_7 < (t263.length : Int) := of_decide_eq_true (by first | (with_reducible assumption) | assumption)
                            obtain ⟨ad291, e291, hx291_0⟩ := Kd.at_int (Kd.R_reads' HO_529.out).2.2 x531_7 p291 q291
                            cases e291
                            replace p291 := eq_true p291
                            replace q291 := eq_true q291
                            go_wp2_with (first | ((with_reducible refine gate_callee (f := 61) rfl ?_); refine goesL_ (some 540) rfl rfl Try.func61 (by kernel_rfl) rfl #[.int .i64 x531_7] rfl (by (try simp only [List.map_toArray, List.map_cons, List.map_nil]); first | done | rfl | (simp only [List.length_drop, List.length_take]; rfl)) ?_; (with_reducible refine (impl_SquareFreeOfRank.calls k7 x531_7 t292 true _ A195.out).mono ?_); rintro e w199 ⟨rfl, hb⟩; refine ⟨_, rfl, ?_⟩; have n0_ := Aside0.mk (Kd.R_below (by (with_reducible repeat (first | apply Kd.R_alloc | apply Kd.R_drewN | apply Kd.R_drew)); exact HO_529.out) hb); have n1_ := Aside0.mk (below_step (by repeat (first | (with_reducible first | exact HB.out | apply below_alloc | apply pw_below_drewN | apply below_drew1))) hb); clear HO_529; clear HB; have HO_529 := n0_; have HB := n1_; clear n0_ n1_; (try clear hb)))
                            go_ret
                            exact ⟨by first | rfl | (simp [errW_none, errW_some] <;> rfl) | (simp [*, errW_none, errW_some] <;> rfl), by repeat (first | (with_reducible first | exact HB.out | apply below_alloc | apply pw_below_drewN | apply below_drew1))⟩
                         ·
                          replace c196 := Bool.eq_false_iff.mpr c196
                          subst c196
                          have H1 : (some false) = some r := by rw [if_neg (show ¬ (false = true) by decide)] at H; exact H
                          clear H
                          have H := H1
                          clear H1
                          first
                          | exact absurd (Option.some.inj (H.trans (congrArg some HRT.out))) Bool.false_ne_true
                          |
                           obtain rfl := Option.some.inj H
                           have p291 : 0 ≤ (x531_7 : Int) := of_decide_eq_true (by first | (with_reducible assumption) | assumption)
                           have q291 : x531_7 < (t263.length : Int) := of_decide_eq_true (by first | (with_reducible assumption) | assumption)
                           obtain ⟨ad291, e291, hx291_0⟩ := Kd.at_int (Kd.R_reads' HO_529.out).2.2 x531_7 p291 q291
                           cases e291
                           replace p291 := eq_true p291
                           replace q291 := eq_true q291
                           go_wp2_with (first | ((with_reducible refine gate_callee (f := 61) rfl ?_); refine goesL_ (some 540) rfl rfl Try.func61 (by kernel_rfl) rfl #[.int .i64 x531_7] rfl (by (try simp only [List.map_toArray, List.map_cons, List.map_nil]); first | done | rfl | (simp only [List.length_drop, List.length_take]; rfl)) ?_; (with_reducible refine (impl_SquareFreeOfRank.calls k7 x531_7 t292 false _ A195.out).mono ?_); rintro e w200 ⟨rfl, hb⟩; refine ⟨_, rfl, ?_⟩; have n0_ := Aside0.mk (Kd.R_below (by (with_reducible repeat (first | apply Kd.R_alloc | apply Kd.R_drewN | apply Kd.R_drew)); exact HO_529.out) hb); have n1_ := Aside0.mk (below_step (by repeat (first | (with_reducible first | exact HB.out | apply below_alloc | apply pw_below_drewN | apply below_drew1))) hb); clear HO_529; clear HB; have HO_529 := n0_; have HB := n1_; clear n0_ n1_; (try clear hb)))
                           go_ret
                           exact ⟨by first | rfl | (simp [errW_none, errW_some] <;> rfl) | (simp [*, errW_none, errW_some] <;> rfl), by repeat (first | (with_reducible first | exact HB.out | apply below_alloc | apply pw_below_drewN | apply below_drew1))⟩
                       ·
                        rw [if_neg c193] at H
                        exact absurd H (by simp)
                      ·
                       rw [if_neg c192] at H
                       exact absurd H (by simp)
                     ·
                      rw [if_neg c191] at H
                      have c191b0 : decide (x531_7 < (t263.length : Int)) = false := decide_eq_false c191
                      clear c191
                      first
                      | exact absurd (Option.some.inj (H.trans (congrArg some HRT.out))) Bool.false_ne_true
                      |
                       obtain rfl := Option.some.inj H
                       go_wp2
                       go_ret
                       exact ⟨by first | rfl | (simp [errW_none, errW_some] <;> rfl) | (simp [*, errW_none, errW_some] <;> rfl), by repeat (first | (with_reducible first | exact HB.out | apply below_alloc | apply pw_below_drewN | apply below_drew1))⟩
          ·
           replace c155 := Bool.eq_false_iff.mpr c155
           subst c155
           have H1 : (some true) = some r := by rw [if_neg (show ¬ (false = true) by decide)] at H; exact H
           clear H
           have H := H1
           clear H1
           first
           | exact absurd (Option.some.inj (H.trans (congrArg some HRT.out))) Bool.false_ne_true
           |
            obtain rfl := Option.some.inj H
            go_wp2
            go_ret
            exact ⟨by first | rfl | (simp [errW_none, errW_some] <;> rfl) | (simp [*, errW_none, errW_some] <;> rfl), by repeat (first | (with_reducible first | exact HB.out | apply below_alloc | apply pw_below_drewN | apply below_drew1))⟩

/-- THE ONE PURE STATEMENT of laws_FnSquareFree: yours. -/
def laws_FnSquareFree.Pure : Prop := ∀ (l0 : List Int) (l1 : List Int), l0.length ≤ maxLen → l0.length * 1 ≤ 140737488351232 → (∀ x ∈ l0, (Lit.int .u8 x).wf = true) → l1.length ≤ maxLen → l1.length * 1 ≤ 140737488351232 → (∀ x ∈ l1, (Lit.int .u8 x).wf = true) → ∃ k, laws_FnSquareFree.f k l0 l1 = some true
theorem laws_FnSquareFree.walk (P : laws_FnSquareFree.Pure) (a0 : Option Addr) (len0 cap0 : Nat) (z0 : List Int) (a1 : Option Addr) (len1 cap1 : Nat) (z1 : List Int) (w : World) (w0 : (a0 = none ∧ len0 = 0 ∧ cap0 = 0 ∧ z0 = []) ∨ ∃ x, a0 = some x ∧ len0 ≤ cap0 ∧ cap0 ≤ maxLen ∧ z0.length = cap0 ∧ (∀ i, i < z0.length → w.cell? (x.add i) = some (.int .u8 (z0.getD i 0))) ∧ ∀ n ∈ z0, (Lit.int .u8 n).wf = true) (y0 : len0 * 1 ≤ 140737488351232) (w1 : (a1 = none ∧ len1 = 0 ∧ cap1 = 0 ∧ z1 = []) ∨ ∃ x, a1 = some x ∧ len1 ≤ cap1 ∧ cap1 ≤ maxLen ∧ z1.length = cap1 ∧ (∀ i, i < z1.length → w.cell? (x.add i) = some (.int .u8 (z1.getD i 0))) ∧ ∀ n ∈ z1, (Lit.int .u8 n).wf = true) (y1 : len1 * 1 ≤ 140737488351232) :
  Calls Try.prog 4 #[.slice a0 len0 cap0, .slice a1 len1 cap1] w fun e w' => e = .returned (.bool true) ∧ Below w.heap.size w w' := by
 obtain ⟨l0, rfl, hr0, hm0, hw0, hc0⟩ := ReadsInt.ofRowC w0
 obtain ⟨l1, rfl, hr1, hm1, hw1, hc1⟩ := ReadsInt.ofRowC w1
 obtain ⟨k, h⟩ := P l0 l1 hm0 y0 hw0 hm1 y1 hw1
 refine (laws_FnSquareFree.calls k _ _ l0 _ _ l1 true w (Kd.C_of_reads (d := (0 : Int)) (h1 := fun _ => rfl) hr0) hc0 (Kd.C_of_reads (d := (0 : Int)) (h1 := fun _ => rfl) hr1) hc1 h rfl).mono ?_
 rintro e w' ⟨rfl, hd⟩
 exact ⟨rfl, hd⟩

end Go.Proofs.Ytfhfbicejddoiaa.PFnSquareFree
