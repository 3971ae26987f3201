-- Written for this claim by a program of this session, out of the translation and given contracts.
import Derived.Test.YtagnkhoonfbbdaaPFnSquareFreeOfAllx0
import Derived.Test.YtagnkhoonfbbdaaPFnSquareFreeOfAllx1
import Derived.Test.YtagnkhoonfbbdaaPFnSquareFreeOfAllx2
import Derived.Test.YtagnkhoonfbbdaaPFnSquareFreeOfAllx3
import Derived.Test.YtagnkhoonfbbdaaPFnSquareFreeOfAllx4
import Derived.Test.YtagnkhoonfbbdaaPFnSquareFreeOfAllx5
namespace Go.Proofs.Ytagnkhoonfbbdaa.PFnSquareFreeOfAll
open Go.RowKit Go.Proofs.YtagnkhoonfbbdaaW.PrintWords Go.Proofs.YtagnkhoonfbbdaaW.PrintLast Go.Proofs.YtagnkhoonfbbdaaW.PrintMore
attribute [local go_sem] max2_int min2_int max_two min_two max_three min_three max_four min_four   -- for this text's walks alone
set_option linter.unusedVariables false
set_option linter.unusedSimpArgs false

/-! ### laws_FnSquareFreeOfAll: function 12 -/
mutual
def laws_FnSquareFreeOfAll.j0 : Nat → Int → Int → Int → Bool → Bool → Int → Int → Int → Int → Int → Bool → Option (Bool)
 | 0, _, _, _, _, _, _, _, _, _, _, _ => none
 | k + 1, x0, x1, x2, x7, x8, x11, x15, x19, x23, x27, x211 => if x211 = true then (some false) else (if x8 = true then (if (x7 != (x11 == 1)) = true then (laws_FnSquareFreeOfAll.j1 k x0 x1 x2 x11 x15 x19 x23 x27 true) else (if (x7 != (x15 == x0)) = true then (laws_FnSquareFreeOfAll.j1 k x0 x1 x2 x11 x15 x19 x23 x27 true) else (if (x7 != (x19 != 0)) = true then (laws_FnSquareFreeOfAll.j1 k x0 x1 x2 x11 x15 x19 x23 x27 true) else (if (wrap64 (x11 * x11)) = 0 then (none) else (if (Int.tmod x0 (wrap64 (x11 * x11))) = 0 then (if x15 = 0 then (none) else (if (Int.tmod x0 x15) = 0 then (if x19 < (-1) then (laws_FnSquareFreeOfAll.j1 k x0 x1 x2 x11 x15 x19 x23 x27 true) else (if x19 > 1 then (laws_FnSquareFreeOfAll.j1 k x0 x1 x2 x11 x15 x19 x23 x27 true) else (laws_FnSquareFreeOfAll.j1 k x0 x1 x2 x11 x15 x19 x23 x27 (decide (x27 ≤ x0))))) else (laws_FnSquareFreeOfAll.j1 k x0 x1 x2 x11 x15 x19 x23 x27 true))) else (laws_FnSquareFreeOfAll.j1 k x0 x1 x2 x11 x15 x19 x23 x27 true)))))) else (laws_FnSquareFreeOfAll.j6 k x1 x2))
def laws_FnSquareFreeOfAll.j6 : Nat → Int → Int → Option (Bool)
 | 0, _, _ => none
 | k + 1, x1, x2 => (impl_SquareFreeUpTo.f k x1).bind fun bt215 => ((spec_SquareFreeUpTo.f k x1).bind fun bt219 => ((impl_LongestSquareful.f k x1).bind fun bt223 => ((spec_LongestSquareful.f k x1).bind fun bt226 => ((impl_SumOfSigns.f k x1).bind fun bt229 => ((spec_SumOfSigns.f k x1).bind fun bt231 => ((impl_SquareFreeOfRank.f k x2).bind fun bt233 => ((spec_SquareFreeOfRank.f k x2).bind fun bt235 => (if (bt215.2 != bt219.2) = true then (laws_FnSquareFreeOfAll.j7 k x1 bt215.1 bt215.2 bt223.1 bt223.2.1 bt229.1 true) else ((laws_tSame.f k bt215.1 bt219.1).bind fun t237 => (if t237 = true then (if (bt223.2.2 != bt226.2.2) = true then (laws_FnSquareFreeOfAll.j7 k x1 bt215.1 bt215.2 bt223.1 bt223.2.1 bt229.1 true) else (if bt223.1 = bt226.1 then (if bt223.2.1 = bt226.2.1 then (if (bt229.2 != bt231.2) = true then (laws_FnSquareFreeOfAll.j7 k x1 bt215.1 bt215.2 bt223.1 bt223.2.1 bt229.1 true) else (if bt229.1 = bt231.1 then (if (bt233.2 != bt235.2) = true then (laws_FnSquareFreeOfAll.j7 k x1 bt215.1 bt215.2 bt223.1 bt223.2.1 bt229.1 true) else (if bt233.1 = bt235.1 then (if (bt223.2.2 != bt215.2) = true then (laws_FnSquareFreeOfAll.j7 k x1 bt215.1 bt215.2 bt223.1 bt223.2.1 bt229.1 true) else (if bt215.2 = true then (laws_FnSquareFreeOfAll.j7 k x1 bt215.1 bt215.2 bt223.1 bt223.2.1 bt229.1 (bt229.2 != (decide (x1 > 0)))) else (laws_FnSquareFreeOfAll.j7 k x1 bt215.1 bt215.2 bt223.1 bt223.2.1 bt229.1 (bt229.2 != false)))) else (laws_FnSquareFreeOfAll.j7 k x1 bt215.1 bt215.2 bt223.1 bt223.2.1 bt229.1 true))) else (laws_FnSquareFreeOfAll.j7 k x1 bt215.1 bt215.2 bt223.1 bt223.2.1 bt229.1 true))) else (laws_FnSquareFreeOfAll.j7 k x1 bt215.1 bt215.2 bt223.1 bt223.2.1 bt229.1 true)) else (laws_FnSquareFreeOfAll.j7 k x1 bt215.1 bt215.2 bt223.1 bt223.2.1 bt229.1 true))) else (laws_FnSquareFreeOfAll.j7 k x1 bt215.1 bt215.2 bt223.1 bt223.2.1 bt229.1 true)))))))))))
def laws_FnSquareFreeOfAll.j7 : Nat → Int → List Int → Bool → Int → Int → Int → Bool → Option (Bool)
 | 0, _, _, _, _, _, _, _ => none
 | k + 1, x1, x44, x45, x48, x49, x54, x451 => if x451 = true then (some false) else (if x45 = true then ((laws_tRises.f k x44 1 x1).bind fun t238 => (if t238 = true then (if x48 > 0 then (if x49 < 1 then (laws_FnSquareFreeOfAll.j8 k x1 x44 x48 x49 x54 true) else (laws_FnSquareFreeOfAll.j8 k x1 x44 x48 x49 x54 (decide ((wrap64 ((wrap64 (x49 + x48)) - 1)) > x1)))) else (laws_FnSquareFreeOfAll.j8 k x1 x44 x48 x49 x54 false)) else (laws_FnSquareFreeOfAll.j8 k x1 x44 x48 x49 x54 true))) else (some true))
def laws_FnSquareFreeOfAll.j8 : Nat → Int → List Int → Int → Int → Int → Bool → Option (Bool)
 | 0, _, _, _, _, _, _ => none
 | k + 1, x1, x44, x48, x49, x54, x472 => if x472 = true then (some false) else (laws_FnSquareFreeOfAll.l1 k x1 x44 x48 x49 x54 0)
def laws_FnSquareFreeOfAll.l1 : Nat → Int → List Int → Int → Int → Int → Int → Option (Bool)
 | 0, _, _, _, _, _, _ => none
 | k + 1, x1, x44, x48, x49, x54, x62 => if x62 < x48 then ((laws_tHas.f k x44 (wrap64 (x49 + x62))).bind fun t239 => (if t239 = true then (some false) else (laws_FnSquareFreeOfAll.l1 k x1 x44 x48 x49 x54 (wrap64 (x62 + 1))))) else (if x1 > 0 then ((impl_CountSquareFree.f k x1).bind fun bt240 => (if bt240.2 = true then (if bt240.1 = (x44.length : Int) then (if x54 > (x44.length : Int) then (some false) else (if (wrap64 (-x54)) > (x44.length : Int) then (some false) else (if (Int.tmod (wrap64 ((x44.length : Int) - x54)) 2) = 0 then (laws_FnSquareFreeOfAll.j10 k x44) else (some false)))) else (some false)) else (some false))) else (laws_FnSquareFreeOfAll.j10 k x44))
def laws_FnSquareFreeOfAll.j10 : Nat → List Int → Option (Bool)
 | 0, _ => none
 | k + 1, x44 => laws_FnSquareFreeOfAll.l2 k x44 (x44.length : Int) 0
def laws_FnSquareFreeOfAll.l2 : Nat → List Int → Int → Int → Option (Bool)
 | 0, _, _, _ => none
 | k + 1, x519, x520, x521 => if x521 < x520 then (if 0 ≤ x521 then (if x521 < (x519.length : Int) then (if x521 > 300 then (some true) else ((impl_SquareFreeOfRank.f k x521).bind fun bt243 => (if bt243.2 = true then (if bt243.1 = (rd x519 x521) then (laws_FnSquareFreeOfAll.l2 k x519 x520 (wrap64 (x521 + 1))) else (some false)) else (some false)))) else (none)) else (none)) else (some true)
def laws_FnSquareFreeOfAll.j1 : Nat → Int → Int → Int → Int → Int → Int → Int → Int → Bool → Option (Bool)
 | 0, _, _, _, _, _, _, _, _, _ => none
 | k + 1, x0, x1, x2, x11, x15, x19, x23, x27, x256 => if x256 = true then (some false) else (if (wrap64 (x11 * x11)) = 0 then (none) else ((impl_IsSquareFree.f k (wrap64 (Int.tdiv x0 (wrap64 (x11 * x11))))).bind fun bt202 => ((impl_IsSquareFree.f k x15).bind fun bt204 => (if bt202.2 = true then (if bt202.1 = true then (if bt204.2 = true then (laws_FnSquareFreeOfAll.j2 k x0 x1 x2 x19 x23 x27 (!bt204.1)) else (laws_FnSquareFreeOfAll.j2 k x0 x1 x2 x19 x23 x27 true)) else (laws_FnSquareFreeOfAll.j2 k x0 x1 x2 x19 x23 x27 true)) else (laws_FnSquareFreeOfAll.j2 k x0 x1 x2 x19 x23 x27 true)))))
def laws_FnSquareFreeOfAll.j2 : Nat → Int → Int → Int → Int → Int → Int → Bool → Option (Bool)
 | 0, _, _, _, _, _, _, _ => none
 | k + 1, x0, x1, x2, x19, x23, x27, x284 => if x284 = true then (some false) else (if x27 ≤ 100000 then ((impl_IsSquareFree.f k x27).bind fun bt206 => ((impl_CountSquareFree.f k x27).bind fun bt208 => (if bt206.2 = true then (if bt206.1 = true then (if bt208.2 = true then (if bt208.1 = (wrap64 (x23 + 1)) then (laws_FnSquareFreeOfAll.j3 k x0 x1 x2 x19) else (some false)) else (some false)) else (some false)) else (some false)))) else (laws_FnSquareFreeOfAll.j3 k x0 x1 x2 x19))
def laws_FnSquareFreeOfAll.j3 : Nat → Int → Int → Int → Int → Option (Bool)
 | 0, _, _, _, _ => none
 | k + 1, x0, x1, x2, x19 => laws_FnSquareFreeOfAll.l0 k x0 x1 x2 x19 1
def laws_FnSquareFreeOfAll.l0 : Nat → Int → Int → Int → Int → Int → Option (Bool)
 | 0, _, _, _, _, _ => none
 | k + 1, x0, x1, x2, x19, x39 => if x39 ≤ 6 then ((laws_tCommon.f k x0 x39).bind fun t210 => (if t210 = 1 then (if x39 = 0 then (none) else (laws_FnSquareFreeOfAll.j5 k x0 x1 x2 x19 x39 (decide (x0 > (wrap64 (Int.tdiv 100000 x39)))))) else (laws_FnSquareFreeOfAll.j5 k x0 x1 x2 x19 x39 true))) else (laws_FnSquareFreeOfAll.j6 k x1 x2)
def laws_FnSquareFreeOfAll.j5 : Nat → Int → Int → Int → Int → Int → Bool → Option (Bool)
 | 0, _, _, _, _, _, _ => none
 | k + 1, x0, x1, x2, x19, x39, x326 => if x326 = true then (laws_FnSquareFreeOfAll.l0 k x0 x1 x2 x19 (wrap64 (x39 + 1))) else ((impl_FreeSign.f k x39).bind fun bt211 => ((impl_FreeSign.f k (wrap64 (x0 * x39))).bind fun bt213 => (if bt211.2 = true then (if bt213.2 = true then (if (wrap64 (bt211.1 * x19)) = bt213.1 then (laws_FnSquareFreeOfAll.l0 k x0 x1 x2 x19 (wrap64 (x39 + 1))) else (some false)) else (some false)) else (some false))))
end
def laws_FnSquareFreeOfAll.f (k : Nat) (a0 : Int) (a1 : Int) (a2 : Int) : Option (Bool) := (impl_IsSquareFree.f k a0).bind fun bt178 => ((spec_IsSquareFree.f k a0).bind fun bt180 => ((impl_SquarePart.f k a0).bind fun bt182 => ((spec_SquarePart.f k a0).bind fun bt184 => ((impl_KernelOf.f k a0).bind fun bt186 => ((spec_KernelOf.f k a0).bind fun bt188 => ((impl_FreeSign.f k a0).bind fun bt190 => ((spec_FreeSign.f k a0).bind fun bt192 => ((impl_CountSquareFree.f k a0).bind fun bt194 => ((spec_CountSquareFree.f k a0).bind fun bt196 => ((impl_NextSquareFree.f k a0).bind fun bt198 => ((spec_NextSquareFree.f k a0).bind fun bt200 => (if (bt178.2 != bt180.2) = true then (laws_FnSquareFreeOfAll.j0 k a0 a1 a2 bt178.1 bt178.2 bt182.1 bt186.1 bt190.1 bt194.1 bt198.1 true) else (if (bt178.1 != bt180.1) = true then (laws_FnSquareFreeOfAll.j0 k a0 a1 a2 bt178.1 bt178.2 bt182.1 bt186.1 bt190.1 bt194.1 bt198.1 true) else (if (bt182.2 != bt184.2) = true then (laws_FnSquareFreeOfAll.j0 k a0 a1 a2 bt178.1 bt178.2 bt182.1 bt186.1 bt190.1 bt194.1 bt198.1 true) else (if bt182.1 = bt184.1 then (if (bt186.2 != bt188.2) = true then (laws_FnSquareFreeOfAll.j0 k a0 a1 a2 bt178.1 bt178.2 bt182.1 bt186.1 bt190.1 bt194.1 bt198.1 true) else (if bt186.1 = bt188.1 then (if (bt190.2 != bt192.2) = true then (laws_FnSquareFreeOfAll.j0 k a0 a1 a2 bt178.1 bt178.2 bt182.1 bt186.1 bt190.1 bt194.1 bt198.1 true) else (if bt190.1 = bt192.1 then (if (bt194.2 != bt196.2) = true then (laws_FnSquareFreeOfAll.j0 k a0 a1 a2 bt178.1 bt178.2 bt182.1 bt186.1 bt190.1 bt194.1 bt198.1 true) else (if bt194.1 = bt196.1 then (if (bt198.2 != bt200.2) = true then (laws_FnSquareFreeOfAll.j0 k a0 a1 a2 bt178.1 bt178.2 bt182.1 bt186.1 bt190.1 bt194.1 bt198.1 true) else (if bt198.1 = bt200.1 then (if (bt182.2 != bt178.2) = true then (laws_FnSquareFreeOfAll.j0 k a0 a1 a2 bt178.1 bt178.2 bt182.1 bt186.1 bt190.1 bt194.1 bt198.1 true) else (if (bt186.2 != bt178.2) = true then (laws_FnSquareFreeOfAll.j0 k a0 a1 a2 bt178.1 bt178.2 bt182.1 bt186.1 bt190.1 bt194.1 bt198.1 true) else (if (bt190.2 != bt178.2) = true then (laws_FnSquareFreeOfAll.j0 k a0 a1 a2 bt178.1 bt178.2 bt182.1 bt186.1 bt190.1 bt194.1 bt198.1 true) else (if (bt194.2 != bt178.2) = true then (laws_FnSquareFreeOfAll.j0 k a0 a1 a2 bt178.1 bt178.2 bt182.1 bt186.1 bt190.1 bt194.1 bt198.1 true) else (laws_FnSquareFreeOfAll.j0 k a0 a1 a2 bt178.1 bt178.2 bt182.1 bt186.1 bt190.1 bt194.1 bt198.1 (bt198.2 != bt178.2)))))) else (laws_FnSquareFreeOfAll.j0 k a0 a1 a2 bt178.1 bt178.2 bt182.1 bt186.1 bt190.1 bt194.1 bt198.1 true))) else (laws_FnSquareFreeOfAll.j0 k a0 a1 a2 bt178.1 bt178.2 bt182.1 bt186.1 bt190.1 bt194.1 bt198.1 true))) else (laws_FnSquareFreeOfAll.j0 k a0 a1 a2 bt178.1 bt178.2 bt182.1 bt186.1 bt190.1 bt194.1 bt198.1 true))) else (laws_FnSquareFreeOfAll.j0 k a0 a1 a2 bt178.1 bt178.2 bt182.1 bt186.1 bt190.1 bt194.1 bt198.1 true))) else (laws_FnSquareFreeOfAll.j0 k a0 a1 a2 bt178.1 bt178.2 bt182.1 bt186.1 bt190.1 bt194.1 bt198.1 true))))))))))))))))
theorem laws_FnSquareFreeOfAll.mono_l : ∀ k, (∀ y0 y1 y2 y3 y4 y5 y6 y7 y8 y9 y10, LeO (laws_FnSquareFreeOfAll.j0 k y0 y1 y2 y3 y4 y5 y6 y7 y8 y9 y10) (laws_FnSquareFreeOfAll.j0 (k + 1) y0 y1 y2 y3 y4 y5 y6 y7 y8 y9 y10)) ∧ (∀ y0 y1, LeO (laws_FnSquareFreeOfAll.j6 k y0 y1) (laws_FnSquareFreeOfAll.j6 (k + 1) y0 y1)) ∧ (∀ y0 y1 y2 y3 y4 y5 y6, LeO (laws_FnSquareFreeOfAll.j7 k y0 y1 y2 y3 y4 y5 y6) (laws_FnSquareFreeOfAll.j7 (k + 1) y0 y1 y2 y3 y4 y5 y6)) ∧ (∀ y0 y1 y2 y3 y4 y5, LeO (laws_FnSquareFreeOfAll.j8 k y0 y1 y2 y3 y4 y5) (laws_FnSquareFreeOfAll.j8 (k + 1) y0 y1 y2 y3 y4 y5)) ∧ (∀ y0 y1 y2 y3 y4 y5, LeO (laws_FnSquareFreeOfAll.l1 k y0 y1 y2 y3 y4 y5) (laws_FnSquareFreeOfAll.l1 (k + 1) y0 y1 y2 y3 y4 y5)) ∧ (∀ y0, LeO (laws_FnSquareFreeOfAll.j10 k y0) (laws_FnSquareFreeOfAll.j10 (k + 1) y0)) ∧ (∀ y0 y1 y2, LeO (laws_FnSquareFreeOfAll.l2 k y0 y1 y2) (laws_FnSquareFreeOfAll.l2 (k + 1) y0 y1 y2)) ∧ (∀ y0 y1 y2 y3 y4 y5 y6 y7 y8, LeO (laws_FnSquareFreeOfAll.j1 k y0 y1 y2 y3 y4 y5 y6 y7 y8) (laws_FnSquareFreeOfAll.j1 (k + 1) y0 y1 y2 y3 y4 y5 y6 y7 y8)) ∧ (∀ y0 y1 y2 y3 y4 y5 y6, LeO (laws_FnSquareFreeOfAll.j2 k y0 y1 y2 y3 y4 y5 y6) (laws_FnSquareFreeOfAll.j2 (k + 1) y0 y1 y2 y3 y4 y5 y6)) ∧ (∀ y0 y1 y2 y3, LeO (laws_FnSquareFreeOfAll.j3 k y0 y1 y2 y3) (laws_FnSquareFreeOfAll.j3 (k + 1) y0 y1 y2 y3)) ∧ (∀ y0 y1 y2 y3 y4, LeO (laws_FnSquareFreeOfAll.l0 k y0 y1 y2 y3 y4) (laws_FnSquareFreeOfAll.l0 (k + 1) y0 y1 y2 y3 y4)) ∧ (∀ y0 y1 y2 y3 y4 y5, LeO (laws_FnSquareFreeOfAll.j5 k y0 y1 y2 y3 y4 y5) (laws_FnSquareFreeOfAll.j5 (k + 1) y0 y1 y2 y3 y4 y5))
 | 0 => ⟨fun _ _ _ _ _ _ _ _ _ _ _ r h => by simp [laws_FnSquareFreeOfAll.j0] at h, fun _ _ r h => by simp [laws_FnSquareFreeOfAll.j6] at h, fun _ _ _ _ _ _ _ r h => by simp [laws_FnSquareFreeOfAll.j7] at h, fun _ _ _ _ _ _ r h => by simp [laws_FnSquareFreeOfAll.j8] at h, fun _ _ _ _ _ _ r h => by simp [laws_FnSquareFreeOfAll.l1] at h, fun _ r h => by simp [laws_FnSquareFreeOfAll.j10] at h, fun _ _ _ r h => by simp [laws_FnSquareFreeOfAll.l2] at h, fun _ _ _ _ _ _ _ _ _ r h => by simp [laws_FnSquareFreeOfAll.j1] at h, fun _ _ _ _ _ _ _ r h => by simp [laws_FnSquareFreeOfAll.j2] at h, fun _ _ _ _ r h => by simp [laws_FnSquareFreeOfAll.j3] at h, fun _ _ _ _ _ r h => by simp [laws_FnSquareFreeOfAll.l0] at h, fun _ _ _ _ _ _ r h => by simp [laws_FnSquareFreeOfAll.j5] at h⟩
 | k + 1 => by
  obtain ⟨ih0, ih1, ih2, ih3, ih4, ih5, ih6, ih7, ih8, ih9, ih10, ih11⟩ := laws_FnSquareFreeOfAll.mono_l k
  refine ⟨?_, ?_, ?_, ?_, ?_, ?_, ?_, ?_, ?_, ?_, ?_, ?_⟩
  ·
   intro y0 y1 y2 y3 y4 y5 y6 y7 y8 y9 y10
   unfold laws_FnSquareFreeOfAll.j0
   repeat' first
   | (with_reducible first | exact ih0 _ _ _ _ _ _ _ _ _ _ _ | exact ih1 _ _ | exact ih2 _ _ _ _ _ _ _ | exact ih3 _ _ _ _ _ _ | exact ih4 _ _ _ _ _ _ | exact ih5 _ | exact ih6 _ _ _ | exact ih7 _ _ _ _ _ _ _ _ _ | exact ih8 _ _ _ _ _ _ _ | exact ih9 _ _ _ _ | exact ih10 _ _ _ _ _ | exact ih11 _ _ _ _ _ _ | exact impl_CountSquareFree.mono _ _ | exact impl_FreeSign.mono _ _ | exact impl_IsSquareFree.mono _ _ | exact impl_KernelOf.mono _ _ | exact impl_LongestSquareful.mono _ _ | exact impl_NextSquareFree.mono _ _ | exact impl_SquareFreeOfRank.mono _ _ | exact impl_SquareFreeUpTo.mono _ _ | exact impl_SquarePart.mono _ _ | exact impl_SumOfSigns.mono _ _ | exact laws_tCommon.mono _ _ _ | exact laws_tHas.mono _ _ _ | exact laws_tRises.mono _ _ _ _ | exact laws_tSame.mono _ _ _ | exact spec_CountSquareFree.mono _ _ | exact spec_FreeSign.mono _ _ | exact spec_IsSquareFree.mono _ _ | exact spec_KernelOf.mono _ _ | exact spec_LongestSquareful.mono _ _ | exact spec_NextSquareFree.mono _ _ | exact spec_SquareFreeOfRank.mono _ _ | exact spec_SquareFreeUpTo.mono _ _ | exact spec_SquarePart.mono _ _ | exact spec_SumOfSigns.mono _ _ | exact LeO.refl _ | exact LeO.none _ | refine LeO.ite ?_ ?_ | refine LeO.bind ?_ (fun _ => ?_))
  ·
   intro y0 y1
   unfold laws_FnSquareFreeOfAll.j6
   repeat' first
   | (with_reducible first | exact ih0 _ _ _ _ _ _ _ _ _ _ _ | exact ih1 _ _ | exact ih2 _ _ _ _ _ _ _ | exact ih3 _ _ _ _ _ _ | exact ih4 _ _ _ _ _ _ | exact ih5 _ | exact ih6 _ _ _ | exact ih7 _ _ _ _ _ _ _ _ _ | exact ih8 _ _ _ _ _ _ _ | exact ih9 _ _ _ _ | exact ih10 _ _ _ _ _ | exact ih11 _ _ _ _ _ _ | exact impl_CountSquareFree.mono _ _ | exact impl_FreeSign.mono _ _ | exact impl_IsSquareFree.mono _ _ | exact impl_KernelOf.mono _ _ | exact impl_LongestSquareful.mono _ _ | exact impl_NextSquareFree.mono _ _ | exact impl_SquareFreeOfRank.mono _ _ | exact impl_SquareFreeUpTo.mono _ _ | exact impl_SquarePart.mono _ _ | exact impl_SumOfSigns.mono _ _ | exact laws_tCommon.mono _ _ _ | exact laws_tHas.mono _ _ _ | exact laws_tRises.mono _ _ _ _ | exact laws_tSame.mono _ _ _ | exact spec_CountSquareFree.mono _ _ | exact spec_FreeSign.mono _ _ | exact spec_IsSquareFree.mono _ _ | exact spec_KernelOf.mono _ _ | exact spec_LongestSquareful.mono _ _ | exact spec_NextSquareFree.mono _ _ | exact spec_SquareFreeOfRank.mono _ _ | exact spec_SquareFreeUpTo.mono _ _ | exact spec_SquarePart.mono _ _ | exact spec_SumOfSigns.mono _ _ | exact LeO.refl _ | exact LeO.none _ | refine LeO.ite ?_ ?_ | refine LeO.bind ?_ (fun _ => ?_))
  ·
   intro y0 y1 y2 y3 y4 y5 y6
   unfold laws_FnSquareFreeOfAll.j7
   repeat' first
   | (with_reducible first | exact ih0 _ _ _ _ _ _ _ _ _ _ _ | exact ih1 _ _ | exact ih2 _ _ _ _ _ _ _ | exact ih3 _ _ _ _ _ _ | exact ih4 _ _ _ _ _ _ | exact ih5 _ | exact ih6 _ _ _ | exact ih7 _ _ _ _ _ _ _ _ _ | exact ih8 _ _ _ _ _ _ _ | exact ih9 _ _ _ _ | exact ih10 _ _ _ _ _ | exact ih11 _ _ _ _ _ _ | exact impl_CountSquareFree.mono _ _ | exact impl_FreeSign.mono _ _ | exact impl_IsSquareFree.mono _ _ | exact impl_KernelOf.mono _ _ | exact impl_LongestSquareful.mono _ _ | exact impl_NextSquareFree.mono _ _ | exact impl_SquareFreeOfRank.mono _ _ | exact impl_SquareFreeUpTo.mono _ _ | exact impl_SquarePart.mono _ _ | exact impl_SumOfSigns.mono _ _ | exact laws_tCommon.mono _ _ _ | exact laws_tHas.mono _ _ _ | exact laws_tRises.mono _ _ _ _ | exact laws_tSame.mono _ _ _ | exact spec_CountSquareFree.mono _ _ | exact spec_FreeSign.mono _ _ | exact spec_IsSquareFree.mono _ _ | exact spec_KernelOf.mono _ _ | exact spec_LongestSquareful.mono _ _ | exact spec_NextSquareFree.mono _ _ | exact spec_SquareFreeOfRank.mono _ _ | exact spec_SquareFreeUpTo.mono _ _ | exact spec_SquarePart.mono _ _ | exact spec_SumOfSigns.mono _ _ | exact LeO.refl _ | exact LeO.none _ | refine LeO.ite ?_ ?_ | refine LeO.bind ?_ (fun _ => ?_))
  ·
   intro y0 y1 y2 y3 y4 y5
   unfold laws_FnSquareFreeOfAll.j8
   repeat' first
   | (with_reducible first | exact ih0 _ _ _ _ _ _ _ _ _ _ _ | exact ih1 _ _ | exact ih2 _ _ _ _ _ _ _ | exact ih3 _ _ _ _ _ _ | exact ih4 _ _ _ _ _ _ | exact ih5 _ | exact ih6 _ _ _ | exact ih7 _ _ _ _ _ _ _ _ _ | exact ih8 _ _ _ _ _ _ _ | exact ih9 _ _ _ _ | exact ih10 _ _ _ _ _ | exact ih11 _ _ _ _ _ _ | exact impl_CountSquareFree.mono _ _ | exact impl_FreeSign.mono _ _ | exact impl_IsSquareFree.mono _ _ | exact impl_KernelOf.mono _ _ | exact impl_LongestSquareful.mono _ _ | exact impl_NextSquareFree.mono _ _ | exact impl_SquareFreeOfRank.mono _ _ | exact impl_SquareFreeUpTo.mono _ _ | exact impl_SquarePart.mono _ _ | exact impl_SumOfSigns.mono _ _ | exact laws_tCommon.mono _ _ _ | exact laws_tHas.mono _ _ _ | exact laws_tRises.mono _ _ _ _ | exact laws_tSame.mono _ _ _ | exact spec_CountSquareFree.mono _ _ | exact spec_FreeSign.mono _ _ | exact spec_IsSquareFree.mono _ _ | exact spec_KernelOf.mono _ _ | exact spec_LongestSquareful.mono _ _ | exact spec_NextSquareFree.mono _ _ | exact spec_SquareFreeOfRank.mono _ _ | exact spec_SquareFreeUpTo.mono _ _ | exact spec_SquarePart.mono _ _ | exact spec_SumOfSigns.mono _ _ | exact LeO.refl _ | exact LeO.none _ | refine LeO.ite ?_ ?_ | refine LeO.bind ?_ (fun _ => ?_))
  ·
   intro y0 y1 y2 y3 y4 y5
   unfold laws_FnSquareFreeOfAll.l1
   repeat' first
   | (with_reducible first | exact ih0 _ _ _ _ _ _ _ _ _ _ _ | exact ih1 _ _ | exact ih2 _ _ _ _ _ _ _ | exact ih3 _ _ _ _ _ _ | exact ih4 _ _ _ _ _ _ | exact ih5 _ | exact ih6 _ _ _ | exact ih7 _ _ _ _ _ _ _ _ _ | exact ih8 _ _ _ _ _ _ _ | exact ih9 _ _ _ _ | exact ih10 _ _ _ _ _ | exact ih11 _ _ _ _ _ _ | exact impl_CountSquareFree.mono _ _ | exact impl_FreeSign.mono _ _ | exact impl_IsSquareFree.mono _ _ | exact impl_KernelOf.mono _ _ | exact impl_LongestSquareful.mono _ _ | exact impl_NextSquareFree.mono _ _ | exact impl_SquareFreeOfRank.mono _ _ | exact impl_SquareFreeUpTo.mono _ _ | exact impl_SquarePart.mono _ _ | exact impl_SumOfSigns.mono _ _ | exact laws_tCommon.mono _ _ _ | exact laws_tHas.mono _ _ _ | exact laws_tRises.mono _ _ _ _ | exact laws_tSame.mono _ _ _ | exact spec_CountSquareFree.mono _ _ | exact spec_FreeSign.mono _ _ | exact spec_IsSquareFree.mono _ _ | exact spec_KernelOf.mono _ _ | exact spec_LongestSquareful.mono _ _ | exact spec_NextSquareFree.mono _ _ | exact spec_SquareFreeOfRank.mono _ _ | exact spec_SquareFreeUpTo.mono _ _ | exact spec_SquarePart.mono _ _ | exact spec_SumOfSigns.mono _ _ | exact LeO.refl _ | exact LeO.none _ | refine LeO.ite ?_ ?_ | refine LeO.bind ?_ (fun _ => ?_))
  ·
   intro y0
   unfold laws_FnSquareFreeOfAll.j10
   repeat' first
   | (with_reducible first | exact ih0 _ _ _ _ _ _ _ _ _ _ _ | exact ih1 _ _ | exact ih2 _ _ _ _ _ _ _ | exact ih3 _ _ _ _ _ _ | exact ih4 _ _ _ _ _ _ | exact ih5 _ | exact ih6 _ _ _ | exact ih7 _ _ _ _ _ _ _ _ _ | exact ih8 _ _ _ _ _ _ _ | exact ih9 _ _ _ _ | exact ih10 _ _ _ _ _ | exact ih11 _ _ _ _ _ _ | exact impl_CountSquareFree.mono _ _ | exact impl_FreeSign.mono _ _ | exact impl_IsSquareFree.mono _ _ | exact impl_KernelOf.mono _ _ | exact impl_LongestSquareful.mono _ _ | exact impl_NextSquareFree.mono _ _ | exact impl_SquareFreeOfRank.mono _ _ | exact impl_SquareFreeUpTo.mono _ _ | exact impl_SquarePart.mono _ _ | exact impl_SumOfSigns.mono _ _ | exact laws_tCommon.mono _ _ _ | exact laws_tHas.mono _ _ _ | exact laws_tRises.mono _ _ _ _ | exact laws_tSame.mono _ _ _ | exact spec_CountSquareFree.mono _ _ | exact spec_FreeSign.mono _ _ | exact spec_IsSquareFree.mono _ _ | exact spec_KernelOf.mono _ _ | exact spec_LongestSquareful.mono _ _ | exact spec_NextSquareFree.mono _ _ | exact spec_SquareFreeOfRank.mono _ _ | exact spec_SquareFreeUpTo.mono _ _ | exact spec_SquarePart.mono _ _ | exact spec_SumOfSigns.mono _ _ | exact LeO.refl _ | exact LeO.none _ | refine LeO.ite ?_ ?_ | refine LeO.bind ?_ (fun _ => ?_))
  ·
   intro y0 y1 y2
   unfold laws_FnSquareFreeOfAll.l2
   repeat' first
   | (with_reducible first | exact ih0 _ _ _ _ _ _ _ _ _ _ _ | exact ih1 _ _ | exact ih2 _ _ _ _ _ _ _ | exact ih3 _ _ _ _ _ _ | exact ih4 _ _ _ _ _ _ | exact ih5 _ | exact ih6 _ _ _ | exact ih7 _ _ _ _ _ _ _ _ _ | exact ih8 _ _ _ _ _ _ _ | exact ih9 _ _ _ _ | exact ih10 _ _ _ _ _ | exact ih11 _ _ _ _ _ _ | exact impl_CountSquareFree.mono _ _ | exact impl_FreeSign.mono _ _ | exact impl_IsSquareFree.mono _ _ | exact impl_KernelOf.mono _ _ | exact impl_LongestSquareful.mono _ _ | exact impl_NextSquareFree.mono _ _ | exact impl_SquareFreeOfRank.mono _ _ | exact impl_SquareFreeUpTo.mono _ _ | exact impl_SquarePart.mono _ _ | exact impl_SumOfSigns.mono _ _ | exact laws_tCommon.mono _ _ _ | exact laws_tHas.mono _ _ _ | exact laws_tRises.mono _ _ _ _ | exact laws_tSame.mono _ _ _ | exact spec_CountSquareFree.mono _ _ | exact spec_FreeSign.mono _ _ | exact spec_IsSquareFree.mono _ _ | exact spec_KernelOf.mono _ _ | exact spec_LongestSquareful.mono _ _ | exact spec_NextSquareFree.mono _ _ | exact spec_SquareFreeOfRank.mono _ _ | exact spec_SquareFreeUpTo.mono _ _ | exact spec_SquarePart.mono _ _ | exact spec_SumOfSigns.mono _ _ | exact LeO.refl _ | exact LeO.none _ | refine LeO.ite ?_ ?_ | refine LeO.bind ?_ (fun _ => ?_))
  ·
   intro y0 y1 y2 y3 y4 y5 y6 y7 y8
   unfold laws_FnSquareFreeOfAll.j1
   repeat' first
   | (with_reducible first | exact ih0 _ _ _ _ _ _ _ _ _ _ _ | exact ih1 _ _ | exact ih2 _ _ _ _ _ _ _ | exact ih3 _ _ _ _ _ _ | exact ih4 _ _ _ _ _ _ | exact ih5 _ | exact ih6 _ _ _ | exact ih7 _ _ _ _ _ _ _ _ _ | exact ih8 _ _ _ _ _ _ _ | exact ih9 _ _ _ _ | exact ih10 _ _ _ _ _ | exact ih11 _ _ _ _ _ _ | exact impl_CountSquareFree.mono _ _ | exact impl_FreeSign.mono _ _ | exact impl_IsSquareFree.mono _ _ | exact impl_KernelOf.mono _ _ | exact impl_LongestSquareful.mono _ _ | exact impl_NextSquareFree.mono _ _ | exact impl_SquareFreeOfRank.mono _ _ | exact impl_SquareFreeUpTo.mono _ _ | exact impl_SquarePart.mono _ _ | exact impl_SumOfSigns.mono _ _ | exact laws_tCommon.mono _ _ _ | exact laws_tHas.mono _ _ _ | exact laws_tRises.mono _ _ _ _ | exact laws_tSame.mono _ _ _ | exact spec_CountSquareFree.mono _ _ | exact spec_FreeSign.mono _ _ | exact spec_IsSquareFree.mono _ _ | exact spec_KernelOf.mono _ _ | exact spec_LongestSquareful.mono _ _ | exact spec_NextSquareFree.mono _ _ | exact spec_SquareFreeOfRank.mono _ _ | exact spec_SquareFreeUpTo.mono _ _ | exact spec_SquarePart.mono _ _ | exact spec_SumOfSigns.mono _ _ | exact LeO.refl _ | exact LeO.none _ | refine LeO.ite ?_ ?_ | refine LeO.bind ?_ (fun _ => ?_))
  ·
   intro y0 y1 y2 y3 y4 y5 y6
   unfold laws_FnSquareFreeOfAll.j2
   repeat' first
   | (with_reducible first | exact ih0 _ _ _ _ _ _ _ _ _ _ _ | exact ih1 _ _ | exact ih2 _ _ _ _ _ _ _ | exact ih3 _ _ _ _ _ _ | exact ih4 _ _ _ _ _ _ | exact ih5 _ | exact ih6 _ _ _ | exact ih7 _ _ _ _ _ _ _ _ _ | exact ih8 _ _ _ _ _ _ _ | exact ih9 _ _ _ _ | exact ih10 _ _ _ _ _ | exact ih11 _ _ _ _ _ _ | exact impl_CountSquareFree.mono _ _ | exact impl_FreeSign.mono _ _ | exact impl_IsSquareFree.mono _ _ | exact impl_KernelOf.mono _ _ | exact impl_LongestSquareful.mono _ _ | exact impl_NextSquareFree.mono _ _ | exact impl_SquareFreeOfRank.mono _ _ | exact impl_SquareFreeUpTo.mono _ _ | exact impl_SquarePart.mono _ _ | exact impl_SumOfSigns.mono _ _ | exact laws_tCommon.mono _ _ _ | exact laws_tHas.mono _ _ _ | exact laws_tRises.mono _ _ _ _ | exact laws_tSame.mono _ _ _ | exact spec_CountSquareFree.mono _ _ | exact spec_FreeSign.mono _ _ | exact spec_IsSquareFree.mono _ _ | exact spec_KernelOf.mono _ _ | exact spec_LongestSquareful.mono _ _ | exact spec_NextSquareFree.mono _ _ | exact spec_SquareFreeOfRank.mono _ _ | exact spec_SquareFreeUpTo.mono _ _ | exact spec_SquarePart.mono _ _ | exact spec_SumOfSigns.mono _ _ | exact LeO.refl _ | exact LeO.none _ | refine LeO.ite ?_ ?_ | refine LeO.bind ?_ (fun _ => ?_))
  ·
   intro y0 y1 y2 y3
   unfold laws_FnSquareFreeOfAll.j3
   repeat' first
   | (with_reducible first | exact ih0 _ _ _ _ _ _ _ _ _ _ _ | exact ih1 _ _ | exact ih2 _ _ _ _ _ _ _ | exact ih3 _ _ _ _ _ _ | exact ih4 _ _ _ _ _ _ | exact ih5 _ | exact ih6 _ _ _ | exact ih7 _ _ _ _ _ _ _ _ _ | exact ih8 _ _ _ _ _ _ _ | exact ih9 _ _ _ _ | exact ih10 _ _ _ _ _ | exact ih11 _ _ _ _ _ _ | exact impl_CountSquareFree.mono _ _ | exact impl_FreeSign.mono _ _ | exact impl_IsSquareFree.mono _ _ | exact impl_KernelOf.mono _ _ | exact impl_LongestSquareful.mono _ _ | exact impl_NextSquareFree.mono _ _ | exact impl_SquareFreeOfRank.mono _ _ | exact impl_SquareFreeUpTo.mono _ _ | exact impl_SquarePart.mono _ _ | exact impl_SumOfSigns.mono _ _ | exact laws_tCommon.mono _ _ _ | exact laws_tHas.mono _ _ _ | exact laws_tRises.mono _ _ _ _ | exact laws_tSame.mono _ _ _ | exact spec_CountSquareFree.mono _ _ | exact spec_FreeSign.mono _ _ | exact spec_IsSquareFree.mono _ _ | exact spec_KernelOf.mono _ _ | exact spec_LongestSquareful.mono _ _ | exact spec_NextSquareFree.mono _ _ | exact spec_SquareFreeOfRank.mono _ _ | exact spec_SquareFreeUpTo.mono _ _ | exact spec_SquarePart.mono _ _ | exact spec_SumOfSigns.mono _ _ | exact LeO.refl _ | exact LeO.none _ | refine LeO.ite ?_ ?_ | refine LeO.bind ?_ (fun _ => ?_))
  ·
   intro y0 y1 y2 y3 y4
   unfold laws_FnSquareFreeOfAll.l0
   repeat' first
   | (with_reducible first | exact ih0 _ _ _ _ _ _ _ _ _ _ _ | exact ih1 _ _ | exact ih2 _ _ _ _ _ _ _ | exact ih3 _ _ _ _ _ _ | exact ih4 _ _ _ _ _ _ | exact ih5 _ | exact ih6 _ _ _ | exact ih7 _ _ _ _ _ _ _ _ _ | exact ih8 _ _ _ _ _ _ _ | exact ih9 _ _ _ _ | exact ih10 _ _ _ _ _ | exact ih11 _ _ _ _ _ _ | exact impl_CountSquareFree.mono _ _ | exact impl_FreeSign.mono _ _ | exact impl_IsSquareFree.mono _ _ | exact impl_KernelOf.mono _ _ | exact impl_LongestSquareful.mono _ _ | exact impl_NextSquareFree.mono _ _ | exact impl_SquareFreeOfRank.mono _ _ | exact impl_SquareFreeUpTo.mono _ _ | exact impl_SquarePart.mono _ _ | exact impl_SumOfSigns.mono _ _ | exact laws_tCommon.mono _ _ _ | exact laws_tHas.mono _ _ _ | exact laws_tRises.mono _ _ _ _ | exact laws_tSame.mono _ _ _ | exact spec_CountSquareFree.mono _ _ | exact spec_FreeSign.mono _ _ | exact spec_IsSquareFree.mono _ _ | exact spec_KernelOf.mono _ _ | exact spec_LongestSquareful.mono _ _ | exact spec_NextSquareFree.mono _ _ | exact spec_SquareFreeOfRank.mono _ _ | exact spec_SquareFreeUpTo.mono _ _ | exact spec_SquarePart.mono _ _ | exact spec_SumOfSigns.mono _ _ | exact LeO.refl _ | exact LeO.none _ | refine LeO.ite ?_ ?_ | refine LeO.bind ?_ (fun _ => ?_))
  ·
   intro y0 y1 y2 y3 y4 y5
   unfold laws_FnSquareFreeOfAll.j5
   repeat' first
   | (with_reducible first | exact ih0 _ _ _ _ _ _ _ _ _ _ _ | exact ih1 _ _ | exact ih2 _ _ _ _ _ _ _ | exact ih3 _ _ _ _ _ _ | exact ih4 _ _ _ _ _ _ | exact ih5 _ | exact ih6 _ _ _ | exact ih7 _ _ _ _ _ _ _ _ _ | exact ih8 _ _ _ _ _ _ _ | exact ih9 _ _ _ _ | exact ih10 _ _ _ _ _ | exact ih11 _ _ _ _ _ _ | exact impl_CountSquareFree.mono _ _ | exact impl_FreeSign.mono _ _ | exact impl_IsSquareFree.mono _ _ | exact impl_KernelOf.mono _ _ | exact impl_LongestSquareful.mono _ _ | exact impl_NextSquareFree.mono _ _ | exact impl_SquareFreeOfRank.mono _ _ | exact impl_SquareFreeUpTo.mono _ _ | exact impl_SquarePart.mono _ _ | exact impl_SumOfSigns.mono _ _ | exact laws_tCommon.mono _ _ _ | exact laws_tHas.mono _ _ _ | exact laws_tRises.mono _ _ _ _ | exact laws_tSame.mono _ _ _ | exact spec_CountSquareFree.mono _ _ | exact spec_FreeSign.mono _ _ | exact spec_IsSquareFree.mono _ _ | exact spec_KernelOf.mono _ _ | exact spec_LongestSquareful.mono _ _ | exact spec_NextSquareFree.mono _ _ | exact spec_SquareFreeOfRank.mono _ _ | exact spec_SquareFreeUpTo.mono _ _ | exact spec_SquarePart.mono _ _ | exact spec_SumOfSigns.mono _ _ | exact LeO.refl _ | exact LeO.none _ | refine LeO.ite ?_ ?_ | refine LeO.bind ?_ (fun _ => ?_))
theorem laws_FnSquareFreeOfAll.mono : ∀ a0 a1 a2 k, LeO (laws_FnSquareFreeOfAll.f k a0 a1 a2) (laws_FnSquareFreeOfAll.f (k + 1) a0 a1 a2) := by
 intro a0 a1 a2 k
 obtain ⟨ih0, ih1, ih2, ih3, ih4, ih5, ih6, ih7, ih8, ih9, ih10, ih11⟩ := laws_FnSquareFreeOfAll.mono_l k
 unfold laws_FnSquareFreeOfAll.f
 repeat' first
   | (with_reducible first | exact ih0 _ _ _ _ _ _ _ _ _ _ _ | exact ih1 _ _ | exact ih2 _ _ _ _ _ _ _ | exact ih3 _ _ _ _ _ _ | exact ih4 _ _ _ _ _ _ | exact ih5 _ | exact ih6 _ _ _ | exact ih7 _ _ _ _ _ _ _ _ _ | exact ih8 _ _ _ _ _ _ _ | exact ih9 _ _ _ _ | exact ih10 _ _ _ _ _ | exact ih11 _ _ _ _ _ _ | exact impl_CountSquareFree.mono _ _ | exact impl_FreeSign.mono _ _ | exact impl_IsSquareFree.mono _ _ | exact impl_KernelOf.mono _ _ | exact impl_LongestSquareful.mono _ _ | exact impl_NextSquareFree.mono _ _ | exact impl_SquareFreeOfRank.mono _ _ | exact impl_SquareFreeUpTo.mono _ _ | exact impl_SquarePart.mono _ _ | exact impl_SumOfSigns.mono _ _ | exact laws_tCommon.mono _ _ _ | exact laws_tHas.mono _ _ _ | exact laws_tRises.mono _ _ _ _ | exact laws_tSame.mono _ _ _ | exact spec_CountSquareFree.mono _ _ | exact spec_FreeSign.mono _ _ | exact spec_IsSquareFree.mono _ _ | exact spec_KernelOf.mono _ _ | exact spec_LongestSquareful.mono _ _ | exact spec_NextSquareFree.mono _ _ | exact spec_SquareFreeOfRank.mono _ _ | exact spec_SquareFreeUpTo.mono _ _ | exact spec_SquarePart.mono _ _ | exact spec_SumOfSigns.mono _ _ | exact LeO.refl _ | exact LeO.none _ | refine LeO.ite ?_ ?_ | refine LeO.bind ?_ (fun _ => ?_))
theorem laws_FnSquareFreeOfAll.j0_no : ∀ k y0 y1 y2 y3 y4 y5 y6 y7 y8 y9, laws_FnSquareFreeOfAll.j0 k y0 y1 y2 y3 y4 y5 y6 y7 y8 y9 true = some true → False := by
 intro k y0 y1 y2 y3 y4 y5 y6 y7 y8 y9 h
 cases k with
 | zero => simp [laws_FnSquareFreeOfAll.j0] at h
 | succ k => simp [laws_FnSquareFreeOfAll.j0] at h
theorem laws_FnSquareFreeOfAll.j7_no : ∀ k y0 y1 y2 y3 y4 y5, laws_FnSquareFreeOfAll.j7 k y0 y1 y2 y3 y4 y5 true = some true → False := by
 intro k y0 y1 y2 y3 y4 y5 h
 cases k with
 | zero => simp [laws_FnSquareFreeOfAll.j7] at h
 | succ k => simp [laws_FnSquareFreeOfAll.j7] at h
theorem laws_FnSquareFreeOfAll.j8_no : ∀ k y0 y1 y2 y3 y4, laws_FnSquareFreeOfAll.j8 k y0 y1 y2 y3 y4 true = some true → False := by
 intro k y0 y1 y2 y3 y4 h
 cases k with
 | zero => simp [laws_FnSquareFreeOfAll.j8] at h
 | succ k => simp [laws_FnSquareFreeOfAll.j8] at h
theorem laws_FnSquareFreeOfAll.j1_no : ∀ k y0 y1 y2 y3 y4 y5 y6 y7, laws_FnSquareFreeOfAll.j1 k y0 y1 y2 y3 y4 y5 y6 y7 true = some true → False := by
 intro k y0 y1 y2 y3 y4 y5 y6 y7 h
 cases k with
 | zero => simp [laws_FnSquareFreeOfAll.j1] at h
 | succ k => simp [laws_FnSquareFreeOfAll.j1] at h
theorem laws_FnSquareFreeOfAll.j2_no : ∀ k y0 y1 y2 y3 y4 y5, laws_FnSquareFreeOfAll.j2 k y0 y1 y2 y3 y4 y5 true = some true → False := by
 intro k y0 y1 y2 y3 y4 y5 h
 cases k with
 | zero => simp [laws_FnSquareFreeOfAll.j2] at h
 | succ k => simp [laws_FnSquareFreeOfAll.j2] at h
/-- A frame of which some slots (by two masks) hold whatever u says. -/
def cutFgt (u : Nat → Value) : List (Option Nat) → List Value → List Value
 | some n :: m, _ :: l => u n :: cutFgt u m l
 | none :: m, v :: l => v :: cutFgt u m l
 | _, l => l
theorem cutF {P : Program} {s : Code} {K : Act → World → Prop} {Q' : Exit → Act → World → Prop} {w : World} {L : List Value} {fr} (m m2 : List (Option Nat)) (R : (Nat → Value) → World → Prop)
  (first : ∀ (J K' : Act → World → Prop), (∀ u w', R u w' → J ⟨(cutFgt u m2 (cutFgt u m L)).toArray, fr⟩ w') → (∀ a' w', Met J a' w' → K' a' w') → s.wp P (Exit.then K' Q') ⟨L.toArray, fr⟩ w)
  (rest : ∀ u w', R u w' → K ⟨(cutFgt u m2 (cutFgt u m L)).toArray, fr⟩ w') : s.wp P (Exit.then K Q') ⟨L.toArray, fr⟩ w := by
 refine wp_cut (fun a' w' => ∃ u, R u w' ∧ a' = ⟨(cutFgt u m2 (cutFgt u m L)).toArray, fr⟩) ?_ ?_
 ·
  rintro _ w' ⟨u, h, rfl⟩
  exact rest u w' h
 ·
  intro J K' h1 h2
  exact first J K' (fun u w' h => h1 _ _ ⟨u, h, rfl⟩) h2
theorem cutMeet {J : Act → World → Prop} {R : (Nat → Value) → World → Prop} {m m2 : List (Option Nat)} {L0 L : List Value} {fr} {w' : World} (h : ∀ u w', R u w' → J ⟨(cutFgt u m2 (cutFgt u m L0)).toArray, fr⟩ w') (hr : R (fun n => L.getD n (.bool false)) w') (he : cutFgt (fun n => L.getD n (.bool false)) m2 (cutFgt (fun n => L.getD n (.bool false)) m L0) = L) : Met J ⟨L.toArray, fr⟩ w' := by
 have := h _ _ hr
 rw [he] at this
 exact this
def mk0 : List (Option Nat) := [none, none, none, none, none, none, none, none, none, none, none, none, none, none, none, none, none, none, none, none, none, none, none, none, none, none, none, none, none, none, none, none, none, none, none, none, none, none, none, none, none, none, none, none, none, none, none, none, none, none, none, none, none, none, none, none, none, none, none, none, none, none, none, none, none, none, none, none, none, some 69, some 70, some 71, some 72, some 73, some 74, some 75, some 76, some 77, some 78, some 79, some 80, some 81, some 82, some 83, some 84, some 85, some 86, some 87, some 88, some 89, some 90, some 91, some 92, some 93, some 94, some 95, some 96, some 97, some 98, some 99, some 100, some 101, some 102, some 103, some 104, some 105, some 106, some 107, some 108, some 109, some 110, some 111, some 112, some 113, some 114, some 115, some 116, some 117, some 118, some 119, some 120, some 121, some 122, some 123, some 124, some 125, some 126, some 127, some 128, some 129, some 130, some 131, some 132, some 133, some 134, some 135, some 136, some 137, some 138, some 139, some 140, some 141, some 142, some 143, some 144, some 145, some 146, some 147, some 148, some 149, some 150, some 151, some 152, some 153, some 154, some 155, some 156, some 157, some 158, some 159, some 160, some 161, some 162, some 163, some 164, some 165, some 166, some 167, some 168, some 169, some 170, some 171, some 172, some 173, some 174, some 175, some 176, some 177, some 178, some 179, some 180, some 181, some 182, some 183, some 184, some 185, some 186, some 187, some 188, some 189, some 190, some 191, some 192, some 193, some 194, some 195, some 196, some 197, some 198, some 199, some 200, some 201, some 202, some 203, some 204, some 205, some 206, some 207, some 208, some 209, some 210, some 211, some 212, some 213, some 214, some 215, some 216, some 217, some 218, some 219, some 220, some 221, some 222, some 223, some 224, some 225, some 226, some 227, some 228, some 229, some 230, some 231, some 232, some 233, some 234, some 235, some 236, some 237, some 238, some 239, some 240, some 241, some 242, some 243, some 244, some 245, some 246, some 247, some 248, some 249, some 250, some 251, some 252, some 253, some 254, some 255, some 256, some 257, some 258, some 259, some 260, some 261, some 262, some 263, some 264, some 265, some 266, some 267, some 268, some 269, some 270, some 271, some 272, some 273, some 274, some 275, some 276, some 277, some 278, some 279, some 280, some 281, some 282, some 283, some 284, some 285, some 286, some 287, some 288, some 289, some 290, some 291, some 292, some 293, some 294, some 295, some 296, some 297, some 298, some 299, some 300, some 301, some 302, some 303, some 304, some 305, some 306, some 307, some 308, some 309, some 310, some 311, some 312, some 313, some 314, some 315, some 316, some 317, some 318, some 319, some 320, some 321, some 322, some 323, some 324, some 325, some 326, some 327, some 328, some 329, some 330, some 331, some 332, some 333, some 334, some 335, some 336, some 337, some 338, some 339, some 340, some 341, some 342, some 343, some 344, some 345, some 346, some 347, some 348, some 349, some 350, some 351, some 352, some 353, some 354, some 355, some 356, some 357, some 358, some 359, some 360, some 361, some 362, some 363, some 364, some 365, some 366, some 367, some 368, some 369, some 370, some 371, some 372, some 373, some 374, some 375, some 376, some 377, some 378, some 379, some 380, some 381, some 382, some 383, some 384, some 385, some 386, some 387, some 388, some 389, some 390, some 391, some 392, some 393, some 394, some 395, some 396, some 397, some 398, some 399, some 400, some 401, some 402, some 403, some 404, some 405, some 406, some 407, some 408, some 409, some 410, some 411, some 412, some 413, some 414, some 415, some 416, some 417, some 418, some 419, some 420, some 421, some 422, some 423, some 424, some 425, some 426, some 427, some 428, some 429, some 430, some 431, some 432, some 433, some 434, some 435, some 436, some 437, some 438, some 439, some 440, some 441, some 442, some 443, some 444, some 445, some 446, some 447, some 448, some 449, some 450, some 451, some 452, some 453, some 454, some 455, some 456, some 457, some 458, some 459, some 460, some 461, some 462, some 463, some 464, some 465, some 466, some 467, some 468, some 469, some 470, some 471, some 472, some 473, some 474, some 475, some 476, some 477, some 478, some 479, some 480, some 481, some 482, some 483, some 484, some 485, some 486, some 487, some 488, some 489, some 490, some 491, some 492, some 493, some 494, some 495, some 496, some 497, some 498, some 499, some 500, some 501, some 502, some 503, some 504, some 505, some 506, some 507, some 508, some 509, some 510, some 511, some 512, some 513, some 514, some 515, some 516, some 517, some 518, none, none, none, some 522, some 523, some 524, some 525, some 526, some 527, some 528, some 529, some 530, some 531, some 532, some 533, some 534, some 535, some 536, some 537, some 538, some 539, some 540]
def mk1 : List (Option Nat) := [none, none, none, none, none, none, none, none, none, none, none, none, none, none, none, none, none, none, none, none, none, none, none, none, none, none, none, none, none, none, none, none, none, none, none, none, none, none, none, none, none, none, none, none, none, none, none, none, none, none, none, none, none, none, none, none, none, none, none, none, none, none, none, none, none, none, none, none, none, none, none, none, none, none, none, none, none, none, none, none, none, none, none, none, none, none, none, none, none, none, none, none, none, none, none, none, none, none, none, none, none, none, none, none, none, none, none, none, none, none, none, none, none, none, none, none, none, none, none, none, none, none, none, none, none, none, none, none, none, none, none, none, none, none, none, none, none, none, none, none, none, none, none, none, none, none, none, none, none, none, none, none, none, none, none, none, none, none, none, none, none, none, none, none, none, none, none, none, none, none, none, none, none, none, none, none, none, none, none, none, none, none, none, none, none, none, none, none, none, none, none, none, none, none, none, none, none, none, none, none, none, none, none, none, none, none, none, none, none, none, none, none, none, none, none, none, none, none, none, none, none, none, none, none, none, none, none, none, none, none, none, none, none, none, none, none, none, none, none, none, none, none, none, none, none, none, none, none, none, none, none, none, none, none, none, none, none, none, none, none, none, none, none, none, none, none, none, none, none, none, none, none, none, none, none, none, none, none, none, none, none, none, none, none, none, none, none, none, none, none, none, none, none, none, none, none, none, none, none, none, none, none, none, none, none, none, none, none, none, none, none, none, none, some 313, some 314, some 315, some 316, some 317, some 318, some 319, some 320, some 321, some 322, some 323, some 324, some 325, some 326, some 327, some 328, some 329, some 330, some 331, some 332, some 333, some 334, some 335, some 336, some 337, some 338, some 339, some 340, some 341, some 342, some 343, some 344, some 345, some 346, some 347, some 348, some 349, some 350, some 351, none, none, none, none, none, none, none, none, none, none, none, none, none, none, none, none, none, none, none, none, none, none, none, none, none, none, none, none, none, none, none, none, none, none, none, none, none, none, none, none, none, none, none, none, none, none, none, none, none, none, none, none, none, none, none, none, none, none, none, none, none, none, none, none, none, none, none, none, none, none, none, none, none, none, none, none, none, none, none, none, none, none, none, none, none, none, none, none, none, none, none, none, none, none, none, none, none, none, none, none, none, none, none, none, none, none, none, none, none, none, none, none, none, none, none, none, none, none, none, none, none, none, none, none, none, none, none, none, none, none, none, none, none, none, none, none, none, none, none, none, none, none, none, none, none, none, none, none, none, none, none, none, none, none, none, none, none, none, none, none, none, none, none, none, none, none, none, none, none, none, none, none, none, none, none, none, none, none, none, none, none, none, none, none, none, none, none, none, none]
set_option maxHeartbeats 200000000 in
set_option maxRecDepth 100000 in
theorem laws_FnSquareFreeOfAll.calls (k : Nat) (a0 : Int) (a1 : Int) (a2 : Int) (r : Bool) (w : World) (h : laws_FnSquareFreeOfAll.f k a0 a1 a2 = some r) (hr_ : r = true) :
  Calls Try.prog 12 #[.int .i64 a0, .int .i64 a1, .int .i64 a2] w fun e w' => e = .returned (.bool r) ∧ Below w.heap.size w w' := by
 have HRT := Aside0.mk hr_
 clear hr_
 have HB := Aside0.mk (Below.refl w.heap.size w)
 have H : ((impl_IsSquareFree.f k a0).bind fun bt178 => ((spec_IsSquareFree.f k a0).bind fun bt180 => ((impl_SquarePart.f k a0).bind fun bt182 => ((spec_SquarePart.f k a0).bind fun bt184 => ((impl_KernelOf.f k a0).bind fun bt186 => ((spec_KernelOf.f k a0).bind fun bt188 => ((impl_FreeSign.f k a0).bind fun bt190 => ((spec_FreeSign.f k a0).bind fun bt192 => ((impl_CountSquareFree.f k a0).bind fun bt194 => ((spec_CountSquareFree.f k a0).bind fun bt196 => ((impl_NextSquareFree.f k a0).bind fun bt198 => ((spec_NextSquareFree.f k a0).bind fun bt200 => (if (bt178.2 != bt180.2) = true then (laws_FnSquareFreeOfAll.j0 k a0 a1 a2 bt178.1 bt178.2 bt182.1 bt186.1 bt190.1 bt194.1 bt198.1 true) else (if (bt178.1 != bt180.1) = true then (laws_FnSquareFreeOfAll.j0 k a0 a1 a2 bt178.1 bt178.2 bt182.1 bt186.1 bt190.1 bt194.1 bt198.1 true) else (if (bt182.2 != bt184.2) = true then (laws_FnSquareFreeOfAll.j0 k a0 a1 a2 bt178.1 bt178.2 bt182.1 bt186.1 bt190.1 bt194.1 bt198.1 true) else (if bt182.1 = bt184.1 then (if (bt186.2 != bt188.2) = true then (laws_FnSquareFreeOfAll.j0 k a0 a1 a2 bt178.1 bt178.2 bt182.1 bt186.1 bt190.1 bt194.1 bt198.1 true) else (if bt186.1 = bt188.1 then (if (bt190.2 != bt192.2) = true then (laws_FnSquareFreeOfAll.j0 k a0 a1 a2 bt178.1 bt178.2 bt182.1 bt186.1 bt190.1 bt194.1 bt198.1 true) else (if bt190.1 = bt192.1 then (if (bt194.2 != bt196.2) = true then (laws_FnSquareFreeOfAll.j0 k a0 a1 a2 bt178.1 bt178.2 bt182.1 bt186.1 bt190.1 bt194.1 bt198.1 true) else (if bt194.1 = bt196.1 then (if (bt198.2 != bt200.2) = true then (laws_FnSquareFreeOfAll.j0 k a0 a1 a2 bt178.1 bt178.2 bt182.1 bt186.1 bt190.1 bt194.1 bt198.1 true) else (if bt198.1 = bt200.1 then (if (bt182.2 != bt178.2) = true then (laws_FnSquareFreeOfAll.j0 k a0 a1 a2 bt178.1 bt178.2 bt182.1 bt186.1 bt190.1 bt194.1 bt198.1 true) else (if (bt186.2 != bt178.2) = true then (laws_FnSquareFreeOfAll.j0 k a0 a1 a2 bt178.1 bt178.2 bt182.1 bt186.1 bt190.1 bt194.1 bt198.1 true) else (if (bt190.2 != bt178.2) = true then (laws_FnSquareFreeOfAll.j0 k a0 a1 a2 bt178.1 bt178.2 bt182.1 bt186.1 bt190.1 bt194.1 bt198.1 true) else (if (bt194.2 != bt178.2) = true then (laws_FnSquareFreeOfAll.j0 k a0 a1 a2 bt178.1 bt178.2 bt182.1 bt186.1 bt190.1 bt194.1 bt198.1 true) else (laws_FnSquareFreeOfAll.j0 k a0 a1 a2 bt178.1 bt178.2 bt182.1 bt186.1 bt190.1 bt194.1 bt198.1 (bt198.2 != bt178.2)))))) else (laws_FnSquareFreeOfAll.j0 k a0 a1 a2 bt178.1 bt178.2 bt182.1 bt186.1 bt190.1 bt194.1 bt198.1 true))) else (laws_FnSquareFreeOfAll.j0 k a0 a1 a2 bt178.1 bt178.2 bt182.1 bt186.1 bt190.1 bt194.1 bt198.1 true))) else (laws_FnSquareFreeOfAll.j0 k a0 a1 a2 bt178.1 bt178.2 bt182.1 bt186.1 bt190.1 bt194.1 bt198.1 true))) else (laws_FnSquareFreeOfAll.j0 k a0 a1 a2 bt178.1 bt178.2 bt182.1 bt186.1 bt190.1 bt194.1 bt198.1 true))) else (laws_FnSquareFreeOfAll.j0 k a0 a1 a2 bt178.1 bt178.2 bt182.1 bt186.1 bt190.1 bt194.1 bt198.1 true))))))))))))))))) = some r := h
 clear h
 replace H := Option.bind_eq_some_iff.mp H
 obtain ⟨⟨t178, t179⟩, A40, H⟩ := H
 replace H : ((spec_IsSquareFree.f k a0).bind fun bt180 => ((impl_SquarePart.f k a0).bind fun bt182 => ((spec_SquarePart.f k a0).bind fun bt184 => ((impl_KernelOf.f k a0).bind fun bt186 => ((spec_KernelOf.f k a0).bind fun bt188 => ((impl_FreeSign.f k a0).bind fun bt190 => ((spec_FreeSign.f k a0).bind fun bt192 => ((impl_CountSquareFree.f k a0).bind fun bt194 => ((spec_CountSquareFree.f k a0).bind fun bt196 => ((impl_NextSquareFree.f k a0).bind fun bt198 => ((spec_NextSquareFree.f k a0).bind fun bt200 => (if (t179 != bt180.2) = true then (laws_FnSquareFreeOfAll.j0 k a0 a1 a2 t178 t179 bt182.1 bt186.1 bt190.1 bt194.1 bt198.1 true) else (if (t178 != bt180.1) = true then (laws_FnSquareFreeOfAll.j0 k a0 a1 a2 t178 t179 bt182.1 bt186.1 bt190.1 bt194.1 bt198.1 true) else (if (bt182.2 != bt184.2) = true then (laws_FnSquareFreeOfAll.j0 k a0 a1 a2 t178 t179 bt182.1 bt186.1 bt190.1 bt194.1 bt198.1 true) else (if bt182.1 = bt184.1 then (if (bt186.2 != bt188.2) = true then (laws_FnSquareFreeOfAll.j0 k a0 a1 a2 t178 t179 bt182.1 bt186.1 bt190.1 bt194.1 bt198.1 true) else (if bt186.1 = bt188.1 then (if (bt190.2 != bt192.2) = true then (laws_FnSquareFreeOfAll.j0 k a0 a1 a2 t178 t179 bt182.1 bt186.1 bt190.1 bt194.1 bt198.1 true) else (if bt190.1 = bt192.1 then (if (bt194.2 != bt196.2) = true then (laws_FnSquareFreeOfAll.j0 k a0 a1 a2 t178 t179 bt182.1 bt186.1 bt190.1 bt194.1 bt198.1 true) else (if bt194.1 = bt196.1 then (if (bt198.2 != bt200.2) = true then (laws_FnSquareFreeOfAll.j0 k a0 a1 a2 t178 t179 bt182.1 bt186.1 bt190.1 bt194.1 bt198.1 true) else (if bt198.1 = bt200.1 then (if (bt182.2 != t179) = true then (laws_FnSquareFreeOfAll.j0 k a0 a1 a2 t178 t179 bt182.1 bt186.1 bt190.1 bt194.1 bt198.1 true) else (if (bt186.2 != t179) = true then (laws_FnSquareFreeOfAll.j0 k a0 a1 a2 t178 t179 bt182.1 bt186.1 bt190.1 bt194.1 bt198.1 true) else (if (bt190.2 != t179) = true then (laws_FnSquareFreeOfAll.j0 k a0 a1 a2 t178 t179 bt182.1 bt186.1 bt190.1 bt194.1 bt198.1 true) else (if (bt194.2 != t179) = true then (laws_FnSquareFreeOfAll.j0 k a0 a1 a2 t178 t179 bt182.1 bt186.1 bt190.1 bt194.1 bt198.1 true) else (laws_FnSquareFreeOfAll.j0 k a0 a1 a2 t178 t179 bt182.1 bt186.1 bt190.1 bt194.1 bt198.1 (bt198.2 != t179)))))) else (laws_FnSquareFreeOfAll.j0 k a0 a1 a2 t178 t179 bt182.1 bt186.1 bt190.1 bt194.1 bt198.1 true))) else (laws_FnSquareFreeOfAll.j0 k a0 a1 a2 t178 t179 bt182.1 bt186.1 bt190.1 bt194.1 bt198.1 true))) else (laws_FnSquareFreeOfAll.j0 k a0 a1 a2 t178 t179 bt182.1 bt186.1 bt190.1 bt194.1 bt198.1 true))) else (laws_FnSquareFreeOfAll.j0 k a0 a1 a2 t178 t179 bt182.1 bt186.1 bt190.1 bt194.1 bt198.1 true))) else (laws_FnSquareFreeOfAll.j0 k a0 a1 a2 t178 t179 bt182.1 bt186.1 bt190.1 bt194.1 bt198.1 true)))))))))))))))) = some r := H
 have A4 := Aside0.mk A40
 clear A40
 replace H := Option.bind_eq_some_iff.mp H
 obtain ⟨⟨t180, t181⟩, A50, H⟩ := H
 replace H : ((impl_SquarePart.f k a0).bind fun bt182 => ((spec_SquarePart.f k a0).bind fun bt184 => ((impl_KernelOf.f k a0).bind fun bt186 => ((spec_KernelOf.f k a0).bind fun bt188 => ((impl_FreeSign.f k a0).bind fun bt190 => ((spec_FreeSign.f k a0).bind fun bt192 => ((impl_CountSquareFree.f k a0).bind fun bt194 => ((spec_CountSquareFree.f k a0).bind fun bt196 => ((impl_NextSquareFree.f k a0).bind fun bt198 => ((spec_NextSquareFree.f k a0).bind fun bt200 => (if (t179 != t181) = true then (laws_FnSquareFreeOfAll.j0 k a0 a1 a2 t178 t179 bt182.1 bt186.1 bt190.1 bt194.1 bt198.1 true) else (if (t178 != t180) = true then (laws_FnSquareFreeOfAll.j0 k a0 a1 a2 t178 t179 bt182.1 bt186.1 bt190.1 bt194.1 bt198.1 true) else (if (bt182.2 != bt184.2) = true then (laws_FnSquareFreeOfAll.j0 k a0 a1 a2 t178 t179 bt182.1 bt186.1 bt190.1 bt194.1 bt198.1 true) else (if bt182.1 = bt184.1 then (if (bt186.2 != bt188.2) = true then (laws_FnSquareFreeOfAll.j0 k a0 a1 a2 t178 t179 bt182.1 bt186.1 bt190.1 bt194.1 bt198.1 true) else (if bt186.1 = bt188.1 then (if (bt190.2 != bt192.2) = true then (laws_FnSquareFreeOfAll.j0 k a0 a1 a2 t178 t179 bt182.1 bt186.1 bt190.1 bt194.1 bt198.1 true) else (if bt190.1 = bt192.1 then (if (bt194.2 != bt196.2) = true then (laws_FnSquareFreeOfAll.j0 k a0 a1 a2 t178 t179 bt182.1 bt186.1 bt190.1 bt194.1 bt198.1 true) else (if bt194.1 = bt196.1 then (if (bt198.2 != bt200.2) = true then (laws_FnSquareFreeOfAll.j0 k a0 a1 a2 t178 t179 bt182.1 bt186.1 bt190.1 bt194.1 bt198.1 true) else (if bt198.1 = bt200.1 then (if (bt182.2 != t179) = true then (laws_FnSquareFreeOfAll.j0 k a0 a1 a2 t178 t179 bt182.1 bt186.1 bt190.1 bt194.1 bt198.1 true) else (if (bt186.2 != t179) = true then (laws_FnSquareFreeOfAll.j0 k a0 a1 a2 t178 t179 bt182.1 bt186.1 bt190.1 bt194.1 bt198.1 true) else (if (bt190.2 != t179) = true then (laws_FnSquareFreeOfAll.j0 k a0 a1 a2 t178 t179 bt182.1 bt186.1 bt190.1 bt194.1 bt198.1 true) else (if (bt194.2 != t179) = true then (laws_FnSquareFreeOfAll.j0 k a0 a1 a2 t178 t179 bt182.1 bt186.1 bt190.1 bt194.1 bt198.1 true) else (laws_FnSquareFreeOfAll.j0 k a0 a1 a2 t178 t179 bt182.1 bt186.1 bt190.1 bt194.1 bt198.1 (bt198.2 != t179)))))) else (laws_FnSquareFreeOfAll.j0 k a0 a1 a2 t178 t179 bt182.1 bt186.1 bt190.1 bt194.1 bt198.1 true))) else (laws_FnSquareFreeOfAll.j0 k a0 a1 a2 t178 t179 bt182.1 bt186.1 bt190.1 bt194.1 bt198.1 true))) else (laws_FnSquareFreeOfAll.j0 k a0 a1 a2 t178 t179 bt182.1 bt186.1 bt190.1 bt194.1 bt198.1 true))) else (laws_FnSquareFreeOfAll.j0 k a0 a1 a2 t178 t179 bt182.1 bt186.1 bt190.1 bt194.1 bt198.1 true))) else (laws_FnSquareFreeOfAll.j0 k a0 a1 a2 t178 t179 bt182.1 bt186.1 bt190.1 bt194.1 bt198.1 true))))))))))))))) = some r := H
 have A5 := Aside0.mk A50
 clear A50
 replace H := Option.bind_eq_some_iff.mp H
 obtain ⟨⟨t182, t183⟩, A60, H⟩ := H
 replace H : ((spec_SquarePart.f k a0).bind fun bt184 => ((impl_KernelOf.f k a0).bind fun bt186 => ((spec_KernelOf.f k a0).bind fun bt188 => ((impl_FreeSign.f k a0).bind fun bt190 => ((spec_FreeSign.f k a0).bind fun bt192 => ((impl_CountSquareFree.f k a0).bind fun bt194 => ((spec_CountSquareFree.f k a0).bind fun bt196 => ((impl_NextSquareFree.f k a0).bind fun bt198 => ((spec_NextSquareFree.f k a0).bind fun bt200 => (if (t179 != t181) = true then (laws_FnSquareFreeOfAll.j0 k a0 a1 a2 t178 t179 t182 bt186.1 bt190.1 bt194.1 bt198.1 true) else (if (t178 != t180) = true then (laws_FnSquareFreeOfAll.j0 k a0 a1 a2 t178 t179 t182 bt186.1 bt190.1 bt194.1 bt198.1 true) else (if (t183 != bt184.2) = true then (laws_FnSquareFreeOfAll.j0 k a0 a1 a2 t178 t179 t182 bt186.1 bt190.1 bt194.1 bt198.1 true) else (if t182 = bt184.1 then (if (bt186.2 != bt188.2) = true then (laws_FnSquareFreeOfAll.j0 k a0 a1 a2 t178 t179 t182 bt186.1 bt190.1 bt194.1 bt198.1 true) else (if bt186.1 = bt188.1 then (if (bt190.2 != bt192.2) = true then (laws_FnSquareFreeOfAll.j0 k a0 a1 a2 t178 t179 t182 bt186.1 bt190.1 bt194.1 bt198.1 true) else (if bt190.1 = bt192.1 then (if (bt194.2 != bt196.2) = true then (laws_FnSquareFreeOfAll.j0 k a0 a1 a2 t178 t179 t182 bt186.1 bt190.1 bt194.1 bt198.1 true) else (if bt194.1 = bt196.1 then (if (bt198.2 != bt200.2) = true then (laws_FnSquareFreeOfAll.j0 k a0 a1 a2 t178 t179 t182 bt186.1 bt190.1 bt194.1 bt198.1 true) else (if bt198.1 = bt200.1 then (if (t183 != t179) = true then (laws_FnSquareFreeOfAll.j0 k a0 a1 a2 t178 t179 t182 bt186.1 bt190.1 bt194.1 bt198.1 true) else (if (bt186.2 != t179) = true then (laws_FnSquareFreeOfAll.j0 k a0 a1 a2 t178 t179 t182 bt186.1 bt190.1 bt194.1 bt198.1 true) else (if (bt190.2 != t179) = true then (laws_FnSquareFreeOfAll.j0 k a0 a1 a2 t178 t179 t182 bt186.1 bt190.1 bt194.1 bt198.1 true) else (if (bt194.2 != t179) = true then (laws_FnSquareFreeOfAll.j0 k a0 a1 a2 t178 t179 t182 bt186.1 bt190.1 bt194.1 bt198.1 true) else (laws_FnSquareFreeOfAll.j0 k a0 a1 a2 t178 t179 t182 bt186.1 bt190.1 bt194.1 bt198.1 (bt198.2 != t179)))))) else (laws_FnSquareFreeOfAll.j0 k a0 a1 a2 t178 t179 t182 bt186.1 bt190.1 bt194.1 bt198.1 true))) else (laws_FnSquareFreeOfAll.j0 k a0 a1 a2 t178 t179 t182 bt186.1 bt190.1 bt194.1 bt198.1 true))) else (laws_FnSquareFreeOfAll.j0 k a0 a1 a2 t178 t179 t182 bt186.1 bt190.1 bt194.1 bt198.1 true))) else (laws_FnSquareFreeOfAll.j0 k a0 a1 a2 t178 t179 t182 bt186.1 bt190.1 bt194.1 bt198.1 true))) else (laws_FnSquareFreeOfAll.j0 k a0 a1 a2 t178 t179 t182 bt186.1 bt190.1 bt194.1 bt198.1 true)))))))))))))) = some r := H
 have A6 := Aside0.mk A60
 clear A60
 replace H := Option.bind_eq_some_iff.mp H
 obtain ⟨⟨t184, t185⟩, A70, H⟩ := H
 replace H : ((impl_KernelOf.f k a0).bind fun bt186 => ((spec_KernelOf.f k a0).bind fun bt188 => ((impl_FreeSign.f k a0).bind fun bt190 => ((spec_FreeSign.f k a0).bind fun bt192 => ((impl_CountSquareFree.f k a0).bind fun bt194 => ((spec_CountSquareFree.f k a0).bind fun bt196 => ((impl_NextSquareFree.f k a0).bind fun bt198 => ((spec_NextSquareFree.f k a0).bind fun bt200 => (if (t179 != t181) = true then (laws_FnSquareFreeOfAll.j0 k a0 a1 a2 t178 t179 t182 bt186.1 bt190.1 bt194.1 bt198.1 true) else (if (t178 != t180) = true then (laws_FnSquareFreeOfAll.j0 k a0 a1 a2 t178 t179 t182 bt186.1 bt190.1 bt194.1 bt198.1 true) else (if (t183 != t185) = true then (laws_FnSquareFreeOfAll.j0 k a0 a1 a2 t178 t179 t182 bt186.1 bt190.1 bt194.1 bt198.1 true) else (if t182 = t184 then (if (bt186.2 != bt188.2) = true then (laws_FnSquareFreeOfAll.j0 k a0 a1 a2 t178 t179 t182 bt186.1 bt190.1 bt194.1 bt198.1 true) else (if bt186.1 = bt188.1 then (if (bt190.2 != bt192.2) = true then (laws_FnSquareFreeOfAll.j0 k a0 a1 a2 t178 t179 t182 bt186.1 bt190.1 bt194.1 bt198.1 true) else (if bt190.1 = bt192.1 then (if (bt194.2 != bt196.2) = true then (laws_FnSquareFreeOfAll.j0 k a0 a1 a2 t178 t179 t182 bt186.1 bt190.1 bt194.1 bt198.1 true) else (if bt194.1 = bt196.1 then (if (bt198.2 != bt200.2) = true then (laws_FnSquareFreeOfAll.j0 k a0 a1 a2 t178 t179 t182 bt186.1 bt190.1 bt194.1 bt198.1 true) else (if bt198.1 = bt200.1 then (if (t183 != t179) = true then (laws_FnSquareFreeOfAll.j0 k a0 a1 a2 t178 t179 t182 bt186.1 bt190.1 bt194.1 bt198.1 true) else (if (bt186.2 != t179) = true then (laws_FnSquareFreeOfAll.j0 k a0 a1 a2 t178 t179 t182 bt186.1 bt190.1 bt194.1 bt198.1 true) else (if (bt190.2 != t179) = true then (laws_FnSquareFreeOfAll.j0 k a0 a1 a2 t178 t179 t182 bt186.1 bt190.1 bt194.1 bt198.1 true) else (if (bt194.2 != t179) = true then (laws_FnSquareFreeOfAll.j0 k a0 a1 a2 t178 t179 t182 bt186.1 bt190.1 bt194.1 bt198.1 true) else (laws_FnSquareFreeOfAll.j0 k a0 a1 a2 t178 t179 t182 bt186.1 bt190.1 bt194.1 bt198.1 (bt198.2 != t179)))))) else (laws_FnSquareFreeOfAll.j0 k a0 a1 a2 t178 t179 t182 bt186.1 bt190.1 bt194.1 bt198.1 true))) else (laws_FnSquareFreeOfAll.j0 k a0 a1 a2 t178 t179 t182 bt186.1 bt190.1 bt194.1 bt198.1 true))) else (laws_FnSquareFreeOfAll.j0 k a0 a1 a2 t178 t179 t182 bt186.1 bt190.1 bt194.1 bt198.1 true))) else (laws_FnSquareFreeOfAll.j0 k a0 a1 a2 t178 t179 t182 bt186.1 bt190.1 bt194.1 bt198.1 true))) else (laws_FnSquareFreeOfAll.j0 k a0 a1 a2 t178 t179 t182 bt186.1 bt190.1 bt194.1 bt198.1 true))))))))))))) = some r := H
 have A7 := Aside0.mk A70
 clear A70
 replace H := Option.bind_eq_some_iff.mp H
 obtain ⟨⟨t186, t187⟩, A80, H⟩ := H
 replace H : ((spec_KernelOf.f k a0).bind fun bt188 => ((impl_FreeSign.f k a0).bind fun bt190 => ((spec_FreeSign.f k a0).bind fun bt192 => ((impl_CountSquareFree.f k a0).bind fun bt194 => ((spec_CountSquareFree.f k a0).bind fun bt196 => ((impl_NextSquareFree.f k a0).bind fun bt198 => ((spec_NextSquareFree.f k a0).bind fun bt200 => (if (t179 != t181) = true then (laws_FnSquareFreeOfAll.j0 k a0 a1 a2 t178 t179 t182 t186 bt190.1 bt194.1 bt198.1 true) else (if (t178 != t180) = true then (laws_FnSquareFreeOfAll.j0 k a0 a1 a2 t178 t179 t182 t186 bt190.1 bt194.1 bt198.1 true) else (if (t183 != t185) = true then (laws_FnSquareFreeOfAll.j0 k a0 a1 a2 t178 t179 t182 t186 bt190.1 bt194.1 bt198.1 true) else (if t182 = t184 then (if (t187 != bt188.2) = true then (laws_FnSquareFreeOfAll.j0 k a0 a1 a2 t178 t179 t182 t186 bt190.1 bt194.1 bt198.1 true) else (if t186 = bt188.1 then (if (bt190.2 != bt192.2) = true then (laws_FnSquareFreeOfAll.j0 k a0 a1 a2 t178 t179 t182 t186 bt190.1 bt194.1 bt198.1 true) else (if bt190.1 = bt192.1 then (if (bt194.2 != bt196.2) = true then (laws_FnSquareFreeOfAll.j0 k a0 a1 a2 t178 t179 t182 t186 bt190.1 bt194.1 bt198.1 true) else (if bt194.1 = bt196.1 then (if (bt198.2 != bt200.2) = true then (laws_FnSquareFreeOfAll.j0 k a0 a1 a2 t178 t179 t182 t186 bt190.1 bt194.1 bt198.1 true) else (if bt198.1 = bt200.1 then (if (t183 != t179) = true then (laws_FnSquareFreeOfAll.j0 k a0 a1 a2 t178 t179 t182 t186 bt190.1 bt194.1 bt198.1 true) else (if (t187 != t179) = true then (laws_FnSquareFreeOfAll.j0 k a0 a1 a2 t178 t179 t182 t186 bt190.1 bt194.1 bt198.1 true) else (if (bt190.2 != t179) = true then (laws_FnSquareFreeOfAll.j0 k a0 a1 a2 t178 t179 t182 t186 bt190.1 bt194.1 bt198.1 true) else (if (bt194.2 != t179) = true then (laws_FnSquareFreeOfAll.j0 k a0 a1 a2 t178 t179 t182 t186 bt190.1 bt194.1 bt198.1 true) else (laws_FnSquareFreeOfAll.j0 k a0 a1 a2 t178 t179 t182 t186 bt190.1 bt194.1 bt198.1 (bt198.2 != t179)))))) else (laws_FnSquareFreeOfAll.j0 k a0 a1 a2 t178 t179 t182 t186 bt190.1 bt194.1 bt198.1 true))) else (laws_FnSquareFreeOfAll.j0 k a0 a1 a2 t178 t179 t182 t186 bt190.1 bt194.1 bt198.1 true))) else (laws_FnSquareFreeOfAll.j0 k a0 a1 a2 t178 t179 t182 t186 bt190.1 bt194.1 bt198.1 true))) else (laws_FnSquareFreeOfAll.j0 k a0 a1 a2 t178 t179 t182 t186 bt190.1 bt194.1 bt198.1 true))) else (laws_FnSquareFreeOfAll.j0 k a0 a1 a2 t178 t179 t182 t186 bt190.1 bt194.1 bt198.1 true)))))))))))) = some r := H
 have A8 := Aside0.mk A80
 clear A80
 replace H := Option.bind_eq_some_iff.mp H
 obtain ⟨⟨t188, t189⟩, A90, H⟩ := H
 replace H : ((impl_FreeSign.f k a0).bind fun bt190 => ((spec_FreeSign.f k a0).bind fun bt192 => ((impl_CountSquareFree.f k a0).bind fun bt194 => ((spec_CountSquareFree.f k a0).bind fun bt196 => ((impl_NextSquareFree.f k a0).bind fun bt198 => ((spec_NextSquareFree.f k a0).bind fun bt200 => (if (t179 != t181) = true then (laws_FnSquareFreeOfAll.j0 k a0 a1 a2 t178 t179 t182 t186 bt190.1 bt194.1 bt198.1 true) else (if (t178 != t180) = true then (laws_FnSquareFreeOfAll.j0 k a0 a1 a2 t178 t179 t182 t186 bt190.1 bt194.1 bt198.1 true) else (if (t183 != t185) = true then (laws_FnSquareFreeOfAll.j0 k a0 a1 a2 t178 t179 t182 t186 bt190.1 bt194.1 bt198.1 true) else (if t182 = t184 then (if (t187 != t189) = true then (laws_FnSquareFreeOfAll.j0 k a0 a1 a2 t178 t179 t182 t186 bt190.1 bt194.1 bt198.1 true) else (if t186 = t188 then (if (bt190.2 != bt192.2) = true then (laws_FnSquareFreeOfAll.j0 k a0 a1 a2 t178 t179 t182 t186 bt190.1 bt194.1 bt198.1 true) else (if bt190.1 = bt192.1 then (if (bt194.2 != bt196.2) = true then (laws_FnSquareFreeOfAll.j0 k a0 a1 a2 t178 t179 t182 t186 bt190.1 bt194.1 bt198.1 true) else (if bt194.1 = bt196.1 then (if (bt198.2 != bt200.2) = true then (laws_FnSquareFreeOfAll.j0 k a0 a1 a2 t178 t179 t182 t186 bt190.1 bt194.1 bt198.1 true) else (if bt198.1 = bt200.1 then (if (t183 != t179) = true then (laws_FnSquareFreeOfAll.j0 k a0 a1 a2 t178 t179 t182 t186 bt190.1 bt194.1 bt198.1 true) else (if (t187 != t179) = true then (laws_FnSquareFreeOfAll.j0 k a0 a1 a2 t178 t179 t182 t186 bt190.1 bt194.1 bt198.1 true) else (if (bt190.2 != t179) = true then (laws_FnSquareFreeOfAll.j0 k a0 a1 a2 t178 t179 t182 t186 bt190.1 bt194.1 bt198.1 true) else (if (bt194.2 != t179) = true then (laws_FnSquareFreeOfAll.j0 k a0 a1 a2 t178 t179 t182 t186 bt190.1 bt194.1 bt198.1 true) else (laws_FnSquareFreeOfAll.j0 k a0 a1 a2 t178 t179 t182 t186 bt190.1 bt194.1 bt198.1 (bt198.2 != t179)))))) else (laws_FnSquareFreeOfAll.j0 k a0 a1 a2 t178 t179 t182 t186 bt190.1 bt194.1 bt198.1 true))) else (laws_FnSquareFreeOfAll.j0 k a0 a1 a2 t178 t179 t182 t186 bt190.1 bt194.1 bt198.1 true))) else (laws_FnSquareFreeOfAll.j0 k a0 a1 a2 t178 t179 t182 t186 bt190.1 bt194.1 bt198.1 true))) else (laws_FnSquareFreeOfAll.j0 k a0 a1 a2 t178 t179 t182 t186 bt190.1 bt194.1 bt198.1 true))) else (laws_FnSquareFreeOfAll.j0 k a0 a1 a2 t178 t179 t182 t186 bt190.1 bt194.1 bt198.1 true))))))))))) = some r := H
 have A9 := Aside0.mk A90
 clear A90
 replace H := Option.bind_eq_some_iff.mp H
 obtain ⟨⟨t190, t191⟩, A100, H⟩ := H
 replace H : ((spec_FreeSign.f k a0).bind fun bt192 => ((impl_CountSquareFree.f k a0).bind fun bt194 => ((spec_CountSquareFree.f k a0).bind fun bt196 => ((impl_NextSquareFree.f k a0).bind fun bt198 => ((spec_NextSquareFree.f k a0).bind fun bt200 => (if (t179 != t181) = true then (laws_FnSquareFreeOfAll.j0 k a0 a1 a2 t178 t179 t182 t186 t190 bt194.1 bt198.1 true) else (if (t178 != t180) = true then (laws_FnSquareFreeOfAll.j0 k a0 a1 a2 t178 t179 t182 t186 t190 bt194.1 bt198.1 true) else (if (t183 != t185) = true then (laws_FnSquareFreeOfAll.j0 k a0 a1 a2 t178 t179 t182 t186 t190 bt194.1 bt198.1 true) else (if t182 = t184 then (if (t187 != t189) = true then (laws_FnSquareFreeOfAll.j0 k a0 a1 a2 t178 t179 t182 t186 t190 bt194.1 bt198.1 true) else (if t186 = t188 then (if (t191 != bt192.2) = true then (laws_FnSquareFreeOfAll.j0 k a0 a1 a2 t178 t179 t182 t186 t190 bt194.1 bt198.1 true) else (if t190 = bt192.1 then (if (bt194.2 != bt196.2) = true then (laws_FnSquareFreeOfAll.j0 k a0 a1 a2 t178 t179 t182 t186 t190 bt194.1 bt198.1 true) else (if bt194.1 = bt196.1 then (if (bt198.2 != bt200.2) = true then (laws_FnSquareFreeOfAll.j0 k a0 a1 a2 t178 t179 t182 t186 t190 bt194.1 bt198.1 true) else (if bt198.1 = bt200.1 then (if (t183 != t179) = true then (laws_FnSquareFreeOfAll.j0 k a0 a1 a2 t178 t179 t182 t186 t190 bt194.1 bt198.1 true) else (if (t187 != t179) = true then (laws_FnSquareFreeOfAll.j0 k a0 a1 a2 t178 t179 t182 t186 t190 bt194.1 bt198.1 true) else (if (t191 != t179) = true then (laws_FnSquareFreeOfAll.j0 k a0 a1 a2 t178 t179 t182 t186 t190 bt194.1 bt198.1 true) else (if (bt194.2 != t179) = true then (laws_FnSquareFreeOfAll.j0 k a0 a1 a2 t178 t179 t182 t186 t190 bt194.1 bt198.1 true) else (laws_FnSquareFreeOfAll.j0 k a0 a1 a2 t178 t179 t182 t186 t190 bt194.1 bt198.1 (bt198.2 != t179)))))) else (laws_FnSquareFreeOfAll.j0 k a0 a1 a2 t178 t179 t182 t186 t190 bt194.1 bt198.1 true))) else (laws_FnSquareFreeOfAll.j0 k a0 a1 a2 t178 t179 t182 t186 t190 bt194.1 bt198.1 true))) else (laws_FnSquareFreeOfAll.j0 k a0 a1 a2 t178 t179 t182 t186 t190 bt194.1 bt198.1 true))) else (laws_FnSquareFreeOfAll.j0 k a0 a1 a2 t178 t179 t182 t186 t190 bt194.1 bt198.1 true))) else (laws_FnSquareFreeOfAll.j0 k a0 a1 a2 t178 t179 t182 t186 t190 bt194.1 bt198.1 true)))))))))) = some r := H
 have A10 := Aside0.mk A100
 clear A100
 replace H := Option.bind_eq_some_iff.mp H
 obtain ⟨⟨t192, t193⟩, A110, H⟩ := H
 replace H : ((impl_CountSquareFree.f k a0).bind fun bt194 => ((spec_CountSquareFree.f k a0).bind fun bt196 => ((impl_NextSquareFree.f k a0).bind fun bt198 => ((spec_NextSquareFree.f k a0).bind fun bt200 => (if (t179 != t181) = true then (laws_FnSquareFreeOfAll.j0 k a0 a1 a2 t178 t179 t182 t186 t190 bt194.1 bt198.1 true) else (if (t178 != t180) = true then (laws_FnSquareFreeOfAll.j0 k a0 a1 a2 t178 t179 t182 t186 t190 bt194.1 bt198.1 true) else (if (t183 != t185) = true then (laws_FnSquareFreeOfAll.j0 k a0 a1 a2 t178 t179 t182 t186 t190 bt194.1 bt198.1 true) else (if t182 = t184 then (if (t187 != t189) = true then (laws_FnSquareFreeOfAll.j0 k a0 a1 a2 t178 t179 t182 t186 t190 bt194.1 bt198.1 true) else (if t186 = t188 then (if (t191 != t193) = true then (laws_FnSquareFreeOfAll.j0 k a0 a1 a2 t178 t179 t182 t186 t190 bt194.1 bt198.1 true) else (if t190 = t192 then (if (bt194.2 != bt196.2) = true then (laws_FnSquareFreeOfAll.j0 k a0 a1 a2 t178 t179 t182 t186 t190 bt194.1 bt198.1 true) else (if bt194.1 = bt196.1 then (if (bt198.2 != bt200.2) = true then (laws_FnSquareFreeOfAll.j0 k a0 a1 a2 t178 t179 t182 t186 t190 bt194.1 bt198.1 true) else (if bt198.1 = bt200.1 then (if (t183 != t179) = true then (laws_FnSquareFreeOfAll.j0 k a0 a1 a2 t178 t179 t182 t186 t190 bt194.1 bt198.1 true) else (if (t187 != t179) = true then (laws_FnSquareFreeOfAll.j0 k a0 a1 a2 t178 t179 t182 t186 t190 bt194.1 bt198.1 true) else (if (t191 != t179) = true then (laws_FnSquareFreeOfAll.j0 k a0 a1 a2 t178 t179 t182 t186 t190 bt194.1 bt198.1 true) else (if (bt194.2 != t179) = true then (laws_FnSquareFreeOfAll.j0 k a0 a1 a2 t178 t179 t182 t186 t190 bt194.1 bt198.1 true) else (laws_FnSquareFreeOfAll.j0 k a0 a1 a2 t178 t179 t182 t186 t190 bt194.1 bt198.1 (bt198.2 != t179)))))) else (laws_FnSquareFreeOfAll.j0 k a0 a1 a2 t178 t179 t182 t186 t190 bt194.1 bt198.1 true))) else (laws_FnSquareFreeOfAll.j0 k a0 a1 a2 t178 t179 t182 t186 t190 bt194.1 bt198.1 true))) else (laws_FnSquareFreeOfAll.j0 k a0 a1 a2 t178 t179 t182 t186 t190 bt194.1 bt198.1 true))) else (laws_FnSquareFreeOfAll.j0 k a0 a1 a2 t178 t179 t182 t186 t190 bt194.1 bt198.1 true))) else (laws_FnSquareFreeOfAll.j0 k a0 a1 a2 t178 t179 t182 t186 t190 bt194.1 bt198.1 true))))))))) = some r := H
 have A11 := Aside0.mk A110
 clear A110
 replace H := Option.bind_eq_some_iff.mp H
 obtain ⟨⟨t194, t195⟩, A120, H⟩ := H
 replace H : ((spec_CountSquareFree.f k a0).bind fun bt196 => ((impl_NextSquareFree.f k a0).bind fun bt198 => ((spec_NextSquareFree.f k a0).bind fun bt200 => (if (t179 != t181) = true then (laws_FnSquareFreeOfAll.j0 k a0 a1 a2 t178 t179 t182 t186 t190 t194 bt198.1 true) else (if (t178 != t180) = true then (laws_FnSquareFreeOfAll.j0 k a0 a1 a2 t178 t179 t182 t186 t190 t194 bt198.1 true) else (if (t183 != t185) = true then (laws_FnSquareFreeOfAll.j0 k a0 a1 a2 t178 t179 t182 t186 t190 t194 bt198.1 true) else (if t182 = t184 then (if (t187 != t189) = true then (laws_FnSquareFreeOfAll.j0 k a0 a1 a2 t178 t179 t182 t186 t190 t194 bt198.1 true) else (if t186 = t188 then (if (t191 != t193) = true then (laws_FnSquareFreeOfAll.j0 k a0 a1 a2 t178 t179 t182 t186 t190 t194 bt198.1 true) else (if t190 = t192 then (if (t195 != bt196.2) = true then (laws_FnSquareFreeOfAll.j0 k a0 a1 a2 t178 t179 t182 t186 t190 t194 bt198.1 true) else (if t194 = bt196.1 then (if (bt198.2 != bt200.2) = true then (laws_FnSquareFreeOfAll.j0 k a0 a1 a2 t178 t179 t182 t186 t190 t194 bt198.1 true) else (if bt198.1 = bt200.1 then (if (t183 != t179) = true then (laws_FnSquareFreeOfAll.j0 k a0 a1 a2 t178 t179 t182 t186 t190 t194 bt198.1 true) else (if (t187 != t179) = true then (laws_FnSquareFreeOfAll.j0 k a0 a1 a2 t178 t179 t182 t186 t190 t194 bt198.1 true) else (if (t191 != t179) = true then (laws_FnSquareFreeOfAll.j0 k a0 a1 a2 t178 t179 t182 t186 t190 t194 bt198.1 true) else (if (t195 != t179) = true then (laws_FnSquareFreeOfAll.j0 k a0 a1 a2 t178 t179 t182 t186 t190 t194 bt198.1 true) else (laws_FnSquareFreeOfAll.j0 k a0 a1 a2 t178 t179 t182 t186 t190 t194 bt198.1 (bt198.2 != t179)))))) else (laws_FnSquareFreeOfAll.j0 k a0 a1 a2 t178 t179 t182 t186 t190 t194 bt198.1 true))) else (laws_FnSquareFreeOfAll.j0 k a0 a1 a2 t178 t179 t182 t186 t190 t194 bt198.1 true))) else (laws_FnSquareFreeOfAll.j0 k a0 a1 a2 t178 t179 t182 t186 t190 t194 bt198.1 true))) else (laws_FnSquareFreeOfAll.j0 k a0 a1 a2 t178 t179 t182 t186 t190 t194 bt198.1 true))) else (laws_FnSquareFreeOfAll.j0 k a0 a1 a2 t178 t179 t182 t186 t190 t194 bt198.1 true)))))))) = some r := H
 have A12 := Aside0.mk A120
 clear A120
 replace H := Option.bind_eq_some_iff.mp H
 obtain ⟨⟨t196, t197⟩, A130, H⟩ := H
 replace H : ((impl_NextSquareFree.f k a0).bind fun bt198 => ((spec_NextSquareFree.f k a0).bind fun bt200 => (if (t179 != t181) = true then (laws_FnSquareFreeOfAll.j0 k a0 a1 a2 t178 t179 t182 t186 t190 t194 bt198.1 true) else (if (t178 != t180) = true then (laws_FnSquareFreeOfAll.j0 k a0 a1 a2 t178 t179 t182 t186 t190 t194 bt198.1 true) else (if (t183 != t185) = true then (laws_FnSquareFreeOfAll.j0 k a0 a1 a2 t178 t179 t182 t186 t190 t194 bt198.1 true) else (if t182 = t184 then (if (t187 != t189) = true then (laws_FnSquareFreeOfAll.j0 k a0 a1 a2 t178 t179 t182 t186 t190 t194 bt198.1 true) else (if t186 = t188 then (if (t191 != t193) = true then (laws_FnSquareFreeOfAll.j0 k a0 a1 a2 t178 t179 t182 t186 t190 t194 bt198.1 true) else (if t190 = t192 then (if (t195 != t197) = true then (laws_FnSquareFreeOfAll.j0 k a0 a1 a2 t178 t179 t182 t186 t190 t194 bt198.1 true) else (if t194 = t196 then (if (bt198.2 != bt200.2) = true then (laws_FnSquareFreeOfAll.j0 k a0 a1 a2 t178 t179 t182 t186 t190 t194 bt198.1 true) else (if bt198.1 = bt200.1 then (if (t183 != t179) = true then (laws_FnSquareFreeOfAll.j0 k a0 a1 a2 t178 t179 t182 t186 t190 t194 bt198.1 true) else (if (t187 != t179) = true then (laws_FnSquareFreeOfAll.j0 k a0 a1 a2 t178 t179 t182 t186 t190 t194 bt198.1 true) else (if (t191 != t179) = true then (laws_FnSquareFreeOfAll.j0 k a0 a1 a2 t178 t179 t182 t186 t190 t194 bt198.1 true) else (if (t195 != t179) = true then (laws_FnSquareFreeOfAll.j0 k a0 a1 a2 t178 t179 t182 t186 t190 t194 bt198.1 true) else (laws_FnSquareFreeOfAll.j0 k a0 a1 a2 t178 t179 t182 t186 t190 t194 bt198.1 (bt198.2 != t179)))))) else (laws_FnSquareFreeOfAll.j0 k a0 a1 a2 t178 t179 t182 t186 t190 t194 bt198.1 true))) else (laws_FnSquareFreeOfAll.j0 k a0 a1 a2 t178 t179 t182 t186 t190 t194 bt198.1 true))) else (laws_FnSquareFreeOfAll.j0 k a0 a1 a2 t178 t179 t182 t186 t190 t194 bt198.1 true))) else (laws_FnSquareFreeOfAll.j0 k a0 a1 a2 t178 t179 t182 t186 t190 t194 bt198.1 true))) else (laws_FnSquareFreeOfAll.j0 k a0 a1 a2 t178 t179 t182 t186 t190 t194 bt198.1 true))))))) = some r := H
 have A13 := Aside0.mk A130
 clear A130
 replace H := Option.bind_eq_some_iff.mp H
 obtain ⟨⟨t198, t199⟩, A140, H⟩ := H
 replace H : ((spec_NextSquareFree.f k a0).bind fun bt200 => (if (t179 != t181) = true then (laws_FnSquareFreeOfAll.j0 k a0 a1 a2 t178 t179 t182 t186 t190 t194 t198 true) else (if (t178 != t180) = true then (laws_FnSquareFreeOfAll.j0 k a0 a1 a2 t178 t179 t182 t186 t190 t194 t198 true) else (if (t183 != t185) = true then (laws_FnSquareFreeOfAll.j0 k a0 a1 a2 t178 t179 t182 t186 t190 t194 t198 true) else (if t182 = t184 then (if (t187 != t189) = true then (laws_FnSquareFreeOfAll.j0 k a0 a1 a2 t178 t179 t182 t186 t190 t194 t198 true) else (if t186 = t188 then (if (t191 != t193) = true then (laws_FnSquareFreeOfAll.j0 k a0 a1 a2 t178 t179 t182 t186 t190 t194 t198 true) else (if t190 = t192 then (if (t195 != t197) = true then (laws_FnSquareFreeOfAll.j0 k a0 a1 a2 t178 t179 t182 t186 t190 t194 t198 true) else (if t194 = t196 then (if (t199 != bt200.2) = true then (laws_FnSquareFreeOfAll.j0 k a0 a1 a2 t178 t179 t182 t186 t190 t194 t198 true) else (if t198 = bt200.1 then (if (t183 != t179) = true then (laws_FnSquareFreeOfAll.j0 k a0 a1 a2 t178 t179 t182 t186 t190 t194 t198 true) else (if (t187 != t179) = true then (laws_FnSquareFreeOfAll.j0 k a0 a1 a2 t178 t179 t182 t186 t190 t194 t198 true) else (if (t191 != t179) = true then (laws_FnSquareFreeOfAll.j0 k a0 a1 a2 t178 t179 t182 t186 t190 t194 t198 true) else (if (t195 != t179) = true then (laws_FnSquareFreeOfAll.j0 k a0 a1 a2 t178 t179 t182 t186 t190 t194 t198 true) else (laws_FnSquareFreeOfAll.j0 k a0 a1 a2 t178 t179 t182 t186 t190 t194 t198 (t199 != t179)))))) else (laws_FnSquareFreeOfAll.j0 k a0 a1 a2 t178 t179 t182 t186 t190 t194 t198 true))) else (laws_FnSquareFreeOfAll.j0 k a0 a1 a2 t178 t179 t182 t186 t190 t194 t198 true))) else (laws_FnSquareFreeOfAll.j0 k a0 a1 a2 t178 t179 t182 t186 t190 t194 t198 true))) else (laws_FnSquareFreeOfAll.j0 k a0 a1 a2 t178 t179 t182 t186 t190 t194 t198 true))) else (laws_FnSquareFreeOfAll.j0 k a0 a1 a2 t178 t179 t182 t186 t190 t194 t198 true)))))) = some r := H
 have A14 := Aside0.mk A140
 clear A140
 replace H := Option.bind_eq_some_iff.mp H
 obtain ⟨⟨t200, t201⟩, A150, H⟩ := H
 replace H : (if (t179 != t181) = true then (laws_FnSquareFreeOfAll.j0 k a0 a1 a2 t178 t179 t182 t186 t190 t194 t198 true) else (if (t178 != t180) = true then (laws_FnSquareFreeOfAll.j0 k a0 a1 a2 t178 t179 t182 t186 t190 t194 t198 true) else (if (t183 != t185) = true then (laws_FnSquareFreeOfAll.j0 k a0 a1 a2 t178 t179 t182 t186 t190 t194 t198 true) else (if t182 = t184 then (if (t187 != t189) = true then (laws_FnSquareFreeOfAll.j0 k a0 a1 a2 t178 t179 t182 t186 t190 t194 t198 true) else (if t186 = t188 then (if (t191 != t193) = true then (laws_FnSquareFreeOfAll.j0 k a0 a1 a2 t178 t179 t182 t186 t190 t194 t198 true) else (if t190 = t192 then (if (t195 != t197) = true then (laws_FnSquareFreeOfAll.j0 k a0 a1 a2 t178 t179 t182 t186 t190 t194 t198 true) else (if t194 = t196 then (if (t199 != t201) = true then (laws_FnSquareFreeOfAll.j0 k a0 a1 a2 t178 t179 t182 t186 t190 t194 t198 true) else (if t198 = t200 then (if (t183 != t179) = true then (laws_FnSquareFreeOfAll.j0 k a0 a1 a2 t178 t179 t182 t186 t190 t194 t198 true) else (if (t187 != t179) = true then (laws_FnSquareFreeOfAll.j0 k a0 a1 a2 t178 t179 t182 t186 t190 t194 t198 true) else (if (t191 != t179) = true then (laws_FnSquareFreeOfAll.j0 k a0 a1 a2 t178 t179 t182 t186 t190 t194 t198 true) else (if (t195 != t179) = true then (laws_FnSquareFreeOfAll.j0 k a0 a1 a2 t178 t179 t182 t186 t190 t194 t198 true) else (laws_FnSquareFreeOfAll.j0 k a0 a1 a2 t178 t179 t182 t186 t190 t194 t198 (t199 != t179)))))) else (laws_FnSquareFreeOfAll.j0 k a0 a1 a2 t178 t179 t182 t186 t190 t194 t198 true))) else (laws_FnSquareFreeOfAll.j0 k a0 a1 a2 t178 t179 t182 t186 t190 t194 t198 true))) else (laws_FnSquareFreeOfAll.j0 k a0 a1 a2 t178 t179 t182 t186 t190 t194 t198 true))) else (laws_FnSquareFreeOfAll.j0 k a0 a1 a2 t178 t179 t182 t186 t190 t194 t198 true))) else (laws_FnSquareFreeOfAll.j0 k a0 a1 a2 t178 t179 t182 t186 t190 t194 t198 true))))) = some r := H
 have A15 := Aside0.mk A150
 clear A150
 have HC16 := Aside0.mk H
 clear H
 go_enter Try.func12, Try.ntmps12
 go_upto_region 13 with (first | ((with_reducible refine gate_callee (f := 40) rfl ?_); refine goesL_ (some 71) rfl rfl Try.func40 (by kernel_rfl) rfl #[.int .i64 a0] rfl (by (try simp only [List.map_toArray, List.map_cons, List.map_nil]); first | done | rfl | (simp only [List.length_drop, List.length_take]; rfl)) ?_; (with_reducible refine (impl_IsSquareFree.calls k a0 t178 t179 _ A4.out).mono ?_); rintro e w17 ⟨rfl, hb⟩; refine ⟨_, rfl, ?_⟩; have n0_ := Aside0.mk (below_step (by repeat (first | (with_reducible first | exact HB.out | apply below_alloc | apply pw_below_drewN | apply below_drew1))) hb); clear HB; have HB := n0_; clear n0_; (try clear hb)) | ((with_reducible refine gate_callee (f := 41) rfl ?_); refine goesL_ (some 76) rfl rfl Try.func41 (by kernel_rfl) rfl #[.int .i64 a0] rfl (by (try simp only [List.map_toArray, List.map_cons, List.map_nil]); first | done | rfl | (simp only [List.length_drop, List.length_take]; rfl)) ?_; (with_reducible refine (spec_IsSquareFree.calls k a0 t180 t181 _ A5.out).mono ?_); rintro e w' ⟨rfl, ⟨nd, rfl⟩⟩; refine ⟨_, rfl, ?_⟩) | ((with_reducible refine gate_callee (f := 42) rfl ?_); refine goesL_ (some 81) rfl rfl Try.func42 (by kernel_rfl) rfl #[.int .i64 a0] rfl (by (try simp only [List.map_toArray, List.map_cons, List.map_nil]); first | done | rfl | (simp only [List.length_drop, List.length_take]; rfl)) ?_; (with_reducible refine (impl_SquarePart.calls k a0 t182 t183 _ A6.out).mono ?_); rintro e w' ⟨rfl, ⟨nd, rfl⟩⟩; refine ⟨_, rfl, ?_⟩) | ((with_reducible refine gate_callee (f := 43) rfl ?_); refine goesL_ (some 86) rfl rfl Try.func43 (by kernel_rfl) rfl #[.int .i64 a0] rfl (by (try simp only [List.map_toArray, List.map_cons, List.map_nil]); first | done | rfl | (simp only [List.length_drop, List.length_take]; rfl)) ?_; (with_reducible refine (spec_SquarePart.calls k a0 t184 t185 _ A7.out).mono ?_); rintro e w' ⟨rfl, ⟨nd, rfl⟩⟩; refine ⟨_, rfl, ?_⟩) | ((with_reducible refine gate_callee (f := 44) rfl ?_); refine goesL_ (some 91) rfl rfl Try.func44 (by kernel_rfl) rfl #[.int .i64 a0] rfl (by (try simp only [List.map_toArray, List.map_cons, List.map_nil]); first | done | rfl | (simp only [List.length_drop, List.length_take]; rfl)) ?_; (with_reducible refine (impl_KernelOf.calls k a0 t186 t187 _ A8.out).mono ?_); rintro e w18 ⟨rfl, hb⟩; refine ⟨_, rfl, ?_⟩; have n0_ := Aside0.mk (below_step (by repeat (first | (with_reducible first | exact HB.out | apply below_alloc | apply pw_below_drewN | apply below_drew1))) hb); clear HB; have HB := n0_; clear n0_; (try clear hb)) | ((with_reducible refine gate_callee (f := 45) rfl ?_); refine goesL_ (some 96) rfl rfl Try.func45 (by kernel_rfl) rfl #[.int .i64 a0] rfl (by (try simp only [List.map_toArray, List.map_cons, List.map_nil]); first | done | rfl | (simp only [List.length_drop, List.length_take]; rfl)) ?_; (with_reducible refine (spec_KernelOf.calls k a0 t188 t189 _ A9.out).mono ?_); rintro e w' ⟨rfl, ⟨nd, rfl⟩⟩; refine ⟨_, rfl, ?_⟩) | ((with_reducible refine gate_callee (f := 46) rfl ?_); refine goesL_ (some 101) rfl rfl Try.func46 (by kernel_rfl) rfl #[.int .i64 a0] rfl (by (try simp only [List.map_toArray, List.map_cons, List.map_nil]); first | done | rfl | (simp only [List.length_drop, List.length_take]; rfl)) ?_; (with_reducible refine (impl_FreeSign.calls k a0 t190 t191 _ A10.out).mono ?_); rintro e w19 ⟨rfl, hb⟩; refine ⟨_, rfl, ?_⟩; have n0_ := Aside0.mk (below_step (by repeat (first | (with_reducible first | exact HB.out | apply below_alloc | apply pw_below_drewN | apply below_drew1))) hb); clear HB; have HB := n0_; clear n0_; (try clear hb)) | ((with_reducible refine gate_callee (f := 47) rfl ?_); refine goesL_ (some 106) rfl rfl Try.func47 (by kernel_rfl) rfl #[.int .i64 a0] rfl (by (try simp only [List.map_toArray, List.map_cons, List.map_nil]); first | done | rfl | (simp only [List.length_drop, List.length_take]; rfl)) ?_; (with_reducible refine (spec_FreeSign.calls k a0 t192 t193 _ A11.out).mono ?_); rintro e w' ⟨rfl, ⟨nd, rfl⟩⟩; refine ⟨_, rfl, ?_⟩) | ((with_reducible refine gate_callee (f := 18) rfl ?_); refine goesL_ (some 111) rfl rfl Try.func18 (by kernel_rfl) rfl #[.int .i64 a0] rfl (by (try simp only [List.map_toArray, List.map_cons, List.map_nil]); first | done | rfl | (simp only [List.length_drop, List.length_take]; rfl)) ?_; (with_reducible refine (impl_CountSquareFree.calls k a0 t194 t195 _ A12.out).mono ?_); rintro e w20 ⟨rfl, hb⟩; refine ⟨_, rfl, ?_⟩; have n0_ := Aside0.mk (below_step (by repeat (first | (with_reducible first | exact HB.out | apply below_alloc | apply pw_below_drewN | apply below_drew1))) hb); clear HB; have HB := n0_; clear n0_; (try clear hb)) | ((with_reducible refine gate_callee (f := 17) rfl ?_); refine goesL_ (some 116) rfl rfl Try.func17 (by kernel_rfl) rfl #[.int .i64 a0] rfl (by (try simp only [List.map_toArray, List.map_cons, List.map_nil]); first | done | rfl | (simp only [List.length_drop, List.length_take]; rfl)) ?_; (with_reducible refine (spec_CountSquareFree.calls k a0 t196 t197 _ A13.out).mono ?_); rintro e w' ⟨rfl, ⟨nd, rfl⟩⟩; refine ⟨_, rfl, ?_⟩) | ((with_reducible refine gate_callee (f := 48) rfl ?_); refine goesL_ (some 121) rfl rfl Try.func48 (by kernel_rfl) rfl #[.int .i64 a0] rfl (by (try simp only [List.map_toArray, List.map_cons, List.map_nil]); first | done | rfl | (simp only [List.length_drop, List.length_take]; rfl)) ?_; (with_reducible refine (impl_NextSquareFree.calls k a0 t198 t199 _ A14.out).mono ?_); rintro e w21 ⟨rfl, hb⟩; refine ⟨_, rfl, ?_⟩; have n0_ := Aside0.mk (below_step (by repeat (first | (with_reducible first | exact HB.out | apply below_alloc | apply pw_below_drewN | apply below_drew1))) hb); clear HB; have HB := n0_; clear n0_; (try clear hb)) | ((with_reducible refine gate_callee (f := 49) rfl ?_); refine goesL_ (some 126) rfl rfl Try.func49 (by kernel_rfl) rfl #[.int .i64 a0] rfl (by (try simp only [List.map_toArray, List.map_cons, List.map_nil]); first | done | rfl | (simp only [List.length_drop, List.length_take]; rfl)) ?_; (with_reducible refine (spec_NextSquareFree.calls k a0 t200 t201 _ A15.out).mono ?_); rintro e w' ⟨rfl, ⟨nd, rfl⟩⟩; refine ⟨_, rfl, ?_⟩))
 (try simp only [Act.put, List.setIfInBounds_toArray, List.set_cons_zero, List.set_cons_succ])
 refine cutF mk0 [] (fun u_ wc => ∃ (kq : Nat) (x211_15 : Bool), (u_ 211) = .bool x211_15 ∧ Aside0 (laws_FnSquareFreeOfAll.j0 kq a0 a1 a2 t178 t179 t182 t186 t190 t194 t198 x211_15 = some r) ∧ Aside0 (kq ≤ k) ∧ Aside0 (Below w.heap.size w wc)) ?_ ?_
 ·
  as_aux_lemma =>
   intro J_ K_ hJ_ hK_
   have H := HC16.out
   clear HC16
   by_cases c22 : (t179 != t181) = true
   ·
    rw [if_pos c22] at H
    exact (laws_FnSquareFreeOfAll.j0_no _ _ _ _ _ _ _ _ _ _ _ (H.trans (congrArg some HRT.out))).elim
   ·
    rw [if_neg c22] at H
    have c22b0 : (t179 != t181) = false := by simpa using c22
    (try (have c22b1 : decide (t179 = t181) = true := by simpa using c22))
    (try (have c22b2 : (t179 == t181) = true := by simpa using c22))
    clear c22
    (first | rw [c22b0] | (simp only [i64_w, i32_w]; rw [c22b0]) | skip)
    by_cases c23 : (t178 != t180) = true
    ·
     rw [if_pos c23] at H
     exact (laws_FnSquareFreeOfAll.j0_no _ _ _ _ _ _ _ _ _ _ _ (H.trans (congrArg some HRT.out))).elim
    ·
     rw [if_neg c23] at H
     have c23b0 : (t178 != t180) = false := by simpa using c23
     (try (have c23b1 : decide (t178 = t180) = true := by simpa using c23))
     (try (have c23b2 : (t178 == t180) = true := by simpa using c23))
     clear c23
     by_cases c24 : (t183 != t185) = true
     ·
      rw [if_pos c24] at H
      exact (laws_FnSquareFreeOfAll.j0_no _ _ _ _ _ _ _ _ _ _ _ (H.trans (congrArg some HRT.out))).elim
     ·
      rw [if_neg c24] at H
      have c24b0 : (t183 != t185) = false := by simpa using c24
      (try (have c24b1 : decide (t183 = t185) = true := by simpa using c24))
      (try (have c24b2 : (t183 == t185) = true := by simpa using c24))
      clear c24
      by_cases c25 : t182 = t184
      ·
       rw [if_pos c25] at H
       have c25b0 : (t182 == t184) = true := beq_iff_eq.mpr c25
       have c25b1 : (t182 != t184) = false := bne_eq_false_iff_eq.mpr c25
       clear c25
       by_cases c26 : (t187 != t189) = true
       ·
        rw [if_pos c26] at H
        exact (laws_FnSquareFreeOfAll.j0_no _ _ _ _ _ _ _ _ _ _ _ (H.trans (congrArg some HRT.out))).elim
       ·
        rw [if_neg c26] at H
        have c26b0 : (t187 != t189) = false := by simpa using c26
        (try (have c26b1 : decide (t187 = t189) = true := by simpa using c26))
        (try (have c26b2 : (t187 == t189) = true := by simpa using c26))
        clear c26
        by_cases c27 : t186 = t188
        ·
         rw [if_pos c27] at H
         have c27b0 : (t186 == t188) = true := beq_iff_eq.mpr c27
         have c27b1 : (t186 != t188) = false := bne_eq_false_iff_eq.mpr c27
         clear c27
         by_cases c28 : (t191 != t193) = true
         ·
          rw [if_pos c28] at H
          exact (laws_FnSquareFreeOfAll.j0_no _ _ _ _ _ _ _ _ _ _ _ (H.trans (congrArg some HRT.out))).elim
         ·
          rw [if_neg c28] at H
          have c28b0 : (t191 != t193) = false := by simpa using c28
          (try (have c28b1 : decide (t191 = t193) = true := by simpa using c28))
          (try (have c28b2 : (t191 == t193) = true := by simpa using c28))
          clear c28
          by_cases c29 : t190 = t192
          ·
           rw [if_pos c29] at H
           have c29b0 : (t190 == t192) = true := beq_iff_eq.mpr c29
           have c29b1 : (t190 != t192) = false := bne_eq_false_iff_eq.mpr c29
           clear c29
           by_cases c30 : (t195 != t197) = true
           ·
            rw [if_pos c30] at H
            exact (laws_FnSquareFreeOfAll.j0_no _ _ _ _ _ _ _ _ _ _ _ (H.trans (congrArg some HRT.out))).elim
           ·
            rw [if_neg c30] at H
            have c30b0 : (t195 != t197) = false := by simpa using c30
            (try (have c30b1 : decide (t195 = t197) = true := by simpa using c30))
            (try (have c30b2 : (t195 == t197) = true := by simpa using c30))
            clear c30
            by_cases c31 : t194 = t196
            ·
             rw [if_pos c31] at H
             have c31b0 : (t194 == t196) = true := beq_iff_eq.mpr c31
             have c31b1 : (t194 != t196) = false := bne_eq_false_iff_eq.mpr c31
             clear c31
             by_cases c32 : (t199 != t201) = true
             ·
              rw [if_pos c32] at H
              exact (laws_FnSquareFreeOfAll.j0_no _ _ _ _ _ _ _ _ _ _ _ (H.trans (congrArg some HRT.out))).elim
             ·
              rw [if_neg c32] at H
              have c32b0 : (t199 != t201) = false := by simpa using c32
              (try (have c32b1 : decide (t199 = t201) = true := by simpa using c32))
              (try (have c32b2 : (t199 == t201) = true := by simpa using c32))
              clear c32
              by_cases c33 : t198 = t200
              ·
               rw [if_pos c33] at H
               have c33b0 : (t198 == t200) = true := beq_iff_eq.mpr c33
               have c33b1 : (t198 != t200) = false := bne_eq_false_iff_eq.mpr c33
               clear c33
               by_cases c34 : (t183 != t179) = true
               ·
                rw [if_pos c34] at H
                exact (laws_FnSquareFreeOfAll.j0_no _ _ _ _ _ _ _ _ _ _ _ (H.trans (congrArg some HRT.out))).elim
               ·
                rw [if_neg c34] at H
                have c34b0 : (t183 != t179) = false := by simpa using c34
                (try (have c34b1 : decide (t183 = t179) = true := by simpa using c34))
                (try (have c34b2 : (t183 == t179) = true := by simpa using c34))
                clear c34
                by_cases c35 : (t187 != t179) = true
                ·
                 rw [if_pos c35] at H
                 exact (laws_FnSquareFreeOfAll.j0_no _ _ _ _ _ _ _ _ _ _ _ (H.trans (congrArg some HRT.out))).elim
                ·
                 rw [if_neg c35] at H
                 have c35b0 : (t187 != t179) = false := by simpa using c35
                 (try (have c35b1 : decide (t187 = t179) = true := by simpa using c35))
                 (try (have c35b2 : (t187 == t179) = true := by simpa using c35))
                 clear c35
                 by_cases c36 : (t191 != t179) = true
                 ·
                  rw [if_pos c36] at H
                  exact (laws_FnSquareFreeOfAll.j0_no _ _ _ _ _ _ _ _ _ _ _ (H.trans (congrArg some HRT.out))).elim
                 ·
                  rw [if_neg c36] at H
                  have c36b0 : (t191 != t179) = false := by simpa using c36
                  (try (have c36b1 : decide (t191 = t179) = true := by simpa using c36))
                  (try (have c36b2 : (t191 == t179) = true := by simpa using c36))
                  clear c36
                  by_cases c37 : (t195 != t179) = true
                  ·
                   rw [if_pos c37] at H
                   exact (laws_FnSquareFreeOfAll.j0_no _ _ _ _ _ _ _ _ _ _ _ (H.trans (congrArg some HRT.out))).elim
                  ·
                   rw [if_neg c37] at H
                   have c37b0 : (t195 != t179) = false := by simpa using c37
                   (try (have c37b1 : decide (t195 = t179) = true := by simpa using c37))
                   (try (have c37b2 : (t195 == t179) = true := by simpa using c37))
                   clear c37
                   have H' := Aside0.mk H
                   clear H
                   go_wp2
                   refine cutMeet hJ_ ?_ (by kernel_rfl)
                   exact ⟨_, ((t199 != t179)), (by first | rfl | (simp; done) | (simp [*]; done)), H', ⟨by first | omega | exact Nat.le_refl _⟩, ⟨by repeat (first | (with_reducible first | exact HB.out | apply below_alloc | apply pw_below_drewN | apply below_drew1))⟩⟩
              ·
               rw [if_neg c33] at H
               exact (laws_FnSquareFreeOfAll.j0_no _ _ _ _ _ _ _ _ _ _ _ (H.trans (congrArg some HRT.out))).elim
            ·
             rw [if_neg c31] at H
             exact (laws_FnSquareFreeOfAll.j0_no _ _ _ _ _ _ _ _ _ _ _ (H.trans (congrArg some HRT.out))).elim
          ·
           rw [if_neg c29] at H
           exact (laws_FnSquareFreeOfAll.j0_no _ _ _ _ _ _ _ _ _ _ _ (H.trans (congrArg some HRT.out))).elim
        ·
         rw [if_neg c27] at H
         exact (laws_FnSquareFreeOfAll.j0_no _ _ _ _ _ _ _ _ _ _ _ (H.trans (congrArg some HRT.out))).elim
      ·
       rw [if_neg c25] at H
       exact (laws_FnSquareFreeOfAll.j0_no _ _ _ _ _ _ _ _ _ _ _ (H.trans (congrArg some HRT.out))).elim
 ·
  intro u_ wc hcut
  clear HC16
  obtain ⟨kq, x211_15, e_211, HA, HJ15, HB⟩ := hcut
  dsimp only [cutFgt, mk0]
  rw [e_211]
  cases kq with
  | zero => exact absurd HA.out (by simp [laws_FnSquareFreeOfAll.j0])
  | succ kj15 =>
   have H := HA.out
   clear HA
   simp only [laws_FnSquareFreeOfAll.j0] at H
   by_cases c38 : x211_15 = true
   ·
    subst c38
    have H1 : (some false) = some r := by rw [if_pos rfl] at H; exact H
    clear H
    have H := H1
    clear H1
    first
    | exact absurd (Option.some.inj (H.trans (congrArg some HRT.out))) Bool.false_ne_true
    |
     obtain rfl := Option.some.inj H
     go_wp2
     go_ret
     exact ⟨by first | rfl | (simp [errW_none, errW_some] <;> rfl) | (simp [*, errW_none, errW_some] <;> rfl), by repeat (first | (with_reducible first | exact HB.out | apply below_alloc | apply pw_below_drewN | apply below_drew1))⟩
   ·
    replace c38 := Bool.eq_false_iff.mpr c38
    subst c38
    have H1 : (if t179 = true then (if (t178 != (t182 == 1)) = true then (laws_FnSquareFreeOfAll.j1 kj15 a0 a1 a2 t182 t186 t190 t194 t198 true) else (if (t178 != (t186 == a0)) = true then (laws_FnSquareFreeOfAll.j1 kj15 a0 a1 a2 t182 t186 t190 t194 t198 true) else (if (t178 != (t190 != 0)) = true then (laws_FnSquareFreeOfAll.j1 kj15 a0 a1 a2 t182 t186 t190 t194 t198 true) else (if (wrap64 (t182 * t182)) = 0 then (none) else (if (Int.tmod a0 (wrap64 (t182 * t182))) = 0 then (if t186 = 0 then (none) else (if (Int.tmod a0 t186) = 0 then (if t190 < (-1) then (laws_FnSquareFreeOfAll.j1 kj15 a0 a1 a2 t182 t186 t190 t194 t198 true) else (if t190 > 1 then (laws_FnSquareFreeOfAll.j1 kj15 a0 a1 a2 t182 t186 t190 t194 t198 true) else (laws_FnSquareFreeOfAll.j1 kj15 a0 a1 a2 t182 t186 t190 t194 t198 (decide (t198 ≤ a0))))) else (laws_FnSquareFreeOfAll.j1 kj15 a0 a1 a2 t182 t186 t190 t194 t198 true))) else (laws_FnSquareFreeOfAll.j1 kj15 a0 a1 a2 t182 t186 t190 t194 t198 true)))))) else (laws_FnSquareFreeOfAll.j6 kj15 a1 a2)) = some r := by rw [if_neg (show ¬ (false = true) by decide)] at H; exact H
    clear H
    have H := H1
    clear H1
    have HC39 := Aside0.mk H
    clear H
    go_upto_if 212 with (fail)
    refine cutF mk0 [none, none, none, none, none, none, some 6, none, none, none, none, none, none, none, none, none, none, none, none, none, none, none, none, none, none, none, none, none, none, none, none, some 31, some 32, some 33, some 34, some 35, some 36, some 37, some 38, some 39, some 40, some 41, some 42, some 43] (fun u_ wc => ∃ (kq : Nat), Aside0 (laws_FnSquareFreeOfAll.j6 kq a1 a2 = some r) ∧ Aside0 (kq ≤ kj15) ∧ Aside0 (Below w.heap.size w wc)) ?_ ?_
    ·
     as_aux_lemma =>
      intro J_ K_ hJ_ hK_
      have H := HC39.out
      clear HC39
      by_cases c40 : t179 = true
      ·
       subst c40
       have H1 : (if (t178 != (t182 == 1)) = true then (laws_FnSquareFreeOfAll.j1 kj15 a0 a1 a2 t182 t186 t190 t194 t198 true) else (if (t178 != (t186 == a0)) = true then (laws_FnSquareFreeOfAll.j1 kj15 a0 a1 a2 t182 t186 t190 t194 t198 true) else (if (t178 != (t190 != 0)) = true then (laws_FnSquareFreeOfAll.j1 kj15 a0 a1 a2 t182 t186 t190 t194 t198 true) else (if (wrap64 (t182 * t182)) = 0 then (none) else (if (Int.tmod a0 (wrap64 (t182 * t182))) = 0 then (if t186 = 0 then (none) else (if (Int.tmod a0 t186) = 0 then (if t190 < (-1) then (laws_FnSquareFreeOfAll.j1 kj15 a0 a1 a2 t182 t186 t190 t194 t198 true) else (if t190 > 1 then (laws_FnSquareFreeOfAll.j1 kj15 a0 a1 a2 t182 t186 t190 t194 t198 true) else (laws_FnSquareFreeOfAll.j1 kj15 a0 a1 a2 t182 t186 t190 t194 t198 (decide (t198 ≤ a0))))) else (laws_FnSquareFreeOfAll.j1 kj15 a0 a1 a2 t182 t186 t190 t194 t198 true))) else (laws_FnSquareFreeOfAll.j1 kj15 a0 a1 a2 t182 t186 t190 t194 t198 true)))))) = some r := by rw [if_pos rfl] at H; exact H
       clear H
       have H := H1
       clear H1
       have HC41 := Aside0.mk H
       clear H
       go_upto_region 16 with (fail)
       refine cutF mk0 [] (fun u_ wc => ∃ (kq : Nat) (x256_40 : Bool), (u_ 256) = .bool x256_40 ∧ Aside0 (laws_FnSquareFreeOfAll.j1 kq a0 a1 a2 t182 t186 t190 t194 t198 x256_40 = some r) ∧ Aside0 (kq ≤ kj15) ∧ Aside0 (Below w.heap.size w wc)) ?_ ?_
       ·
        as_aux_lemma =>
         intro J_ K_ hJ_ hK_
         have H := HC41.out
         clear HC41
         by_cases c42 : (t178 != (t182 == 1)) = true
         ·
          rw [if_pos c42] at H
          exact (laws_FnSquareFreeOfAll.j1_no _ _ _ _ _ _ _ _ _ (H.trans (congrArg some HRT.out))).elim
         ·
          rw [if_neg c42] at H
          have c42b0 : (t178 != (t182 == 1)) = false := by simpa using c42
          (try (have c42b1 : decide (t178 = (t182 == 1)) = true := by simpa using c42))
          (try (have c42b2 : (t178 == (t182 == 1)) = true := by simpa using c42))
          clear c42
          (first | rw [c42b0] | (simp only [i64_w, i32_w]; rw [c42b0]) | skip)
          by_cases c43 : (t178 != (t186 == a0)) = true
          ·
           rw [if_pos c43] at H
           exact (laws_FnSquareFreeOfAll.j1_no _ _ _ _ _ _ _ _ _ (H.trans (congrArg some HRT.out))).elim
          ·
           rw [if_neg c43] at H
           have c43b0 : (t178 != (t186 == a0)) = false := by simpa using c43
           (try (have c43b1 : decide (t178 = (t186 == a0)) = true := by simpa using c43))
           (try (have c43b2 : (t178 == (t186 == a0)) = true := by simpa using c43))
           clear c43
           by_cases c44 : (t178 != (t190 != 0)) = true
           ·
            rw [if_pos c44] at H
            exact (laws_FnSquareFreeOfAll.j1_no _ _ _ _ _ _ _ _ _ (H.trans (congrArg some HRT.out))).elim
           ·
            rw [if_neg c44] at H
            have c44b0 : (t178 != (t190 != 0)) = false := by simpa using c44
            (try (have c44b1 : decide (t178 = (t190 != 0)) = true := by simpa using c44))
            (try (have c44b2 : (t178 == (t190 != 0)) = true := by simpa using c44))
            clear c44
            by_cases c45 : (wrap64 (t182 * t182)) = 0
            ·
             rw [if_pos c45] at H
             exact absurd H (by simp)
            ·
             rw [if_neg c45] at H
             have c45b0 : ((wrap64 (t182 * t182)) == 0) = false := beq_eq_false_iff_ne.mpr c45
             have c45b1 : ((wrap64 (t182 * t182)) != 0) = true := bne_iff_ne.mpr c45
             by_cases c46 : (Int.tmod a0 (wrap64 (t182 * t182))) = 0
             ·
              rw [if_pos c46] at H
              have c46b0 : ((Int.tmod a0 (wrap64 (t182 * t182))) == 0) = true := beq_iff_eq.mpr c46
              have c46b1 : ((Int.tmod a0 (wrap64 (t182 * t182))) != 0) = false := bne_eq_false_iff_eq.mpr c46
              clear c46
              by_cases c47 : t186 = 0
              ·
               rw [if_pos c47] at H
               exact absurd H (by simp)
              ·
               rw [if_neg c47] at H
               have c47b0 : (t186 == 0) = false := beq_eq_false_iff_ne.mpr c47
               have c47b1 : (t186 != 0) = true := bne_iff_ne.mpr c47
               by_cases c48 : (Int.tmod a0 t186) = 0
               ·
                rw [if_pos c48] at H
                have c48b0 : ((Int.tmod a0 t186) == 0) = true := beq_iff_eq.mpr c48
                have c48b1 : ((Int.tmod a0 t186) != 0) = false := bne_eq_false_iff_eq.mpr c48
                clear c48
                by_cases c49 : t190 < (-1)
                ·
                 rw [if_pos c49] at H
                 exact (laws_FnSquareFreeOfAll.j1_no _ _ _ _ _ _ _ _ _ (H.trans (congrArg some HRT.out))).elim
                ·
                 rw [if_neg c49] at H
                 have c49b0 : decide (t190 < (-1)) = false := decide_eq_false c49
                 clear c49
                 by_cases c50 : t190 > 1
                 ·
                  rw [if_pos c50] at H
                  exact (laws_FnSquareFreeOfAll.j1_no _ _ _ _ _ _ _ _ _ (H.trans (congrArg some HRT.out))).elim
                 ·
                  rw [if_neg c50] at H
                  have c50b0 : decide (1 < t190) = false := decide_eq_false c50
                  clear c50
                  have H' := Aside0.mk H
                  clear H
                  go_wp2
                  refine cutMeet hJ_ ?_ (by kernel_rfl)
                  exact ⟨_, (decide (t198 ≤ a0)), (by first | rfl | (simp; done) | (simp [*]; done)), H', ⟨by have := HJ15.out; first | omega | exact Nat.le_refl _⟩, ⟨by repeat (first | (with_reducible first | exact HB.out | apply below_alloc | apply pw_below_drewN | apply below_drew1))⟩⟩
               ·
                rw [if_neg c48] at H
                exact (laws_FnSquareFreeOfAll.j1_no _ _ _ _ _ _ _ _ _ (H.trans (congrArg some HRT.out))).elim
             ·
              rw [if_neg c46] at H
              exact (laws_FnSquareFreeOfAll.j1_no _ _ _ _ _ _ _ _ _ (H.trans (congrArg some HRT.out))).elim
       ·
        intro u_ wc hcut
        clear HC41
        obtain ⟨kq, x256_40, e_256, HA, HJ40, HB⟩ := hcut
        dsimp only [cutFgt, mk0]
        rw [e_256]
        cases kq with
        | zero => exact absurd HA.out (by simp [laws_FnSquareFreeOfAll.j1])
        | succ kj40 =>
         have H := HA.out
         clear HA
         simp only [laws_FnSquareFreeOfAll.j1] at H
         by_cases c51 : x256_40 = true
         ·
          subst c51
          have H1 : (some false) = some r := by rw [if_pos rfl] at H; exact H
          clear H
          have H := H1
          clear H1
          first
          | exact absurd (Option.some.inj (H.trans (congrArg some HRT.out))) Bool.false_ne_true
          |
           obtain rfl := Option.some.inj H
           go_wp2
           go_ret
           exact ⟨by first | rfl | (simp [errW_none, errW_some] <;> rfl) | (simp [*, errW_none, errW_some] <;> rfl), by repeat (first | (with_reducible first | exact HB.out | apply below_alloc | apply pw_below_drewN | apply below_drew1))⟩
         ·
          replace c51 := Bool.eq_false_iff.mpr c51
          subst c51
          have H1 : (if (wrap64 (t182 * t182)) = 0 then (none) else ((impl_IsSquareFree.f kj40 (wrap64 (Int.tdiv a0 (wrap64 (t182 * t182))))).bind fun bt202 => ((impl_IsSquareFree.f kj40 t186).bind fun bt204 => (if bt202.2 = true then (if bt202.1 = true then (if bt204.2 = true then (laws_FnSquareFreeOfAll.j2 kj40 a0 a1 a2 t190 t194 t198 (!bt204.1)) else (laws_FnSquareFreeOfAll.j2 kj40 a0 a1 a2 t190 t194 t198 true)) else (laws_FnSquareFreeOfAll.j2 kj40 a0 a1 a2 t190 t194 t198 true)) else (laws_FnSquareFreeOfAll.j2 kj40 a0 a1 a2 t190 t194 t198 true))))) = some r := by rw [if_neg (show ¬ (false = true) by decide)] at H; exact H
          clear H
          have H := H1
          clear H1
          by_cases c52 : (wrap64 (t182 * t182)) = 0
          ·
           rw [if_pos c52] at H
           exact absurd H (by simp)
          ·
           rw [if_neg c52] at H
           have c52b0 : ((wrap64 (t182 * t182)) == 0) = false := beq_eq_false_iff_ne.mpr c52
           have c52b1 : ((wrap64 (t182 * t182)) != 0) = true := bne_iff_ne.mpr c52
           replace H := Option.bind_eq_some_iff.mp H
           obtain ⟨⟨t202, t203⟩, A530, H⟩ := H
           replace H : ((impl_IsSquareFree.f kj40 t186).bind fun bt204 => (if t203 = true then (if t202 = true then (if bt204.2 = true then (laws_FnSquareFreeOfAll.j2 kj40 a0 a1 a2 t190 t194 t198 (!bt204.1)) else (laws_FnSquareFreeOfAll.j2 kj40 a0 a1 a2 t190 t194 t198 true)) else (laws_FnSquareFreeOfAll.j2 kj40 a0 a1 a2 t190 t194 t198 true)) else (laws_FnSquareFreeOfAll.j2 kj40 a0 a1 a2 t190 t194 t198 true))) = some r := H
           have A53 := Aside0.mk A530
           clear A530
           replace H := Option.bind_eq_some_iff.mp H
           obtain ⟨⟨t204, t205⟩, A540, H⟩ := H
           replace H : (if t203 = true then (if t202 = true then (if t205 = true then (laws_FnSquareFreeOfAll.j2 kj40 a0 a1 a2 t190 t194 t198 (!t204)) else (laws_FnSquareFreeOfAll.j2 kj40 a0 a1 a2 t190 t194 t198 true)) else (laws_FnSquareFreeOfAll.j2 kj40 a0 a1 a2 t190 t194 t198 true)) else (laws_FnSquareFreeOfAll.j2 kj40 a0 a1 a2 t190 t194 t198 true)) = some r := H
           have A54 := Aside0.mk A540
           clear A540
           have HC55 := Aside0.mk H
           clear H
           go_upto_region 20 with (first | ((with_reducible refine gate_callee (f := 40) rfl ?_); refine goesL_ (some 263) rfl rfl Try.func40 (by kernel_rfl) rfl #[.int .i64 (wrap64 (Int.tdiv a0 (wrap64 (t182 * t182))))] rfl (by (try simp only [List.map_toArray, List.map_cons, List.map_nil]); first | done | rfl | (simp only [List.length_drop, List.length_take]; rfl)) ?_; (with_reducible refine (impl_IsSquareFree.calls kj40 (wrap64 (Int.tdiv a0 (wrap64 (t182 * t182)))) t202 t203 _ A53.out).mono ?_); rintro e w56 ⟨rfl, hb⟩; refine ⟨_, rfl, ?_⟩; have n0_ := Aside0.mk (below_step (by repeat (first | (with_reducible first | exact HB.out | apply below_alloc | apply pw_below_drewN | apply below_drew1))) hb); clear HB; have HB := n0_; clear n0_; (try clear hb)) | ((with_reducible refine gate_callee (f := 40) rfl ?_); refine goesL_ (some 268) rfl rfl Try.func40 (by kernel_rfl) rfl #[.int .i64 t186] rfl (by (try simp only [List.map_toArray, List.map_cons, List.map_nil]); first | done | rfl | (simp only [List.length_drop, List.length_take]; rfl)) ?_; (with_reducible refine (impl_IsSquareFree.calls kj40 t186 t204 t205 _ A54.out).mono ?_); rintro e w57 ⟨rfl, hb⟩; refine ⟨_, rfl, ?_⟩; have n0_ := Aside0.mk (below_step (by repeat (first | (with_reducible first | exact HB.out | apply below_alloc | apply pw_below_drewN | apply below_drew1))) hb); clear HB; have HB := n0_; clear n0_; (try clear hb)))
           (try simp only [Act.put, List.setIfInBounds_toArray, List.set_cons_zero, List.set_cons_succ])
           refine cutF mk0 [] (fun u_ wc => ∃ (kq : Nat) (x284_54 : Bool), (u_ 284) = .bool x284_54 ∧ Aside0 (laws_FnSquareFreeOfAll.j2 kq a0 a1 a2 t190 t194 t198 x284_54 = some r) ∧ Aside0 (kq ≤ kj40) ∧ Aside0 (Below w.heap.size w wc)) ?_ ?_
           ·
            as_aux_lemma =>
             intro J_ K_ hJ_ hK_
             have H := HC55.out
             clear HC55
             by_cases c58 : t203 = true
             ·
              subst c58
              have H1 : (if t202 = true then (if t205 = true then (laws_FnSquareFreeOfAll.j2 kj40 a0 a1 a2 t190 t194 t198 (!t204)) else (laws_FnSquareFreeOfAll.j2 kj40 a0 a1 a2 t190 t194 t198 true)) else (laws_FnSquareFreeOfAll.j2 kj40 a0 a1 a2 t190 t194 t198 true)) = some r := by rw [if_pos rfl] at H; exact H
              clear H
              have H := H1
              clear H1
              by_cases c59 : t202 = true
              ·
               subst c59
               have H1 : (if t205 = true then (laws_FnSquareFreeOfAll.j2 kj40 a0 a1 a2 t190 t194 t198 (!t204)) else (laws_FnSquareFreeOfAll.j2 kj40 a0 a1 a2 t190 t194 t198 true)) = some r := by rw [if_pos rfl] at H; exact H
               clear H
               have H := H1
               clear H1
               by_cases c60 : t205 = true
               ·
                subst c60
                have H1 : (laws_FnSquareFreeOfAll.j2 kj40 a0 a1 a2 t190 t194 t198 (!t204)) = some r := by rw [if_pos rfl] at H; exact H
                clear H
                have H := H1
                clear H1
                have H' := Aside0.mk H
                clear H
                go_wp2
                refine cutMeet hJ_ ?_ (by kernel_rfl)
                exact ⟨_, (!t204), (by first | rfl | (simp; done) | (simp [*]; done)), H', ⟨by have := HJ15.out; have := HJ40.out; first | omega | exact Nat.le_refl _⟩, ⟨by repeat (first | (with_reducible first | exact HB.out | apply below_alloc | apply pw_below_drewN | apply below_drew1))⟩⟩
               ·
                replace c60 := Bool.eq_false_iff.mpr c60
                subst c60
                have H1 : (laws_FnSquareFreeOfAll.j2 kj40 a0 a1 a2 t190 t194 t198 true) = some r := by rw [if_neg (show ¬ (false = true) by decide)] at H; exact H
                clear H
                have H := H1
                clear H1
                exact (laws_FnSquareFreeOfAll.j2_no _ _ _ _ _ _ _ (H.trans (congrArg some HRT.out))).elim
              ·
               replace c59 := Bool.eq_false_iff.mpr c59
               subst c59
               have H1 : (laws_FnSquareFreeOfAll.j2 kj40 a0 a1 a2 t190 t194 t198 true) = some r := by rw [if_neg (show ¬ (false = true) by decide)] at H; exact H
               clear H
               have H := H1
               clear H1
               exact (laws_FnSquareFreeOfAll.j2_no _ _ _ _ _ _ _ (H.trans (congrArg some HRT.out))).elim
             ·
              replace c58 := Bool.eq_false_iff.mpr c58
              subst c58
              have H1 : (laws_FnSquareFreeOfAll.j2 kj40 a0 a1 a2 t190 t194 t198 true) = some r := by rw [if_neg (show ¬ (false = true) by decide)] at H; exact H
              clear H
              have H := H1
              clear H1
              exact (laws_FnSquareFreeOfAll.j2_no _ _ _ _ _ _ _ (H.trans (congrArg some HRT.out))).elim
           ·
            intro u_ wc hcut
            clear HC55
            obtain ⟨kq, x284_54, e_284, HA, HJ54, HB⟩ := hcut
            dsimp only [cutFgt, mk0]
            rw [e_284]
            cases kq with
            | zero => exact absurd HA.out (by simp [laws_FnSquareFreeOfAll.j2])
            | succ kj54 =>
             have H := HA.out
             clear HA
             simp only [laws_FnSquareFreeOfAll.j2] at H
             by_cases c61 : x284_54 = true
             ·
              subst c61
              have H1 : (some false) = some r := by rw [if_pos rfl] at H; exact H
              clear H
              have H := H1
              clear H1
              first
              | exact absurd (Option.some.inj (H.trans (congrArg some HRT.out))) Bool.false_ne_true
              |
               obtain rfl := Option.some.inj H
               go_wp2
               go_ret
               exact ⟨by first | rfl | (simp [errW_none, errW_some] <;> rfl) | (simp [*, errW_none, errW_some] <;> rfl), by repeat (first | (with_reducible first | exact HB.out | apply below_alloc | apply pw_below_drewN | apply below_drew1))⟩
             ·
              replace c61 := Bool.eq_false_iff.mpr c61
              subst c61
              have H1 : (if t198 ≤ 100000 then ((impl_IsSquareFree.f kj54 t198).bind fun bt206 => ((impl_CountSquareFree.f kj54 t198).bind fun bt208 => (if bt206.2 = true then (if bt206.1 = true then (if bt208.2 = true then (if bt208.1 = (wrap64 (t194 + 1)) then (laws_FnSquareFreeOfAll.j3 kj54 a0 a1 a2 t190) else (some false)) else (some false)) else (some false)) else (some false)))) else (laws_FnSquareFreeOfAll.j3 kj54 a0 a1 a2 t190)) = some r := by rw [if_neg (show ¬ (false = true) by decide)] at H; exact H
              clear H
              have H := H1
              clear H1
              have HC62 := Aside0.mk H
              clear H
              go_upto_if 286 with (fail)
              refine cutF mk0 [none, none, none, none, none, none, some 6, none, none, none, none, none, none, none, none, none, none, none, none, none, none, none, none, none, none, none, none, none, none, none, none, none, none, none, none, some 35, some 36, some 37, some 38] (fun u_ wc => ∃ (kq : Nat), Aside0 (laws_FnSquareFreeOfAll.j3 kq a0 a1 a2 t190 = some r) ∧ Aside0 (kq ≤ kj54) ∧ Aside0 (Below w.heap.size w wc)) ?_ ?_
              ·
               as_aux_lemma =>
                intro J_ K_ hJ_ hK_
                have H := HC62.out
                clear HC62
                by_cases c63 : t198 ≤ 100000
                ·
                 rw [if_pos c63] at H
                 have c63b0 : decide (t198 ≤ 100000) = true := decide_eq_true c63
                 clear c63
                 (first | rw [c63b0] | (simp only [i64_w, i32_w]; rw [c63b0]) | skip)
                 replace H := Option.bind_eq_some_iff.mp H
                 obtain ⟨⟨t206, t207⟩, A640, H⟩ := H
                 replace H : ((impl_CountSquareFree.f kj54 t198).bind fun bt208 => (if t207 = true then (if t206 = true then (if bt208.2 = true then (if bt208.1 = (wrap64 (t194 + 1)) then (laws_FnSquareFreeOfAll.j3 kj54 a0 a1 a2 t190) else (some false)) else (some false)) else (some false)) else (some false))) = some r := H
                 have A64 := Aside0.mk A640
                 clear A640
                 replace H := Option.bind_eq_some_iff.mp H
                 obtain ⟨⟨t208, t209⟩, A650, H⟩ := H
                 replace H : (if t207 = true then (if t206 = true then (if t209 = true then (if t208 = (wrap64 (t194 + 1)) then (laws_FnSquareFreeOfAll.j3 kj54 a0 a1 a2 t190) else (some false)) else (some false)) else (some false)) else (some false)) = some r := H
                 have A65 := Aside0.mk A650
                 clear A650
                 by_cases c66 : t207 = true
                 ·
                  subst c66
                  have H1 : (if t206 = true then (if t209 = true then (if t208 = (wrap64 (t194 + 1)) then (laws_FnSquareFreeOfAll.j3 kj54 a0 a1 a2 t190) else (some false)) else (some false)) else (some false)) = some r := by rw [if_pos rfl] at H; exact H
                  clear H
                  have H := H1
                  clear H1
                  by_cases c67 : t206 = true
                  ·
                   subst c67
                   have H1 : (if t209 = true then (if t208 = (wrap64 (t194 + 1)) then (laws_FnSquareFreeOfAll.j3 kj54 a0 a1 a2 t190) else (some false)) else (some false)) = some r := by rw [if_pos rfl] at H; exact H
                   clear H
                   have H := H1
                   clear H1
                   by_cases c68 : t209 = true
                   ·
                    subst c68
                    have H1 : (if t208 = (wrap64 (t194 + 1)) then (laws_FnSquareFreeOfAll.j3 kj54 a0 a1 a2 t190) else (some false)) = some r := by rw [if_pos rfl] at H; exact H
                    clear H
                    have H := H1
                    clear H1
                    by_cases c69 : t208 = (wrap64 (t194 + 1))
                    ·
                     rw [if_pos c69] at H
                     have c69b0 : (t208 == (wrap64 (t194 + 1))) = true := beq_iff_eq.mpr c69
                     have c69b1 : (t208 != (wrap64 (t194 + 1))) = false := bne_eq_false_iff_eq.mpr c69
                     clear c69
                     have H' := Aside0.mk H
                     clear H
                     go_wp2_with (first | ((with_reducible refine gate_callee (f := 40) rfl ?_); refine goesL_ (some 289) rfl rfl Try.func40 (by kernel_rfl) rfl #[.int .i64 t198] rfl (by (try simp only [List.map_toArray, List.map_cons, List.map_nil]); first | done | rfl | (simp only [List.length_drop, List.length_take]; rfl)) ?_; (with_reducible refine (impl_IsSquareFree.calls kj54 t198 true true _ A64.out).mono ?_); rintro e w70 ⟨rfl, hb⟩; refine ⟨_, rfl, ?_⟩; have n0_ := Aside0.mk (below_step (by repeat (first | (with_reducible first | exact HB.out | apply below_alloc | apply pw_below_drewN | apply below_drew1))) hb); clear HB; have HB := n0_; clear n0_; (try clear hb)) | ((with_reducible refine gate_callee (f := 18) rfl ?_); refine goesL_ (some 294) rfl rfl Try.func18 (by kernel_rfl) rfl #[.int .i64 t198] rfl (by (try simp only [List.map_toArray, List.map_cons, List.map_nil]); first | done | rfl | (simp only [List.length_drop, List.length_take]; rfl)) ?_; (with_reducible refine (impl_CountSquareFree.calls kj54 t198 t208 true _ A65.out).mono ?_); rintro e w71 ⟨rfl, hb⟩; refine ⟨_, rfl, ?_⟩; have n0_ := Aside0.mk (below_step (by repeat (first | (with_reducible first | exact HB.out | apply below_alloc | apply pw_below_drewN | apply below_drew1))) hb); clear HB; have HB := n0_; clear n0_; (try clear hb)))
                     refine cutMeet hJ_ ?_ (by kernel_rfl)
                     exact ⟨_, H', ⟨by have := HJ15.out; have := HJ40.out; have := HJ54.out; first | omega | exact Nat.le_refl _⟩, ⟨by repeat (first | (with_reducible first | exact HB.out | apply below_alloc | apply pw_below_drewN | apply below_drew1))⟩⟩
                    ·
                     rw [if_neg c69] at H
                     have c69b0 : (t208 == (wrap64 (t194 + 1))) = false := beq_eq_false_iff_ne.mpr c69
                     have c69b1 : (t208 != (wrap64 (t194 + 1))) = true := bne_iff_ne.mpr c69
                     first
                     | exact absurd (Option.some.inj (H.trans (congrArg some HRT.out))) Bool.false_ne_true
                     |
                      obtain rfl := Option.some.inj H
                      go_wp2_with (first | ((with_reducible refine gate_callee (f := 40) rfl ?_); refine goesL_ (some 289) rfl rfl Try.func40 (by kernel_rfl) rfl #[.int .i64 t198] rfl (by (try simp only [List.map_toArray, List.map_cons, List.map_nil]); first | done | rfl | (simp only [List.length_drop, List.length_take]; rfl)) ?_; (with_reducible refine (impl_IsSquareFree.calls kj54 t198 true true _ A64.out).mono ?_); rintro e w72 ⟨rfl, hb⟩; refine ⟨_, rfl, ?_⟩; have n0_ := Aside0.mk (below_step (by repeat (first | (with_reducible first | exact HB.out | apply below_alloc | apply pw_below_drewN | apply below_drew1))) hb); clear HB; have HB := n0_; clear n0_; (try clear hb)) | ((with_reducible refine gate_callee (f := 18) rfl ?_); refine goesL_ (some 294) rfl rfl Try.func18 (by kernel_rfl) rfl #[.int .i64 t198] rfl (by (try simp only [List.map_toArray, List.map_cons, List.map_nil]); first | done | rfl | (simp only [List.length_drop, List.length_take]; rfl)) ?_; (with_reducible refine (impl_CountSquareFree.calls kj54 t198 t208 true _ A65.out).mono ?_); rintro e w73 ⟨rfl, hb⟩; refine ⟨_, rfl, ?_⟩; have n0_ := Aside0.mk (below_step (by repeat (first | (with_reducible first | exact HB.out | apply below_alloc | apply pw_below_drewN | apply below_drew1))) hb); clear HB; have HB := n0_; clear n0_; (try clear hb)))
                      go_ret
                      exact ⟨by first | rfl | (simp [errW_none, errW_some] <;> rfl) | (simp [*, errW_none, errW_some] <;> rfl), by repeat (first | (with_reducible first | exact HB.out | apply below_alloc | apply pw_below_drewN | apply below_drew1))⟩
                   ·
                    replace c68 := Bool.eq_false_iff.mpr c68
                    subst c68
                    have H1 : (some false) = some r := by rw [if_neg (show ¬ (false = true) by decide)] at H; exact H
                    clear H
                    have H := H1
                    clear H1
                    first
                    | exact absurd (Option.some.inj (H.trans (congrArg some HRT.out))) Bool.false_ne_true
                    |
                     obtain rfl := Option.some.inj H
                     go_wp2_with (first | ((with_reducible refine gate_callee (f := 40) rfl ?_); refine goesL_ (some 289) rfl rfl Try.func40 (by kernel_rfl) rfl #[.int .i64 t198] rfl (by (try simp only [List.map_toArray, List.map_cons, List.map_nil]); first | done | rfl | (simp only [List.length_drop, List.length_take]; rfl)) ?_; (with_reducible refine (impl_IsSquareFree.calls kj54 t198 true true _ A64.out).mono ?_); rintro e w74 ⟨rfl, hb⟩; refine ⟨_, rfl, ?_⟩; have n0_ := Aside0.mk (below_step (by repeat (first | (with_reducible first | exact HB.out | apply below_alloc | apply pw_below_drewN | apply below_drew1))) hb); clear HB; have HB := n0_; clear n0_; (try clear hb)) | ((with_reducible refine gate_callee (f := 18) rfl ?_); refine goesL_ (some 294) rfl rfl Try.func18 (by kernel_rfl) rfl #[.int .i64 t198] rfl (by (try simp only [List.map_toArray, List.map_cons, List.map_nil]); first | done | rfl | (simp only [List.length_drop, List.length_take]; rfl)) ?_; (with_reducible refine (impl_CountSquareFree.calls kj54 t198 t208 false _ A65.out).mono ?_); rintro e w75 ⟨rfl, hb⟩; refine ⟨_, rfl, ?_⟩; have n0_ := Aside0.mk (below_step (by repeat (first | (with_reducible first | exact HB.out | apply below_alloc | apply pw_below_drewN | apply below_drew1))) hb); clear HB; have HB := n0_; clear n0_; (try clear hb)))
                     go_ret
                     exact ⟨by first | rfl | (simp [errW_none, errW_some] <;> rfl) | (simp [*, errW_none, errW_some] <;> rfl), by repeat (first | (with_reducible first | exact HB.out | apply below_alloc | apply pw_below_drewN | apply below_drew1))⟩
                  ·
                   replace c67 := Bool.eq_false_iff.mpr c67
                   subst c67
                   have H1 : (some false) = some r := by rw [if_neg (show ¬ (false = true) by decide)] at H; exact H
                   clear H
                   have H := H1
                   clear H1
                   first
                   | exact absurd (Option.some.inj (H.trans (congrArg some HRT.out))) Bool.false_ne_true
                   |
                    obtain rfl := Option.some.inj H
                    go_wp2_with (first | ((with_reducible refine gate_callee (f := 40) rfl ?_); refine goesL_ (some 289) rfl rfl Try.func40 (by kernel_rfl) rfl #[.int .i64 t198] rfl (by (try simp only [List.map_toArray, List.map_cons, List.map_nil]); first | done | rfl | (simp only [List.length_drop, List.length_take]; rfl)) ?_; (with_reducible refine (impl_IsSquareFree.calls kj54 t198 false true _ A64.out).mono ?_); rintro e w76 ⟨rfl, hb⟩; refine ⟨_, rfl, ?_⟩; have n0_ := Aside0.mk (below_step (by repeat (first | (with_reducible first | exact HB.out | apply below_alloc | apply pw_below_drewN | apply below_drew1))) hb); clear HB; have HB := n0_; clear n0_; (try clear hb)) | ((with_reducible refine gate_callee (f := 18) rfl ?_); refine goesL_ (some 294) rfl rfl Try.func18 (by kernel_rfl) rfl #[.int .i64 t198] rfl (by (try simp only [List.map_toArray, List.map_cons, List.map_nil]); first | done | rfl | (simp only [List.length_drop, List.length_take]; rfl)) ?_; (with_reducible refine (impl_CountSquareFree.calls kj54 t198 t208 t209 _ A65.out).mono ?_); rintro e w77 ⟨rfl, hb⟩; refine ⟨_, rfl, ?_⟩; have n0_ := Aside0.mk (below_step (by repeat (first | (with_reducible first | exact HB.out | apply below_alloc | apply pw_below_drewN | apply below_drew1))) hb); clear HB; have HB := n0_; clear n0_; (try clear hb)))
                    go_ret
                    exact ⟨by first | rfl | (simp [errW_none, errW_some] <;> rfl) | (simp [*, errW_none, errW_some] <;> rfl), by repeat (first | (with_reducible first | exact HB.out | apply below_alloc | apply pw_below_drewN | apply below_drew1))⟩
                 ·
                  replace c66 := Bool.eq_false_iff.mpr c66
                  subst c66
                  have H1 : (some false) = some r := by rw [if_neg (show ¬ (false = true) by decide)] at H; exact H
                  clear H
                  have H := H1
                  clear H1
                  first
                  | exact absurd (Option.some.inj (H.trans (congrArg some HRT.out))) Bool.false_ne_true
                  |
                   obtain rfl := Option.some.inj H
                   go_wp2_with (first | ((with_reducible refine gate_callee (f := 40) rfl ?_); refine goesL_ (some 289) rfl rfl Try.func40 (by kernel_rfl) rfl #[.int .i64 t198] rfl (by (try simp only [List.map_toArray, List.map_cons, List.map_nil]); first | done | rfl | (simp only [List.length_drop, List.length_take]; rfl)) ?_; (with_reducible refine (impl_IsSquareFree.calls kj54 t198 t206 false _ A64.out).mono ?_); rintro e w78 ⟨rfl, hb⟩; refine ⟨_, rfl, ?_⟩; have n0_ := Aside0.mk (below_step (by repeat (first | (with_reducible first | exact HB.out | apply below_alloc | apply pw_below_drewN | apply below_drew1))) hb); clear HB; have HB := n0_; clear n0_; (try clear hb)) | ((with_reducible refine gate_callee (f := 18) rfl ?_); refine goesL_ (some 294) rfl rfl Try.func18 (by kernel_rfl) rfl #[.int .i64 t198] rfl (by (try simp only [List.map_toArray, List.map_cons, List.map_nil]); first | done | rfl | (simp only [List.length_drop, List.length_take]; rfl)) ?_; (with_reducible refine (impl_CountSquareFree.calls kj54 t198 t208 t209 _ A65.out).mono ?_); rintro e w79 ⟨rfl, hb⟩; refine ⟨_, rfl, ?_⟩; have n0_ := Aside0.mk (below_step (by repeat (first | (with_reducible first | exact HB.out | apply below_alloc | apply pw_below_drewN | apply below_drew1))) hb); clear HB; have HB := n0_; clear n0_; (try clear hb)))
                   go_ret
                   exact ⟨by first | rfl | (simp [errW_none, errW_some] <;> rfl) | (simp [*, errW_none, errW_some] <;> rfl), by repeat (first | (with_reducible first | exact HB.out | apply below_alloc | apply pw_below_drewN | apply below_drew1))⟩
                ·
                 rw [if_neg c63] at H
                 have c63b0 : decide (t198 ≤ 100000) = false := decide_eq_false c63
                 clear c63
                 (first | rw [c63b0] | (simp only [i64_w, i32_w]; rw [c63b0]) | skip)
                 have H' := Aside0.mk H
                 clear H
                 go_wp2
                 refine cutMeet hJ_ ?_ (by kernel_rfl)
                 exact ⟨_, H', ⟨by have := HJ15.out; have := HJ40.out; have := HJ54.out; first | omega | exact Nat.le_refl _⟩, ⟨by repeat (first | (with_reducible first | exact HB.out | apply below_alloc | apply pw_below_drewN | apply below_drew1))⟩⟩
              ·
               intro u_ wc hcut
               clear HC62
               obtain ⟨kq, HA, HJ61, HB⟩ := hcut
               dsimp only [cutFgt, mk0]
               cases kq with
               | zero => exact absurd HA.out (by simp [laws_FnSquareFreeOfAll.j3])
               | succ kj61 =>
                have H := HA.out
                clear HA
                simp only [laws_FnSquareFreeOfAll.j3] at H
                have H' := Aside0.mk H
                clear H
                go_wp2
                go_loopg [39] kj61 (fun kq v39 w' => ∃ (x39_5 : Int), v39 = .int .i64 x39_5 ∧ Aside0 (laws_FnSquareFreeOfAll.l0 kq a0 a1 a2 t190 x39_5 = some r) ∧ Aside0 (kq ≤ kj61) ∧ Aside0 (Below w.heap.size w w'))
                case atStart => exact ⟨(1), (by first | rfl | (simp; done) | (simp [*]; done)), H', ⟨Nat.le_refl _⟩, ⟨by repeat (first | (with_reducible first | exact HB.out | apply below_alloc | apply pw_below_drewN | apply below_drew1))⟩⟩
                case round =>
                 clear H'
                 obtain ⟨x39_5, rfl, HA, HK5, HB⟩ := hrel
                 cases gk with
                 | zero => exact absurd HA.out (by simp [laws_FnSquareFreeOfAll.l0])
                 | succ k5 =>
                  have H := HA.out
                  clear HA
                  simp only [laws_FnSquareFreeOfAll.l0] at H
                  by_cases c80 : x39_5 ≤ 6
                  ·
                   rw [if_pos c80] at H
                   have c80b0 : decide (x39_5 ≤ 6) = true := decide_eq_true c80
                   clear c80
                   have HC81 := Aside0.mk H
                   clear H
                   go_upto_region 30 with (fail)
                   refine cutF mk1 [] (fun u_ wc => ∃ (kq : Nat) (x326_80 : Bool), (u_ 326) = .bool x326_80 ∧ Aside0 (laws_FnSquareFreeOfAll.j5 kq a0 a1 a2 t190 x39_5 x326_80 = some r) ∧ Aside0 (kq ≤ k5) ∧ Aside0 (Below w.heap.size w wc)) ?_ ?_
                   ·
                    as_aux_lemma =>
                     intro J_ K_ hJ_ hK_
                     have H := HC81.out
                     clear HC81
                     replace H := Option.bind_eq_some_iff.mp H
                     obtain ⟨t210, A820, H⟩ := H
                     replace H : (if t210 = 1 then (if x39_5 = 0 then (none) else (laws_FnSquareFreeOfAll.j5 k5 a0 a1 a2 t190 x39_5 (decide (a0 > (wrap64 (Int.tdiv 100000 x39_5)))))) else (laws_FnSquareFreeOfAll.j5 k5 a0 a1 a2 t190 x39_5 true)) = some r := H
                     have A82 := Aside0.mk A820
                     clear A820
                     by_cases c83 : t210 = 1
                     ·
                      rw [if_pos c83] at H
                      have c83b0 : (t210 == 1) = true := beq_iff_eq.mpr c83
                      have c83b1 : (t210 != 1) = false := bne_eq_false_iff_eq.mpr c83
                      clear c83
                      (first | rw [c83b0] | (simp only [i64_w, i32_w]; rw [c83b0]) | skip)
                      by_cases c84 : x39_5 = 0
                      ·
                       rw [if_pos c84] at H
                       exact absurd H (by simp)
                      ·
                       rw [if_neg c84] at H
                       have c84b0 : (x39_5 == 0) = false := beq_eq_false_iff_ne.mpr c84
                       have c84b1 : (x39_5 != 0) = true := bne_iff_ne.mpr c84
                       have H' := Aside0.mk H
                       clear H
                       go_wp2_with (first | ((with_reducible refine gate_callee (f := 50) rfl ?_); refine goesL_ (some 319) rfl rfl Try.func50 (by kernel_rfl) rfl #[.int .i64 a0, .int .i64 x39_5] rfl (by (try simp only [List.map_toArray, List.map_cons, List.map_nil]); first | done | rfl | (simp only [List.length_drop, List.length_take]; rfl)) ?_; (with_reducible refine (laws_tCommon.calls k5 a0 x39_5 t210 _ A82.out).mono ?_); rintro e w' ⟨rfl, ⟨nd, rfl⟩⟩; refine ⟨_, rfl, ?_⟩))
                       refine cutMeet hJ_ ?_ (by kernel_rfl)
                       exact ⟨_, (decide (a0 > (wrap64 (Int.tdiv 100000 x39_5)))), (by first | rfl | (simp; done) | (simp [*]; done)), H', ⟨by have := HJ15.out; have := HJ40.out; have := HJ54.out; have := HJ61.out; have := HK5.out; first | omega | exact Nat.le_refl _⟩, ⟨by repeat (first | (with_reducible first | exact HB.out | apply below_alloc | apply pw_below_drewN | apply below_drew1))⟩⟩
                     ·
                      rw [if_neg c83] at H
                      have c83b0 : (t210 == 1) = false := beq_eq_false_iff_ne.mpr c83
                      have c83b1 : (t210 != 1) = true := bne_iff_ne.mpr c83
                      (first | rw [c83b0] | (simp only [i64_w, i32_w]; rw [c83b0]) | skip)
                      have H' := Aside0.mk H
                      clear H
                      go_wp2_with (first | ((with_reducible refine gate_callee (f := 50) rfl ?_); refine goesL_ (some 319) rfl rfl Try.func50 (by kernel_rfl) rfl #[.int .i64 a0, .int .i64 x39_5] rfl (by (try simp only [List.map_toArray, List.map_cons, List.map_nil]); first | done | rfl | (simp only [List.length_drop, List.length_take]; rfl)) ?_; (with_reducible refine (laws_tCommon.calls k5 a0 x39_5 t210 _ A82.out).mono ?_); rintro e w' ⟨rfl, ⟨nd, rfl⟩⟩; refine ⟨_, rfl, ?_⟩))
                      refine cutMeet hJ_ ?_ (by kernel_rfl)
                      exact ⟨_, (true), (by first | rfl | (simp; done) | (simp [*]; done)), H', ⟨by have := HJ15.out; have := HJ40.out; have := HJ54.out; have := HJ61.out; have := HK5.out; first | omega | exact Nat.le_refl _⟩, ⟨by repeat (first | (with_reducible first | exact HB.out | apply below_alloc | apply pw_below_drewN | apply below_drew1))⟩⟩
                   ·
                    intro u_ wc hcut
                    clear HC81
                    obtain ⟨kq, x326_80, e_326, HA, HJ80, HB⟩ := hcut
                    dsimp only [cutFgt, mk1]
                    rw [e_326]
                    cases kq with
                    | zero => exact absurd HA.out (by simp [laws_FnSquareFreeOfAll.j5])
                    | succ kj80 =>
                     have H := HA.out
                     clear HA
                     simp only [laws_FnSquareFreeOfAll.j5] at H
                     by_cases c85 : x326_80 = true
                     ·
                      subst c85
                      have H1 : (laws_FnSquareFreeOfAll.l0 kj80 a0 a1 a2 t190 (wrap64 (x39_5 + 1))) = some r := by rw [if_pos rfl] at H; exact H
                      clear H
                      have H := H1
                      clear H1
                      have H' := Aside0.mk H
                      clear H
                      go_wp2
                      go_roundg kj80
                      case measure => have := HJ15.out; have := HJ40.out; have := HJ54.out; have := HJ61.out; have := HK5.out; have := HJ80.out; omega
                      case rel => exact ⟨(wrap64 (x39_5 + 1)), (by first | rfl | (simp; done) | (simp [*]; done)), H', ⟨by have := HJ15.out; have := HJ40.out; have := HJ54.out; have := HJ61.out; have := HK5.out; have := HJ80.out; omega⟩, ⟨by repeat (first | (with_reducible first | exact HB.out | apply below_alloc | apply pw_below_drewN | apply below_drew1))⟩⟩
                     ·
                      replace c85 := Bool.eq_false_iff.mpr c85
                      subst c85
                      have H1 : ((impl_FreeSign.f kj80 x39_5).bind fun bt211 => ((impl_FreeSign.f kj80 (wrap64 (a0 * x39_5))).bind fun bt213 => (if bt211.2 = true then (if bt213.2 = true then (if (wrap64 (bt211.1 * t190)) = bt213.1 then (laws_FnSquareFreeOfAll.l0 kj80 a0 a1 a2 t190 (wrap64 (x39_5 + 1))) else (some false)) else (some false)) else (some false)))) = some r := by rw [if_neg (show ¬ (false = true) by decide)] at H; exact H
                      clear H
                      have H := H1
                      clear H1
                      replace H := Option.bind_eq_some_iff.mp H
                      obtain ⟨⟨t211, t212⟩, A860, H⟩ := H
                      replace H : ((impl_FreeSign.f kj80 (wrap64 (a0 * x39_5))).bind fun bt213 => (if t212 = true then (if bt213.2 = true then (if (wrap64 (t211 * t190)) = bt213.1 then (laws_FnSquareFreeOfAll.l0 kj80 a0 a1 a2 t190 (wrap64 (x39_5 + 1))) else (some false)) else (some false)) else (some false))) = some r := H
                      have A86 := Aside0.mk A860
                      clear A860
                      replace H := Option.bind_eq_some_iff.mp H
                      obtain ⟨⟨t213, t214⟩, A870, H⟩ := H
                      replace H : (if t212 = true then (if t214 = true then (if (wrap64 (t211 * t190)) = t213 then (laws_FnSquareFreeOfAll.l0 kj80 a0 a1 a2 t190 (wrap64 (x39_5 + 1))) else (some false)) else (some false)) else (some false)) = some r := H
                      have A87 := Aside0.mk A870
                      clear A870
                      by_cases c88 : t212 = true
                      ·
                       subst c88
                       have H1 : (if t214 = true then (if (wrap64 (t211 * t190)) = t213 then (laws_FnSquareFreeOfAll.l0 kj80 a0 a1 a2 t190 (wrap64 (x39_5 + 1))) else (some false)) else (some false)) = some r := by rw [if_pos rfl] at H; exact H
                       clear H
                       have H := H1
                       clear H1
                       by_cases c89 : t214 = true
                       ·
                        subst c89
                        have H1 : (if (wrap64 (t211 * t190)) = t213 then (laws_FnSquareFreeOfAll.l0 kj80 a0 a1 a2 t190 (wrap64 (x39_5 + 1))) else (some false)) = some r := by rw [if_pos rfl] at H; exact H
                        clear H
                        have H := H1
                        clear H1
                        by_cases c90 : (wrap64 (t211 * t190)) = t213
                        ·
                         rw [if_pos c90] at H
                         have c90b0 : ((wrap64 (t211 * t190)) == t213) = true := beq_iff_eq.mpr c90
                         have c90b1 : ((wrap64 (t211 * t190)) != t213) = false := bne_eq_false_iff_eq.mpr c90
                         clear c90
                         have H' := Aside0.mk H
                         clear H
                         go_wp2_with (first | ((with_reducible refine gate_callee (f := 46) rfl ?_); refine goesL_ (some 329) rfl rfl Try.func46 (by kernel_rfl) rfl #[.int .i64 x39_5] rfl (by (try simp only [List.map_toArray, List.map_cons, List.map_nil]); first | done | rfl | (simp only [List.length_drop, List.length_take]; rfl)) ?_; (with_reducible refine (impl_FreeSign.calls kj80 x39_5 t211 true _ A86.out).mono ?_); rintro e w91 ⟨rfl, hb⟩; refine ⟨_, rfl, ?_⟩; have n0_ := Aside0.mk (below_step (by repeat (first | (with_reducible first | exact HB.out | apply below_alloc | apply pw_below_drewN | apply below_drew1))) hb); clear HB; have HB := n0_; clear n0_; (try clear hb)) | ((with_reducible refine gate_callee (f := 46) rfl ?_); refine goesL_ (some 336) rfl rfl Try.func46 (by kernel_rfl) rfl #[.int .i64 (wrap64 (a0 * x39_5))] rfl (by (try simp only [List.map_toArray, List.map_cons, List.map_nil]); first | done | rfl | (simp only [List.length_drop, List.length_take]; rfl)) ?_; (with_reducible refine (impl_FreeSign.calls kj80 (wrap64 (a0 * x39_5)) t213 true _ A87.out).mono ?_); rintro e w92 ⟨rfl, hb⟩; refine ⟨_, rfl, ?_⟩; have n0_ := Aside0.mk (below_step (by repeat (first | (with_reducible first | exact HB.out | apply below_alloc | apply pw_below_drewN | apply below_drew1))) hb); clear HB; have HB := n0_; clear n0_; (try clear hb)))
                         go_roundg kj80
                         case measure => have := HJ15.out; have := HJ40.out; have := HJ54.out; have := HJ61.out; have := HK5.out; have := HJ80.out; omega
                         case rel => exact ⟨(wrap64 (x39_5 + 1)), (by first | rfl | (simp; done) | (simp [*]; done)), H', ⟨by have := HJ15.out; have := HJ40.out; have := HJ54.out; have := HJ61.out; have := HK5.out; have := HJ80.out; omega⟩, ⟨by repeat (first | (with_reducible first | exact HB.out | apply below_alloc | apply pw_below_drewN | apply below_drew1))⟩⟩
                        ·
                         rw [if_neg c90] at H
                         have c90b0 : ((wrap64 (t211 * t190)) == t213) = false := beq_eq_false_iff_ne.mpr c90
                         have c90b1 : ((wrap64 (t211 * t190)) != t213) = true := bne_iff_ne.mpr c90
                         first
                         | exact absurd (Option.some.inj (H.trans (congrArg some HRT.out))) Bool.false_ne_true
                         |
                          obtain rfl := Option.some.inj H
                          go_wp2_with (first | ((with_reducible refine gate_callee (f := 46) rfl ?_); refine goesL_ (some 329) rfl rfl Try.func46 (by kernel_rfl) rfl #[.int .i64 x39_5] rfl (by (try simp only [List.map_toArray, List.map_cons, List.map_nil]); first | done | rfl | (simp only [List.length_drop, List.length_take]; rfl)) ?_; (with_reducible refine (impl_FreeSign.calls kj80 x39_5 t211 true _ A86.out).mono ?_); rintro e w93 ⟨rfl, hb⟩; refine ⟨_, rfl, ?_⟩; have n0_ := Aside0.mk (below_step (by repeat (first | (with_reducible first | exact HB.out | apply below_alloc | apply pw_below_drewN | apply below_drew1))) hb); clear HB; have HB := n0_; clear n0_; (try clear hb)) | ((with_reducible refine gate_callee (f := 46) rfl ?_); refine goesL_ (some 336) rfl rfl Try.func46 (by kernel_rfl) rfl #[.int .i64 (wrap64 (a0 * x39_5))] rfl (by (try simp only [List.map_toArray, List.map_cons, List.map_nil]); first | done | rfl | (simp only [List.length_drop, List.length_take]; rfl)) ?_; (with_reducible refine (impl_FreeSign.calls kj80 (wrap64 (a0 * x39_5)) t213 true _ A87.out).mono ?_); rintro e w94 ⟨rfl, hb⟩; refine ⟨_, rfl, ?_⟩; have n0_ := Aside0.mk (below_step (by repeat (first | (with_reducible first | exact HB.out | apply below_alloc | apply pw_below_drewN | apply below_drew1))) hb); clear HB; have HB := n0_; clear n0_; (try clear hb)))
                          go_ret
                          exact ⟨by first | rfl | (simp [errW_none, errW_some] <;> rfl) | (simp [*, errW_none, errW_some] <;> rfl), by repeat (first | (with_reducible first | exact HB.out | apply below_alloc | apply pw_below_drewN | apply below_drew1))⟩
                       ·
                        replace c89 := Bool.eq_false_iff.mpr c89
                        subst c89
                        have H1 : (some false) = some r := by rw [if_neg (show ¬ (false = true) by decide)] at H; exact H
                        clear H
                        have H := H1
                        clear H1
                        first
                        | exact absurd (Option.some.inj (H.trans (congrArg some HRT.out))) Bool.false_ne_true
                        |
                         obtain rfl := Option.some.inj H
                         go_wp2_with (first | ((with_reducible refine gate_callee (f := 46) rfl ?_); refine goesL_ (some 329) rfl rfl Try.func46 (by kernel_rfl) rfl #[.int .i64 x39_5] rfl (by (try simp only [List.map_toArray, List.map_cons, List.map_nil]); first | done | rfl | (simp only [List.length_drop, List.length_take]; rfl)) ?_; (with_reducible refine (impl_FreeSign.calls kj80 x39_5 t211 true _ A86.out).mono ?_); rintro e w95 ⟨rfl, hb⟩; refine ⟨_, rfl, ?_⟩; have n0_ := Aside0.mk (below_step (by repeat (first | (with_reducible first | exact HB.out | apply below_alloc | apply pw_below_drewN | apply below_drew1))) hb); clear HB; have HB := n0_; clear n0_; (try clear hb)) | ((with_reducible refine gate_callee (f := 46) rfl ?_); refine goesL_ (some 336) rfl rfl Try.func46 (by kernel_rfl) rfl #[.int .i64 (wrap64 (a0 * x39_5))] rfl (by (try simp only [List.map_toArray, List.map_cons, List.map_nil]); first | done | rfl | (simp only [List.length_drop, List.length_take]; rfl)) ?_; (with_reducible refine (impl_FreeSign.calls kj80 (wrap64 (a0 * x39_5)) t213 false _ A87.out).mono ?_); rintro e w96 ⟨rfl, hb⟩; refine ⟨_, rfl, ?_⟩; have n0_ := Aside0.mk (below_step (by repeat (first | (with_reducible first | exact HB.out | apply below_alloc | apply pw_below_drewN | apply below_drew1))) hb); clear HB; have HB := n0_; clear n0_; (try clear hb)))
                         go_ret
                         exact ⟨by first | rfl | (simp [errW_none, errW_some] <;> rfl) | (simp [*, errW_none, errW_some] <;> rfl), by repeat (first | (with_reducible first | exact HB.out | apply below_alloc | apply pw_below_drewN | apply below_drew1))⟩
                      ·
                       replace c88 := Bool.eq_false_iff.mpr c88
                       subst c88
                       have H1 : (some false) = some r := by rw [if_neg (show ¬ (false = true) by decide)] at H; exact H
                       clear H
                       have H := H1
                       clear H1
                       first
                       | exact absurd (Option.some.inj (H.trans (congrArg some HRT.out))) Bool.false_ne_true
                       |
                        obtain rfl := Option.some.inj H
                        go_wp2_with (first | ((with_reducible refine gate_callee (f := 46) rfl ?_); refine goesL_ (some 329) rfl rfl Try.func46 (by kernel_rfl) rfl #[.int .i64 x39_5] rfl (by (try simp only [List.map_toArray, List.map_cons, List.map_nil]); first | done | rfl | (simp only [List.length_drop, List.length_take]; rfl)) ?_; (with_reducible refine (impl_FreeSign.calls kj80 x39_5 t211 false _ A86.out).mono ?_); rintro e w97 ⟨rfl, hb⟩; refine ⟨_, rfl, ?_⟩; have n0_ := Aside0.mk (below_step (by repeat (first | (with_reducible first | exact HB.out | apply below_alloc | apply pw_below_drewN | apply below_drew1))) hb); clear HB; have HB := n0_; clear n0_; (try clear hb)) | ((with_reducible refine gate_callee (f := 46) rfl ?_); refine goesL_ (some 336) rfl rfl Try.func46 (by kernel_rfl) rfl #[.int .i64 (wrap64 (a0 * x39_5))] rfl (by (try simp only [List.map_toArray, List.map_cons, List.map_nil]); first | done | rfl | (simp only [List.length_drop, List.length_take]; rfl)) ?_; (with_reducible refine (impl_FreeSign.calls kj80 (wrap64 (a0 * x39_5)) t213 t214 _ A87.out).mono ?_); rintro e w98 ⟨rfl, hb⟩; refine ⟨_, rfl, ?_⟩; have n0_ := Aside0.mk (below_step (by repeat (first | (with_reducible first | exact HB.out | apply below_alloc | apply pw_below_drewN | apply below_drew1))) hb); clear HB; have HB := n0_; clear n0_; (try clear hb)))
                        go_ret
                        exact ⟨by first | rfl | (simp [errW_none, errW_some] <;> rfl) | (simp [*, errW_none, errW_some] <;> rfl), by repeat (first | (with_reducible first | exact HB.out | apply below_alloc | apply pw_below_drewN | apply below_drew1))⟩
                  ·
                   rw [if_neg c80] at H
                   have c80b0 : decide (x39_5 ≤ 6) = false := decide_eq_false c80
                   clear c80
                   have H' := Aside0.mk H
                   clear H
                   go_wp2
                   refine cutMeet hJ_ ?_ (by kernel_rfl)
                   exact ⟨_, H', ⟨by have := HJ15.out; have := HJ40.out; have := HJ54.out; have := HJ61.out; have := HK5.out; first | omega | exact Nat.le_refl _⟩, ⟨by repeat (first | (with_reducible first | exact HB.out | apply below_alloc | apply pw_below_drewN | apply below_drew1))⟩⟩
      ·
       replace c40 := Bool.eq_false_iff.mpr c40
       subst c40
       have H1 : (laws_FnSquareFreeOfAll.j6 kj15 a1 a2) = some r := by rw [if_neg (show ¬ (false = true) by decide)] at H; exact H
       clear H
       have H := H1
       clear H1
       have H' := Aside0.mk H
       clear H
       go_wp2
       refine cutMeet hJ_ ?_ (by kernel_rfl)
       exact ⟨_, H', ⟨by have := HJ15.out; first | omega | exact Nat.le_refl _⟩, ⟨by repeat (first | (with_reducible first | exact HB.out | apply below_alloc | apply pw_below_drewN | apply below_drew1))⟩⟩
    ·
     intro u_ wc hcut
     clear HC39
     obtain ⟨kq, HA, HJ38, HB⟩ := hcut
     dsimp only [cutFgt, mk0]
     cases kq with
     | zero => exact absurd HA.out (by simp [laws_FnSquareFreeOfAll.j6])
     | succ kj38 =>
      have H := HA.out
      clear HA
      simp only [laws_FnSquareFreeOfAll.j6] at H
      replace H := Option.bind_eq_some_iff.mp H
      obtain ⟨⟨t215, t216⟩, A990, H⟩ := H
      replace H : ((spec_SquareFreeUpTo.f kj38 a1).bind fun bt219 => ((impl_LongestSquareful.f kj38 a1).bind fun bt223 => ((spec_LongestSquareful.f kj38 a1).bind fun bt226 => ((impl_SumOfSigns.f kj38 a1).bind fun bt229 => ((spec_SumOfSigns.f kj38 a1).bind fun bt231 => ((impl_SquareFreeOfRank.f kj38 a2).bind fun bt233 => ((spec_SquareFreeOfRank.f kj38 a2).bind fun bt235 => (if (t216 != bt219.2) = true then (laws_FnSquareFreeOfAll.j7 kj38 a1 t215 t216 bt223.1 bt223.2.1 bt229.1 true) else ((laws_tSame.f kj38 t215 bt219.1).bind fun t237 => (if t237 = true then (if (bt223.2.2 != bt226.2.2) = true then (laws_FnSquareFreeOfAll.j7 kj38 a1 t215 t216 bt223.1 bt223.2.1 bt229.1 true) else (if bt223.1 = bt226.1 then (if bt223.2.1 = bt226.2.1 then (if (bt229.2 != bt231.2) = true then (laws_FnSquareFreeOfAll.j7 kj38 a1 t215 t216 bt223.1 bt223.2.1 bt229.1 true) else (if bt229.1 = bt231.1 then (if (bt233.2 != bt235.2) = true then (laws_FnSquareFreeOfAll.j7 kj38 a1 t215 t216 bt223.1 bt223.2.1 bt229.1 true) else (if bt233.1 = bt235.1 then (if (bt223.2.2 != t216) = true then (laws_FnSquareFreeOfAll.j7 kj38 a1 t215 t216 bt223.1 bt223.2.1 bt229.1 true) else (if t216 = true then (laws_FnSquareFreeOfAll.j7 kj38 a1 t215 t216 bt223.1 bt223.2.1 bt229.1 (bt229.2 != (decide (a1 > 0)))) else (laws_FnSquareFreeOfAll.j7 kj38 a1 t215 t216 bt223.1 bt223.2.1 bt229.1 (bt229.2 != false)))) else (laws_FnSquareFreeOfAll.j7 kj38 a1 t215 t216 bt223.1 bt223.2.1 bt229.1 true))) else (laws_FnSquareFreeOfAll.j7 kj38 a1 t215 t216 bt223.1 bt223.2.1 bt229.1 true))) else (laws_FnSquareFreeOfAll.j7 kj38 a1 t215 t216 bt223.1 bt223.2.1 bt229.1 true)) else (laws_FnSquareFreeOfAll.j7 kj38 a1 t215 t216 bt223.1 bt223.2.1 bt229.1 true))) else (laws_FnSquareFreeOfAll.j7 kj38 a1 t215 t216 bt223.1 bt223.2.1 bt229.1 true))))))))))) = some r := H
      have A99 := Aside0.mk A990
      clear A990
      replace H := Option.bind_eq_some_iff.mp H
      obtain ⟨⟨t219, t220⟩, A1000, H⟩ := H
      replace H : ((impl_LongestSquareful.f kj38 a1).bind fun bt223 => ((spec_LongestSquareful.f kj38 a1).bind fun bt226 => ((impl_SumOfSigns.f kj38 a1).bind fun bt229 => ((spec_SumOfSigns.f kj38 a1).bind fun bt231 => ((impl_SquareFreeOfRank.f kj38 a2).bind fun bt233 => ((spec_SquareFreeOfRank.f kj38 a2).bind fun bt235 => (if (t216 != t220) = true then (laws_FnSquareFreeOfAll.j7 kj38 a1 t215 t216 bt223.1 bt223.2.1 bt229.1 true) else ((laws_tSame.f kj38 t215 t219).bind fun t237 => (if t237 = true then (if (bt223.2.2 != bt226.2.2) = true then (laws_FnSquareFreeOfAll.j7 kj38 a1 t215 t216 bt223.1 bt223.2.1 bt229.1 true) else (if bt223.1 = bt226.1 then (if bt223.2.1 = bt226.2.1 then (if (bt229.2 != bt231.2) = true then (laws_FnSquareFreeOfAll.j7 kj38 a1 t215 t216 bt223.1 bt223.2.1 bt229.1 true) else (if bt229.1 = bt231.1 then (if (bt233.2 != bt235.2) = true then (laws_FnSquareFreeOfAll.j7 kj38 a1 t215 t216 bt223.1 bt223.2.1 bt229.1 true) else (if bt233.1 = bt235.1 then (if (bt223.2.2 != t216) = true then (laws_FnSquareFreeOfAll.j7 kj38 a1 t215 t216 bt223.1 bt223.2.1 bt229.1 true) else (if t216 = true then (laws_FnSquareFreeOfAll.j7 kj38 a1 t215 t216 bt223.1 bt223.2.1 bt229.1 (bt229.2 != (decide (a1 > 0)))) else (laws_FnSquareFreeOfAll.j7 kj38 a1 t215 t216 bt223.1 bt223.2.1 bt229.1 (bt229.2 != false)))) else (laws_FnSquareFreeOfAll.j7 kj38 a1 t215 t216 bt223.1 bt223.2.1 bt229.1 true))) else (laws_FnSquareFreeOfAll.j7 kj38 a1 t215 t216 bt223.1 bt223.2.1 bt229.1 true))) else (laws_FnSquareFreeOfAll.j7 kj38 a1 t215 t216 bt223.1 bt223.2.1 bt229.1 true)) else (laws_FnSquareFreeOfAll.j7 kj38 a1 t215 t216 bt223.1 bt223.2.1 bt229.1 true))) else (laws_FnSquareFreeOfAll.j7 kj38 a1 t215 t216 bt223.1 bt223.2.1 bt229.1 true)))))))))) = some r := H
      have A100 := Aside0.mk A1000
      clear A1000
      replace H := Option.bind_eq_some_iff.mp H
      obtain ⟨⟨t223, t224, t225⟩, A1010, H⟩ := H
      replace H : ((spec_LongestSquareful.f kj38 a1).bind fun bt226 => ((impl_SumOfSigns.f kj38 a1).bind fun bt229 => ((spec_SumOfSigns.f kj38 a1).bind fun bt231 => ((impl_SquareFreeOfRank.f kj38 a2).bind fun bt233 => ((spec_SquareFreeOfRank.f kj38 a2).bind fun bt235 => (if (t216 != t220) = true then (laws_FnSquareFreeOfAll.j7 kj38 a1 t215 t216 t223 t224 bt229.1 true) else ((laws_tSame.f kj38 t215 t219).bind fun t237 => (if t237 = true then (if (t225 != bt226.2.2) = true then (laws_FnSquareFreeOfAll.j7 kj38 a1 t215 t216 t223 t224 bt229.1 true) else (if t223 = bt226.1 then (if t224 = bt226.2.1 then (if (bt229.2 != bt231.2) = true then (laws_FnSquareFreeOfAll.j7 kj38 a1 t215 t216 t223 t224 bt229.1 true) else (if bt229.1 = bt231.1 then (if (bt233.2 != bt235.2) = true then (laws_FnSquareFreeOfAll.j7 kj38 a1 t215 t216 t223 t224 bt229.1 true) else (if bt233.1 = bt235.1 then (if (t225 != t216) = true then (laws_FnSquareFreeOfAll.j7 kj38 a1 t215 t216 t223 t224 bt229.1 true) else (if t216 = true then (laws_FnSquareFreeOfAll.j7 kj38 a1 t215 t216 t223 t224 bt229.1 (bt229.2 != (decide (a1 > 0)))) else (laws_FnSquareFreeOfAll.j7 kj38 a1 t215 t216 t223 t224 bt229.1 (bt229.2 != false)))) else (laws_FnSquareFreeOfAll.j7 kj38 a1 t215 t216 t223 t224 bt229.1 true))) else (laws_FnSquareFreeOfAll.j7 kj38 a1 t215 t216 t223 t224 bt229.1 true))) else (laws_FnSquareFreeOfAll.j7 kj38 a1 t215 t216 t223 t224 bt229.1 true)) else (laws_FnSquareFreeOfAll.j7 kj38 a1 t215 t216 t223 t224 bt229.1 true))) else (laws_FnSquareFreeOfAll.j7 kj38 a1 t215 t216 t223 t224 bt229.1 true))))))))) = some r := H
      have A101 := Aside0.mk A1010
      clear A1010
      replace H := Option.bind_eq_some_iff.mp H
      obtain ⟨⟨t226, t227, t228⟩, A1020, H⟩ := H
      replace H : ((impl_SumOfSigns.f kj38 a1).bind fun bt229 => ((spec_SumOfSigns.f kj38 a1).bind fun bt231 => ((impl_SquareFreeOfRank.f kj38 a2).bind fun bt233 => ((spec_SquareFreeOfRank.f kj38 a2).bind fun bt235 => (if (t216 != t220) = true then (laws_FnSquareFreeOfAll.j7 kj38 a1 t215 t216 t223 t224 bt229.1 true) else ((laws_tSame.f kj38 t215 t219).bind fun t237 => (if t237 = true then (if (t225 != t228) = true then (laws_FnSquareFreeOfAll.j7 kj38 a1 t215 t216 t223 t224 bt229.1 true) else (if t223 = t226 then (if t224 = t227 then (if (bt229.2 != bt231.2) = true then (laws_FnSquareFreeOfAll.j7 kj38 a1 t215 t216 t223 t224 bt229.1 true) else (if bt229.1 = bt231.1 then (if (bt233.2 != bt235.2) = true then (laws_FnSquareFreeOfAll.j7 kj38 a1 t215 t216 t223 t224 bt229.1 true) else (if bt233.1 = bt235.1 then (if (t225 != t216) = true then (laws_FnSquareFreeOfAll.j7 kj38 a1 t215 t216 t223 t224 bt229.1 true) else (if t216 = true then (laws_FnSquareFreeOfAll.j7 kj38 a1 t215 t216 t223 t224 bt229.1 (bt229.2 != (decide (a1 > 0)))) else (laws_FnSquareFreeOfAll.j7 kj38 a1 t215 t216 t223 t224 bt229.1 (bt229.2 != false)))) else (laws_FnSquareFreeOfAll.j7 kj38 a1 t215 t216 t223 t224 bt229.1 true))) else (laws_FnSquareFreeOfAll.j7 kj38 a1 t215 t216 t223 t224 bt229.1 true))) else (laws_FnSquareFreeOfAll.j7 kj38 a1 t215 t216 t223 t224 bt229.1 true)) else (laws_FnSquareFreeOfAll.j7 kj38 a1 t215 t216 t223 t224 bt229.1 true))) else (laws_FnSquareFreeOfAll.j7 kj38 a1 t215 t216 t223 t224 bt229.1 true)))))))) = some r := H
      have A102 := Aside0.mk A1020
      clear A1020
      replace H := Option.bind_eq_some_iff.mp H
      obtain ⟨⟨t229, t230⟩, A1030, H⟩ := H
      replace H : ((spec_SumOfSigns.f kj38 a1).bind fun bt231 => ((impl_SquareFreeOfRank.f kj38 a2).bind fun bt233 => ((spec_SquareFreeOfRank.f kj38 a2).bind fun bt235 => (if (t216 != t220) = true then (laws_FnSquareFreeOfAll.j7 kj38 a1 t215 t216 t223 t224 t229 true) else ((laws_tSame.f kj38 t215 t219).bind fun t237 => (if t237 = true then (if (t225 != t228) = true then (laws_FnSquareFreeOfAll.j7 kj38 a1 t215 t216 t223 t224 t229 true) else (if t223 = t226 then (if t224 = t227 then (if (t230 != bt231.2) = true then (laws_FnSquareFreeOfAll.j7 kj38 a1 t215 t216 t223 t224 t229 true) else (if t229 = bt231.1 then (if (bt233.2 != bt235.2) = true then (laws_FnSquareFreeOfAll.j7 kj38 a1 t215 t216 t223 t224 t229 true) else (if bt233.1 = bt235.1 then (if (t225 != t216) = true then (laws_FnSquareFreeOfAll.j7 kj38 a1 t215 t216 t223 t224 t229 true) else (if t216 = true then (laws_FnSquareFreeOfAll.j7 kj38 a1 t215 t216 t223 t224 t229 (t230 != (decide (a1 > 0)))) else (laws_FnSquareFreeOfAll.j7 kj38 a1 t215 t216 t223 t224 t229 (t230 != false)))) else (laws_FnSquareFreeOfAll.j7 kj38 a1 t215 t216 t223 t224 t229 true))) else (laws_FnSquareFreeOfAll.j7 kj38 a1 t215 t216 t223 t224 t229 true))) else (laws_FnSquareFreeOfAll.j7 kj38 a1 t215 t216 t223 t224 t229 true)) else (laws_FnSquareFreeOfAll.j7 kj38 a1 t215 t216 t223 t224 t229 true))) else (laws_FnSquareFreeOfAll.j7 kj38 a1 t215 t216 t223 t224 t229 true))))))) = some r := H
      have A103 := Aside0.mk A1030
      clear A1030
      replace H := Option.bind_eq_some_iff.mp H
      obtain ⟨⟨t231, t232⟩, A1040, H⟩ := H
      replace H : ((impl_SquareFreeOfRank.f kj38 a2).bind fun bt233 => ((spec_SquareFreeOfRank.f kj38 a2).bind fun bt235 => (if (t216 != t220) = true then (laws_FnSquareFreeOfAll.j7 kj38 a1 t215 t216 t223 t224 t229 true) else ((laws_tSame.f kj38 t215 t219).bind fun t237 => (if t237 = true then (if (t225 != t228) = true then (laws_FnSquareFreeOfAll.j7 kj38 a1 t215 t216 t223 t224 t229 true) else (if t223 = t226 then (if t224 = t227 then (if (t230 != t232) = true then (laws_FnSquareFreeOfAll.j7 kj38 a1 t215 t216 t223 t224 t229 true) else (if t229 = t231 then (if (bt233.2 != bt235.2) = true then (laws_FnSquareFreeOfAll.j7 kj38 a1 t215 t216 t223 t224 t229 true) else (if bt233.1 = bt235.1 then (if (t225 != t216) = true then (laws_FnSquareFreeOfAll.j7 kj38 a1 t215 t216 t223 t224 t229 true) else (if t216 = true then (laws_FnSquareFreeOfAll.j7 kj38 a1 t215 t216 t223 t224 t229 (t230 != (decide (a1 > 0)))) else (laws_FnSquareFreeOfAll.j7 kj38 a1 t215 t216 t223 t224 t229 (t230 != false)))) else (laws_FnSquareFreeOfAll.j7 kj38 a1 t215 t216 t223 t224 t229 true))) else (laws_FnSquareFreeOfAll.j7 kj38 a1 t215 t216 t223 t224 t229 true))) else (laws_FnSquareFreeOfAll.j7 kj38 a1 t215 t216 t223 t224 t229 true)) else (laws_FnSquareFreeOfAll.j7 kj38 a1 t215 t216 t223 t224 t229 true))) else (laws_FnSquareFreeOfAll.j7 kj38 a1 t215 t216 t223 t224 t229 true)))))) = some r := H
      have A104 := Aside0.mk A1040
      clear A1040
      replace H := Option.bind_eq_some_iff.mp H
      obtain ⟨⟨t233, t234⟩, A1050, H⟩ := H
      replace H : ((spec_SquareFreeOfRank.f kj38 a2).bind fun bt235 => (if (t216 != t220) = true then (laws_FnSquareFreeOfAll.j7 kj38 a1 t215 t216 t223 t224 t229 true) else ((laws_tSame.f kj38 t215 t219).bind fun t237 => (if t237 = true then (if (t225 != t228) = true then (laws_FnSquareFreeOfAll.j7 kj38 a1 t215 t216 t223 t224 t229 true) else (if t223 = t226 then (if t224 = t227 then (if (t230 != t232) = true then (laws_FnSquareFreeOfAll.j7 kj38 a1 t215 t216 t223 t224 t229 true) else (if t229 = t231 then (if (t234 != bt235.2) = true then (laws_FnSquareFreeOfAll.j7 kj38 a1 t215 t216 t223 t224 t229 true) else (if t233 = bt235.1 then (if (t225 != t216) = true then (laws_FnSquareFreeOfAll.j7 kj38 a1 t215 t216 t223 t224 t229 true) else (if t216 = true then (laws_FnSquareFreeOfAll.j7 kj38 a1 t215 t216 t223 t224 t229 (t230 != (decide (a1 > 0)))) else (laws_FnSquareFreeOfAll.j7 kj38 a1 t215 t216 t223 t224 t229 (t230 != false)))) else (laws_FnSquareFreeOfAll.j7 kj38 a1 t215 t216 t223 t224 t229 true))) else (laws_FnSquareFreeOfAll.j7 kj38 a1 t215 t216 t223 t224 t229 true))) else (laws_FnSquareFreeOfAll.j7 kj38 a1 t215 t216 t223 t224 t229 true)) else (laws_FnSquareFreeOfAll.j7 kj38 a1 t215 t216 t223 t224 t229 true))) else (laws_FnSquareFreeOfAll.j7 kj38 a1 t215 t216 t223 t224 t229 true))))) = some r := H
      have A105 := Aside0.mk A1050
      clear A1050
      replace H := Option.bind_eq_some_iff.mp H
      obtain ⟨⟨t235, t236⟩, A1060, H⟩ := H
      replace H : (if (t216 != t220) = true then (laws_FnSquareFreeOfAll.j7 kj38 a1 t215 t216 t223 t224 t229 true) else ((laws_tSame.f kj38 t215 t219).bind fun t237 => (if t237 = true then (if (t225 != t228) = true then (laws_FnSquareFreeOfAll.j7 kj38 a1 t215 t216 t223 t224 t229 true) else (if t223 = t226 then (if t224 = t227 then (if (t230 != t232) = true then (laws_FnSquareFreeOfAll.j7 kj38 a1 t215 t216 t223 t224 t229 true) else (if t229 = t231 then (if (t234 != t236) = true then (laws_FnSquareFreeOfAll.j7 kj38 a1 t215 t216 t223 t224 t229 true) else (if t233 = t235 then (if (t225 != t216) = true then (laws_FnSquareFreeOfAll.j7 kj38 a1 t215 t216 t223 t224 t229 true) else (if t216 = true then (laws_FnSquareFreeOfAll.j7 kj38 a1 t215 t216 t223 t224 t229 (t230 != (decide (a1 > 0)))) else (laws_FnSquareFreeOfAll.j7 kj38 a1 t215 t216 t223 t224 t229 (t230 != false)))) else (laws_FnSquareFreeOfAll.j7 kj38 a1 t215 t216 t223 t224 t229 true))) else (laws_FnSquareFreeOfAll.j7 kj38 a1 t215 t216 t223 t224 t229 true))) else (laws_FnSquareFreeOfAll.j7 kj38 a1 t215 t216 t223 t224 t229 true)) else (laws_FnSquareFreeOfAll.j7 kj38 a1 t215 t216 t223 t224 t229 true))) else (laws_FnSquareFreeOfAll.j7 kj38 a1 t215 t216 t223 t224 t229 true)))) = some r := H
      have A106 := Aside0.mk A1060
      clear A1060
      have HC107 := Aside0.mk H
      clear H
      go_upto_region 43 with (first | ((with_reducible refine gate_callee (f := 32) rfl ?_); refine goesL_ (some 354) rfl rfl Try.func32 (by kernel_rfl) rfl #[.int .i64 a1] rfl (by (try simp only [List.map_toArray, List.map_cons, List.map_nil]); first | done | rfl | (simp only [List.length_drop, List.length_take]; rfl)) ?_; (with_reducible refine (impl_SquareFreeUpTo.calls kj38 a1 t215 t216 _ A99.out).mono ?_); rintro e w108 ⟨v217, rfl, ho0, hb⟩; refine ⟨_, rfl, ?_⟩; have n0_ := Aside0.mk (Kd.R_lower ho0 (below_size (by repeat (first | (with_reducible first | exact HB.out | apply below_alloc | apply pw_below_drewN | apply below_drew1))))); have n1_ := Aside0.mk (below_step (by repeat (first | (with_reducible first | exact HB.out | apply below_alloc | apply pw_below_drewN | apply below_drew1))) hb); clear HB; have HO218 := n0_; have HB := n1_; clear n0_ n1_; (try clear hb); (try clear ho0)) | ((with_reducible refine gate_callee (f := 31) rfl ?_); refine goesL_ (some 359) rfl rfl Try.func31 (by kernel_rfl) rfl #[.int .i64 a1] rfl (by (try simp only [List.map_toArray, List.map_cons, List.map_nil]); first | done | rfl | (simp only [List.length_drop, List.length_take]; rfl)) ?_; (with_reducible refine (spec_SquareFreeUpTo.calls kj38 a1 t219 t220 _ A100.out).mono ?_); rintro e w109 ⟨v221, rfl, ho0, hb⟩; refine ⟨_, rfl, ?_⟩; have n0_ := Aside0.mk (Kd.R_elder' (by (with_reducible repeat (first | apply Kd.R_alloc | apply Kd.R_drewN | apply Kd.R_drew)); exact HO218.out) (Kd.R_base ho0) hb); have n1_ := Aside0.mk (Kd.R_lower (Kd.R_new' ho0 (Kd.R_lt (by (with_reducible repeat (first | apply Kd.R_alloc | apply Kd.R_drewN | apply Kd.R_drew)); exact HO218.out))) (below_size (by repeat (first | (with_reducible first | exact HB.out | apply below_alloc | apply pw_below_drewN | apply below_drew1))))); have n2_ := Aside0.mk (below_step (by repeat (first | (with_reducible first | exact HB.out | apply below_alloc | apply pw_below_drewN | apply below_drew1))) hb); clear HO218; clear HB; have HO218 := n0_; have HO222 := n1_; have HB := n2_; clear n0_ n1_ n2_; (try clear hb); (try clear ho0)) | ((with_reducible refine gate_callee (f := 51) rfl ?_); refine goesL_ (some 364) rfl rfl Try.func51 (by kernel_rfl) rfl #[.int .i64 a1] rfl (by (try simp only [List.map_toArray, List.map_cons, List.map_nil]); first | done | rfl | (simp only [List.length_drop, List.length_take]; rfl)) ?_; (with_reducible refine (impl_LongestSquareful.calls kj38 a1 t223 t224 t225 _ A101.out).mono ?_); rintro e w110 ⟨rfl, hb⟩; refine ⟨_, rfl, ?_⟩; have n0_ := Aside0.mk (Kd.R_below (by (with_reducible repeat (first | apply Kd.R_alloc | apply Kd.R_drewN | apply Kd.R_drew)); exact HO218.out) hb); have n1_ := Aside0.mk (Kd.R_below (by (with_reducible repeat (first | apply Kd.R_alloc | apply Kd.R_drewN | apply Kd.R_drew)); exact HO222.out) hb); have n2_ := Aside0.mk (below_step (by repeat (first | (with_reducible first | exact HB.out | apply below_alloc | apply pw_below_drewN | apply below_drew1))) hb); clear HO218; clear HO222; clear HB; have HO218 := n0_; have HO222 := n1_; have HB := n2_; clear n0_ n1_ n2_; (try clear hb)) | ((with_reducible refine gate_callee (f := 52) rfl ?_); refine goesL_ (some 370) rfl rfl Try.func52 (by kernel_rfl) rfl #[.int .i64 a1] rfl (by (try simp only [List.map_toArray, List.map_cons, List.map_nil]); first | done | rfl | (simp only [List.length_drop, List.length_take]; rfl)) ?_; (with_reducible refine (spec_LongestSquareful.calls kj38 a1 t226 t227 t228 _ A102.out).mono ?_); rintro e w' ⟨rfl, ⟨nd, rfl⟩⟩; refine ⟨_, rfl, ?_⟩) | ((with_reducible refine gate_callee (f := 16) rfl ?_); refine goesL_ (some 376) rfl rfl Try.func16 (by kernel_rfl) rfl #[.int .i64 a1] rfl (by (try simp only [List.map_toArray, List.map_cons, List.map_nil]); first | done | rfl | (simp only [List.length_drop, List.length_take]; rfl)) ?_; (with_reducible refine (impl_SumOfSigns.calls kj38 a1 t229 t230 _ A103.out).mono ?_); rintro e w111 ⟨rfl, hb⟩; refine ⟨_, rfl, ?_⟩; have n0_ := Aside0.mk (Kd.R_below (by (with_reducible repeat (first | apply Kd.R_alloc | apply Kd.R_drewN | apply Kd.R_drew)); exact HO218.out) hb); have n1_ := Aside0.mk (Kd.R_below (by (with_reducible repeat (first | apply Kd.R_alloc | apply Kd.R_drewN | apply Kd.R_drew)); exact HO222.out) hb); have n2_ := Aside0.mk (below_step (by repeat (first | (with_reducible first | exact HB.out | apply below_alloc | apply pw_below_drewN | apply below_drew1))) hb); clear HO218; clear HO222; clear HB; have HO218 := n0_; have HO222 := n1_; have HB := n2_; clear n0_ n1_ n2_; (try clear hb)) | ((with_reducible refine gate_callee (f := 15) rfl ?_); refine goesL_ (some 381) rfl rfl Try.func15 (by kernel_rfl) rfl #[.int .i64 a1] rfl (by (try simp only [List.map_toArray, List.map_cons, List.map_nil]); first | done | rfl | (simp only [List.length_drop, List.length_take]; rfl)) ?_; (with_reducible refine (spec_SumOfSigns.calls kj38 a1 t231 t232 _ A104.out).mono ?_); rintro e w' ⟨rfl, ⟨nd, rfl⟩⟩; refine ⟨_, rfl, ?_⟩) | ((with_reducible refine gate_callee (f := 53) rfl ?_); refine goesL_ (some 386) rfl rfl Try.func53 (by kernel_rfl) rfl #[.int .i64 a2] rfl (by (try simp only [List.map_toArray, List.map_cons, List.map_nil]); first | done | rfl | (simp only [List.length_drop, List.length_take]; rfl)) ?_; (with_reducible refine (impl_SquareFreeOfRank.calls kj38 a2 t233 t234 _ A105.out).mono ?_); rintro e w112 ⟨rfl, hb⟩; refine ⟨_, rfl, ?_⟩; have n0_ := Aside0.mk (Kd.R_below (by (with_reducible repeat (first | apply Kd.R_alloc | apply Kd.R_drewN | apply Kd.R_drew)); exact HO218.out) hb); have n1_ := Aside0.mk (Kd.R_below (by (with_reducible repeat (first | apply Kd.R_alloc | apply Kd.R_drewN | apply Kd.R_drew)); exact HO222.out) hb); have n2_ := Aside0.mk (below_step (by repeat (first | (with_reducible first | exact HB.out | apply below_alloc | apply pw_below_drewN | apply below_drew1))) hb); clear HO218; clear HO222; clear HB; have HO218 := n0_; have HO222 := n1_; have HB := n2_; clear n0_ n1_ n2_; (try clear hb)) | ((with_reducible refine gate_callee (f := 54) rfl ?_); refine goesL_ (some 391) rfl rfl Try.func54 (by kernel_rfl) rfl #[.int .i64 a2] rfl (by (try simp only [List.map_toArray, List.map_cons, List.map_nil]); first | done | rfl | (simp only [List.length_drop, List.length_take]; rfl)) ?_; (with_reducible refine (spec_SquareFreeOfRank.calls kj38 a2 t235 t236 _ A106.out).mono ?_); rintro e w' ⟨rfl, ⟨nd, rfl⟩⟩; refine ⟨_, rfl, ?_⟩))
      (try simp only [Act.put, List.setIfInBounds_toArray, List.set_cons_zero, List.set_cons_succ])
      refine cutF mk0 [] (fun u_ wc => ∃ (kq : Nat) (x451_106 : Bool), (u_ 451) = .bool x451_106 ∧ Aside0 (laws_FnSquareFreeOfAll.j7 kq a1 t215 t216 t223 t224 t229 x451_106 = some r) ∧ Aside0 (kq ≤ kj38) ∧ Aside0 (Kd.R (Kd.int .i64) 3 wc w.heap.size (fun _ => True) v217 t215) ∧ Aside0 (Below w.heap.size w wc)) ?_ ?_
      ·
       as_aux_lemma =>
        intro J_ K_ hJ_ hK_
        have H := HC107.out
        clear HC107
        by_cases c113 : (t216 != t220) = true
        ·
         rw [if_pos c113] at H
         exact (laws_FnSquareFreeOfAll.j7_no _ _ _ _ _ _ _ (H.trans (congrArg some HRT.out))).elim
        ·
         rw [if_neg c113] at H
         have c113b0 : (t216 != t220) = false := by simpa using c113
         (try (have c113b1 : decide (t216 = t220) = true := by simpa using c113))
         (try (have c113b2 : (t216 == t220) = true := by simpa using c113))
         clear c113
         (first | rw [c113b0] | (simp only [i64_w, i32_w]; rw [c113b0]) | skip)
         replace H := Option.bind_eq_some_iff.mp H
         obtain ⟨t237, A1140, H⟩ := H
         replace H : (if t237 = true then (if (t225 != t228) = true then (laws_FnSquareFreeOfAll.j7 kj38 a1 t215 t216 t223 t224 t229 true) else (if t223 = t226 then (if t224 = t227 then (if (t230 != t232) = true then (laws_FnSquareFreeOfAll.j7 kj38 a1 t215 t216 t223 t224 t229 true) else (if t229 = t231 then (if (t234 != t236) = true then (laws_FnSquareFreeOfAll.j7 kj38 a1 t215 t216 t223 t224 t229 true) else (if t233 = t235 then (if (t225 != t216) = true then (laws_FnSquareFreeOfAll.j7 kj38 a1 t215 t216 t223 t224 t229 true) else (if t216 = true then (laws_FnSquareFreeOfAll.j7 kj38 a1 t215 t216 t223 t224 t229 (t230 != (decide (a1 > 0)))) else (laws_FnSquareFreeOfAll.j7 kj38 a1 t215 t216 t223 t224 t229 (t230 != false)))) else (laws_FnSquareFreeOfAll.j7 kj38 a1 t215 t216 t223 t224 t229 true))) else (laws_FnSquareFreeOfAll.j7 kj38 a1 t215 t216 t223 t224 t229 true))) else (laws_FnSquareFreeOfAll.j7 kj38 a1 t215 t216 t223 t224 t229 true)) else (laws_FnSquareFreeOfAll.j7 kj38 a1 t215 t216 t223 t224 t229 true))) else (laws_FnSquareFreeOfAll.j7 kj38 a1 t215 t216 t223 t224 t229 true)) = some r := H
         have A114 := Aside0.mk A1140
         clear A1140
         by_cases c115 : t237 = true
         ·
          subst c115
          have H1 : (if (t225 != t228) = true then (laws_FnSquareFreeOfAll.j7 kj38 a1 t215 t216 t223 t224 t229 true) else (if t223 = t226 then (if t224 = t227 then (if (t230 != t232) = true then (laws_FnSquareFreeOfAll.j7 kj38 a1 t215 t216 t223 t224 t229 true) else (if t229 = t231 then (if (t234 != t236) = true then (laws_FnSquareFreeOfAll.j7 kj38 a1 t215 t216 t223 t224 t229 true) else (if t233 = t235 then (if (t225 != t216) = true then (laws_FnSquareFreeOfAll.j7 kj38 a1 t215 t216 t223 t224 t229 true) else (if t216 = true then (laws_FnSquareFreeOfAll.j7 kj38 a1 t215 t216 t223 t224 t229 (t230 != (decide (a1 > 0)))) else (laws_FnSquareFreeOfAll.j7 kj38 a1 t215 t216 t223 t224 t229 (t230 != false)))) else (laws_FnSquareFreeOfAll.j7 kj38 a1 t215 t216 t223 t224 t229 true))) else (laws_FnSquareFreeOfAll.j7 kj38 a1 t215 t216 t223 t224 t229 true))) else (laws_FnSquareFreeOfAll.j7 kj38 a1 t215 t216 t223 t224 t229 true)) else (laws_FnSquareFreeOfAll.j7 kj38 a1 t215 t216 t223 t224 t229 true))) = some r := by rw [if_pos rfl] at H; exact H
          clear H
          have H := H1
          clear H1
          by_cases c116 : (t225 != t228) = true
          ·
           rw [if_pos c116] at H
           exact (laws_FnSquareFreeOfAll.j7_no _ _ _ _ _ _ _ (H.trans (congrArg some HRT.out))).elim
          ·
           rw [if_neg c116] at H
           have c116b0 : (t225 != t228) = false := by simpa using c116
           (try (have c116b1 : decide (t225 = t228) = true := by simpa using c116))
           (try (have c116b2 : (t225 == t228) = true := by simpa using c116))
           clear c116
           by_cases c119 : t223 = t226
           ·
            rw [if_pos c119] at H
            have c119b0 : (t223 == t226) = true := beq_iff_eq.mpr c119
            have c119b1 : (t223 != t226) = false := bne_eq_false_iff_eq.mpr c119
            clear c119
            by_cases c120 : t224 = t227
            ·
             rw [if_pos c120] at H
             have c120b0 : (t224 == t227) = true := beq_iff_eq.mpr c120
             have c120b1 : (t224 != t227) = false := bne_eq_false_iff_eq.mpr c120
             clear c120
             by_cases c121 : (t230 != t232) = true
             ·
              rw [if_pos c121] at H
              exact (laws_FnSquareFreeOfAll.j7_no _ _ _ _ _ _ _ (H.trans (congrArg some HRT.out))).elim
             ·
              rw [if_neg c121] at H
              have c121b0 : (t230 != t232) = false := by simpa using c121
              (try (have c121b1 : decide (t230 = t232) = true := by simpa using c121))
              (try (have c121b2 : (t230 == t232) = true := by simpa using c121))
              clear c121
              by_cases c124 : t229 = t231
              ·
               rw [if_pos c124] at H
               have c124b0 : (t229 == t231) = true := beq_iff_eq.mpr c124
               have c124b1 : (t229 != t231) = false := bne_eq_false_iff_eq.mpr c124
               clear c124
               by_cases c125 : (t234 != t236) = true
               ·
                rw [if_pos c125] at H
                exact (laws_FnSquareFreeOfAll.j7_no _ _ _ _ _ _ _ (H.trans (congrArg some HRT.out))).elim
               ·
                rw [if_neg c125] at H
                have c125b0 : (t234 != t236) = false := by simpa using c125
                (try (have c125b1 : decide (t234 = t236) = true := by simpa using c125))
                (try (have c125b2 : (t234 == t236) = true := by simpa using c125))
                clear c125
                by_cases c128 : t233 = t235
                ·
                 rw [if_pos c128] at H
                 have c128b0 : (t233 == t235) = true := beq_iff_eq.mpr c128
                 have c128b1 : (t233 != t235) = false := bne_eq_false_iff_eq.mpr c128
                 clear c128
                 by_cases c129 : (t225 != t216) = true
                 ·
                  rw [if_pos c129] at H
                  exact (laws_FnSquareFreeOfAll.j7_no _ _ _ _ _ _ _ (H.trans (congrArg some HRT.out))).elim
                 ·
                  rw [if_neg c129] at H
                  have c129b0 : (t225 != t216) = false := by simpa using c129
                  (try (have c129b1 : decide (t225 = t216) = true := by simpa using c129))
                  (try (have c129b2 : (t225 == t216) = true := by simpa using c129))
                  clear c129
                  by_cases c132 : t216 = true
                  ·
                   subst c132
                   have H1 : (laws_FnSquareFreeOfAll.j7 kj38 a1 t215 true t223 t224 t229 (t230 != (decide (a1 > 0)))) = some r := by rw [if_pos rfl] at H; exact H
                   clear H
                   have H := H1
                   clear H1
                   have H' := Aside0.mk H
                   clear H
                   obtain ⟨Ao133, co133, eo133⟩ := Kd.R_slice HO218.out
                   subst eo133
                   obtain ⟨Ao134, co134, eo134⟩ := Kd.R_slice HO222.out
                   subst eo134
                   go_wp2_with (first | (go_at_call 55; (with_reducible refine (laws_tSame.calls kj38 _ _ t215 _ _ t219 true _ ?side1 ?side2 ?side3 ?side4 A114.out).mono ?_); (case side1 => repeat (first | exact (Kd.R_reads' HO218.out).2.2 | (with_reducible refine Kd.C_alloc ?_ _) | (with_reducible refine Kd.C_drewN ?_ _) | (with_reducible refine Kd.C_drew ?_))); (case side2 => exact (Kd.R_reads' HO218.out).2.1); (case side3 => repeat (first | exact (Kd.R_reads' HO222.out).2.2 | (with_reducible refine Kd.C_alloc ?_ _) | (with_reducible refine Kd.C_drewN ?_ _) | (with_reducible refine Kd.C_drew ?_))); (case side4 => exact (Kd.R_reads' HO222.out).2.1); rintro e w' ⟨rfl, ⟨nd, rfl⟩⟩))
                   refine cutMeet hJ_ ?_ (by kernel_rfl)
                   exact ⟨_, ((t230 != (decide (a1 > 0)))), (by first | rfl | (simp; done) | (simp [*]; done)), H', ⟨by have := HJ15.out; have := HJ38.out; first | omega | exact Nat.le_refl _⟩, ⟨by (with_reducible repeat (first | apply Kd.R_alloc | apply Kd.R_drewN | apply Kd.R_drew)); exact Kd.R_mono HO218.out (fun _ hk => trivial)⟩, ⟨by repeat (first | (with_reducible first | exact HB.out | apply below_alloc | apply pw_below_drewN | apply below_drew1))⟩⟩
                  ·
                   replace c132 := Bool.eq_false_iff.mpr c132
                   subst c132
                   have H1 : (laws_FnSquareFreeOfAll.j7 kj38 a1 t215 false t223 t224 t229 (t230 != false)) = some r := by rw [if_neg (show ¬ (false = true) by decide)] at H; exact H
                   clear H
                   have H := H1
                   clear H1
                   have H' := Aside0.mk H
                   clear H
                   obtain ⟨Ao135, co135, eo135⟩ := Kd.R_slice HO218.out
                   subst eo135
                   obtain ⟨Ao136, co136, eo136⟩ := Kd.R_slice HO222.out
                   subst eo136
                   go_wp2_with (first | (go_at_call 55; (with_reducible refine (laws_tSame.calls kj38 _ _ t215 _ _ t219 true _ ?side1 ?side2 ?side3 ?side4 A114.out).mono ?_); (case side1 => repeat (first | exact (Kd.R_reads' HO218.out).2.2 | (with_reducible refine Kd.C_alloc ?_ _) | (with_reducible refine Kd.C_drewN ?_ _) | (with_reducible refine Kd.C_drew ?_))); (case side2 => exact (Kd.R_reads' HO218.out).2.1); (case side3 => repeat (first | exact (Kd.R_reads' HO222.out).2.2 | (with_reducible refine Kd.C_alloc ?_ _) | (with_reducible refine Kd.C_drewN ?_ _) | (with_reducible refine Kd.C_drew ?_))); (case side4 => exact (Kd.R_reads' HO222.out).2.1); rintro e w' ⟨rfl, ⟨nd, rfl⟩⟩))
                   refine cutMeet hJ_ ?_ (by kernel_rfl)
                   exact ⟨_, ((t230 != false)), (by first | rfl | (simp; done) | (simp [*]; done)), H', ⟨by have := HJ15.out; have := HJ38.out; first | omega | exact Nat.le_refl _⟩, ⟨by (with_reducible repeat (first | apply Kd.R_alloc | apply Kd.R_drewN | apply Kd.R_drew)); exact Kd.R_mono HO218.out (fun _ hk => trivial)⟩, ⟨by repeat (first | (with_reducible first | exact HB.out | apply below_alloc | apply pw_below_drewN | apply below_drew1))⟩⟩
                ·
                 rw [if_neg c128] at H
                 exact (laws_FnSquareFreeOfAll.j7_no _ _ _ _ _ _ _ (H.trans (congrArg some HRT.out))).elim
              ·
               rw [if_neg c124] at H
               exact (laws_FnSquareFreeOfAll.j7_no _ _ _ _ _ _ _ (H.trans (congrArg some HRT.out))).elim
            ·
             rw [if_neg c120] at H
             exact (laws_FnSquareFreeOfAll.j7_no _ _ _ _ _ _ _ (H.trans (congrArg some HRT.out))).elim
           ·
            rw [if_neg c119] at H
            exact (laws_FnSquareFreeOfAll.j7_no _ _ _ _ _ _ _ (H.trans (congrArg some HRT.out))).elim
         ·
          replace c115 := Bool.eq_false_iff.mpr c115
          subst c115
          have H1 : (laws_FnSquareFreeOfAll.j7 kj38 a1 t215 t216 t223 t224 t229 true) = some r := by rw [if_neg (show ¬ (false = true) by decide)] at H; exact H
          clear H
          have H := H1
          clear H1
          exact (laws_FnSquareFreeOfAll.j7_no _ _ _ _ _ _ _ (H.trans (congrArg some HRT.out))).elim
      ·
       intro u_ wc hcut
       clear HC107
       obtain ⟨kq, x451_106, e_451, HA, HJ106, HO_44, HB⟩ := hcut
       dsimp only [cutFgt, mk0]
       rw [e_451]
       cases kq with
       | zero => exact absurd HA.out (by simp [laws_FnSquareFreeOfAll.j7])
       | succ kj106 =>
        have H := HA.out
        clear HA
        simp only [laws_FnSquareFreeOfAll.j7] at H
        by_cases c147 : x451_106 = true
        ·
         subst c147
         have H1 : (some false) = some r := by rw [if_pos rfl] at H; exact H
         clear H
         have H := H1
         clear H1
         first
         | exact absurd (Option.some.inj (H.trans (congrArg some HRT.out))) Bool.false_ne_true
         |
          obtain rfl := Option.some.inj H
          go_wp2
          go_ret
          exact ⟨by first | rfl | (simp [errW_none, errW_some] <;> rfl) | (simp [*, errW_none, errW_some] <;> rfl), by repeat (first | (with_reducible first | exact HB.out | apply below_alloc | apply pw_below_drewN | apply below_drew1))⟩
        ·
         replace c147 := Bool.eq_false_iff.mpr c147
         subst c147
         have H1 : (if t216 = true then ((laws_tRises.f kj106 t215 1 a1).bind fun t238 => (if t238 = true then (if t223 > 0 then (if t224 < 1 then (laws_FnSquareFreeOfAll.j8 kj106 a1 t215 t223 t224 t229 true) else (laws_FnSquareFreeOfAll.j8 kj106 a1 t215 t223 t224 t229 (decide ((wrap64 ((wrap64 (t224 + t223)) - 1)) > a1)))) else (laws_FnSquareFreeOfAll.j8 kj106 a1 t215 t223 t224 t229 false)) else (laws_FnSquareFreeOfAll.j8 kj106 a1 t215 t223 t224 t229 true))) else (some true)) = some r := by rw [if_neg (show ¬ (false = true) by decide)] at H; exact H
         clear H
         have H := H1
         clear H1
         by_cases c148 : t216 = true
         ·
          subst c148
          have H1 : ((laws_tRises.f kj106 t215 1 a1).bind fun t238 => (if t238 = true then (if t223 > 0 then (if t224 < 1 then (laws_FnSquareFreeOfAll.j8 kj106 a1 t215 t223 t224 t229 true) else (laws_FnSquareFreeOfAll.j8 kj106 a1 t215 t223 t224 t229 (decide ((wrap64 ((wrap64 (t224 + t223)) - 1)) > a1)))) else (laws_FnSquareFreeOfAll.j8 kj106 a1 t215 t223 t224 t229 false)) else (laws_FnSquareFreeOfAll.j8 kj106 a1 t215 t223 t224 t229 true))) = some r := by rw [if_pos rfl] at H; exact H
          clear H
          have H := H1
          clear H1
          have HC149 := Aside0.mk H
          clear H
          go_upto_region 46 with (fail)
          refine cutF mk0 [] (fun u_ wc => ∃ (kq : Nat) (x472_148 : Bool), (u_ 472) = .bool x472_148 ∧ Aside0 (laws_FnSquareFreeOfAll.j8 kq a1 t215 t223 t224 t229 x472_148 = some r) ∧ Aside0 (kq ≤ kj106) ∧ Aside0 (Kd.R (Kd.int .i64) 3 wc w.heap.size (fun _ => True) v217 t215) ∧ Aside0 (Below w.heap.size w wc)) ?_ ?_
          ·
           as_aux_lemma =>
            intro J_ K_ hJ_ hK_
            have H := HC149.out
            clear HC149
            replace H := Option.bind_eq_some_iff.mp H
            obtain ⟨t238, A1500, H⟩ := H
            replace H : (if t238 = true then (if t223 > 0 then (if t224 < 1 then (laws_FnSquareFreeOfAll.j8 kj106 a1 t215 t223 t224 t229 true) else (laws_FnSquareFreeOfAll.j8 kj106 a1 t215 t223 t224 t229 (decide ((wrap64 ((wrap64 (t224 + t223)) - 1)) > a1)))) else (laws_FnSquareFreeOfAll.j8 kj106 a1 t215 t223 t224 t229 false)) else (laws_FnSquareFreeOfAll.j8 kj106 a1 t215 t223 t224 t229 true)) = some r := H
            have A150 := Aside0.mk A1500
            clear A1500
            by_cases c151 : t238 = true
            ·
             subst c151
             have H1 : (if t223 > 0 then (if t224 < 1 then (laws_FnSquareFreeOfAll.j8 kj106 a1 t215 t223 t224 t229 true) else (laws_FnSquareFreeOfAll.j8 kj106 a1 t215 t223 t224 t229 (decide ((wrap64 ((wrap64 (t224 + t223)) - 1)) > a1)))) else (laws_FnSquareFreeOfAll.j8 kj106 a1 t215 t223 t224 t229 false)) = some r := by rw [if_pos rfl] at H; exact H
             clear H
             have H := H1
             clear H1
             by_cases c152 : t223 > 0
             ·
              rw [if_pos c152] at H
              have c152b0 : decide (0 < t223) = true := decide_eq_true c152
              clear c152
              (first | rw [c152b0] | (simp only [i64_w, i32_w]; rw [c152b0]) | skip)
              by_cases c153 : t224 < 1
              ·
               rw [if_pos c153] at H
               exact (laws_FnSquareFreeOfAll.j8_no _ _ _ _ _ _ (H.trans (congrArg some HRT.out))).elim
              ·
               rw [if_neg c153] at H
               have c153b0 : decide (t224 < 1) = false := decide_eq_false c153
               clear c153
               have H' := Aside0.mk H
               clear H
               obtain ⟨Ao155, co155, eo155⟩ := Kd.R_slice HO_44.out
               subst eo155
               go_wp2_with (first | ((with_reducible refine gate_callee (f := 56) rfl ?_); refine goesL_ (some 455) rfl rfl Try.func56 (by kernel_rfl) rfl #[.slice Ao155 t215.length co155, .int .i64 1, .int .i64 a1] rfl (by (try simp only [List.map_toArray, List.map_cons, List.map_nil]); first | done | rfl | (simp only [List.length_drop, List.length_take]; rfl)) ?_; (with_reducible refine (laws_tRises.calls kj106 _ _ t215 1 a1 true _ ?side1 ?side2 A150.out).mono ?_); (case side1 => repeat (first | exact (Kd.R_reads' HO_44.out).2.2 | (with_reducible refine Kd.C_alloc ?_ _) | (with_reducible refine Kd.C_drewN ?_ _) | (with_reducible refine Kd.C_drew ?_))); (case side2 => exact (Kd.R_reads' HO_44.out).2.1); rintro e w' ⟨rfl, ⟨nd, rfl⟩⟩; refine ⟨_, rfl, ?_⟩))
               refine cutMeet hJ_ ?_ (by kernel_rfl)
               exact ⟨_, (decide ((wrap64 ((wrap64 (t224 + t223)) - 1)) > a1)), (by first | rfl | (simp; done) | (simp [*]; done)), H', ⟨by have := HJ15.out; have := HJ38.out; have := HJ106.out; first | omega | exact Nat.le_refl _⟩, ⟨by (with_reducible repeat (first | apply Kd.R_alloc | apply Kd.R_drewN | apply Kd.R_drew)); exact HO_44.out⟩, ⟨by repeat (first | (with_reducible first | exact HB.out | apply below_alloc | apply pw_below_drewN | apply below_drew1))⟩⟩
             ·
              rw [if_neg c152] at H
              have c152b0 : decide (0 < t223) = false := decide_eq_false c152
              clear c152
              (first | rw [c152b0] | (simp only [i64_w, i32_w]; rw [c152b0]) | skip)
              have H' := Aside0.mk H
              clear H
              obtain ⟨Ao156, co156, eo156⟩ := Kd.R_slice HO_44.out
              subst eo156
              go_wp2_with (first | ((with_reducible refine gate_callee (f := 56) rfl ?_); refine goesL_ (some 455) rfl rfl Try.func56 (by kernel_rfl) rfl #[.slice Ao156 t215.length co156, .int .i64 1, .int .i64 a1] rfl (by (try simp only [List.map_toArray, List.map_cons, List.map_nil]); first | done | rfl | (simp only [List.length_drop, List.length_take]; rfl)) ?_; (with_reducible refine (laws_tRises.calls kj106 _ _ t215 1 a1 true _ ?side1 ?side2 A150.out).mono ?_); (case side1 => repeat (first | exact (Kd.R_reads' HO_44.out).2.2 | (with_reducible refine Kd.C_alloc ?_ _) | (with_reducible refine Kd.C_drewN ?_ _) | (with_reducible refine Kd.C_drew ?_))); (case side2 => exact (Kd.R_reads' HO_44.out).2.1); rintro e w' ⟨rfl, ⟨nd, rfl⟩⟩; refine ⟨_, rfl, ?_⟩))
              refine cutMeet hJ_ ?_ (by kernel_rfl)
              exact ⟨_, (false), (by first | rfl | (simp; done) | (simp [*]; done)), H', ⟨by have := HJ15.out; have := HJ38.out; have := HJ106.out; first | omega | exact Nat.le_refl _⟩, ⟨by (with_reducible repeat (first | apply Kd.R_alloc | apply Kd.R_drewN | apply Kd.R_drew)); exact HO_44.out⟩, ⟨by repeat (first | (with_reducible first | exact HB.out | apply below_alloc | apply pw_below_drewN | apply below_drew1))⟩⟩
            ·
             replace c151 := Bool.eq_false_iff.mpr c151
             subst c151
             have H1 : (laws_FnSquareFreeOfAll.j8 kj106 a1 t215 t223 t224 t229 true) = some r := by rw [if_neg (show ¬ (false = true) by decide)] at H; exact H
             clear H
             have H := H1
             clear H1
             exact (laws_FnSquareFreeOfAll.j8_no _ _ _ _ _ _ (H.trans (congrArg some HRT.out))).elim
          ·
           intro u_ wc hcut
           clear HC149
           obtain ⟨kq, x472_148, e_472, HA, HJ148, HO_44, HB⟩ := hcut
           dsimp only [cutFgt, mk0]
           rw [e_472]
           cases kq with
           | zero => exact absurd HA.out (by simp [laws_FnSquareFreeOfAll.j8])
           | succ kj148 =>
            have H := HA.out
            clear HA
            simp only [laws_FnSquareFreeOfAll.j8] at H
            by_cases c158 : x472_148 = true
            ·
             subst c158
             have H1 : (some false) = some r := by rw [if_pos rfl] at H; exact H
             clear H
             have H := H1
             clear H1
             first
             | exact absurd (Option.some.inj (H.trans (congrArg some HRT.out))) Bool.false_ne_true
             |
              obtain rfl := Option.some.inj H
              go_wp2
              go_ret
              exact ⟨by first | rfl | (simp [errW_none, errW_some] <;> rfl) | (simp [*, errW_none, errW_some] <;> rfl), by repeat (first | (with_reducible first | exact HB.out | apply below_alloc | apply pw_below_drewN | apply below_drew1))⟩
            ·
             replace c158 := Bool.eq_false_iff.mpr c158
             subst c158
             have H1 : (laws_FnSquareFreeOfAll.l1 kj148 a1 t215 t223 t224 t229 0) = some r := by rw [if_neg (show ¬ (false = true) by decide)] at H; exact H
             clear H
             have H := H1
             clear H1
             have H' := Aside0.mk H
             clear H
             go_wp2
             go_loopg [62] kj148 (fun kq v62 w' => ∃ (x62_5 : Int), v62 = .int .i64 x62_5 ∧ Aside0 (laws_FnSquareFreeOfAll.l1 kq a1 t215 t223 t224 t229 x62_5 = some r) ∧ Aside0 (kq ≤ kj148) ∧ Aside0 (Kd.R (Kd.int .i64) 3 w' w.heap.size (fun _ => True) v217 t215) ∧ Aside0 (Below w.heap.size w w'))
             case atStart => exact ⟨(0), (by first | rfl | (simp; done) | (simp [*]; done)), H', ⟨Nat.le_refl _⟩, ⟨by (with_reducible repeat (first | apply Kd.R_alloc | apply Kd.R_drewN | apply Kd.R_drew)); exact HO_44.out⟩, ⟨by repeat (first | (with_reducible first | exact HB.out | apply below_alloc | apply pw_below_drewN | apply below_drew1))⟩⟩
             case round =>
              clear H'
              obtain ⟨x62_5, rfl, HA, HK5, HO_44, HB⟩ := hrel
              cases gk with
              | zero => exact absurd HA.out (by simp [laws_FnSquareFreeOfAll.l1])
              | succ k5 =>
               have H := HA.out
               clear HA
               simp only [laws_FnSquareFreeOfAll.l1] at H
               by_cases c159 : x62_5 < t223
               ·
                rw [if_pos c159] at H
                have c159b0 : decide (x62_5 < t223) = true := decide_eq_true c159
                clear c159
                replace H := Option.bind_eq_some_iff.mp H
                obtain ⟨t239, A1600, H⟩ := H
                replace H : (if t239 = true then (some false) else (laws_FnSquareFreeOfAll.l1 k5 a1 t215 t223 t224 t229 (wrap64 (x62_5 + 1)))) = some r := H
                have A160 := Aside0.mk A1600
                clear A1600
                by_cases c161 : t239 = true
                ·
                 subst c161
                 have H1 : (some false) = some r := by rw [if_pos rfl] at H; exact H
                 clear H
                 have H := H1
                 clear H1
                 first
                 | exact absurd (Option.some.inj (H.trans (congrArg some HRT.out))) Bool.false_ne_true
                 |
                  obtain rfl := Option.some.inj H
                  obtain ⟨Ao162, co162, eo162⟩ := Kd.R_slice HO_44.out
                  subst eo162
                  go_wp2_with (first | ((with_reducible refine gate_callee (f := 57) rfl ?_); refine goesL_ (some 482) rfl rfl Try.func57 (by kernel_rfl) rfl #[.slice Ao162 t215.length co162, .int .i64 (wrap64 (t224 + x62_5))] rfl (by (try simp only [List.map_toArray, List.map_cons, List.map_nil]); first | done | rfl | (simp only [List.length_drop, List.length_take]; rfl)) ?_; (with_reducible refine (laws_tHas.calls k5 _ _ t215 (wrap64 (t224 + x62_5)) true _ ?side1 ?side2 A160.out).mono ?_); (case side1 => repeat (first | exact (Kd.R_reads' HO_44.out).2.2 | (with_reducible refine Kd.C_alloc ?_ _) | (with_reducible refine Kd.C_drewN ?_ _) | (with_reducible refine Kd.C_drew ?_))); (case side2 => exact (Kd.R_reads' HO_44.out).2.1); rintro e w' ⟨rfl, ⟨nd, rfl⟩⟩; refine ⟨_, rfl, ?_⟩))
                  go_ret
                  exact ⟨by first | rfl | (simp [errW_none, errW_some] <;> rfl) | (simp [*, errW_none, errW_some] <;> rfl), by repeat (first | (with_reducible first | exact HB.out | apply below_alloc | apply pw_below_drewN | apply below_drew1))⟩
                ·
                 replace c161 := Bool.eq_false_iff.mpr c161
                 subst c161
                 have H1 : (laws_FnSquareFreeOfAll.l1 k5 a1 t215 t223 t224 t229 (wrap64 (x62_5 + 1))) = some r := by rw [if_neg (show ¬ (false = true) by decide)] at H; exact H
                 clear H
                 have H := H1
                 clear H1
                 have H' := Aside0.mk H
                 clear H
                 obtain ⟨Ao163, co163, eo163⟩ := Kd.R_slice HO_44.out
                 subst eo163
                 go_wp2_with (first | ((with_reducible refine gate_callee (f := 57) rfl ?_); refine goesL_ (some 482) rfl rfl Try.func57 (by kernel_rfl) rfl #[.slice Ao163 t215.length co163, .int .i64 (wrap64 (t224 + x62_5))] rfl (by (try simp only [List.map_toArray, List.map_cons, List.map_nil]); first | done | rfl | (simp only [List.length_drop, List.length_take]; rfl)) ?_; (with_reducible refine (laws_tHas.calls k5 _ _ t215 (wrap64 (t224 + x62_5)) false _ ?side1 ?side2 A160.out).mono ?_); (case side1 => repeat (first | exact (Kd.R_reads' HO_44.out).2.2 | (with_reducible refine Kd.C_alloc ?_ _) | (with_reducible refine Kd.C_drewN ?_ _) | (with_reducible refine Kd.C_drew ?_))); (case side2 => exact (Kd.R_reads' HO_44.out).2.1); rintro e w' ⟨rfl, ⟨nd, rfl⟩⟩; refine ⟨_, rfl, ?_⟩))
                 go_roundg k5
                 case measure => have := HJ15.out; have := HJ38.out; have := HJ106.out; have := HJ148.out; have := HK5.out; omega
                 case rel => exact ⟨(wrap64 (x62_5 + 1)), (by first | rfl | (simp; done) | (simp [*]; done)), H', ⟨by have := HJ15.out; have := HJ38.out; have := HJ106.out; have := HJ148.out; have := HK5.out; omega⟩, ⟨by (with_reducible repeat (first | apply Kd.R_alloc | apply Kd.R_drewN | apply Kd.R_drew)); exact HO_44.out⟩, ⟨by repeat (first | (with_reducible first | exact HB.out | apply below_alloc | apply pw_below_drewN | apply below_drew1))⟩⟩
               ·
                rw [if_neg c159] at H
                have c159b0 : decide (x62_5 < t223) = false := decide_eq_false c159
                clear c159
                have HC164 := Aside0.mk H
                clear H
                go_upto_if 484 with (fail)
                refine cutF mk0 [none, none, none, none, none, none, some 6, none, none, none, none, none, none, none, none, none, none, none, none, none, none, none, none, none, none, none, none, none, none, none, none, none, none, none, none, none, none, none, none, none, none, none, none, none, none, none, none, none, none, none, none, none, none, none, none, none, none, none, none, none, none, none, none, some 63, some 64] (fun u_ wc => ∃ (kq : Nat), Aside0 (laws_FnSquareFreeOfAll.j10 kq t215 = some r) ∧ Aside0 (kq ≤ k5) ∧ Aside0 (Kd.R (Kd.int .i64) 3 wc w.heap.size (fun _ => True) v217 t215) ∧ Aside0 (Below w.heap.size w wc)) ?_ ?_
                ·
                 as_aux_lemma =>
                  intro J_ K_ hJ_ hK_
                  have H := HC164.out
                  clear HC164
                  by_cases c165 : a1 > 0
                  ·
                   rw [if_pos c165] at H
                   have c165b0 : decide (0 < a1) = true := decide_eq_true c165
                   clear c165
                   (first | rw [c165b0] | (simp only [i64_w, i32_w]; rw [c165b0]) | skip)
                   replace H := Option.bind_eq_some_iff.mp H
                   obtain ⟨⟨t240, t241⟩, A1660, H⟩ := H
                   replace H : (if t241 = true then (if t240 = (t215.length : Int) then (if t229 > (t215.length : Int) then (some false) else (if (wrap64 (-t229)) > (t215.length : Int) then (some false) else (if (Int.tmod (wrap64 ((t215.length : Int) - t229)) 2) = 0 then (laws_FnSquareFreeOfAll.j10 k5 t215) else (some false)))) else (some false)) else (some false)) = some r := H
                   have A166 := Aside0.mk A1660
                   clear A1660
                   by_cases c167 : t241 = true
                   ·
                    subst c167
                    have H1 : (if t240 = (t215.length : Int) then (if t229 > (t215.length : Int) then (some false) else (if (wrap64 (-t229)) > (t215.length : Int) then (some false) else (if (Int.tmod (wrap64 ((t215.length : Int) - t229)) 2) = 0 then (laws_FnSquareFreeOfAll.j10 k5 t215) else (some false)))) else (some false)) = some r := by rw [if_pos rfl] at H; exact H
                    clear H
                    have H := H1
                    clear H1
                    by_cases c168 : t240 = (t215.length : Int)
                    ·
                     rw [if_pos c168] at H
                     have c168b0 : (t240 == (t215.length : Int)) = true := beq_iff_eq.mpr c168
                     have c168b1 : (t240 != (t215.length : Int)) = false := bne_eq_false_iff_eq.mpr c168
                     clear c168
                     by_cases c169 : t229 > (t215.length : Int)
                     ·
                      rw [if_pos c169] at H
                      have c169b0 : decide ((t215.length : Int) < t229) = true := decide_eq_true c169
                      clear c169
                      first
                      | exact absurd (Option.some.inj (H.trans (congrArg some HRT.out))) Bool.false_ne_true
                      |
                       obtain rfl := Option.some.inj H
                       go_wp2_with (first | ((with_reducible refine gate_callee (f := 18) rfl ?_); refine goesL_ (some 487) rfl rfl Try.func18 (by kernel_rfl) rfl #[.int .i64 a1] rfl (by (try simp only [List.map_toArray, List.map_cons, List.map_nil]); first | done | rfl | (simp only [List.length_drop, List.length_take]; rfl)) ?_; (with_reducible refine (impl_CountSquareFree.calls k5 a1 t240 true _ A166.out).mono ?_); rintro e w170 ⟨rfl, hb⟩; refine ⟨_, rfl, ?_⟩; have n0_ := Aside0.mk (Kd.R_below (by (with_reducible repeat (first | apply Kd.R_alloc | apply Kd.R_drewN | apply Kd.R_drew)); exact HO_44.out) hb); have n1_ := Aside0.mk (below_step (by repeat (first | (with_reducible first | exact HB.out | apply below_alloc | apply pw_below_drewN | apply below_drew1))) hb); clear HO_44; clear HB; have HO_44 := n0_; have HB := n1_; clear n0_ n1_; (try clear hb); obtain ⟨Ao171, co171, eo171⟩ := Kd.R_slice HO_44.out; subst eo171))
                       go_ret
                       exact ⟨by first | rfl | (simp [errW_none, errW_some] <;> rfl) | (simp [*, errW_none, errW_some] <;> rfl), by repeat (first | (with_reducible first | exact HB.out | apply below_alloc | apply pw_below_drewN | apply below_drew1))⟩
                     ·
                      rw [if_neg c169] at H
                      have c169b0 : decide ((t215.length : Int) < t229) = false := decide_eq_false c169
                      clear c169
                      by_cases c172 : (wrap64 (-t229)) > (t215.length : Int)
                      ·
                       rw [if_pos c172] at H
                       have c172b0 : decide ((t215.length : Int) < (wrap64 (-t229))) = true := decide_eq_true c172
                       clear c172
                       first
                       | exact absurd (Option.some.inj (H.trans (congrArg some HRT.out))) Bool.false_ne_true
                       |
                        obtain rfl := Option.some.inj H
                        go_wp2_with (first | ((with_reducible refine gate_callee (f := 18) rfl ?_); refine goesL_ (some 487) rfl rfl Try.func18 (by kernel_rfl) rfl #[.int .i64 a1] rfl (by (try simp only [List.map_toArray, List.map_cons, List.map_nil]); first | done | rfl | (simp only [List.length_drop, List.length_take]; rfl)) ?_; (with_reducible refine (impl_CountSquareFree.calls k5 a1 t240 true _ A166.out).mono ?_); rintro e w173 ⟨rfl, hb⟩; refine ⟨_, rfl, ?_⟩; have n0_ := Aside0.mk (Kd.R_below (by (with_reducible repeat (first | apply Kd.R_alloc | apply Kd.R_drewN | apply Kd.R_drew)); exact HO_44.out) hb); have n1_ := Aside0.mk (below_step (by repeat (first | (with_reducible first | exact HB.out | apply below_alloc | apply pw_below_drewN | apply below_drew1))) hb); clear HO_44; clear HB; have HO_44 := n0_; have HB := n1_; clear n0_ n1_; (try clear hb); obtain ⟨Ao174, co174, eo174⟩ := Kd.R_slice HO_44.out; subst eo174))
                        go_ret
                        exact ⟨by first | rfl | (simp [errW_none, errW_some] <;> rfl) | (simp [*, errW_none, errW_some] <;> rfl), by repeat (first | (with_reducible first | exact HB.out | apply below_alloc | apply pw_below_drewN | apply below_drew1))⟩
                      ·
                       rw [if_neg c172] at H
                       have c172b0 : decide ((t215.length : Int) < (wrap64 (-t229))) = false := decide_eq_false c172
                       clear c172
                       by_cases c175 : (Int.tmod (wrap64 ((t215.length : Int) - t229)) 2) = 0
                       ·
                        rw [if_pos c175] at H
                        have c175b0 : ((Int.tmod (wrap64 ((t215.length : Int) - t229)) 2) == 0) = true := beq_iff_eq.mpr c175
                        have c175b1 : ((Int.tmod (wrap64 ((t215.length : Int) - t229)) 2) != 0) = false := bne_eq_false_iff_eq.mpr c175
                        clear c175
                        have H' := Aside0.mk H
                        clear H
                        go_wp2_with (first | ((with_reducible refine gate_callee (f := 18) rfl ?_); refine goesL_ (some 487) rfl rfl Try.func18 (by kernel_rfl) rfl #[.int .i64 a1] rfl (by (try simp only [List.map_toArray, List.map_cons, List.map_nil]); first | done | rfl | (simp only [List.length_drop, List.length_take]; rfl)) ?_; (with_reducible refine (impl_CountSquareFree.calls k5 a1 t240 true _ A166.out).mono ?_); rintro e w176 ⟨rfl, hb⟩; refine ⟨_, rfl, ?_⟩; have n0_ := Aside0.mk (Kd.R_below (by (with_reducible repeat (first | apply Kd.R_alloc | apply Kd.R_drewN | apply Kd.R_drew)); exact HO_44.out) hb); have n1_ := Aside0.mk (below_step (by repeat (first | (with_reducible first | exact HB.out | apply below_alloc | apply pw_below_drewN | apply below_drew1))) hb); clear HO_44; clear HB; have HO_44 := n0_; have HB := n1_; clear n0_ n1_; (try clear hb); obtain ⟨Ao177, co177, eo177⟩ := Kd.R_slice HO_44.out; subst eo177))
                        refine cutMeet hJ_ ?_ (by kernel_rfl)
                        exact ⟨_, H', ⟨by have := HJ15.out; have := HJ38.out; have := HJ106.out; have := HJ148.out; have := HK5.out; first | omega | exact Nat.le_refl _⟩, ⟨by (with_reducible repeat (first | apply Kd.R_alloc | apply Kd.R_drewN | apply Kd.R_drew)); exact HO_44.out⟩, ⟨by repeat (first | (with_reducible first | exact HB.out | apply below_alloc | apply pw_below_drewN | apply below_drew1))⟩⟩
                       ·
                        rw [if_neg c175] at H
                        have c175b0 : ((Int.tmod (wrap64 ((t215.length : Int) - t229)) 2) == 0) = false := beq_eq_false_iff_ne.mpr c175
                        have c175b1 : ((Int.tmod (wrap64 ((t215.length : Int) - t229)) 2) != 0) = true := bne_iff_ne.mpr c175
                        first
                        | exact absurd (Option.some.inj (H.trans (congrArg some HRT.out))) Bool.false_ne_true
                        |
                         obtain rfl := Option.some.inj H
                         go_wp2_with (first | ((with_reducible refine gate_callee (f := 18) rfl ?_); refine goesL_ (some 487) rfl rfl Try.func18 (by kernel_rfl) rfl #[.int .i64 a1] rfl (by (try simp only [List.map_toArray, List.map_cons, List.map_nil]); first | done | rfl | (simp only [List.length_drop, List.length_take]; rfl)) ?_; (with_reducible refine (impl_CountSquareFree.calls k5 a1 t240 true _ A166.out).mono ?_); rintro e w178 ⟨rfl, hb⟩; refine ⟨_, rfl, ?_⟩; have n0_ := Aside0.mk (Kd.R_below (by (with_reducible repeat (first | apply Kd.R_alloc | apply Kd.R_drewN | apply Kd.R_drew)); exact HO_44.out) hb); have n1_ := Aside0.mk (below_step (by repeat (first | (with_reducible first | exact HB.out | apply below_alloc | apply pw_below_drewN | apply below_drew1))) hb); clear HO_44; clear HB; have HO_44 := n0_; have HB := n1_; clear n0_ n1_; (try clear hb); obtain ⟨Ao179, co179, eo179⟩ := Kd.R_slice HO_44.out; subst eo179))
                         go_ret
                         exact ⟨by first | rfl | (simp [errW_none, errW_some] <;> rfl) | (simp [*, errW_none, errW_some] <;> rfl), by repeat (first | (with_reducible first | exact HB.out | apply below_alloc | apply pw_below_drewN | apply below_drew1))⟩
                    ·
                     rw [if_neg c168] at H
                     have c168b0 : (t240 == (t215.length : Int)) = false := beq_eq_false_iff_ne.mpr c168
                     have c168b1 : (t240 != (t215.length : Int)) = true := bne_iff_ne.mpr c168
                     first
                     | exact absurd (Option.some.inj (H.trans (congrArg some HRT.out))) Bool.false_ne_true
                     |
                      obtain rfl := Option.some.inj H
                      go_wp2_with (first | ((with_reducible refine gate_callee (f := 18) rfl ?_); refine goesL_ (some 487) rfl rfl Try.func18 (by kernel_rfl) rfl #[.int .i64 a1] rfl (by (try simp only [List.map_toArray, List.map_cons, List.map_nil]); first | done | rfl | (simp only [List.length_drop, List.length_take]; rfl)) ?_; (with_reducible refine (impl_CountSquareFree.calls k5 a1 t240 true _ A166.out).mono ?_); rintro e w180 ⟨rfl, hb⟩; refine ⟨_, rfl, ?_⟩; have n0_ := Aside0.mk (Kd.R_below (by (with_reducible repeat (first | apply Kd.R_alloc | apply Kd.R_drewN | apply Kd.R_drew)); exact HO_44.out) hb); have n1_ := Aside0.mk (below_step (by repeat (first | (with_reducible first | exact HB.out | apply below_alloc | apply pw_below_drewN | apply below_drew1))) hb); clear HO_44; clear HB; have HO_44 := n0_; have HB := n1_; clear n0_ n1_; (try clear hb); obtain ⟨Ao181, co181, eo181⟩ := Kd.R_slice HO_44.out; subst eo181))
                      go_ret
                      exact ⟨by first | rfl | (simp [errW_none, errW_some] <;> rfl) | (simp [*, errW_none, errW_some] <;> rfl), by repeat (first | (with_reducible first | exact HB.out | apply below_alloc | apply pw_below_drewN | apply below_drew1))⟩
                   ·
                    replace c167 := Bool.eq_false_iff.mpr c167
                    subst c167
                    have H1 : (some false) = some r := by rw [if_neg (show ¬ (false = true) by decide)] at H; exact H
                    clear H
                    have H := H1
                    clear H1
                    first
                    | exact absurd (Option.some.inj (H.trans (congrArg some HRT.out))) Bool.false_ne_true
                    |
                     obtain rfl := Option.some.inj H
                     go_wp2_with (first | ((with_reducible refine gate_callee (f := 18) rfl ?_); refine goesL_ (some 487) rfl rfl Try.func18 (by kernel_rfl) rfl #[.int .i64 a1] rfl (by (try simp only [List.map_toArray, List.map_cons, List.map_nil]); first | done | rfl | (simp only [List.length_drop, List.length_take]; rfl)) ?_; (with_reducible refine (impl_CountSquareFree.calls k5 a1 t240 false _ A166.out).mono ?_); rintro e w182 ⟨rfl, hb⟩; refine ⟨_, rfl, ?_⟩; have n0_ := Aside0.mk (Kd.R_below (by (with_reducible repeat (first | apply Kd.R_alloc | apply Kd.R_drewN | apply Kd.R_drew)); exact HO_44.out) hb); have n1_ := Aside0.mk (below_step (by repeat (first | (with_reducible first | exact HB.out | apply below_alloc | apply pw_below_drewN | apply below_drew1))) hb); clear HO_44; clear HB; have HO_44 := n0_; have HB := n1_; clear n0_ n1_; (try clear hb)))
                     go_ret
                     exact ⟨by first | rfl | (simp [errW_none, errW_some] <;> rfl) | (simp [*, errW_none, errW_some] <;> rfl), by repeat (first | (with_reducible first | exact HB.out | apply below_alloc | apply pw_below_drewN | apply below_drew1))⟩
                  ·
                   rw [if_neg c165] at H
                   have c165b0 : decide (0 < a1) = false := decide_eq_false c165
                   clear c165
                   (first | rw [c165b0] | (simp only [i64_w, i32_w]; rw [c165b0]) | skip)
                   have H' := Aside0.mk H
                   clear H
                   go_wp2
                   refine cutMeet hJ_ ?_ (by kernel_rfl)
                   exact ⟨_, H', ⟨by have := HJ15.out; have := HJ38.out; have := HJ106.out; have := HJ148.out; have := HK5.out; first | omega | exact Nat.le_refl _⟩, ⟨by (with_reducible repeat (first | apply Kd.R_alloc | apply Kd.R_drewN | apply Kd.R_drew)); exact HO_44.out⟩, ⟨by repeat (first | (with_reducible first | exact HB.out | apply below_alloc | apply pw_below_drewN | apply below_drew1))⟩⟩
                ·
                 intro u_ wc hcut
                 clear HC164
                 obtain ⟨kq, HA, HJ163, HO_44, HB⟩ := hcut
                 dsimp only [cutFgt, mk0]
                 cases kq with
                 | zero => exact absurd HA.out (by simp [laws_FnSquareFreeOfAll.j10])
                 | succ kj163 =>
                  have H := HA.out
                  clear HA
                  simp only [laws_FnSquareFreeOfAll.j10] at H
                  have H' := Aside0.mk H
                  clear H
                  obtain ⟨Ao183, co183, eo183⟩ := Kd.R_slice HO_44.out
                  subst eo183
                  go_wp2
                  go_loopg [521] kj163 (fun kq v521 w' => ∃ (x521_7 : Int), v521 = .int .i64 x521_7 ∧ Aside0 (laws_FnSquareFreeOfAll.l2 kq t215 (t215.length : Int) x521_7 = some r) ∧ Aside0 (kq ≤ kj163) ∧ Aside0 (Kd.R (Kd.int .i64) 3 w' w.heap.size (fun _ => True) (.slice Ao183 t215.length co183) t215) ∧ Aside0 (Below w.heap.size w w'))
                  case atStart => exact ⟨(0), (by first | rfl | (simp; done) | (simp [*]; done)), H', ⟨Nat.le_refl _⟩, ⟨by (with_reducible repeat (first | apply Kd.R_alloc | apply Kd.R_drewN | apply Kd.R_drew)); exact HO_44.out⟩, ⟨by repeat (first | (with_reducible first | exact HB.out | apply below_alloc | apply pw_below_drewN | apply below_drew1))⟩⟩
                  case round =>
                   clear H'
                   obtain ⟨x521_7, rfl, HA, HK7, HO_519, HB⟩ := hrel
                   cases gk with
                   | zero => exact absurd HA.out (by simp [laws_FnSquareFreeOfAll.l2])
                   | succ k7 =>
                    have H := HA.out
                    clear HA
                    simp only [laws_FnSquareFreeOfAll.l2] at H
                    by_cases c184 : x521_7 < (t215.length : Int)
                    ·
                     rw [if_pos c184] at H
                     have c184b0 : decide (x521_7 < (t215.length : Int)) = true := decide_eq_true c184
                     clear c184
                     by_cases c185 : 0 ≤ x521_7
                     ·
                      rw [if_pos c185] at H
                      have c185b0 : decide (0 ≤ x521_7) = true := decide_eq_true c185
                      clear c185
                      by_cases c186 : x521_7 < (t215.length : Int)
                      ·
                       rw [if_pos c186] at H
                       have c186b0 : decide (x521_7 < (t215.length : Int)) = true := decide_eq_true c186
                       clear c186
                       by_cases c187 : x521_7 > 300
                       ·
                        rw [if_pos c187] at H
                        have c187b0 : decide (300 < x521_7) = true := decide_eq_true c187
                        clear c187
                        first
                        | exact absurd (Option.some.inj (H.trans (congrArg some HRT.out))) Bool.false_ne_true
                        |
                         obtain rfl := Option.some.inj H
                         have p242 : 0 ≤ (x521_7 : Int) := of_decide_eq_true (by first | (with_reducible assumption) | assumption)
                         have q242 : x521_7 < (t215.length : Int) := of_decide_eq_true (by first | (with_reducible assumption) | assumption)
                         obtain ⟨ad242, e242, hx242_0⟩ := Kd.at_int (Kd.R_reads' HO_519.out).2.2 x521_7 p242 q242
                         cases e242
                         replace p242 := eq_true p242
                         replace q242 := eq_true q242
                         go_wp2
                         go_ret
                         exact ⟨by first | rfl | (simp [errW_none, errW_some] <;> rfl) | (simp [*, errW_none, errW_some] <;> rfl), by repeat (first | (with_reducible first | exact HB.out | apply below_alloc | apply pw_below_drewN | apply below_drew1))⟩
                       ·
                        rw [if_neg c187] at H
                        have c187b0 : decide (300 < x521_7) = false := decide_eq_false c187
                        clear c187
                        replace H := Option.bind_eq_some_iff.mp H
                        obtain ⟨⟨t243, t244⟩, A1880, H⟩ := H
                        replace H : (if t244 = true then (if t243 = (rd t215 x521_7) then (laws_FnSquareFreeOfAll.l2 k7 t215 (t215.length : Int) (wrap64 (x521_7 + 1))) else (some false)) else (some false)) = some r := H
                        have A188 := Aside0.mk A1880
                        clear A1880
                        by_cases c189 : t244 = true
                        ·
                         subst c189
                         have H1 : (if t243 = (rd t215 x521_7) then (laws_FnSquareFreeOfAll.l2 k7 t215 (t215.length : Int) (wrap64 (x521_7 + 1))) else (some false)) = some r := by rw [if_pos rfl] at H; exact H
                         clear H
                         have H := H1
                         clear H1
                         by_cases c190 : t243 = (rd t215 x521_7)
                         ·
                          rw [if_pos c190] at H
                          have c190b0 : (t243 == (rd t215 x521_7)) = true := beq_iff_eq.mpr c190
                          have c190b1 : (t243 != (rd t215 x521_7)) = false := bne_eq_false_iff_eq.mpr c190
                          clear c190
                          have H' := Aside0.mk H
                          clear H
                          have p242 : 0 ≤ (x521_7 : Int) := of_decide_eq_true (by first | (with_reducible assumption) | assumption)
                          have q242 : x521_7 < (t215.length : Int) := of_decide_eq_true (by first | (with_reducible assumption) | assumption)
                          obtain ⟨ad242, e242, hx242_0⟩ := Kd.at_int (Kd.R_reads' HO_519.out).2.2 x521_7 p242 q242
                          cases e242
                          replace p242 := eq_true p242
                          replace q242 := eq_true q242
                          go_wp2_with (first | ((with_reducible refine gate_callee (f := 53) rfl ?_); refine goesL_ (some 530) rfl rfl Try.func53 (by kernel_rfl) rfl #[.int .i64 x521_7] rfl (by (try simp only [List.map_toArray, List.map_cons, List.map_nil]); first | done | rfl | (simp only [List.length_drop, List.length_take]; rfl)) ?_; (with_reducible refine (impl_SquareFreeOfRank.calls k7 x521_7 t243 true _ A188.out).mono ?_); rintro e w191 ⟨rfl, hb⟩; refine ⟨_, rfl, ?_⟩; have n0_ := Aside0.mk (Kd.R_below (by (with_reducible repeat (first | apply Kd.R_alloc | apply Kd.R_drewN | apply Kd.R_drew)); exact HO_519.out) hb); have n1_ := Aside0.mk (below_step (by repeat (first | (with_reducible first | exact HB.out | apply below_alloc | apply pw_below_drewN | apply below_drew1))) hb); clear HO_519; clear HB; have HO_519 := n0_; have HB := n1_; clear n0_ n1_; (try clear hb)))
                          go_roundg k7
                          case measure => have := HJ15.out; have := HJ38.out; have := HJ106.out; have := HJ148.out; have := HK5.out; have := HJ163.out; have := HK7.out; omega
                          case rel => exact ⟨(wrap64 (x521_7 + 1)), (by first | rfl | (simp; done) | (simp [*]; done)), H', ⟨by have := HJ15.out; have := HJ38.out; have := HJ106.out; have := HJ148.out; have := HK5.out; have := HJ163.out; have := HK7.out; omega⟩, ⟨by (with_reducible repeat (first | apply Kd.R_alloc | apply Kd.R_drewN | apply Kd.R_drew)); exact HO_519.out⟩, ⟨by repeat (first | (with_reducible first | exact HB.out | apply below_alloc | apply pw_below_drewN | apply below_drew1))⟩⟩
                         ·
                          rw [if_neg c190] at H
                          have c190b0 : (t243 == (rd t215 x521_7)) = false := beq_eq_false_iff_ne.mpr c190
                          have c190b1 : (t243 != (rd t215 x521_7)) = true := bne_iff_ne.mpr c190
                          first
                          | exact absurd (Option.some.inj (H.trans (congrArg some HRT.out))) Bool.false_ne_true
                          |
                           obtain rfl := Option.some.inj H
                           have p242 : 0 ≤ (x521_7 : Int) := of_decide_eq_true (by first | (with_reducible assumption) | assumption)
                           have q242 : x521_7 < (t215.length : Int) := of_decide_eq_true (by first | (with_reducible assumption) | assumption)
                           obtain ⟨ad242, e242, hx242_0⟩ := Kd.at_int (Kd.R_reads' HO_519.out).2.2 x521_7 p242 q242
                           cases e242
                           replace p242 := eq_true p242
                           replace q242 := eq_true q242
                           go_wp2_with (first | ((with_reducible refine gate_callee (f := 53) rfl ?_); refine goesL_ (some 530) rfl rfl Try.func53 (by kernel_rfl) rfl #[.int .i64 x521_7] rfl (by (try simp only [List.map_toArray, List.map_cons, List.map_nil]); first | done | rfl | (simp only [List.length_drop, List.length_take]; rfl)) ?_; (with_reducible refine (impl_SquareFreeOfRank.calls k7 x521_7 t243 true _ A188.out).mono ?_); rintro e w192 ⟨rfl, hb⟩; refine ⟨_, rfl, ?_⟩; have n0_ := Aside0.mk (Kd.R_below (by (with_reducible repeat (first | apply Kd.R_alloc | apply Kd.R_drewN | apply Kd.R_drew)); exact HO_519.out) hb); have n1_ := Aside0.mk (below_step (by repeat (first | (with_reducible first | exact HB.out | apply below_alloc | apply pw_below_drewN | apply below_drew1))) hb); clear HO_519; clear HB; have HO_519 := n0_; have HB := n1_; clear n0_ n1_; (try clear hb)))
                           go_ret
                           exact ⟨by first | rfl | (simp [errW_none, errW_some] <;> rfl) | (simp [*, errW_none, errW_some] <;> rfl), by repeat (first | (with_reducible first | exact HB.out | apply below_alloc | apply pw_below_drewN | apply below_drew1))⟩
                        ·
                         replace c189 := Bool.eq_false_iff.mpr c189
                         subst c189
                         have H1 : (some false) = some r := by rw [if_neg (show ¬ (false = true) by decide)] at H; exact H
                         clear H
                         have H := H1
                         clear H1
                         first
                         | exact absurd (Option.some.inj (H.trans (congrArg some HRT.out))) Bool.false_ne_true
                         |
                          obtain rfl := Option.some.inj H
                          have p242 : 0 ≤ (x521_7 : Int) := of_decide_eq_true (by first | (with_reducible assumption) | assumption)
                          have q242 : x521_7 < (t215.length : Int) := of_decide_eq_true (by first | (with_reducible assumption) | assumption)
                          obtain ⟨ad242, e242, hx242_0⟩ := Kd.at_int (Kd.R_reads' HO_519.out).2.2 x521_7 p242 q242
                          cases e242
                          replace p242 := eq_true p242
                          replace q242 := eq_true q242
                          go_wp2_with (first | ((with_reducible refine gate_callee (f := 53) rfl ?_); refine goesL_ (some 530) rfl rfl Try.func53 (by kernel_rfl) rfl #[.int .i64 x521_7] rfl (by (try simp only [List.map_toArray, List.map_cons, List.map_nil]); first | done | rfl | (simp only [List.length_drop, List.length_take]; rfl)) ?_; (with_reducible refine (impl_SquareFreeOfRank.calls k7 x521_7 t243 false _ A188.out).mono ?_); rintro e w193 ⟨rfl, hb⟩; refine ⟨_, rfl, ?_⟩; have n0_ := Aside0.mk (Kd.R_below (by (with_reducible repeat (first | apply Kd.R_alloc | apply Kd.R_drewN | apply Kd.R_drew)); exact HO_519.out) hb); have n1_ := Aside0.mk (below_step (by repeat (first | (with_reducible first | exact HB.out | apply below_alloc | apply pw_below_drewN | apply below_drew1))) hb); clear HO_519; clear HB; have HO_519 := n0_; have HB := n1_; clear n0_ n1_; (try clear hb)))
                          go_ret
                          exact ⟨by first | rfl | (simp [errW_none, errW_some] <;> rfl) | (simp [*, errW_none, errW_some] <;> rfl), by repeat (first | (with_reducible first | exact HB.out | apply below_alloc | apply pw_below_drewN | apply below_drew1))⟩
                      ·
                       rw [if_neg c186] at H
                       exact absurd H (by simp)
                     ·
                      rw [if_neg c185] at H
                      exact absurd H (by simp)
                    ·
                     rw [if_neg c184] at H
                     have c184b0 : decide (x521_7 < (t215.length : Int)) = false := decide_eq_false c184
                     clear c184
                     first
                     | exact absurd (Option.some.inj (H.trans (congrArg some HRT.out))) Bool.false_ne_true
                     |
                      obtain rfl := Option.some.inj H
                      go_wp2
                      go_ret
                      exact ⟨by first | rfl | (simp [errW_none, errW_some] <;> rfl) | (simp [*, errW_none, errW_some] <;> rfl), by repeat (first | (with_reducible first | exact HB.out | apply below_alloc | apply pw_below_drewN | apply below_drew1))⟩
         ·
          replace c148 := Bool.eq_false_iff.mpr c148
          subst c148
          have H1 : (some true) = some r := by rw [if_neg (show ¬ (false = true) by decide)] at H; exact H
          clear H
          have H := H1
          clear H1
          first
          | exact absurd (Option.some.inj (H.trans (congrArg some HRT.out))) Bool.false_ne_true
          |
           obtain rfl := Option.some.inj H
           go_wp2
           go_ret
           exact ⟨by first | rfl | (simp [errW_none, errW_some] <;> rfl) | (simp [*, errW_none, errW_some] <;> rfl), by repeat (first | (with_reducible first | exact HB.out | apply below_alloc | apply pw_below_drewN | apply below_drew1))⟩

/-- THE ONE PURE STATEMENT of laws_FnSquareFreeOfAll: yours. -/
def laws_FnSquareFreeOfAll.Pure : Prop := ∀ (a0 : Int) (a1 : Int) (a2 : Int), (Lit.int .i64 a0).wf = true → (Lit.int .i64 a1).wf = true → (Lit.int .i64 a2).wf = true → ∃ k, laws_FnSquareFreeOfAll.f k a0 a1 a2 = some true
theorem laws_FnSquareFreeOfAll.walk (P : laws_FnSquareFreeOfAll.Pure) (a0 : Int) (a1 : Int) (a2 : Int) (w : World) (w0 : (Lit.int .i64 a0).wf = true) (w1 : (Lit.int .i64 a1).wf = true) (w2 : (Lit.int .i64 a2).wf = true) :
  Calls Try.prog 12 #[.int .i64 a0, .int .i64 a1, .int .i64 a2] w fun e w' => e = .returned (.bool true) ∧ Below w.heap.size w w' := by
 obtain ⟨k, h⟩ := P a0 a1 a2 w0 w1 w2
 refine (laws_FnSquareFreeOfAll.calls k a0 a1 a2 true w h rfl).mono ?_
 rintro e w' ⟨rfl, hd⟩
 exact ⟨rfl, hd⟩

end Go.Proofs.Ytagnkhoonfbbdaa.PFnSquareFreeOfAll
