-- Written for this claim by a program of this session, out of the translation and given contracts.
import Derived.Test.YtdiaabpmefgppaaPFnNumbersOfKindsOfAllx0
import Derived.Test.YtdiaabpmefgppaaPFnNumbersOfKindsOfAllx2
import Derived.Test.YtdiaabpmefgppaaPFnNumbersOfKindsOfAllx3
import Derived.Test.YtdiaabpmefgppaaPFnNumbersOfKindsOfAllx4
import Derived.Test.YtdiaabpmefgppaaPFnNumbersOfKindsOfAllx5
namespace Go.Proofs.Ytdiaabpmefgppaa.PFnNumbersOfKindsOfAll
open Go.RowKit Go.Proofs.YtdiaabpmefgppaaW.PrintWords Go.Proofs.YtdiaabpmefgppaaW.PrintLast Go.Proofs.YtdiaabpmefgppaaW.PrintMore
attribute [local go_sem] max2_int min2_int max_two min_two max_three min_three max_four min_four   -- for this text's walks alone
set_option linter.unusedVariables false
set_option linter.unusedSimpArgs false

/-! ### laws_FnNumbersOfKindsOfAll: function 14 -/
mutual
def laws_FnNumbersOfKindsOfAll.j0 : Nat → Int → Int → List Int → Bool → List Int → Bool → Option (Bool)
  | 0, _, _, _, _, _, _ => none
  | k + 1, x0, x1, x5, x6, x9, x70 => if x70 = true then (some false) else (if x6 = true then (laws_FnNumbersOfKindsOfAll.l0 k x0 x1 x5 x9 0 1) else (laws_FnNumbersOfKindsOfAll.j3 k x1))
def laws_FnNumbersOfKindsOfAll.j3 : Nat → Int → Option (Bool)
  | 0, _ => none
  | k + 1, x1 => (impl_CoprimePairs.f k x1).bind fun bt234 => ((spec_CoprimePairs.f k x1).bind fun bt236 => (if (bt234.2 != bt236.2) = true then (laws_FnNumbersOfKindsOfAll.j4 k x1 bt234.1 bt234.2 true) else (laws_FnNumbersOfKindsOfAll.j4 k x1 bt234.1 bt234.2 (bt234.1 != bt236.1))))
def laws_FnNumbersOfKindsOfAll.j4 : Nat → Int → Int → Bool → Bool → Option (Bool)
  | 0, _, _, _, _ => none
  | k + 1, x1, x19, x20, x132 => if x132 = true then (some false) else (if x20 = true then (laws_FnNumbersOfKindsOfAll.j5 k x1 x19 (decide (x1 ≤ 60))) else (laws_FnNumbersOfKindsOfAll.j5 k x1 x19 false))
def laws_FnNumbersOfKindsOfAll.j5 : Nat → Int → Int → Bool → Option (Bool)
  | 0, _, _, _ => none
  | k + 1, x1, x19, x137 => if x137 = true then (laws_FnNumbersOfKindsOfAll.l1 k x1 x19 0 1) else (some true)
def laws_FnNumbersOfKindsOfAll.l1 : Nat → Int → Int → Int → Int → Option (Bool)
  | 0, _, _, _, _ => none
  | k + 1, x1, x19, x23, x24 => if x24 ≤ x1 then (laws_FnNumbersOfKindsOfAll.l2 k x1 x19 x23 x24 1) else (some (x23 == x19))
def laws_FnNumbersOfKindsOfAll.l2 : Nat → Int → Int → Int → Int → Int → Option (Bool)
  | 0, _, _, _, _, _ => none
  | k + 1, x1, x19, x23, x24, x25 => if x25 ≤ x1 then ((laws_gCommon.f k x24 x25).bind fun t238 => (if t238 = 1 then (laws_FnNumbersOfKindsOfAll.l2 k x1 x19 (wrap64 (x23 + 1)) x24 (wrap64 (x25 + 1))) else (laws_FnNumbersOfKindsOfAll.l2 k x1 x19 x23 x24 (wrap64 (x25 + 1))))) else (laws_FnNumbersOfKindsOfAll.l1 k x1 x19 x23 (wrap64 (x24 + 1)))
def laws_FnNumbersOfKindsOfAll.l0 : Nat → Int → Int → List Int → List Int → Int → Int → Option (Bool)
  | 0, _, _, _, _, _, _ => none
  | k + 1, x0, x1, x5, x9, x13, x14 => if x14 ≤ x0 then ((impl_SumStep.f k x14).bind fun bt228 => ((impl_CountDivisors.f k x14).bind fun bt230 => (if bt228.2 = true then ((laws_gHas.f k x5 x14).bind fun t232 => (if ((bt228.1 == x14) != t232) = true then (laws_FnNumbersOfKindsOfAll.j2 k x0 x1 x5 x9 x13 x14 bt230.1 true) else (if bt230.2 = true then ((laws_gHas.f k x9 x14).bind fun t233 => (laws_FnNumbersOfKindsOfAll.j2 k x0 x1 x5 x9 x13 x14 bt230.1 ((decide (bt230.1 > x13)) != t233))) else (laws_FnNumbersOfKindsOfAll.j2 k x0 x1 x5 x9 x13 x14 bt230.1 true)))) else (laws_FnNumbersOfKindsOfAll.j2 k x0 x1 x5 x9 x13 x14 bt230.1 true)))) else (laws_FnNumbersOfKindsOfAll.j3 k x1)
def laws_FnNumbersOfKindsOfAll.j2 : Nat → Int → Int → List Int → List Int → Int → Int → Int → Bool → Option (Bool)
  | 0, _, _, _, _, _, _, _, _ => none
  | k + 1, x0, x1, x5, x9, x13, x14, x17, x110 => if x110 = true then (some false) else (if x17 > x13 then (laws_FnNumbersOfKindsOfAll.l0 k x0 x1 x5 x9 x17 (wrap64 (x14 + 1))) else (laws_FnNumbersOfKindsOfAll.l0 k x0 x1 x5 x9 x13 (wrap64 (x14 + 1))))
end
def laws_FnNumbersOfKindsOfAll.f (k : Nat) (a0 : Int) (a1 : Int) : Option (Bool) := (impl_PerfectUpTo.f k a0).bind fun bt210 => ((spec_PerfectUpTo.f k a0).bind fun bt214 => ((impl_RecordsUpTo.f k a0).bind fun bt218 => ((spec_RecordsUpTo.f k a0).bind fun bt222 => (if (bt210.2 != bt214.2) = true then (laws_FnNumbersOfKindsOfAll.j0 k a0 a1 bt210.1 bt210.2 bt218.1 true) else ((laws_gSame.f k bt210.1 bt214.1).bind fun t226 => (if t226 = true then (if (bt218.2 != bt222.2) = true then (laws_FnNumbersOfKindsOfAll.j0 k a0 a1 bt210.1 bt210.2 bt218.1 true) else ((laws_gSame.f k bt218.1 bt222.1).bind fun t227 => (if t227 = true then (laws_FnNumbersOfKindsOfAll.j0 k a0 a1 bt210.1 bt210.2 bt218.1 (bt218.2 != bt210.2)) else (laws_FnNumbersOfKindsOfAll.j0 k a0 a1 bt210.1 bt210.2 bt218.1 true)))) else (laws_FnNumbersOfKindsOfAll.j0 k a0 a1 bt210.1 bt210.2 bt218.1 true)))))))
theorem laws_FnNumbersOfKindsOfAll.mono_l : ∀ k, (∀ y0 y1 y2 y3 y4 y5, LeO (laws_FnNumbersOfKindsOfAll.j0 k y0 y1 y2 y3 y4 y5) (laws_FnNumbersOfKindsOfAll.j0 (k + 1) y0 y1 y2 y3 y4 y5)) ∧ (∀ y0, LeO (laws_FnNumbersOfKindsOfAll.j3 k y0) (laws_FnNumbersOfKindsOfAll.j3 (k + 1) y0)) ∧ (∀ y0 y1 y2 y3, LeO (laws_FnNumbersOfKindsOfAll.j4 k y0 y1 y2 y3) (laws_FnNumbersOfKindsOfAll.j4 (k + 1) y0 y1 y2 y3)) ∧ (∀ y0 y1 y2, LeO (laws_FnNumbersOfKindsOfAll.j5 k y0 y1 y2) (laws_FnNumbersOfKindsOfAll.j5 (k + 1) y0 y1 y2)) ∧ (∀ y0 y1 y2 y3, LeO (laws_FnNumbersOfKindsOfAll.l1 k y0 y1 y2 y3) (laws_FnNumbersOfKindsOfAll.l1 (k + 1) y0 y1 y2 y3)) ∧ (∀ y0 y1 y2 y3 y4, LeO (laws_FnNumbersOfKindsOfAll.l2 k y0 y1 y2 y3 y4) (laws_FnNumbersOfKindsOfAll.l2 (k + 1) y0 y1 y2 y3 y4)) ∧ (∀ y0 y1 y2 y3 y4 y5, LeO (laws_FnNumbersOfKindsOfAll.l0 k y0 y1 y2 y3 y4 y5) (laws_FnNumbersOfKindsOfAll.l0 (k + 1) y0 y1 y2 y3 y4 y5)) ∧ (∀ y0 y1 y2 y3 y4 y5 y6 y7, LeO (laws_FnNumbersOfKindsOfAll.j2 k y0 y1 y2 y3 y4 y5 y6 y7) (laws_FnNumbersOfKindsOfAll.j2 (k + 1) y0 y1 y2 y3 y4 y5 y6 y7))
  | 0 => ⟨fun _ _ _ _ _ _ r h => by simp [laws_FnNumbersOfKindsOfAll.j0] at h, fun _ r h => by simp [laws_FnNumbersOfKindsOfAll.j3] at h, fun _ _ _ _ r h => by simp [laws_FnNumbersOfKindsOfAll.j4] at h, fun _ _ _ r h => by simp [laws_FnNumbersOfKindsOfAll.j5] at h, fun _ _ _ _ r h => by simp [laws_FnNumbersOfKindsOfAll.l1] at h, fun _ _ _ _ _ r h => by simp [laws_FnNumbersOfKindsOfAll.l2] at h, fun _ _ _ _ _ _ r h => by simp [laws_FnNumbersOfKindsOfAll.l0] at h, fun _ _ _ _ _ _ _ _ r h => by simp [laws_FnNumbersOfKindsOfAll.j2] at h⟩
  | k + 1 => by
    obtain ⟨ih0, ih1, ih2, ih3, ih4, ih5, ih6, ih7⟩ := laws_FnNumbersOfKindsOfAll.mono_l k
    refine ⟨?_, ?_, ?_, ?_, ?_, ?_, ?_, ?_⟩
    · intro y0 y1 y2 y3 y4 y5
      unfold laws_FnNumbersOfKindsOfAll.j0
      repeat' first
      | (with_reducible exact ih0 _ _ _ _ _ _)
      | (with_reducible exact ih1 _)
      | (with_reducible exact ih2 _ _ _ _)
      | (with_reducible exact ih3 _ _ _)
      | (with_reducible exact ih4 _ _ _ _)
      | (with_reducible exact ih5 _ _ _ _ _)
      | (with_reducible exact ih6 _ _ _ _ _ _)
      | (with_reducible exact ih7 _ _ _ _ _ _ _ _)
      | (with_reducible exact impl_CoprimePairs.mono _ _)
      | (with_reducible exact impl_CountDivisors.mono _ _)
      | (with_reducible exact impl_PerfectUpTo.mono _ _)
      | (with_reducible exact impl_RecordsUpTo.mono _ _)
      | (with_reducible exact impl_SumStep.mono _ _)
      | (with_reducible exact laws_gCommon.mono _ _ _)
      | (with_reducible exact laws_gHas.mono _ _ _)
      | (with_reducible exact laws_gSame.mono _ _ _)
      | (with_reducible exact spec_CoprimePairs.mono _ _)
      | (with_reducible exact spec_PerfectUpTo.mono _ _)
      | (with_reducible exact spec_RecordsUpTo.mono _ _)
      | (with_reducible exact LeO.refl _)
      | (with_reducible exact LeO.none _)
      | (with_reducible refine LeO.ite ?_ ?_)
      | (with_reducible refine LeO.bind ?_ (fun _ => ?_))
      | exact ih0 _ _ _ _ _ _
      | exact ih1 _
      | exact ih2 _ _ _ _
      | exact ih3 _ _ _
      | exact ih4 _ _ _ _
      | exact ih5 _ _ _ _ _
      | exact ih6 _ _ _ _ _ _
      | exact ih7 _ _ _ _ _ _ _ _
      | exact impl_CoprimePairs.mono _ _
      | exact impl_CountDivisors.mono _ _
      | exact impl_PerfectUpTo.mono _ _
      | exact impl_RecordsUpTo.mono _ _
      | exact impl_SumStep.mono _ _
      | exact laws_gCommon.mono _ _ _
      | exact laws_gHas.mono _ _ _
      | exact laws_gSame.mono _ _ _
      | exact spec_CoprimePairs.mono _ _
      | exact spec_PerfectUpTo.mono _ _
      | exact spec_RecordsUpTo.mono _ _
      | exact LeO.none _
      | refine LeO.ite ?_ ?_
      | refine LeO.bind ?_ (fun _ => ?_)
    · intro y0
      unfold laws_FnNumbersOfKindsOfAll.j3
      repeat' first
      | (with_reducible exact ih0 _ _ _ _ _ _)
      | (with_reducible exact ih1 _)
      | (with_reducible exact ih2 _ _ _ _)
      | (with_reducible exact ih3 _ _ _)
      | (with_reducible exact ih4 _ _ _ _)
      | (with_reducible exact ih5 _ _ _ _ _)
      | (with_reducible exact ih6 _ _ _ _ _ _)
      | (with_reducible exact ih7 _ _ _ _ _ _ _ _)
      | (with_reducible exact impl_CoprimePairs.mono _ _)
      | (with_reducible exact impl_CountDivisors.mono _ _)
      | (with_reducible exact impl_PerfectUpTo.mono _ _)
      | (with_reducible exact impl_RecordsUpTo.mono _ _)
      | (with_reducible exact impl_SumStep.mono _ _)
      | (with_reducible exact laws_gCommon.mono _ _ _)
      | (with_reducible exact laws_gHas.mono _ _ _)
      | (with_reducible exact laws_gSame.mono _ _ _)
      | (with_reducible exact spec_CoprimePairs.mono _ _)
      | (with_reducible exact spec_PerfectUpTo.mono _ _)
      | (with_reducible exact spec_RecordsUpTo.mono _ _)
      | (with_reducible exact LeO.refl _)
      | (with_reducible exact LeO.none _)
      | (with_reducible refine LeO.ite ?_ ?_)
      | (with_reducible refine LeO.bind ?_ (fun _ => ?_))
      | exact ih0 _ _ _ _ _ _
      | exact ih1 _
      | exact ih2 _ _ _ _
      | exact ih3 _ _ _
      | exact ih4 _ _ _ _
      | exact ih5 _ _ _ _ _
      | exact ih6 _ _ _ _ _ _
      | exact ih7 _ _ _ _ _ _ _ _
      | exact impl_CoprimePairs.mono _ _
      | exact impl_CountDivisors.mono _ _
      | exact impl_PerfectUpTo.mono _ _
      | exact impl_RecordsUpTo.mono _ _
      | exact impl_SumStep.mono _ _
      | exact laws_gCommon.mono _ _ _
      | exact laws_gHas.mono _ _ _
      | exact laws_gSame.mono _ _ _
      | exact spec_CoprimePairs.mono _ _
      | exact spec_PerfectUpTo.mono _ _
      | exact spec_RecordsUpTo.mono _ _
      | exact LeO.none _
      | refine LeO.ite ?_ ?_
      | refine LeO.bind ?_ (fun _ => ?_)
    · intro y0 y1 y2 y3
      unfold laws_FnNumbersOfKindsOfAll.j4
      repeat' first
      | (with_reducible exact ih0 _ _ _ _ _ _)
      | (with_reducible exact ih1 _)
      | (with_reducible exact ih2 _ _ _ _)
      | (with_reducible exact ih3 _ _ _)
      | (with_reducible exact ih4 _ _ _ _)
      | (with_reducible exact ih5 _ _ _ _ _)
      | (with_reducible exact ih6 _ _ _ _ _ _)
      | (with_reducible exact ih7 _ _ _ _ _ _ _ _)
      | (with_reducible exact impl_CoprimePairs.mono _ _)
      | (with_reducible exact impl_CountDivisors.mono _ _)
      | (with_reducible exact impl_PerfectUpTo.mono _ _)
      | (with_reducible exact impl_RecordsUpTo.mono _ _)
      | (with_reducible exact impl_SumStep.mono _ _)
      | (with_reducible exact laws_gCommon.mono _ _ _)
      | (with_reducible exact laws_gHas.mono _ _ _)
      | (with_reducible exact laws_gSame.mono _ _ _)
      | (with_reducible exact spec_CoprimePairs.mono _ _)
      | (with_reducible exact spec_PerfectUpTo.mono _ _)
      | (with_reducible exact spec_RecordsUpTo.mono _ _)
      | (with_reducible exact LeO.refl _)
      | (with_reducible exact LeO.none _)
      | (with_reducible refine LeO.ite ?_ ?_)
      | (with_reducible refine LeO.bind ?_ (fun _ => ?_))
      | exact ih0 _ _ _ _ _ _
      | exact ih1 _
      | exact ih2 _ _ _ _
      | exact ih3 _ _ _
      | exact ih4 _ _ _ _
      | exact ih5 _ _ _ _ _
      | exact ih6 _ _ _ _ _ _
      | exact ih7 _ _ _ _ _ _ _ _
      | exact impl_CoprimePairs.mono _ _
      | exact impl_CountDivisors.mono _ _
      | exact impl_PerfectUpTo.mono _ _
      | exact impl_RecordsUpTo.mono _ _
      | exact impl_SumStep.mono _ _
      | exact laws_gCommon.mono _ _ _
      | exact laws_gHas.mono _ _ _
      | exact laws_gSame.mono _ _ _
      | exact spec_CoprimePairs.mono _ _
      | exact spec_PerfectUpTo.mono _ _
      | exact spec_RecordsUpTo.mono _ _
      | exact LeO.none _
      | refine LeO.ite ?_ ?_
      | refine LeO.bind ?_ (fun _ => ?_)
    · intro y0 y1 y2
      unfold laws_FnNumbersOfKindsOfAll.j5
      repeat' first
      | (with_reducible exact ih0 _ _ _ _ _ _)
      | (with_reducible exact ih1 _)
      | (with_reducible exact ih2 _ _ _ _)
      | (with_reducible exact ih3 _ _ _)
      | (with_reducible exact ih4 _ _ _ _)
      | (with_reducible exact ih5 _ _ _ _ _)
      | (with_reducible exact ih6 _ _ _ _ _ _)
      | (with_reducible exact ih7 _ _ _ _ _ _ _ _)
      | (with_reducible exact impl_CoprimePairs.mono _ _)
      | (with_reducible exact impl_CountDivisors.mono _ _)
      | (with_reducible exact impl_PerfectUpTo.mono _ _)
      | (with_reducible exact impl_RecordsUpTo.mono _ _)
      | (with_reducible exact impl_SumStep.mono _ _)
      | (with_reducible exact laws_gCommon.mono _ _ _)
      | (with_reducible exact laws_gHas.mono _ _ _)
      | (with_reducible exact laws_gSame.mono _ _ _)
      | (with_reducible exact spec_CoprimePairs.mono _ _)
      | (with_reducible exact spec_PerfectUpTo.mono _ _)
      | (with_reducible exact spec_RecordsUpTo.mono _ _)
      | (with_reducible exact LeO.refl _)
      | (with_reducible exact LeO.none _)
      | (with_reducible refine LeO.ite ?_ ?_)
      | (with_reducible refine LeO.bind ?_ (fun _ => ?_))
      | exact ih0 _ _ _ _ _ _
      | exact ih1 _
      | exact ih2 _ _ _ _
      | exact ih3 _ _ _
      | exact ih4 _ _ _ _
      | exact ih5 _ _ _ _ _
      | exact ih6 _ _ _ _ _ _
      | exact ih7 _ _ _ _ _ _ _ _
      | exact impl_CoprimePairs.mono _ _
      | exact impl_CountDivisors.mono _ _
      | exact impl_PerfectUpTo.mono _ _
      | exact impl_RecordsUpTo.mono _ _
      | exact impl_SumStep.mono _ _
      | exact laws_gCommon.mono _ _ _
      | exact laws_gHas.mono _ _ _
      | exact laws_gSame.mono _ _ _
      | exact spec_CoprimePairs.mono _ _
      | exact spec_PerfectUpTo.mono _ _
      | exact spec_RecordsUpTo.mono _ _
      | exact LeO.none _
      | refine LeO.ite ?_ ?_
      | refine LeO.bind ?_ (fun _ => ?_)
    · intro y0 y1 y2 y3
      unfold laws_FnNumbersOfKindsOfAll.l1
      repeat' first
      | (with_reducible exact ih0 _ _ _ _ _ _)
      | (with_reducible exact ih1 _)
      | (with_reducible exact ih2 _ _ _ _)
      | (with_reducible exact ih3 _ _ _)
      | (with_reducible exact ih4 _ _ _ _)
      | (with_reducible exact ih5 _ _ _ _ _)
      | (with_reducible exact ih6 _ _ _ _ _ _)
      | (with_reducible exact ih7 _ _ _ _ _ _ _ _)
      | (with_reducible exact impl_CoprimePairs.mono _ _)
      | (with_reducible exact impl_CountDivisors.mono _ _)
      | (with_reducible exact impl_PerfectUpTo.mono _ _)
      | (with_reducible exact impl_RecordsUpTo.mono _ _)
      | (with_reducible exact impl_SumStep.mono _ _)
      | (with_reducible exact laws_gCommon.mono _ _ _)
      | (with_reducible exact laws_gHas.mono _ _ _)
      | (with_reducible exact laws_gSame.mono _ _ _)
      | (with_reducible exact spec_CoprimePairs.mono _ _)
      | (with_reducible exact spec_PerfectUpTo.mono _ _)
      | (with_reducible exact spec_RecordsUpTo.mono _ _)
      | (with_reducible exact LeO.refl _)
      | (with_reducible exact LeO.none _)
      | (with_reducible refine LeO.ite ?_ ?_)
      | (with_reducible refine LeO.bind ?_ (fun _ => ?_))
      | exact ih0 _ _ _ _ _ _
      | exact ih1 _
      | exact ih2 _ _ _ _
      | exact ih3 _ _ _
      | exact ih4 _ _ _ _
      | exact ih5 _ _ _ _ _
      | exact ih6 _ _ _ _ _ _
      | exact ih7 _ _ _ _ _ _ _ _
      | exact impl_CoprimePairs.mono _ _
      | exact impl_CountDivisors.mono _ _
      | exact impl_PerfectUpTo.mono _ _
      | exact impl_RecordsUpTo.mono _ _
      | exact impl_SumStep.mono _ _
      | exact laws_gCommon.mono _ _ _
      | exact laws_gHas.mono _ _ _
      | exact laws_gSame.mono _ _ _
      | exact spec_CoprimePairs.mono _ _
      | exact spec_PerfectUpTo.mono _ _
      | exact spec_RecordsUpTo.mono _ _
      | exact LeO.none _
      | refine LeO.ite ?_ ?_
      | refine LeO.bind ?_ (fun _ => ?_)
    · intro y0 y1 y2 y3 y4
      unfold laws_FnNumbersOfKindsOfAll.l2
      repeat' first
      | (with_reducible exact ih0 _ _ _ _ _ _)
      | (with_reducible exact ih1 _)
      | (with_reducible exact ih2 _ _ _ _)
      | (with_reducible exact ih3 _ _ _)
      | (with_reducible exact ih4 _ _ _ _)
      | (with_reducible exact ih5 _ _ _ _ _)
      | (with_reducible exact ih6 _ _ _ _ _ _)
      | (with_reducible exact ih7 _ _ _ _ _ _ _ _)
      | (with_reducible exact impl_CoprimePairs.mono _ _)
      | (with_reducible exact impl_CountDivisors.mono _ _)
      | (with_reducible exact impl_PerfectUpTo.mono _ _)
      | (with_reducible exact impl_RecordsUpTo.mono _ _)
      | (with_reducible exact impl_SumStep.mono _ _)
      | (with_reducible exact laws_gCommon.mono _ _ _)
      | (with_reducible exact laws_gHas.mono _ _ _)
      | (with_reducible exact laws_gSame.mono _ _ _)
      | (with_reducible exact spec_CoprimePairs.mono _ _)
      | (with_reducible exact spec_PerfectUpTo.mono _ _)
      | (with_reducible exact spec_RecordsUpTo.mono _ _)
      | (with_reducible exact LeO.refl _)
      | (with_reducible exact LeO.none _)
      | (with_reducible refine LeO.ite ?_ ?_)
      | (with_reducible refine LeO.bind ?_ (fun _ => ?_))
      | exact ih0 _ _ _ _ _ _
      | exact ih1 _
      | exact ih2 _ _ _ _
      | exact ih3 _ _ _
      | exact ih4 _ _ _ _
      | exact ih5 _ _ _ _ _
      | exact ih6 _ _ _ _ _ _
      | exact ih7 _ _ _ _ _ _ _ _
      | exact impl_CoprimePairs.mono _ _
      | exact impl_CountDivisors.mono _ _
      | exact impl_PerfectUpTo.mono _ _
      | exact impl_RecordsUpTo.mono _ _
      | exact impl_SumStep.mono _ _
      | exact laws_gCommon.mono _ _ _
      | exact laws_gHas.mono _ _ _
      | exact laws_gSame.mono _ _ _
      | exact spec_CoprimePairs.mono _ _
      | exact spec_PerfectUpTo.mono _ _
      | exact spec_RecordsUpTo.mono _ _
      | exact LeO.none _
      | refine LeO.ite ?_ ?_
      | refine LeO.bind ?_ (fun _ => ?_)
    · intro y0 y1 y2 y3 y4 y5
      unfold laws_FnNumbersOfKindsOfAll.l0
      repeat' first
      | (with_reducible exact ih0 _ _ _ _ _ _)
      | (with_reducible exact ih1 _)
      | (with_reducible exact ih2 _ _ _ _)
      | (with_reducible exact ih3 _ _ _)
      | (with_reducible exact ih4 _ _ _ _)
      | (with_reducible exact ih5 _ _ _ _ _)
      | (with_reducible exact ih6 _ _ _ _ _ _)
      | (with_reducible exact ih7 _ _ _ _ _ _ _ _)
      | (with_reducible exact impl_CoprimePairs.mono _ _)
      | (with_reducible exact impl_CountDivisors.mono _ _)
      | (with_reducible exact impl_PerfectUpTo.mono _ _)
      | (with_reducible exact impl_RecordsUpTo.mono _ _)
      | (with_reducible exact impl_SumStep.mono _ _)
      | (with_reducible exact laws_gCommon.mono _ _ _)
      | (with_reducible exact laws_gHas.mono _ _ _)
      | (with_reducible exact laws_gSame.mono _ _ _)
      | (with_reducible exact spec_CoprimePairs.mono _ _)
      | (with_reducible exact spec_PerfectUpTo.mono _ _)
      | (with_reducible exact spec_RecordsUpTo.mono _ _)
      | (with_reducible exact LeO.refl _)
      | (with_reducible exact LeO.none _)
      | (with_reducible refine LeO.ite ?_ ?_)
      | (with_reducible refine LeO.bind ?_ (fun _ => ?_))
      | exact ih0 _ _ _ _ _ _
      | exact ih1 _
      | exact ih2 _ _ _ _
      | exact ih3 _ _ _
      | exact ih4 _ _ _ _
      | exact ih5 _ _ _ _ _
      | exact ih6 _ _ _ _ _ _
      | exact ih7 _ _ _ _ _ _ _ _
      | exact impl_CoprimePairs.mono _ _
      | exact impl_CountDivisors.mono _ _
      | exact impl_PerfectUpTo.mono _ _
      | exact impl_RecordsUpTo.mono _ _
      | exact impl_SumStep.mono _ _
      | exact laws_gCommon.mono _ _ _
      | exact laws_gHas.mono _ _ _
      | exact laws_gSame.mono _ _ _
      | exact spec_CoprimePairs.mono _ _
      | exact spec_PerfectUpTo.mono _ _
      | exact spec_RecordsUpTo.mono _ _
      | exact LeO.none _
      | refine LeO.ite ?_ ?_
      | refine LeO.bind ?_ (fun _ => ?_)
    · intro y0 y1 y2 y3 y4 y5 y6 y7
      unfold laws_FnNumbersOfKindsOfAll.j2
      repeat' first
      | (with_reducible exact ih0 _ _ _ _ _ _)
      | (with_reducible exact ih1 _)
      | (with_reducible exact ih2 _ _ _ _)
      | (with_reducible exact ih3 _ _ _)
      | (with_reducible exact ih4 _ _ _ _)
      | (with_reducible exact ih5 _ _ _ _ _)
      | (with_reducible exact ih6 _ _ _ _ _ _)
      | (with_reducible exact ih7 _ _ _ _ _ _ _ _)
      | (with_reducible exact impl_CoprimePairs.mono _ _)
      | (with_reducible exact impl_CountDivisors.mono _ _)
      | (with_reducible exact impl_PerfectUpTo.mono _ _)
      | (with_reducible exact impl_RecordsUpTo.mono _ _)
      | (with_reducible exact impl_SumStep.mono _ _)
      | (with_reducible exact laws_gCommon.mono _ _ _)
      | (with_reducible exact laws_gHas.mono _ _ _)
      | (with_reducible exact laws_gSame.mono _ _ _)
      | (with_reducible exact spec_CoprimePairs.mono _ _)
      | (with_reducible exact spec_PerfectUpTo.mono _ _)
      | (with_reducible exact spec_RecordsUpTo.mono _ _)
      | (with_reducible exact LeO.refl _)
      | (with_reducible exact LeO.none _)
      | (with_reducible refine LeO.ite ?_ ?_)
      | (with_reducible refine LeO.bind ?_ (fun _ => ?_))
      | exact ih0 _ _ _ _ _ _
      | exact ih1 _
      | exact ih2 _ _ _ _
      | exact ih3 _ _ _
      | exact ih4 _ _ _ _
      | exact ih5 _ _ _ _ _
      | exact ih6 _ _ _ _ _ _
      | exact ih7 _ _ _ _ _ _ _ _
      | exact impl_CoprimePairs.mono _ _
      | exact impl_CountDivisors.mono _ _
      | exact impl_PerfectUpTo.mono _ _
      | exact impl_RecordsUpTo.mono _ _
      | exact impl_SumStep.mono _ _
      | exact laws_gCommon.mono _ _ _
      | exact laws_gHas.mono _ _ _
      | exact laws_gSame.mono _ _ _
      | exact spec_CoprimePairs.mono _ _
      | exact spec_PerfectUpTo.mono _ _
      | exact spec_RecordsUpTo.mono _ _
      | exact LeO.none _
      | refine LeO.ite ?_ ?_
      | refine LeO.bind ?_ (fun _ => ?_)
theorem laws_FnNumbersOfKindsOfAll.mono : ∀ a0 a1 k, LeO (laws_FnNumbersOfKindsOfAll.f k a0 a1) (laws_FnNumbersOfKindsOfAll.f (k + 1) a0 a1) := by
  intro a0 a1 k
  obtain ⟨ih0, ih1, ih2, ih3, ih4, ih5, ih6, ih7⟩ := laws_FnNumbersOfKindsOfAll.mono_l k
  unfold laws_FnNumbersOfKindsOfAll.f
  repeat' first
      | (with_reducible exact ih0 _ _ _ _ _ _)
      | (with_reducible exact ih1 _)
      | (with_reducible exact ih2 _ _ _ _)
      | (with_reducible exact ih3 _ _ _)
      | (with_reducible exact ih4 _ _ _ _)
      | (with_reducible exact ih5 _ _ _ _ _)
      | (with_reducible exact ih6 _ _ _ _ _ _)
      | (with_reducible exact ih7 _ _ _ _ _ _ _ _)
      | (with_reducible exact impl_CoprimePairs.mono _ _)
      | (with_reducible exact impl_CountDivisors.mono _ _)
      | (with_reducible exact impl_PerfectUpTo.mono _ _)
      | (with_reducible exact impl_RecordsUpTo.mono _ _)
      | (with_reducible exact impl_SumStep.mono _ _)
      | (with_reducible exact laws_gCommon.mono _ _ _)
      | (with_reducible exact laws_gHas.mono _ _ _)
      | (with_reducible exact laws_gSame.mono _ _ _)
      | (with_reducible exact spec_CoprimePairs.mono _ _)
      | (with_reducible exact spec_PerfectUpTo.mono _ _)
      | (with_reducible exact spec_RecordsUpTo.mono _ _)
      | (with_reducible exact LeO.refl _)
      | (with_reducible exact LeO.none _)
      | (with_reducible refine LeO.ite ?_ ?_)
      | (with_reducible refine LeO.bind ?_ (fun _ => ?_))
      | exact ih0 _ _ _ _ _ _
      | exact ih1 _
      | exact ih2 _ _ _ _
      | exact ih3 _ _ _
      | exact ih4 _ _ _ _
      | exact ih5 _ _ _ _ _
      | exact ih6 _ _ _ _ _ _
      | exact ih7 _ _ _ _ _ _ _ _
      | exact impl_CoprimePairs.mono _ _
      | exact impl_CountDivisors.mono _ _
      | exact impl_PerfectUpTo.mono _ _
      | exact impl_RecordsUpTo.mono _ _
      | exact impl_SumStep.mono _ _
      | exact laws_gCommon.mono _ _ _
      | exact laws_gHas.mono _ _ _
      | exact laws_gSame.mono _ _ _
      | exact spec_CoprimePairs.mono _ _
      | exact spec_PerfectUpTo.mono _ _
      | exact spec_RecordsUpTo.mono _ _
      | exact LeO.none _
      | refine LeO.ite ?_ ?_
      | refine LeO.bind ?_ (fun _ => ?_)
set_option maxHeartbeats 8000000 in
set_option maxRecDepth 100000 in
theorem laws_FnNumbersOfKindsOfAll.calls (k : Nat) (a0 : Int) (a1 : Int) (r : Bool) (w : World) (h : laws_FnNumbersOfKindsOfAll.f k a0 a1 = some r) :
    Calls Try.prog 14 #[.int .i64 a0, .int .i64 a1] w fun e w' => e = .returned (.bool r) ∧ Below w.heap.size w w' := by
  have HB := Aside0.mk (Below.refl w.heap.size w)
  have H : ((impl_PerfectUpTo.f k a0).bind fun bt210 => ((spec_PerfectUpTo.f k a0).bind fun bt214 => ((impl_RecordsUpTo.f k a0).bind fun bt218 => ((spec_RecordsUpTo.f k a0).bind fun bt222 => (if (bt210.2 != bt214.2) = true then (laws_FnNumbersOfKindsOfAll.j0 k a0 a1 bt210.1 bt210.2 bt218.1 true) else ((laws_gSame.f k bt210.1 bt214.1).bind fun t226 => (if t226 = true then (if (bt218.2 != bt222.2) = true then (laws_FnNumbersOfKindsOfAll.j0 k a0 a1 bt210.1 bt210.2 bt218.1 true) else ((laws_gSame.f k bt218.1 bt222.1).bind fun t227 => (if t227 = true then (laws_FnNumbersOfKindsOfAll.j0 k a0 a1 bt210.1 bt210.2 bt218.1 (bt218.2 != bt210.2)) else (laws_FnNumbersOfKindsOfAll.j0 k a0 a1 bt210.1 bt210.2 bt218.1 true)))) else (laws_FnNumbersOfKindsOfAll.j0 k a0 a1 bt210.1 bt210.2 bt218.1 true)))))))) = some r := h
  clear h
  replace H := Option.bind_eq_some_iff.mp H
  obtain ⟨⟨t210, t211⟩, A30, H⟩ := H
  replace H : ((spec_PerfectUpTo.f k a0).bind fun bt214 => ((impl_RecordsUpTo.f k a0).bind fun bt218 => ((spec_RecordsUpTo.f k a0).bind fun bt222 => (if (t211 != bt214.2) = true then (laws_FnNumbersOfKindsOfAll.j0 k a0 a1 t210 t211 bt218.1 true) else ((laws_gSame.f k t210 bt214.1).bind fun t226 => (if t226 = true then (if (bt218.2 != bt222.2) = true then (laws_FnNumbersOfKindsOfAll.j0 k a0 a1 t210 t211 bt218.1 true) else ((laws_gSame.f k bt218.1 bt222.1).bind fun t227 => (if t227 = true then (laws_FnNumbersOfKindsOfAll.j0 k a0 a1 t210 t211 bt218.1 (bt218.2 != t211)) else (laws_FnNumbersOfKindsOfAll.j0 k a0 a1 t210 t211 bt218.1 true)))) else (laws_FnNumbersOfKindsOfAll.j0 k a0 a1 t210 t211 bt218.1 true))))))) = some r := H
  have A3 := Aside0.mk A30
  clear A30
  replace H := Option.bind_eq_some_iff.mp H
  obtain ⟨⟨t214, t215⟩, A40, H⟩ := H
  replace H : ((impl_RecordsUpTo.f k a0).bind fun bt218 => ((spec_RecordsUpTo.f k a0).bind fun bt222 => (if (t211 != t215) = true then (laws_FnNumbersOfKindsOfAll.j0 k a0 a1 t210 t211 bt218.1 true) else ((laws_gSame.f k t210 t214).bind fun t226 => (if t226 = true then (if (bt218.2 != bt222.2) = true then (laws_FnNumbersOfKindsOfAll.j0 k a0 a1 t210 t211 bt218.1 true) else ((laws_gSame.f k bt218.1 bt222.1).bind fun t227 => (if t227 = true then (laws_FnNumbersOfKindsOfAll.j0 k a0 a1 t210 t211 bt218.1 (bt218.2 != t211)) else (laws_FnNumbersOfKindsOfAll.j0 k a0 a1 t210 t211 bt218.1 true)))) else (laws_FnNumbersOfKindsOfAll.j0 k a0 a1 t210 t211 bt218.1 true)))))) = some r := H
  have A4 := Aside0.mk A40
  clear A40
  replace H := Option.bind_eq_some_iff.mp H
  obtain ⟨⟨t218, t219⟩, A50, H⟩ := H
  replace H : ((spec_RecordsUpTo.f k a0).bind fun bt222 => (if (t211 != t215) = true then (laws_FnNumbersOfKindsOfAll.j0 k a0 a1 t210 t211 t218 true) else ((laws_gSame.f k t210 t214).bind fun t226 => (if t226 = true then (if (t219 != bt222.2) = true then (laws_FnNumbersOfKindsOfAll.j0 k a0 a1 t210 t211 t218 true) else ((laws_gSame.f k t218 bt222.1).bind fun t227 => (if t227 = true then (laws_FnNumbersOfKindsOfAll.j0 k a0 a1 t210 t211 t218 (t219 != t211)) else (laws_FnNumbersOfKindsOfAll.j0 k a0 a1 t210 t211 t218 true)))) else (laws_FnNumbersOfKindsOfAll.j0 k a0 a1 t210 t211 t218 true))))) = some r := H
  have A5 := Aside0.mk A50
  clear A50
  replace H := Option.bind_eq_some_iff.mp H
  obtain ⟨⟨t222, t223⟩, A60, H⟩ := H
  replace H : (if (t211 != t215) = true then (laws_FnNumbersOfKindsOfAll.j0 k a0 a1 t210 t211 t218 true) else ((laws_gSame.f k t210 t214).bind fun t226 => (if t226 = true then (if (t219 != t223) = true then (laws_FnNumbersOfKindsOfAll.j0 k a0 a1 t210 t211 t218 true) else ((laws_gSame.f k t218 t222).bind fun t227 => (if t227 = true then (laws_FnNumbersOfKindsOfAll.j0 k a0 a1 t210 t211 t218 (t219 != t211)) else (laws_FnNumbersOfKindsOfAll.j0 k a0 a1 t210 t211 t218 true)))) else (laws_FnNumbersOfKindsOfAll.j0 k a0 a1 t210 t211 t218 true)))) = some r := H
  have A6 := Aside0.mk A60
  clear A60
  have HC7 := Aside0.mk H
  clear H
  go_enter Try.func14, Try.ntmps14
  go_upto_region 5 with (first | ((with_reducible refine gate_callee (f := 33) rfl ?_); refine goesL_ (some 28) rfl rfl Try.func33 (by kernel_rfl) rfl #[.int .i64 a0] rfl (by (try simp only [List.map_toArray, List.map_cons, List.map_nil]); first | done | rfl | (simp only [List.length_drop, List.length_take]; rfl)) ?_; (with_reducible refine (impl_PerfectUpTo.calls k a0 t210 t211 _ A3.out).mono ?_); rintro e w8 ⟨v212, rfl, ho0, hb⟩; refine ⟨_, rfl, ?_⟩; have n0_ := Aside0.mk (Kd.R_lower ho0 (below_size (by repeat (first | (with_reducible first | exact HB.out | apply below_alloc | apply pw_below_drewN | apply below_drew1) | exact HB.out)))); have n1_ := Aside0.mk (below_step (by repeat (first | (with_reducible first | exact HB.out | apply below_alloc | apply pw_below_drewN | apply below_drew1) | exact HB.out)) hb); clear HB; have HO213 := n0_; have HB := n1_; clear n0_ n1_; (try clear hb); (try clear hb2); (try clear hk); (try clear hi); (try clear ho0)) | ((with_reducible refine gate_callee (f := 32) rfl ?_); refine goesL_ (some 33) rfl rfl Try.func32 (by kernel_rfl) rfl #[.int .i64 a0] rfl (by (try simp only [List.map_toArray, List.map_cons, List.map_nil]); first | done | rfl | (simp only [List.length_drop, List.length_take]; rfl)) ?_; (with_reducible refine (spec_PerfectUpTo.calls k a0 t214 t215 _ A4.out).mono ?_); rintro e w9 ⟨v216, rfl, ho0, hb⟩; refine ⟨_, rfl, ?_⟩; have n0_ := Aside0.mk (Kd.R_elder' (by (with_reducible repeat (first | apply Kd.R_alloc | apply Kd.R_drewN | apply Kd.R_drew)); exact HO213.out) (Kd.R_base ho0) hb); have n1_ := Aside0.mk (Kd.R_lower (Kd.R_new' ho0 (Kd.R_lt (by (with_reducible repeat (first | apply Kd.R_alloc | apply Kd.R_drewN | apply Kd.R_drew)); exact HO213.out))) (below_size (by repeat (first | (with_reducible first | exact HB.out | apply below_alloc | apply pw_below_drewN | apply below_drew1) | exact HB.out)))); have n2_ := Aside0.mk (below_step (by repeat (first | (with_reducible first | exact HB.out | apply below_alloc | apply pw_below_drewN | apply below_drew1) | exact HB.out)) hb); clear HO213; clear HB; have HO213 := n0_; have HO217 := n1_; have HB := n2_; clear n0_ n1_ n2_; (try clear hb); (try clear hb2); (try clear hk); (try clear hi); (try clear ho0)) | ((with_reducible refine gate_callee (f := 29) rfl ?_); refine goesL_ (some 38) rfl rfl Try.func29 (by kernel_rfl) rfl #[.int .i64 a0] rfl (by (try simp only [List.map_toArray, List.map_cons, List.map_nil]); first | done | rfl | (simp only [List.length_drop, List.length_take]; rfl)) ?_; (with_reducible refine (impl_RecordsUpTo.calls k a0 t218 t219 _ A5.out).mono ?_); rintro e w10 ⟨v220, rfl, ho0, hb⟩; refine ⟨_, rfl, ?_⟩; have n0_ := Aside0.mk (Kd.R_elder' (by (with_reducible repeat (first | apply Kd.R_alloc | apply Kd.R_drewN | apply Kd.R_drew)); exact HO213.out) (Kd.R_base ho0) hb); have n1_ := Aside0.mk (Kd.R_elder' (by (with_reducible repeat (first | apply Kd.R_alloc | apply Kd.R_drewN | apply Kd.R_drew)); exact HO217.out) (Kd.R_base ho0) hb); have n2_ := Aside0.mk (Kd.R_lower (Kd.R_new' (Kd.R_new' ho0 (Kd.R_lt (by (with_reducible repeat (first | apply Kd.R_alloc | apply Kd.R_drewN | apply Kd.R_drew)); exact HO213.out))) (Kd.R_lt (by (with_reducible repeat (first | apply Kd.R_alloc | apply Kd.R_drewN | apply Kd.R_drew)); exact HO217.out))) (below_size (by repeat (first | (with_reducible first | exact HB.out | apply below_alloc | apply pw_below_drewN | apply below_drew1) | exact HB.out)))); have n3_ := Aside0.mk (below_step (by repeat (first | (with_reducible first | exact HB.out | apply below_alloc | apply pw_below_drewN | apply below_drew1) | exact HB.out)) hb); clear HO213; clear HO217; clear HB; have HO213 := n0_; have HO217 := n1_; have HO221 := n2_; have HB := n3_; clear n0_ n1_ n2_ n3_; (try clear hb); (try clear hb2); (try clear hk); (try clear hi); (try clear ho0)) | ((with_reducible refine gate_callee (f := 28) rfl ?_); refine goesL_ (some 43) rfl rfl Try.func28 (by kernel_rfl) rfl #[.int .i64 a0] rfl (by (try simp only [List.map_toArray, List.map_cons, List.map_nil]); first | done | rfl | (simp only [List.length_drop, List.length_take]; rfl)) ?_; (with_reducible refine (spec_RecordsUpTo.calls k a0 t222 t223 _ A6.out).mono ?_); rintro e w11 ⟨v224, rfl, ho0, hb⟩; refine ⟨_, rfl, ?_⟩; have n0_ := Aside0.mk (Kd.R_elder' (by (with_reducible repeat (first | apply Kd.R_alloc | apply Kd.R_drewN | apply Kd.R_drew)); exact HO213.out) (Kd.R_base ho0) hb); have n1_ := Aside0.mk (Kd.R_elder' (by (with_reducible repeat (first | apply Kd.R_alloc | apply Kd.R_drewN | apply Kd.R_drew)); exact HO217.out) (Kd.R_base ho0) hb); have n2_ := Aside0.mk (Kd.R_elder' (by (with_reducible repeat (first | apply Kd.R_alloc | apply Kd.R_drewN | apply Kd.R_drew)); exact HO221.out) (Kd.R_base ho0) hb); have n3_ := Aside0.mk (Kd.R_lower (Kd.R_new' (Kd.R_new' (Kd.R_new' ho0 (Kd.R_lt (by (with_reducible repeat (first | apply Kd.R_alloc | apply Kd.R_drewN | apply Kd.R_drew)); exact HO213.out))) (Kd.R_lt (by (with_reducible repeat (first | apply Kd.R_alloc | apply Kd.R_drewN | apply Kd.R_drew)); exact HO217.out))) (Kd.R_lt (by (with_reducible repeat (first | apply Kd.R_alloc | apply Kd.R_drewN | apply Kd.R_drew)); exact HO221.out))) (below_size (by repeat (first | (with_reducible first | exact HB.out | apply below_alloc | apply pw_below_drewN | apply below_drew1) | exact HB.out)))); have n4_ := Aside0.mk (below_step (by repeat (first | (with_reducible first | exact HB.out | apply below_alloc | apply pw_below_drewN | apply below_drew1) | exact HB.out)) hb); clear HO213; clear HO217; clear HO221; clear HB; have HO213 := n0_; have HO217 := n1_; have HO221 := n2_; have HO225 := n3_; have HB := n4_; clear n0_ n1_ n2_ n3_ n4_; (try clear hb); (try clear hb2); (try clear hk); (try clear hi); (try clear ho0)))
  (try simp only [Act.put, List.setIfInBounds_toArray, List.set_cons_zero, List.set_cons_succ])
  go_cut [70] (fun v70 wc => ∃ (kq : Nat) (x70_6 : Bool), v70 = .bool x70_6 ∧ Aside0 (laws_FnNumbersOfKindsOfAll.j0 kq a0 a1 t210 t211 t218 x70_6 = some r) ∧ Aside0 (kq ≤ k) ∧ Aside0 (Kd.R (Kd.int .i64) 3 wc w.heap.size (fun k_ => some k_ ≠ (v220 : Value).ownBlock) v212 t210) ∧ Aside0 (Kd.R (Kd.int .i64) 3 wc w.heap.size (fun k_ => some k_ ≠ (v212 : Value).ownBlock) v220 t218) ∧ Aside0 (Below w.heap.size w wc))
  case first =>
    have H := HC7.out
    clear HC7
    by_cases c12 : (t211 != t215) = true
    · rw [if_pos c12] at H
      have c12b0 : (t211 != t215) = true := c12
      (try (have c12b1 : decide (t211 = t215) = false := by simpa using c12))
      (try (have c12b2 : (t211 == t215) = false := by simpa using c12))
      (try (have c12b3 : ¬ (t211 = t215) := by simpa using c12))
      clear c12
      (first | rw [c12b0] | (simp only [i64_w, i32_w]; rw [c12b0]) | skip)
      have H' := Aside0.mk H
      clear H
      go_wp2
      go_meet
      case rel => exact ⟨_, (true), (by first | rfl | (simp; done) | (simp [*]; done)), H', ⟨by first | omega | exact Nat.le_refl _⟩, ⟨by (with_reducible repeat (first | apply Kd.R_alloc | apply Kd.R_drewN | apply Kd.R_drew)); exact Kd.R_mono HO213.out (fun _ hk => hk.1.2)⟩, ⟨by (with_reducible repeat (first | apply Kd.R_alloc | apply Kd.R_drewN | apply Kd.R_drew)); exact Kd.R_mono HO221.out (fun _ hk => hk.1.1.2)⟩, ⟨by repeat (first | (with_reducible first | exact HB.out | apply below_alloc | apply pw_below_drewN | apply below_drew1) | exact HB.out)⟩⟩
    · rw [if_neg c12] at H
      have c12b0 : (t211 != t215) = false := by simpa using c12
      (try (have c12b1 : decide (t211 = t215) = true := by simpa using c12))
      (try (have c12b2 : (t211 == t215) = true := by simpa using c12))
      clear c12
      (first | rw [c12b0] | (simp only [i64_w, i32_w]; rw [c12b0]) | skip)
      replace H := Option.bind_eq_some_iff.mp H
      obtain ⟨t226, A130, H⟩ := H
      replace H : (if t226 = true then (if (t219 != t223) = true then (laws_FnNumbersOfKindsOfAll.j0 k a0 a1 t210 t211 t218 true) else ((laws_gSame.f k t218 t222).bind fun t227 => (if t227 = true then (laws_FnNumbersOfKindsOfAll.j0 k a0 a1 t210 t211 t218 (t219 != t211)) else (laws_FnNumbersOfKindsOfAll.j0 k a0 a1 t210 t211 t218 true)))) else (laws_FnNumbersOfKindsOfAll.j0 k a0 a1 t210 t211 t218 true)) = some r := H
      have A13 := Aside0.mk A130
      clear A130
      by_cases c14 : t226 = true
      · subst c14
        have H1 : (if (t219 != t223) = true then (laws_FnNumbersOfKindsOfAll.j0 k a0 a1 t210 t211 t218 true) else ((laws_gSame.f k t218 t222).bind fun t227 => (if t227 = true then (laws_FnNumbersOfKindsOfAll.j0 k a0 a1 t210 t211 t218 (t219 != t211)) else (laws_FnNumbersOfKindsOfAll.j0 k a0 a1 t210 t211 t218 true)))) = some r := by rw [if_pos rfl] at H; exact H
        clear H
        have H := H1
        clear H1
        by_cases c15 : (t219 != t223) = true
        · rw [if_pos c15] at H
          have c15b0 : (t219 != t223) = true := c15
          (try (have c15b1 : decide (t219 = t223) = false := by simpa using c15))
          (try (have c15b2 : (t219 == t223) = false := by simpa using c15))
          (try (have c15b3 : ¬ (t219 = t223) := by simpa using c15))
          clear c15
          have H' := Aside0.mk H
          clear H
          obtain ⟨Ao16, co16, eo16⟩ := Kd.R_slice HO213.out
          subst eo16
          obtain ⟨Ao17, co17, eo17⟩ := Kd.R_slice HO217.out
          subst eo17
          go_wp2_with (first | (go_at_call 41; (with_reducible refine (laws_gSame.calls k _ _ t210 _ _ t214 true _ ?side1 ?side2 ?side3 ?side4 A13.out).mono ?_); (case side1 => repeat (first | exact (Kd.R_reads' HO213.out).2.2 | (with_reducible refine Kd.C_alloc ?_ _) | (with_reducible refine Kd.C_drewN ?_ _) | (with_reducible refine Kd.C_drew ?_))); (case side2 => exact (Kd.R_reads' HO213.out).2.1); (case side3 => repeat (first | exact (Kd.R_reads' HO217.out).2.2 | (with_reducible refine Kd.C_alloc ?_ _) | (with_reducible refine Kd.C_drewN ?_ _) | (with_reducible refine Kd.C_drew ?_))); (case side4 => exact (Kd.R_reads' HO217.out).2.1); rintro e w' ⟨rfl, ⟨nd, rfl⟩⟩))
          go_meet
          case rel => exact ⟨_, (true), (by first | rfl | (simp; done) | (simp [*]; done)), H', ⟨by first | omega | exact Nat.le_refl _⟩, ⟨by (with_reducible repeat (first | apply Kd.R_alloc | apply Kd.R_drewN | apply Kd.R_drew)); exact Kd.R_mono HO213.out (fun _ hk => hk.1.2)⟩, ⟨by (with_reducible repeat (first | apply Kd.R_alloc | apply Kd.R_drewN | apply Kd.R_drew)); exact Kd.R_mono HO221.out (fun _ hk => hk.1.1.2)⟩, ⟨by repeat (first | (with_reducible first | exact HB.out | apply below_alloc | apply pw_below_drewN | apply below_drew1) | exact HB.out)⟩⟩
        · rw [if_neg c15] at H
          have c15b0 : (t219 != t223) = false := by simpa using c15
          (try (have c15b1 : decide (t219 = t223) = true := by simpa using c15))
          (try (have c15b2 : (t219 == t223) = true := by simpa using c15))
          clear c15
          replace H := Option.bind_eq_some_iff.mp H
          obtain ⟨t227, A180, H⟩ := H
          replace H : (if t227 = true then (laws_FnNumbersOfKindsOfAll.j0 k a0 a1 t210 t211 t218 (t219 != t211)) else (laws_FnNumbersOfKindsOfAll.j0 k a0 a1 t210 t211 t218 true)) = some r := H
          have A18 := Aside0.mk A180
          clear A180
          by_cases c19 : t227 = true
          · subst c19
            have H1 : (laws_FnNumbersOfKindsOfAll.j0 k a0 a1 t210 t211 t218 (t219 != t211)) = some r := by rw [if_pos rfl] at H; exact H
            clear H
            have H := H1
            clear H1
            have H' := Aside0.mk H
            clear H
            obtain ⟨Ao20, co20, eo20⟩ := Kd.R_slice HO213.out
            subst eo20
            obtain ⟨Ao21, co21, eo21⟩ := Kd.R_slice HO217.out
            subst eo21
            go_wp2_with (first | (go_at_call 41; (with_reducible refine (laws_gSame.calls k _ _ t210 _ _ t214 true _ ?side1 ?side2 ?side3 ?side4 A13.out).mono ?_); (case side1 => repeat (first | exact (Kd.R_reads' HO213.out).2.2 | (with_reducible refine Kd.C_alloc ?_ _) | (with_reducible refine Kd.C_drewN ?_ _) | (with_reducible refine Kd.C_drew ?_))); (case side2 => exact (Kd.R_reads' HO213.out).2.1); (case side3 => repeat (first | exact (Kd.R_reads' HO217.out).2.2 | (with_reducible refine Kd.C_alloc ?_ _) | (with_reducible refine Kd.C_drewN ?_ _) | (with_reducible refine Kd.C_drew ?_))); (case side4 => exact (Kd.R_reads' HO217.out).2.1); rintro e w' ⟨rfl, ⟨nd, rfl⟩⟩; obtain ⟨Ao22, co22, eo22⟩ := Kd.R_slice HO221.out; subst eo22; obtain ⟨Ao23, co23, eo23⟩ := Kd.R_slice HO225.out; subst eo23) | (go_at_call 41; (with_reducible refine (laws_gSame.calls k _ _ t218 _ _ t222 true _ ?side1 ?side2 ?side3 ?side4 A18.out).mono ?_); (case side1 => repeat (first | exact (Kd.R_reads' HO221.out).2.2 | (with_reducible refine Kd.C_alloc ?_ _) | (with_reducible refine Kd.C_drewN ?_ _) | (with_reducible refine Kd.C_drew ?_))); (case side2 => exact (Kd.R_reads' HO221.out).2.1); (case side3 => repeat (first | exact (Kd.R_reads' HO225.out).2.2 | (with_reducible refine Kd.C_alloc ?_ _) | (with_reducible refine Kd.C_drewN ?_ _) | (with_reducible refine Kd.C_drew ?_))); (case side4 => exact (Kd.R_reads' HO225.out).2.1); rintro e w' ⟨rfl, ⟨nd, rfl⟩⟩))
            go_meet
            case rel => exact ⟨_, ((t219 != t211)), (by first | rfl | (simp; done) | (simp [*]; done)), H', ⟨by first | omega | exact Nat.le_refl _⟩, ⟨by (with_reducible repeat (first | apply Kd.R_alloc | apply Kd.R_drewN | apply Kd.R_drew)); exact Kd.R_mono HO213.out (fun _ hk => hk.1.2)⟩, ⟨by (with_reducible repeat (first | apply Kd.R_alloc | apply Kd.R_drewN | apply Kd.R_drew)); exact Kd.R_mono HO221.out (fun _ hk => hk.1.1.2)⟩, ⟨by repeat (first | (with_reducible first | exact HB.out | apply below_alloc | apply pw_below_drewN | apply below_drew1) | exact HB.out)⟩⟩
          · replace c19 := Bool.eq_false_iff.mpr c19
            subst c19
            have H1 : (laws_FnNumbersOfKindsOfAll.j0 k a0 a1 t210 t211 t218 true) = some r := by rw [if_neg (show ¬ (false = true) by decide)] at H; exact H
            clear H
            have H := H1
            clear H1
            have H' := Aside0.mk H
            clear H
            obtain ⟨Ao24, co24, eo24⟩ := Kd.R_slice HO213.out
            subst eo24
            obtain ⟨Ao25, co25, eo25⟩ := Kd.R_slice HO217.out
            subst eo25
            go_wp2_with (first | (go_at_call 41; (with_reducible refine (laws_gSame.calls k _ _ t210 _ _ t214 true _ ?side1 ?side2 ?side3 ?side4 A13.out).mono ?_); (case side1 => repeat (first | exact (Kd.R_reads' HO213.out).2.2 | (with_reducible refine Kd.C_alloc ?_ _) | (with_reducible refine Kd.C_drewN ?_ _) | (with_reducible refine Kd.C_drew ?_))); (case side2 => exact (Kd.R_reads' HO213.out).2.1); (case side3 => repeat (first | exact (Kd.R_reads' HO217.out).2.2 | (with_reducible refine Kd.C_alloc ?_ _) | (with_reducible refine Kd.C_drewN ?_ _) | (with_reducible refine Kd.C_drew ?_))); (case side4 => exact (Kd.R_reads' HO217.out).2.1); rintro e w' ⟨rfl, ⟨nd, rfl⟩⟩; obtain ⟨Ao26, co26, eo26⟩ := Kd.R_slice HO221.out; subst eo26; obtain ⟨Ao27, co27, eo27⟩ := Kd.R_slice HO225.out; subst eo27) | (go_at_call 41; (with_reducible refine (laws_gSame.calls k _ _ t218 _ _ t222 false _ ?side1 ?side2 ?side3 ?side4 A18.out).mono ?_); (case side1 => repeat (first | exact (Kd.R_reads' HO221.out).2.2 | (with_reducible refine Kd.C_alloc ?_ _) | (with_reducible refine Kd.C_drewN ?_ _) | (with_reducible refine Kd.C_drew ?_))); (case side2 => exact (Kd.R_reads' HO221.out).2.1); (case side3 => repeat (first | exact (Kd.R_reads' HO225.out).2.2 | (with_reducible refine Kd.C_alloc ?_ _) | (with_reducible refine Kd.C_drewN ?_ _) | (with_reducible refine Kd.C_drew ?_))); (case side4 => exact (Kd.R_reads' HO225.out).2.1); rintro e w' ⟨rfl, ⟨nd, rfl⟩⟩))
            go_meet
            case rel => exact ⟨_, (true), (by first | rfl | (simp; done) | (simp [*]; done)), H', ⟨by first | omega | exact Nat.le_refl _⟩, ⟨by (with_reducible repeat (first | apply Kd.R_alloc | apply Kd.R_drewN | apply Kd.R_drew)); exact Kd.R_mono HO213.out (fun _ hk => hk.1.2)⟩, ⟨by (with_reducible repeat (first | apply Kd.R_alloc | apply Kd.R_drewN | apply Kd.R_drew)); exact Kd.R_mono HO221.out (fun _ hk => hk.1.1.2)⟩, ⟨by repeat (first | (with_reducible first | exact HB.out | apply below_alloc | apply pw_below_drewN | apply below_drew1) | exact HB.out)⟩⟩
      · replace c14 := Bool.eq_false_iff.mpr c14
        subst c14
        have H1 : (laws_FnNumbersOfKindsOfAll.j0 k a0 a1 t210 t211 t218 true) = some r := by rw [if_neg (show ¬ (false = true) by decide)] at H; exact H
        clear H
        have H := H1
        clear H1
        have H' := Aside0.mk H
        clear H
        obtain ⟨Ao28, co28, eo28⟩ := Kd.R_slice HO213.out
        subst eo28
        obtain ⟨Ao29, co29, eo29⟩ := Kd.R_slice HO217.out
        subst eo29
        go_wp2_with (first | (go_at_call 41; (with_reducible refine (laws_gSame.calls k _ _ t210 _ _ t214 false _ ?side1 ?side2 ?side3 ?side4 A13.out).mono ?_); (case side1 => repeat (first | exact (Kd.R_reads' HO213.out).2.2 | (with_reducible refine Kd.C_alloc ?_ _) | (with_reducible refine Kd.C_drewN ?_ _) | (with_reducible refine Kd.C_drew ?_))); (case side2 => exact (Kd.R_reads' HO213.out).2.1); (case side3 => repeat (first | exact (Kd.R_reads' HO217.out).2.2 | (with_reducible refine Kd.C_alloc ?_ _) | (with_reducible refine Kd.C_drewN ?_ _) | (with_reducible refine Kd.C_drew ?_))); (case side4 => exact (Kd.R_reads' HO217.out).2.1); rintro e w' ⟨rfl, ⟨nd, rfl⟩⟩))
        go_meet
        case rel => exact ⟨_, (true), (by first | rfl | (simp; done) | (simp [*]; done)), H', ⟨by first | omega | exact Nat.le_refl _⟩, ⟨by (with_reducible repeat (first | apply Kd.R_alloc | apply Kd.R_drewN | apply Kd.R_drew)); exact Kd.R_mono HO213.out (fun _ hk => hk.1.2)⟩, ⟨by (with_reducible repeat (first | apply Kd.R_alloc | apply Kd.R_drewN | apply Kd.R_drew)); exact Kd.R_mono HO221.out (fun _ hk => hk.1.1.2)⟩, ⟨by repeat (first | (with_reducible first | exact HB.out | apply below_alloc | apply pw_below_drewN | apply below_drew1) | exact HB.out)⟩⟩
  case rest =>
    clear HC7
    try clear c1
    try clear c2
    try clear p2
    try clear c3
    try clear c12
    try clear c12b0
    try clear c12b1
    try clear c12b2
    try clear c14
    try clear c15
    try clear c15b0
    try clear c15b1
    try clear c15b2
    try clear c19
    try clear c28
    try clear c29
    obtain ⟨kq, x70_6, rfl, HA, HJ6, HO_5, HO_9, HB⟩ := hcut
    cases kq with
    | zero => exact absurd HA.out (by simp [laws_FnNumbersOfKindsOfAll.j0])
    | succ kj6 =>
      have H := HA.out
      clear HA
      simp only [laws_FnNumbersOfKindsOfAll.j0] at H
      by_cases c30 : x70_6 = true
      · subst c30
        have H1 : (some false) = some r := by rw [if_pos rfl] at H; exact H
        clear H
        have H := H1
        clear H1
        obtain rfl := Option.some.inj H
        go_wp2
        go_ret
        exact ⟨by first | rfl | (simp [errW_none, errW_some] <;> rfl) | (simp [*, errW_none, errW_some] <;> rfl), by repeat (first | (with_reducible first | exact HB.out | apply below_alloc | apply pw_below_drewN | apply below_drew1) | exact HB.out)⟩
      · replace c30 := Bool.eq_false_iff.mpr c30
        subst c30
        have H1 : (if t211 = true then (laws_FnNumbersOfKindsOfAll.l0 kj6 a0 a1 t210 t218 0 1) else (laws_FnNumbersOfKindsOfAll.j3 kj6 a1)) = some r := by rw [if_neg (show ¬ (false = true) by decide)] at H; exact H
        clear H
        have H := H1
        clear H1
        have HC31 := Aside0.mk H
        clear H
        go_upto_if 71 with (fail)
        go_cut [] (fun wc => ∃ (kq : Nat), Aside0 (laws_FnNumbersOfKindsOfAll.j3 kq a1 = some r) ∧ Aside0 (kq ≤ kj6) ∧ Aside0 (Below w.heap.size w wc))
        case first =>
          have H := HC31.out
          clear HC31
          by_cases c32 : t211 = true
          · subst c32
            have H1 : (laws_FnNumbersOfKindsOfAll.l0 kj6 a0 a1 t210 t218 0 1) = some r := by rw [if_pos rfl] at H; exact H
            clear H
            have H := H1
            clear H1
            have H' := Aside0.mk H
            clear H
            go_wp2
            go_loopg [13, 14] kj6 (fun kq v13 v14 w' => ∃ (x13_2 : Int) (x14_2 : Int), v13 = .int .i64 x13_2 ∧ v14 = .int .i64 x14_2 ∧ Aside0 (laws_FnNumbersOfKindsOfAll.l0 kq a0 a1 t210 t218 x13_2 x14_2 = some r) ∧ Aside0 (kq ≤ kj6) ∧ Aside0 (Kd.R (Kd.int .i64) 3 w' w.heap.size (fun k_ => some k_ ≠ (v220 : Value).ownBlock) v212 t210) ∧ Aside0 (Kd.R (Kd.int .i64) 3 w' w.heap.size (fun k_ => some k_ ≠ (v212 : Value).ownBlock) v220 t218) ∧ Aside0 (Below w.heap.size w w'))
            case atStart => exact ⟨(0), (1), (by first | rfl | (simp; done) | (simp [*]; done)), (by first | rfl | (simp; done) | (simp [*]; done)), H', ⟨Nat.le_refl _⟩, ⟨by (with_reducible repeat (first | apply Kd.R_alloc | apply Kd.R_drewN | apply Kd.R_drew)); exact HO_5.out⟩, ⟨by (with_reducible repeat (first | apply Kd.R_alloc | apply Kd.R_drewN | apply Kd.R_drew)); exact HO_9.out⟩, ⟨by repeat (first | (with_reducible first | exact HB.out | apply below_alloc | apply pw_below_drewN | apply below_drew1) | exact HB.out)⟩⟩
            case round =>
              clear H'
              try clear c1
              try clear c2
              try clear p2
              try clear c3
              try clear c12
              try clear c12b0
              try clear c12b1
              try clear c12b2
              try clear c14
              try clear c15
              try clear c15b0
              try clear c15b1
              try clear c15b2
              try clear c19
              try clear c28
              try clear c29
              try clear c30
              try clear c32
              try clear p2
              obtain ⟨x13_2, x14_2, rfl, rfl, HA, HK2, HO_5, HO_9, HB⟩ := hrel
              cases gk with
              | zero => exact absurd HA.out (by simp [laws_FnNumbersOfKindsOfAll.l0])
              | succ k2 =>
                have H := HA.out
                clear HA
                simp only [laws_FnNumbersOfKindsOfAll.l0] at H
                by_cases c33 : x14_2 ≤ a0
                · rw [if_pos c33] at H
                  have c33b0 : decide (x14_2 ≤ a0) = true := decide_eq_true c33
                  clear c33
                  (first | rw [c33b0] | (simp only [i64_w, i32_w]; rw [c33b0]) | skip)
                  replace H := Option.bind_eq_some_iff.mp H
                  obtain ⟨⟨t228, t229⟩, A340, H⟩ := H
                  replace H : ((impl_CountDivisors.f k2 x14_2).bind fun bt230 => (if t229 = true then ((laws_gHas.f k2 t210 x14_2).bind fun t232 => (if ((t228 == x14_2) != t232) = true then (laws_FnNumbersOfKindsOfAll.j2 k2 a0 a1 t210 t218 x13_2 x14_2 bt230.1 true) else (if bt230.2 = true then ((laws_gHas.f k2 t218 x14_2).bind fun t233 => (laws_FnNumbersOfKindsOfAll.j2 k2 a0 a1 t210 t218 x13_2 x14_2 bt230.1 ((decide (bt230.1 > x13_2)) != t233))) else (laws_FnNumbersOfKindsOfAll.j2 k2 a0 a1 t210 t218 x13_2 x14_2 bt230.1 true)))) else (laws_FnNumbersOfKindsOfAll.j2 k2 a0 a1 t210 t218 x13_2 x14_2 bt230.1 true))) = some r := H
                  have A34 := Aside0.mk A340
                  clear A340
                  replace H := Option.bind_eq_some_iff.mp H
                  obtain ⟨⟨t230, t231⟩, A350, H⟩ := H
                  replace H : (if t229 = true then ((laws_gHas.f k2 t210 x14_2).bind fun t232 => (if ((t228 == x14_2) != t232) = true then (laws_FnNumbersOfKindsOfAll.j2 k2 a0 a1 t210 t218 x13_2 x14_2 t230 true) else (if t231 = true then ((laws_gHas.f k2 t218 x14_2).bind fun t233 => (laws_FnNumbersOfKindsOfAll.j2 k2 a0 a1 t210 t218 x13_2 x14_2 t230 ((decide (t230 > x13_2)) != t233))) else (laws_FnNumbersOfKindsOfAll.j2 k2 a0 a1 t210 t218 x13_2 x14_2 t230 true)))) else (laws_FnNumbersOfKindsOfAll.j2 k2 a0 a1 t210 t218 x13_2 x14_2 t230 true)) = some r := H
                  have A35 := Aside0.mk A350
                  clear A350
                  have HC36 := Aside0.mk H
                  clear H
                  go_upto_region 14 with (first | ((with_reducible refine gate_callee (f := 20) rfl ?_); refine goesL_ (some 79) rfl rfl Try.func20 (by kernel_rfl) rfl #[.int .i64 x14_2] rfl (by (try simp only [List.map_toArray, List.map_cons, List.map_nil]); first | done | rfl | (simp only [List.length_drop, List.length_take]; rfl)) ?_; (with_reducible refine (impl_SumStep.calls k2 x14_2 t228 t229 _ A34.out).mono ?_); rintro e w37 ⟨rfl, hb⟩; refine ⟨_, rfl, ?_⟩; have n0_ := Aside0.mk (Kd.R_below (by (with_reducible repeat (first | apply Kd.R_alloc | apply Kd.R_drewN | apply Kd.R_drew)); exact HO_5.out) hb); have n1_ := Aside0.mk (Kd.R_below (by (with_reducible repeat (first | apply Kd.R_alloc | apply Kd.R_drewN | apply Kd.R_drew)); exact HO_9.out) hb); have n2_ := Aside0.mk (below_step (by repeat (first | (with_reducible first | exact HB.out | apply below_alloc | apply pw_below_drewN | apply below_drew1) | exact HB.out)) hb); clear HO_5; clear HO_9; clear HB; have HO_5 := n0_; have HO_9 := n1_; have HB := n2_; clear n0_ n1_ n2_; (try clear hb); (try clear hb2); (try clear hk); (try clear hi)) | ((with_reducible refine gate_callee (f := 42) rfl ?_); refine goesL_ (some 84) rfl rfl Try.func42 (by kernel_rfl) rfl #[.int .i64 x14_2] rfl (by (try simp only [List.map_toArray, List.map_cons, List.map_nil]); first | done | rfl | (simp only [List.length_drop, List.length_take]; rfl)) ?_; (with_reducible refine (impl_CountDivisors.calls k2 x14_2 t230 t231 _ A35.out).mono ?_); rintro e w38 ⟨rfl, hb⟩; refine ⟨_, rfl, ?_⟩; have n0_ := Aside0.mk (Kd.R_below (by (with_reducible repeat (first | apply Kd.R_alloc | apply Kd.R_drewN | apply Kd.R_drew)); exact HO_5.out) hb); have n1_ := Aside0.mk (Kd.R_below (by (with_reducible repeat (first | apply Kd.R_alloc | apply Kd.R_drewN | apply Kd.R_drew)); exact HO_9.out) hb); have n2_ := Aside0.mk (below_step (by repeat (first | (with_reducible first | exact HB.out | apply below_alloc | apply pw_below_drewN | apply below_drew1) | exact HB.out)) hb); clear HO_5; clear HO_9; clear HB; have HO_5 := n0_; have HO_9 := n1_; have HB := n2_; clear n0_ n1_ n2_; (try clear hb); (try clear hb2); (try clear hk); (try clear hi)))
                  (try simp only [Act.put, List.setIfInBounds_toArray, List.set_cons_zero, List.set_cons_succ])
                  go_cut [110] (fun v110 wc => ∃ (kq : Nat) (x110_35 : Bool), v110 = .bool x110_35 ∧ Aside0 (laws_FnNumbersOfKindsOfAll.j2 kq a0 a1 t210 t218 x13_2 x14_2 t230 x110_35 = some r) ∧ Aside0 (kq ≤ k2) ∧ Aside0 (Kd.R (Kd.int .i64) 3 wc w.heap.size (fun k_ => some k_ ≠ (v220 : Value).ownBlock) v212 t210) ∧ Aside0 (Kd.R (Kd.int .i64) 3 wc w.heap.size (fun k_ => some k_ ≠ (v212 : Value).ownBlock) v220 t218) ∧ Aside0 (Below w.heap.size w wc))
                  case first =>
                    have H := HC36.out
                    clear HC36
                    by_cases c39 : t229 = true
                    · subst c39
                      have H1 : ((laws_gHas.f k2 t210 x14_2).bind fun t232 => (if ((t228 == x14_2) != t232) = true then (laws_FnNumbersOfKindsOfAll.j2 k2 a0 a1 t210 t218 x13_2 x14_2 t230 true) else (if t231 = true then ((laws_gHas.f k2 t218 x14_2).bind fun t233 => (laws_FnNumbersOfKindsOfAll.j2 k2 a0 a1 t210 t218 x13_2 x14_2 t230 ((decide (t230 > x13_2)) != t233))) else (laws_FnNumbersOfKindsOfAll.j2 k2 a0 a1 t210 t218 x13_2 x14_2 t230 true)))) = some r := by rw [if_pos rfl] at H; exact H
                      clear H
                      have H := H1
                      clear H1
                      replace H := Option.bind_eq_some_iff.mp H
                      obtain ⟨t232, A400, H⟩ := H
                      replace H : (if ((t228 == x14_2) != t232) = true then (laws_FnNumbersOfKindsOfAll.j2 k2 a0 a1 t210 t218 x13_2 x14_2 t230 true) else (if t231 = true then ((laws_gHas.f k2 t218 x14_2).bind fun t233 => (laws_FnNumbersOfKindsOfAll.j2 k2 a0 a1 t210 t218 x13_2 x14_2 t230 ((decide (t230 > x13_2)) != t233))) else (laws_FnNumbersOfKindsOfAll.j2 k2 a0 a1 t210 t218 x13_2 x14_2 t230 true))) = some r := H
                      have A40 := Aside0.mk A400
                      clear A400
                      by_cases c41 : ((t228 == x14_2) != t232) = true
                      · rw [if_pos c41] at H
                        have c41b0 : ((t228 == x14_2) != t232) = true := c41
                        (try (have c41b1 : decide ((t228 == x14_2) = t232) = false := by simpa using c41))
                        (try (have c41b2 : ((t228 == x14_2) == t232) = false := by simpa using c41))
                        (try (have c41b3 : ¬ ((t228 == x14_2) = t232) := by simpa using c41))
                        clear c41
                        (first | rw [c41b0] | (simp only [i64_w, i32_w]; rw [c41b0]) | skip)
                        have H' := Aside0.mk H
                        clear H
                        obtain ⟨Ao42, co42, eo42⟩ := Kd.R_slice HO_5.out
                        subst eo42
                        go_wp2_with (first | (go_at_call 43; (with_reducible refine (laws_gHas.calls k2 _ _ t210 x14_2 t232 _ ?side1 ?side2 A40.out).mono ?_); (case side1 => repeat (first | exact (Kd.R_reads' HO_5.out).2.2 | (with_reducible refine Kd.C_alloc ?_ _) | (with_reducible refine Kd.C_drewN ?_ _) | (with_reducible refine Kd.C_drew ?_))); (case side2 => exact (Kd.R_reads' HO_5.out).2.1); rintro e w' ⟨rfl, ⟨nd, rfl⟩⟩))
                        go_meet
                        case rel => exact ⟨_, (true), (by first | rfl | (simp; done) | (simp [*]; done)), H', ⟨by have := HJ6.out; have := HK2.out; first | omega | exact Nat.le_refl _⟩, ⟨by (with_reducible repeat (first | apply Kd.R_alloc | apply Kd.R_drewN | apply Kd.R_drew)); exact HO_5.out⟩, ⟨by (with_reducible repeat (first | apply Kd.R_alloc | apply Kd.R_drewN | apply Kd.R_drew)); exact HO_9.out⟩, ⟨by repeat (first | (with_reducible first | exact HB.out | apply below_alloc | apply pw_below_drewN | apply below_drew1) | exact HB.out)⟩⟩
                      · rw [if_neg c41] at H
                        have c41b0 : ((t228 == x14_2) != t232) = false := by simpa using c41
                        (try (have c41b1 : decide ((t228 == x14_2) = t232) = true := by simpa using c41))
                        (try (have c41b2 : ((t228 == x14_2) == t232) = true := by simpa using c41))
                        clear c41
                        (first | rw [c41b0] | (simp only [i64_w, i32_w]; rw [c41b0]) | skip)
                        by_cases c43 : t231 = true
                        · subst c43
                          have H1 : ((laws_gHas.f k2 t218 x14_2).bind fun t233 => (laws_FnNumbersOfKindsOfAll.j2 k2 a0 a1 t210 t218 x13_2 x14_2 t230 ((decide (t230 > x13_2)) != t233))) = some r := by rw [if_pos rfl] at H; exact H
                          clear H
                          have H := H1
                          clear H1
                          replace H := Option.bind_eq_some_iff.mp H
                          obtain ⟨t233, A440, H⟩ := H
                          replace H : (laws_FnNumbersOfKindsOfAll.j2 k2 a0 a1 t210 t218 x13_2 x14_2 t230 ((decide (t230 > x13_2)) != t233)) = some r := H
                          have A44 := Aside0.mk A440
                          clear A440
                          have H' := Aside0.mk H
                          clear H
                          obtain ⟨Ao45, co45, eo45⟩ := Kd.R_slice HO_5.out
                          subst eo45
                          go_wp2_with (first | (go_at_call 43; (with_reducible refine (laws_gHas.calls k2 _ _ t210 x14_2 t232 _ ?side1 ?side2 A40.out).mono ?_); (case side1 => repeat (first | exact (Kd.R_reads' HO_5.out).2.2 | (with_reducible refine Kd.C_alloc ?_ _) | (with_reducible refine Kd.C_drewN ?_ _) | (with_reducible refine Kd.C_drew ?_))); (case side2 => exact (Kd.R_reads' HO_5.out).2.1); rintro e w' ⟨rfl, ⟨nd, rfl⟩⟩; obtain ⟨Ao46, co46, eo46⟩ := Kd.R_slice HO_9.out; subst eo46) | (go_at_call 43; (with_reducible refine (laws_gHas.calls k2 _ _ t218 x14_2 t233 _ ?side1 ?side2 A44.out).mono ?_); (case side1 => repeat (first | exact (Kd.R_reads' HO_9.out).2.2 | (with_reducible refine Kd.C_alloc ?_ _) | (with_reducible refine Kd.C_drewN ?_ _) | (with_reducible refine Kd.C_drew ?_))); (case side2 => exact (Kd.R_reads' HO_9.out).2.1); rintro e w' ⟨rfl, ⟨nd, rfl⟩⟩))
                          go_meet
                          case rel => exact ⟨_, (((decide (t230 > x13_2)) != t233)), (by first | rfl | (simp; done) | (simp [*]; done)), H', ⟨by have := HJ6.out; have := HK2.out; first | omega | exact Nat.le_refl _⟩, ⟨by (with_reducible repeat (first | apply Kd.R_alloc | apply Kd.R_drewN | apply Kd.R_drew)); exact HO_5.out⟩, ⟨by (with_reducible repeat (first | apply Kd.R_alloc | apply Kd.R_drewN | apply Kd.R_drew)); exact HO_9.out⟩, ⟨by repeat (first | (with_reducible first | exact HB.out | apply below_alloc | apply pw_below_drewN | apply below_drew1) | exact HB.out)⟩⟩
                        · replace c43 := Bool.eq_false_iff.mpr c43
                          subst c43
                          have H1 : (laws_FnNumbersOfKindsOfAll.j2 k2 a0 a1 t210 t218 x13_2 x14_2 t230 true) = some r := by rw [if_neg (show ¬ (false = true) by decide)] at H; exact H
                          clear H
                          have H := H1
                          clear H1
                          have H' := Aside0.mk H
                          clear H
                          obtain ⟨Ao47, co47, eo47⟩ := Kd.R_slice HO_5.out
                          subst eo47
                          go_wp2_with (first | (go_at_call 43; (with_reducible refine (laws_gHas.calls k2 _ _ t210 x14_2 t232 _ ?side1 ?side2 A40.out).mono ?_); (case side1 => repeat (first | exact (Kd.R_reads' HO_5.out).2.2 | (with_reducible refine Kd.C_alloc ?_ _) | (with_reducible refine Kd.C_drewN ?_ _) | (with_reducible refine Kd.C_drew ?_))); (case side2 => exact (Kd.R_reads' HO_5.out).2.1); rintro e w' ⟨rfl, ⟨nd, rfl⟩⟩))
                          go_meet
                          case rel => exact ⟨_, (true), (by first | rfl | (simp; done) | (simp [*]; done)), H', ⟨by have := HJ6.out; have := HK2.out; first | omega | exact Nat.le_refl _⟩, ⟨by (with_reducible repeat (first | apply Kd.R_alloc | apply Kd.R_drewN | apply Kd.R_drew)); exact HO_5.out⟩, ⟨by (with_reducible repeat (first | apply Kd.R_alloc | apply Kd.R_drewN | apply Kd.R_drew)); exact HO_9.out⟩, ⟨by repeat (first | (with_reducible first | exact HB.out | apply below_alloc | apply pw_below_drewN | apply below_drew1) | exact HB.out)⟩⟩
                    · replace c39 := Bool.eq_false_iff.mpr c39
                      subst c39
                      have H1 : (laws_FnNumbersOfKindsOfAll.j2 k2 a0 a1 t210 t218 x13_2 x14_2 t230 true) = some r := by rw [if_neg (show ¬ (false = true) by decide)] at H; exact H
                      clear H
                      have H := H1
                      clear H1
                      have H' := Aside0.mk H
                      clear H
                      go_wp2
                      go_meet
                      case rel => exact ⟨_, (true), (by first | rfl | (simp; done) | (simp [*]; done)), H', ⟨by have := HJ6.out; have := HK2.out; first | omega | exact Nat.le_refl _⟩, ⟨by (with_reducible repeat (first | apply Kd.R_alloc | apply Kd.R_drewN | apply Kd.R_drew)); exact HO_5.out⟩, ⟨by (with_reducible repeat (first | apply Kd.R_alloc | apply Kd.R_drewN | apply Kd.R_drew)); exact HO_9.out⟩, ⟨by repeat (first | (with_reducible first | exact HB.out | apply below_alloc | apply pw_below_drewN | apply below_drew1) | exact HB.out)⟩⟩
                  case rest =>
                    clear HC36
                    try clear c1
                    try clear c2
                    try clear p2
                    try clear c3
                    try clear c4
                    try clear c12
                    try clear c12b0
                    try clear c12b1
                    try clear c12b2
                    try clear c14
                    try clear c15
                    try clear c15b0
                    try clear c15b1
                    try clear c15b2
                    try clear c19
                    try clear c20
                    try clear c28
                    try clear c29
                    try clear c30
                    try clear c32
                    try clear c33
                    try clear c33b0
                    try clear c39
                    try clear c41
                    try clear c41b0
                    try clear c41b1
                    try clear c41b2
                    try clear c42
                    try clear c43
                    try clear p2
                    obtain ⟨kq, x110_35, rfl, HA, HJ35, HO_5, HO_9, HB⟩ := hcut
                    cases kq with
                    | zero => exact absurd HA.out (by simp [laws_FnNumbersOfKindsOfAll.j2])
                    | succ kj35 =>
                      have H := HA.out
                      clear HA
                      simp only [laws_FnNumbersOfKindsOfAll.j2] at H
                      by_cases c48 : x110_35 = true
                      · subst c48
                        have H1 : (some false) = some r := by rw [if_pos rfl] at H; exact H
                        clear H
                        have H := H1
                        clear H1
                        obtain rfl := Option.some.inj H
                        go_wp2
                        go_ret
                        exact ⟨by first | rfl | (simp [errW_none, errW_some] <;> rfl) | (simp [*, errW_none, errW_some] <;> rfl), by repeat (first | (with_reducible first | exact HB.out | apply below_alloc | apply pw_below_drewN | apply below_drew1) | exact HB.out)⟩
                      · replace c48 := Bool.eq_false_iff.mpr c48
                        subst c48
                        have H1 : (if t230 > x13_2 then (laws_FnNumbersOfKindsOfAll.l0 kj35 a0 a1 t210 t218 t230 (wrap64 (x14_2 + 1))) else (laws_FnNumbersOfKindsOfAll.l0 kj35 a0 a1 t210 t218 x13_2 (wrap64 (x14_2 + 1)))) = some r := by rw [if_neg (show ¬ (false = true) by decide)] at H; exact H
                        clear H
                        have H := H1
                        clear H1
                        by_cases c49 : t230 > x13_2
                        · rw [if_pos c49] at H
                          have c49b0 : decide (x13_2 < t230) = true := decide_eq_true c49
                          clear c49
                          have H' := Aside0.mk H
                          clear H
                          go_wp2
                          go_roundg kj35
                          case measure => have := HJ6.out; have := HK2.out; have := HJ35.out; omega
                          case rel => exact ⟨(t230), (wrap64 (x14_2 + 1)), (by first | rfl | (simp; done) | (simp [*]; done)), (by first | rfl | (simp; done) | (simp [*]; done)), H', ⟨by have := HJ6.out; have := HK2.out; have := HJ35.out; omega⟩, ⟨by (with_reducible repeat (first | apply Kd.R_alloc | apply Kd.R_drewN | apply Kd.R_drew)); exact HO_5.out⟩, ⟨by (with_reducible repeat (first | apply Kd.R_alloc | apply Kd.R_drewN | apply Kd.R_drew)); exact HO_9.out⟩, ⟨by repeat (first | (with_reducible first | exact HB.out | apply below_alloc | apply pw_below_drewN | apply below_drew1) | exact HB.out)⟩⟩
                        · rw [if_neg c49] at H
                          have c49b0 : decide (x13_2 < t230) = false := decide_eq_false c49
                          clear c49
                          have H' := Aside0.mk H
                          clear H
                          go_wp2
                          go_roundg kj35
                          case measure => have := HJ6.out; have := HK2.out; have := HJ35.out; omega
                          case rel => exact ⟨(x13_2), (wrap64 (x14_2 + 1)), (by first | rfl | (simp; done) | (simp [*]; done)), (by first | rfl | (simp; done) | (simp [*]; done)), H', ⟨by have := HJ6.out; have := HK2.out; have := HJ35.out; omega⟩, ⟨by (with_reducible repeat (first | apply Kd.R_alloc | apply Kd.R_drewN | apply Kd.R_drew)); exact HO_5.out⟩, ⟨by (with_reducible repeat (first | apply Kd.R_alloc | apply Kd.R_drewN | apply Kd.R_drew)); exact HO_9.out⟩, ⟨by repeat (first | (with_reducible first | exact HB.out | apply below_alloc | apply pw_below_drewN | apply below_drew1) | exact HB.out)⟩⟩
                · rw [if_neg c33] at H
                  have c33b0 : decide (x14_2 ≤ a0) = false := decide_eq_false c33
                  clear c33
                  (first | rw [c33b0] | (simp only [i64_w, i32_w]; rw [c33b0]) | skip)
                  have H' := Aside0.mk H
                  clear H
                  go_wp2
                  go_meet
                  case rel => exact ⟨_, H', ⟨by have := HJ6.out; have := HK2.out; first | omega | exact Nat.le_refl _⟩, ⟨by repeat (first | (with_reducible first | exact HB.out | apply below_alloc | apply pw_below_drewN | apply below_drew1) | exact HB.out)⟩⟩
          · replace c32 := Bool.eq_false_iff.mpr c32
            subst c32
            have H1 : (laws_FnNumbersOfKindsOfAll.j3 kj6 a1) = some r := by rw [if_neg (show ¬ (false = true) by decide)] at H; exact H
            clear H
            have H := H1
            clear H1
            have H' := Aside0.mk H
            clear H
            go_wp2
            go_meet
            case rel => exact ⟨_, H', ⟨by have := HJ6.out; first | omega | exact Nat.le_refl _⟩, ⟨by repeat (first | (with_reducible first | exact HB.out | apply below_alloc | apply pw_below_drewN | apply below_drew1) | exact HB.out)⟩⟩
        case rest =>
          clear HC31
          try clear c1
          try clear c2
          try clear p2
          try clear c3
          try clear c4
          try clear p6
          try clear c12
          try clear c12b0
          try clear c12b1
          try clear c12b2
          try clear c14
          try clear c15
          try clear c15b0
          try clear c15b1
          try clear c15b2
          try clear c19
          try clear c20
          try clear c28
          try clear c29
          try clear c30
          try clear c32
          try clear c33
          try clear c33b0
          try clear c39
          try clear c41
          try clear c41b0
          try clear c41b1
          try clear c41b2
          try clear c42
          try clear c43
          try clear c48
          try clear c49
          try clear c49b0
          try clear p2
          obtain ⟨kq, HA, HJ30, HB⟩ := hcut
          cases kq with
          | zero => exact absurd HA.out (by simp [laws_FnNumbersOfKindsOfAll.j3])
          | succ kj30 =>
            have H := HA.out
            clear HA
            simp only [laws_FnNumbersOfKindsOfAll.j3] at H
            replace H := Option.bind_eq_some_iff.mp H
            obtain ⟨⟨t234, t235⟩, A500, H⟩ := H
            replace H : ((spec_CoprimePairs.f kj30 a1).bind fun bt236 => (if (t235 != bt236.2) = true then (laws_FnNumbersOfKindsOfAll.j4 kj30 a1 t234 t235 true) else (laws_FnNumbersOfKindsOfAll.j4 kj30 a1 t234 t235 (t234 != bt236.1)))) = some r := H
            have A50 := Aside0.mk A500
            clear A500
            replace H := Option.bind_eq_some_iff.mp H
            obtain ⟨⟨t236, t237⟩, A510, H⟩ := H
            replace H : (if (t235 != t237) = true then (laws_FnNumbersOfKindsOfAll.j4 kj30 a1 t234 t235 true) else (laws_FnNumbersOfKindsOfAll.j4 kj30 a1 t234 t235 (t234 != t236))) = some r := H
            have A51 := Aside0.mk A510
            clear A510
            have HC52 := Aside0.mk H
            clear H
            go_upto_region 20 with (first | ((with_reducible refine gate_callee (f := 44) rfl ?_); refine goesL_ (some 117) rfl rfl Try.func44 (by kernel_rfl) rfl #[.int .i64 a1] rfl (by (try simp only [List.map_toArray, List.map_cons, List.map_nil]); first | done | rfl | (simp only [List.length_drop, List.length_take]; rfl)) ?_; (with_reducible refine (impl_CoprimePairs.calls kj30 a1 t234 t235 _ A50.out).mono ?_); rintro e w53 ⟨rfl, hb⟩; refine ⟨_, rfl, ?_⟩; have n0_ := Aside0.mk (below_step (by repeat (first | (with_reducible first | exact HB.out | apply below_alloc | apply pw_below_drewN | apply below_drew1) | exact HB.out)) hb); clear HB; have HB := n0_; clear n0_; (try clear hb); (try clear hb2); (try clear hk); (try clear hi)) | ((with_reducible refine gate_callee (f := 45) rfl ?_); refine goesL_ (some 122) rfl rfl Try.func45 (by kernel_rfl) rfl #[.int .i64 a1] rfl (by (try simp only [List.map_toArray, List.map_cons, List.map_nil]); first | done | rfl | (simp only [List.length_drop, List.length_take]; rfl)) ?_; (with_reducible refine (spec_CoprimePairs.calls kj30 a1 t236 t237 _ A51.out).mono ?_); rintro e w54 ⟨rfl, hb⟩; refine ⟨_, rfl, ?_⟩; have n0_ := Aside0.mk (below_step (by repeat (first | (with_reducible first | exact HB.out | apply below_alloc | apply pw_below_drewN | apply below_drew1) | exact HB.out)) hb); clear HB; have HB := n0_; clear n0_; (try clear hb); (try clear hb2); (try clear hk); (try clear hi)))
            (try simp only [Act.put, List.setIfInBounds_toArray, List.set_cons_zero, List.set_cons_succ])
            go_cut [132] (fun v132 wc => ∃ (kq : Nat) (x132_51 : Bool), v132 = .bool x132_51 ∧ Aside0 (laws_FnNumbersOfKindsOfAll.j4 kq a1 t234 t235 x132_51 = some r) ∧ Aside0 (kq ≤ kj30) ∧ Aside0 (Below w.heap.size w wc))
            case first =>
              have H := HC52.out
              clear HC52
              by_cases c55 : (t235 != t237) = true
              · rw [if_pos c55] at H
                have c55b0 : (t235 != t237) = true := c55
                (try (have c55b1 : decide (t235 = t237) = false := by simpa using c55))
                (try (have c55b2 : (t235 == t237) = false := by simpa using c55))
                (try (have c55b3 : ¬ (t235 = t237) := by simpa using c55))
                clear c55
                (first | rw [c55b0] | (simp only [i64_w, i32_w]; rw [c55b0]) | skip)
                have H' := Aside0.mk H
                clear H
                go_wp2
                go_meet
                case rel => exact ⟨_, (true), (by first | rfl | (simp; done) | (simp [*]; done)), H', ⟨by have := HJ6.out; have := HJ30.out; first | omega | exact Nat.le_refl _⟩, ⟨by repeat (first | (with_reducible first | exact HB.out | apply below_alloc | apply pw_below_drewN | apply below_drew1) | exact HB.out)⟩⟩
              · rw [if_neg c55] at H
                have c55b0 : (t235 != t237) = false := by simpa using c55
                (try (have c55b1 : decide (t235 = t237) = true := by simpa using c55))
                (try (have c55b2 : (t235 == t237) = true := by simpa using c55))
                clear c55
                (first | rw [c55b0] | (simp only [i64_w, i32_w]; rw [c55b0]) | skip)
                have H' := Aside0.mk H
                clear H
                go_wp2
                go_meet
                case rel => exact ⟨_, ((t234 != t236)), (by first | rfl | (simp; done) | (simp [*]; done)), H', ⟨by have := HJ6.out; have := HJ30.out; first | omega | exact Nat.le_refl _⟩, ⟨by repeat (first | (with_reducible first | exact HB.out | apply below_alloc | apply pw_below_drewN | apply below_drew1) | exact HB.out)⟩⟩
            case rest =>
              clear HC52
              try clear c1
              try clear c2
              try clear p2
              try clear c3
              try clear c4
              try clear c5
              try clear p6
              try clear c12
              try clear c12b0
              try clear c12b1
              try clear c12b2
              try clear c14
              try clear c15
              try clear c15b0
              try clear c15b1
              try clear c15b2
              try clear c19
              try clear c20
              try clear c28
              try clear c29
              try clear c30
              try clear c32
              try clear c33
              try clear c33b0
              try clear c39
              try clear c41
              try clear c41b0
              try clear c41b1
              try clear c41b2
              try clear c42
              try clear c43
              try clear c44
              try clear c45
              try clear c48
              try clear c49
              try clear c49b0
              try clear c55
              try clear c55b0
              try clear c55b1
              try clear c55b2
              try clear p2
              try clear p6
              obtain ⟨kq, x132_51, rfl, HA, HJ51, HB⟩ := hcut
              cases kq with
              | zero => exact absurd HA.out (by simp [laws_FnNumbersOfKindsOfAll.j4])
              | succ kj51 =>
                have H := HA.out
                clear HA
                simp only [laws_FnNumbersOfKindsOfAll.j4] at H
                by_cases c56 : x132_51 = true
                · subst c56
                  have H1 : (some false) = some r := by rw [if_pos rfl] at H; exact H
                  clear H
                  have H := H1
                  clear H1
                  obtain rfl := Option.some.inj H
                  go_wp2
                  go_ret
                  exact ⟨by first | rfl | (simp [errW_none, errW_some] <;> rfl) | (simp [*, errW_none, errW_some] <;> rfl), by repeat (first | (with_reducible first | exact HB.out | apply below_alloc | apply pw_below_drewN | apply below_drew1) | exact HB.out)⟩
                · replace c56 := Bool.eq_false_iff.mpr c56
                  subst c56
                  have H1 : (if t235 = true then (laws_FnNumbersOfKindsOfAll.j5 kj51 a1 t234 (decide (a1 ≤ 60))) else (laws_FnNumbersOfKindsOfAll.j5 kj51 a1 t234 false)) = some r := by rw [if_neg (show ¬ (false = true) by decide)] at H; exact H
                  clear H
                  have H := H1
                  clear H1
                  have HC57 := Aside0.mk H
                  clear H
                  go_upto_region 22 with (fail)
                  go_cut [137] (fun v137 wc => ∃ (kq : Nat) (x137_56 : Bool), v137 = .bool x137_56 ∧ Aside0 (laws_FnNumbersOfKindsOfAll.j5 kq a1 t234 x137_56 = some r) ∧ Aside0 (kq ≤ kj51) ∧ Aside0 (Below w.heap.size w wc))
                  case first =>
                    have H := HC57.out
                    clear HC57
                    by_cases c58 : t235 = true
                    · subst c58
                      have H1 : (laws_FnNumbersOfKindsOfAll.j5 kj51 a1 t234 (decide (a1 ≤ 60))) = some r := by rw [if_pos rfl] at H; exact H
                      clear H
                      have H := H1
                      clear H1
                      have H' := Aside0.mk H
                      clear H
                      go_wp2
                      go_meet
                      case rel => exact ⟨_, (decide (a1 ≤ 60)), (by first | rfl | (simp; done) | (simp [*]; done)), H', ⟨by have := HJ6.out; have := HJ30.out; have := HJ51.out; first | omega | exact Nat.le_refl _⟩, ⟨by repeat (first | (with_reducible first | exact HB.out | apply below_alloc | apply pw_below_drewN | apply below_drew1) | exact HB.out)⟩⟩
                    · replace c58 := Bool.eq_false_iff.mpr c58
                      subst c58
                      have H1 : (laws_FnNumbersOfKindsOfAll.j5 kj51 a1 t234 false) = some r := by rw [if_neg (show ¬ (false = true) by decide)] at H; exact H
                      clear H
                      have H := H1
                      clear H1
                      have H' := Aside0.mk H
                      clear H
                      go_wp2
                      go_meet
                      case rel => exact ⟨_, (false), (by first | rfl | (simp; done) | (simp [*]; done)), H', ⟨by have := HJ6.out; have := HJ30.out; have := HJ51.out; first | omega | exact Nat.le_refl _⟩, ⟨by repeat (first | (with_reducible first | exact HB.out | apply below_alloc | apply pw_below_drewN | apply below_drew1) | exact HB.out)⟩⟩
                  case rest =>
                    clear HC57
                    try clear c1
                    try clear c2
                    try clear p2
                    try clear c3
                    try clear c4
                    try clear c5
                    try clear p6
                    try clear c12
                    try clear c12b0
                    try clear c12b1
                    try clear c12b2
                    try clear c14
                    try clear c15
                    try clear c15b0
                    try clear c15b1
                    try clear c15b2
                    try clear c19
                    try clear c20
                    try clear c28
                    try clear c29
                    try clear c30
                    try clear c32
                    try clear c33
                    try clear c33b0
                    try clear c39
                    try clear c41
                    try clear c41b0
                    try clear c41b1
                    try clear c41b2
                    try clear c42
                    try clear c43
                    try clear c44
                    try clear c45
                    try clear c48
                    try clear c49
                    try clear c49b0
                    try clear c55
                    try clear c55b0
                    try clear c55b1
                    try clear c55b2
                    try clear c56
                    try clear c58
                    try clear p2
                    try clear p6
                    obtain ⟨kq, x137_56, rfl, HA, HJ56, HB⟩ := hcut
                    cases kq with
                    | zero => exact absurd HA.out (by simp [laws_FnNumbersOfKindsOfAll.j5])
                    | succ kj56 =>
                      have H := HA.out
                      clear HA
                      simp only [laws_FnNumbersOfKindsOfAll.j5] at H
                      by_cases c59 : x137_56 = true
                      · subst c59
                        have H1 : (laws_FnNumbersOfKindsOfAll.l1 kj56 a1 t234 0 1) = some r := by rw [if_pos rfl] at H; exact H
                        clear H
                        have H := H1
                        clear H1
                        have H' := Aside0.mk H
                        clear H
                        go_wp2
                        go_loopg [23, 24] kj56 (fun kq v23 v24 w' => ∃ (x23_5 : Int) (x24_5 : Int), v23 = .int .i64 x23_5 ∧ v24 = .int .i64 x24_5 ∧ Aside0 (laws_FnNumbersOfKindsOfAll.l1 kq a1 t234 x23_5 x24_5 = some r) ∧ Aside0 (kq ≤ kj56) ∧ Aside0 (Below w.heap.size w w'))
                        case atStart => exact ⟨(0), (1), (by first | rfl | (simp; done) | (simp [*]; done)), (by first | rfl | (simp; done) | (simp [*]; done)), H', ⟨Nat.le_refl _⟩, ⟨by repeat (first | (with_reducible first | exact HB.out | apply below_alloc | apply pw_below_drewN | apply below_drew1) | exact HB.out)⟩⟩
                        case round =>
                          clear H'
                          try clear c1
                          try clear c2
                          try clear p2
                          try clear c3
                          try clear c4
                          try clear c5
                          try clear p6
                          try clear c12
                          try clear c12b0
                          try clear c12b1
                          try clear c12b2
                          try clear c14
                          try clear c15
                          try clear c15b0
                          try clear c15b1
                          try clear c15b2
                          try clear c19
                          try clear c20
                          try clear c28
                          try clear c29
                          try clear c30
                          try clear c32
                          try clear c33
                          try clear c33b0
                          try clear c39
                          try clear c41
                          try clear c41b0
                          try clear c41b1
                          try clear c41b2
                          try clear c42
                          try clear c43
                          try clear c44
                          try clear c45
                          try clear c48
                          try clear c49
                          try clear c49b0
                          try clear c55
                          try clear c55b0
                          try clear c55b1
                          try clear c55b2
                          try clear c56
                          try clear c58
                          try clear c59
                          try clear p2
                          try clear p6
                          obtain ⟨x23_5, x24_5, rfl, rfl, HA, HK5, HB⟩ := hrel
                          cases gk with
                          | zero => exact absurd HA.out (by simp [laws_FnNumbersOfKindsOfAll.l1])
                          | succ k5 =>
                            have H := HA.out
                            clear HA
                            simp only [laws_FnNumbersOfKindsOfAll.l1] at H
                            by_cases c60 : x24_5 ≤ a1
                            · rw [if_pos c60] at H
                              have c60b0 : decide (x24_5 ≤ a1) = true := decide_eq_true c60
                              clear c60
                              have H' := Aside0.mk H
                              clear H
                              go_wp2
                              go_loopg [23, 25] k5 (fun kq v23 v25 w' => ∃ (x23_6 : Int) (x25_6 : Int), v23 = .int .i64 x23_6 ∧ v25 = .int .i64 x25_6 ∧ Aside0 (laws_FnNumbersOfKindsOfAll.l2 kq a1 t234 x23_6 x24_5 x25_6 = some r) ∧ Aside0 (kq ≤ k5) ∧ Aside0 (Below w.heap.size w w'))
                              case atStart => exact ⟨(x23_5), (1), (by first | rfl | (simp; done) | (simp [*]; done)), (by first | rfl | (simp; done) | (simp [*]; done)), H', ⟨Nat.le_refl _⟩, ⟨by repeat (first | (with_reducible first | exact HB.out | apply below_alloc | apply pw_below_drewN | apply below_drew1) | exact HB.out)⟩⟩
                              case round =>
                                clear H'
                                try clear c1
                                try clear c2
                                try clear p2
                                try clear c3
                                try clear c4
                                try clear c5
                                try clear c6
                                try clear p6
                                try clear c12
                                try clear c12b0
                                try clear c12b1
                                try clear c12b2
                                try clear c14
                                try clear c15
                                try clear c15b0
                                try clear c15b1
                                try clear c15b2
                                try clear c19
                                try clear c20
                                try clear c28
                                try clear c29
                                try clear c30
                                try clear c32
                                try clear c33
                                try clear c33b0
                                try clear c39
                                try clear c41
                                try clear c41b0
                                try clear c41b1
                                try clear c41b2
                                try clear c42
                                try clear c43
                                try clear c44
                                try clear c45
                                try clear c48
                                try clear c49
                                try clear c49b0
                                try clear c55
                                try clear c55b0
                                try clear c55b1
                                try clear c55b2
                                try clear c56
                                try clear c58
                                try clear c59
                                try clear c60
                                try clear c60b0
                                try clear p2
                                try clear p6
                                obtain ⟨x23_6, x25_6, rfl, rfl, HA, HK6, HB⟩ := hrel
                                cases gk with
                                | zero => exact absurd HA.out (by simp [laws_FnNumbersOfKindsOfAll.l2])
                                | succ k6 =>
                                  have H := HA.out
                                  clear HA
                                  simp only [laws_FnNumbersOfKindsOfAll.l2] at H
                                  by_cases c61 : x25_6 ≤ a1
                                  · rw [if_pos c61] at H
                                    have c61b0 : decide (x25_6 ≤ a1) = true := decide_eq_true c61
                                    clear c61
                                    replace H := Option.bind_eq_some_iff.mp H
                                    obtain ⟨t238, A620, H⟩ := H
                                    replace H : (if t238 = 1 then (laws_FnNumbersOfKindsOfAll.l2 k6 a1 t234 (wrap64 (x23_6 + 1)) x24_5 (wrap64 (x25_6 + 1))) else (laws_FnNumbersOfKindsOfAll.l2 k6 a1 t234 x23_6 x24_5 (wrap64 (x25_6 + 1)))) = some r := H
                                    have A62 := Aside0.mk A620
                                    clear A620
                                    by_cases c63 : t238 = 1
                                    · rw [if_pos c63] at H
                                      have c63b0 : (t238 == 1) = true := beq_iff_eq.mpr c63
                                      have c63b1 : (t238 != 1) = false := bne_eq_false_iff_eq.mpr c63
                                      clear c63
                                      have H' := Aside0.mk H
                                      clear H
                                      go_wp2_with (first | ((with_reducible refine gate_callee (f := 46) rfl ?_); refine goesL_ (some 150) rfl rfl Try.func46 (by kernel_rfl) rfl #[.int .i64 x24_5, .int .i64 x25_6] rfl (by (try simp only [List.map_toArray, List.map_cons, List.map_nil]); first | done | rfl | (simp only [List.length_drop, List.length_take]; rfl)) ?_; (with_reducible refine (laws_gCommon.calls k6 x24_5 x25_6 t238 _ A62.out).mono ?_); rintro e w' ⟨rfl, ⟨nd, rfl⟩⟩; refine ⟨_, rfl, ?_⟩))
                                      go_roundg k6
                                      case measure => have := HJ6.out; have := HJ30.out; have := HJ51.out; have := HJ56.out; have := HK5.out; have := HK6.out; omega
                                      case rel => exact ⟨(wrap64 (x23_6 + 1)), (wrap64 (x25_6 + 1)), (by first | rfl | (simp; done) | (simp [*]; done)), (by first | rfl | (simp; done) | (simp [*]; done)), H', ⟨by have := HJ6.out; have := HJ30.out; have := HJ51.out; have := HJ56.out; have := HK5.out; have := HK6.out; omega⟩, ⟨by repeat (first | (with_reducible first | exact HB.out | apply below_alloc | apply pw_below_drewN | apply below_drew1) | exact HB.out)⟩⟩
                                    · rw [if_neg c63] at H
                                      have c63b0 : (t238 == 1) = false := beq_eq_false_iff_ne.mpr c63
                                      have c63b1 : (t238 != 1) = true := bne_iff_ne.mpr c63
                                      have H' := Aside0.mk H
                                      clear H
                                      go_wp2_with (first | ((with_reducible refine gate_callee (f := 46) rfl ?_); refine goesL_ (some 150) rfl rfl Try.func46 (by kernel_rfl) rfl #[.int .i64 x24_5, .int .i64 x25_6] rfl (by (try simp only [List.map_toArray, List.map_cons, List.map_nil]); first | done | rfl | (simp only [List.length_drop, List.length_take]; rfl)) ?_; (with_reducible refine (laws_gCommon.calls k6 x24_5 x25_6 t238 _ A62.out).mono ?_); rintro e w' ⟨rfl, ⟨nd, rfl⟩⟩; refine ⟨_, rfl, ?_⟩))
                                      go_roundg k6
                                      case measure => have := HJ6.out; have := HJ30.out; have := HJ51.out; have := HJ56.out; have := HK5.out; have := HK6.out; omega
                                      case rel => exact ⟨(x23_6), (wrap64 (x25_6 + 1)), (by first | rfl | (simp; done) | (simp [*]; done)), (by first | rfl | (simp; done) | (simp [*]; done)), H', ⟨by have := HJ6.out; have := HJ30.out; have := HJ51.out; have := HJ56.out; have := HK5.out; have := HK6.out; omega⟩, ⟨by repeat (first | (with_reducible first | exact HB.out | apply below_alloc | apply pw_below_drewN | apply below_drew1) | exact HB.out)⟩⟩
                                  · rw [if_neg c61] at H
                                    have c61b0 : decide (x25_6 ≤ a1) = false := decide_eq_false c61
                                    clear c61
                                    have H' := Aside0.mk H
                                    clear H
                                    go_wp2
                                    go_roundg k6
                                    case measure => have := HJ6.out; have := HJ30.out; have := HJ51.out; have := HJ56.out; have := HK5.out; have := HK6.out; omega
                                    case rel => exact ⟨(x23_6), (wrap64 (x24_5 + 1)), (by first | rfl | (simp; done) | (simp [*]; done)), (by first | rfl | (simp; done) | (simp [*]; done)), H', ⟨by have := HJ6.out; have := HJ30.out; have := HJ51.out; have := HJ56.out; have := HK5.out; have := HK6.out; omega⟩, ⟨by repeat (first | (with_reducible first | exact HB.out | apply below_alloc | apply pw_below_drewN | apply below_drew1) | exact HB.out)⟩⟩
                            · rw [if_neg c60] at H
                              have c60b0 : decide (x24_5 ≤ a1) = false := decide_eq_false c60
                              clear c60
                              obtain rfl := Option.some.inj H
                              go_wp2
                              go_ret
                              exact ⟨by first | rfl | (simp [errW_none, errW_some] <;> rfl) | (simp [*, errW_none, errW_some] <;> rfl), by repeat (first | (with_reducible first | exact HB.out | apply below_alloc | apply pw_below_drewN | apply below_drew1) | exact HB.out)⟩
                      · replace c59 := Bool.eq_false_iff.mpr c59
                        subst c59
                        have H1 : (some true) = some r := by rw [if_neg (show ¬ (false = true) by decide)] at H; exact H
                        clear H
                        have H := H1
                        clear H1
                        obtain rfl := Option.some.inj H
                        go_wp2
                        go_ret
                        exact ⟨by first | rfl | (simp [errW_none, errW_some] <;> rfl) | (simp [*, errW_none, errW_some] <;> rfl), by repeat (first | (with_reducible first | exact HB.out | apply below_alloc | apply pw_below_drewN | apply below_drew1) | exact HB.out)⟩

/-- THE ONE PURE STATEMENT of laws_FnNumbersOfKindsOfAll: yours. -/
def laws_FnNumbersOfKindsOfAll.Pure : Prop := ∀ (a0 : Int) (a1 : Int), (Lit.int .i64 a0).wf = true → (Lit.int .i64 a1).wf = true → ∃ k, laws_FnNumbersOfKindsOfAll.f k a0 a1 = some true
theorem laws_FnNumbersOfKindsOfAll.walk (P : laws_FnNumbersOfKindsOfAll.Pure) (a0 : Int) (a1 : Int) (w : World) (w0 : (Lit.int .i64 a0).wf = true) (w1 : (Lit.int .i64 a1).wf = true) :
    Calls Try.prog 14 #[.int .i64 a0, .int .i64 a1] w fun e w' => e = .returned (.bool true) ∧ Below w.heap.size w w' := by
  obtain ⟨k, h⟩ := P a0 a1 w0 w1
  refine (laws_FnNumbersOfKindsOfAll.calls k a0 a1 true w h).mono ?_
  rintro e w' ⟨rfl, hd⟩
  exact ⟨rfl, hd⟩

end Go.Proofs.Ytdiaabpmefgppaa.PFnNumbersOfKindsOfAll
