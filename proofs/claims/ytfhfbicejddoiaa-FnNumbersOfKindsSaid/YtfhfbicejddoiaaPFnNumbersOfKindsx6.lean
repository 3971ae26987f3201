-- Written for this claim by a program of this session, out of the translation and given contracts.
import Derived.Test.YtfhfbicejddoiaaPFnNumbersOfKindsx0
import Derived.Test.YtfhfbicejddoiaaPFnNumbersOfKindsx1
import Derived.Test.YtfhfbicejddoiaaPFnNumbersOfKindsx2
import Derived.Test.YtfhfbicejddoiaaPFnNumbersOfKindsx3
import Derived.Test.YtfhfbicejddoiaaPFnNumbersOfKindsx4
import Derived.Test.YtfhfbicejddoiaaPFnNumbersOfKindsx5
namespace Go.Proofs.Ytfhfbicejddoiaa.PFnNumbersOfKinds
open Go.RowKit Go.Proofs.YtfhfbicejddoiaaW.PrintWords Go.Proofs.YtfhfbicejddoiaaW.PrintLast Go.Proofs.YtfhfbicejddoiaaW.PrintMore
attribute [local go_sem] max2_int min2_int max_two min_two max_three min_three max_four min_four   -- for this text's walks alone
set_option linter.unusedVariables false
set_option linter.unusedSimpArgs false

/-! ### laws_FnNumbersOfKinds: function 6 -/
mutual
def laws_FnNumbersOfKinds.j0 : Nat → List Int → Int → List Int → Bool → List Int → Bool → Option (Bool)
  | 0, _, _, _, _, _, _ => none
  | k + 1, x1, x5, x6, x7, x10, x77 => if x77 = true then (some false) else (if x7 = true then (laws_FnNumbersOfKinds.l0 k x1 x5 x6 x10 0 1) else (laws_FnNumbersOfKinds.j3 k x1))
def laws_FnNumbersOfKinds.j3 : Nat → List Int → Option (Bool)
  | 0, _ => none
  | k + 1, x1 => (spec_DrawCoprimePairs.f x1).bind fun t262 => ((impl_CoprimePairs.f k t262).bind fun bt263 => ((spec_CoprimePairs.f k t262).bind fun bt265 => (if (bt263.2 != bt265.2) = true then (laws_FnNumbersOfKinds.j4 k t262 bt263.1 bt263.2 true) else (laws_FnNumbersOfKinds.j4 k t262 bt263.1 bt263.2 (bt263.1 != bt265.1)))))
def laws_FnNumbersOfKinds.j4 : Nat → Int → Int → Bool → Bool → Option (Bool)
  | 0, _, _, _, _ => none
  | k + 1, x20, x21, x22, x141 => if x141 = true then (some false) else (if x22 = true then (laws_FnNumbersOfKinds.j5 k x20 x21 (decide (x20 ≤ 60))) else (laws_FnNumbersOfKinds.j5 k x20 x21 false))
def laws_FnNumbersOfKinds.j5 : Nat → Int → Int → Bool → Option (Bool)
  | 0, _, _, _ => none
  | k + 1, x20, x21, x146 => if x146 = true then (laws_FnNumbersOfKinds.l1 k x20 x21 0 1) else (some true)
def laws_FnNumbersOfKinds.l1 : Nat → Int → Int → Int → Int → Option (Bool)
  | 0, _, _, _, _ => none
  | k + 1, x20, x21, x25, x26 => if x26 ≤ x20 then (laws_FnNumbersOfKinds.l2 k x20 x21 x25 x26 1) else (some (x25 == x21))
def laws_FnNumbersOfKinds.l2 : Nat → Int → Int → Int → Int → Int → Option (Bool)
  | 0, _, _, _, _, _ => none
  | k + 1, x20, x21, x25, x26, x27 => if x27 ≤ x20 then ((laws_gCommon.f k x26 x27).bind fun t267 => (if t267 = 1 then (laws_FnNumbersOfKinds.l2 k x20 x21 (wrap64 (x25 + 1)) x26 (wrap64 (x27 + 1))) else (laws_FnNumbersOfKinds.l2 k x20 x21 x25 x26 (wrap64 (x27 + 1))))) else (laws_FnNumbersOfKinds.l1 k x20 x21 x25 (wrap64 (x26 + 1)))
def laws_FnNumbersOfKinds.l0 : Nat → List Int → Int → List Int → List Int → Int → Int → Option (Bool)
  | 0, _, _, _, _, _, _ => none
  | k + 1, x1, x5, x6, x10, x14, x15 => if x15 ≤ x5 then ((impl_SumStep.f k x15).bind fun bt256 => ((impl_CountDivisors.f k x15).bind fun bt258 => (if bt256.2 = true then ((laws_gHas.f k x6 x15).bind fun t260 => (if ((bt256.1 == x15) != t260) = true then (laws_FnNumbersOfKinds.j2 k x1 x5 x6 x10 x14 x15 bt258.1 true) else (if bt258.2 = true then ((laws_gHas.f k x10 x15).bind fun t261 => (laws_FnNumbersOfKinds.j2 k x1 x5 x6 x10 x14 x15 bt258.1 ((decide (bt258.1 > x14)) != t261))) else (laws_FnNumbersOfKinds.j2 k x1 x5 x6 x10 x14 x15 bt258.1 true)))) else (laws_FnNumbersOfKinds.j2 k x1 x5 x6 x10 x14 x15 bt258.1 true)))) else (laws_FnNumbersOfKinds.j3 k x1)
def laws_FnNumbersOfKinds.j2 : Nat → List Int → Int → List Int → List Int → Int → Int → Int → Bool → Option (Bool)
  | 0, _, _, _, _, _, _, _, _ => none
  | k + 1, x1, x5, x6, x10, x14, x15, x18, x117 => if x117 = true then (some false) else (if x18 > x14 then (laws_FnNumbersOfKinds.l0 k x1 x5 x6 x10 x18 (wrap64 (x15 + 1))) else (laws_FnNumbersOfKinds.l0 k x1 x5 x6 x10 x14 (wrap64 (x15 + 1))))
end
def laws_FnNumbersOfKinds.f (k : Nat) (l0 : List Int) (l1 : List Int) : Option (Bool) := (laws_big.f l0 l1).bind fun t236 => (if t236 = true then (some true) else ((spec_DrawPerfectUpTo.f l0).bind fun t237 => ((impl_PerfectUpTo.f k t237).bind fun bt238 => ((spec_PerfectUpTo.f k t237).bind fun bt242 => ((impl_RecordsUpTo.f k t237).bind fun bt246 => ((spec_RecordsUpTo.f k t237).bind fun bt250 => (if (bt238.2 != bt242.2) = true then (laws_FnNumbersOfKinds.j0 k l1 t237 bt238.1 bt238.2 bt246.1 true) else ((laws_gSame.f k bt238.1 bt242.1).bind fun t254 => (if t254 = true then (if (bt246.2 != bt250.2) = true then (laws_FnNumbersOfKinds.j0 k l1 t237 bt238.1 bt238.2 bt246.1 true) else ((laws_gSame.f k bt246.1 bt250.1).bind fun t255 => (if t255 = true then (laws_FnNumbersOfKinds.j0 k l1 t237 bt238.1 bt238.2 bt246.1 (bt246.2 != bt238.2)) else (laws_FnNumbersOfKinds.j0 k l1 t237 bt238.1 bt238.2 bt246.1 true)))) else (laws_FnNumbersOfKinds.j0 k l1 t237 bt238.1 bt238.2 bt246.1 true))))))))))
theorem laws_FnNumbersOfKinds.mono_l : ∀ k, (∀ y0 y1 y2 y3 y4 y5, LeO (laws_FnNumbersOfKinds.j0 k y0 y1 y2 y3 y4 y5) (laws_FnNumbersOfKinds.j0 (k + 1) y0 y1 y2 y3 y4 y5)) ∧ (∀ y0, LeO (laws_FnNumbersOfKinds.j3 k y0) (laws_FnNumbersOfKinds.j3 (k + 1) y0)) ∧ (∀ y0 y1 y2 y3, LeO (laws_FnNumbersOfKinds.j4 k y0 y1 y2 y3) (laws_FnNumbersOfKinds.j4 (k + 1) y0 y1 y2 y3)) ∧ (∀ y0 y1 y2, LeO (laws_FnNumbersOfKinds.j5 k y0 y1 y2) (laws_FnNumbersOfKinds.j5 (k + 1) y0 y1 y2)) ∧ (∀ y0 y1 y2 y3, LeO (laws_FnNumbersOfKinds.l1 k y0 y1 y2 y3) (laws_FnNumbersOfKinds.l1 (k + 1) y0 y1 y2 y3)) ∧ (∀ y0 y1 y2 y3 y4, LeO (laws_FnNumbersOfKinds.l2 k y0 y1 y2 y3 y4) (laws_FnNumbersOfKinds.l2 (k + 1) y0 y1 y2 y3 y4)) ∧ (∀ y0 y1 y2 y3 y4 y5, LeO (laws_FnNumbersOfKinds.l0 k y0 y1 y2 y3 y4 y5) (laws_FnNumbersOfKinds.l0 (k + 1) y0 y1 y2 y3 y4 y5)) ∧ (∀ y0 y1 y2 y3 y4 y5 y6 y7, LeO (laws_FnNumbersOfKinds.j2 k y0 y1 y2 y3 y4 y5 y6 y7) (laws_FnNumbersOfKinds.j2 (k + 1) y0 y1 y2 y3 y4 y5 y6 y7))
  | 0 => ⟨fun _ _ _ _ _ _ r h => by simp [laws_FnNumbersOfKinds.j0] at h, fun _ r h => by simp [laws_FnNumbersOfKinds.j3] at h, fun _ _ _ _ r h => by simp [laws_FnNumbersOfKinds.j4] at h, fun _ _ _ r h => by simp [laws_FnNumbersOfKinds.j5] at h, fun _ _ _ _ r h => by simp [laws_FnNumbersOfKinds.l1] at h, fun _ _ _ _ _ r h => by simp [laws_FnNumbersOfKinds.l2] at h, fun _ _ _ _ _ _ r h => by simp [laws_FnNumbersOfKinds.l0] at h, fun _ _ _ _ _ _ _ _ r h => by simp [laws_FnNumbersOfKinds.j2] at h⟩
  | k + 1 => by
    obtain ⟨ih0, ih1, ih2, ih3, ih4, ih5, ih6, ih7⟩ := laws_FnNumbersOfKinds.mono_l k
    refine ⟨?_, ?_, ?_, ?_, ?_, ?_, ?_, ?_⟩
    · intro y0 y1 y2 y3 y4 y5
      unfold laws_FnNumbersOfKinds.j0
      repeat' first
      | (with_reducible exact ih0 _ _ _ _ _ _)
      | (with_reducible exact ih1 _)
      | (with_reducible exact ih2 _ _ _ _)
      | (with_reducible exact ih3 _ _ _)
      | (with_reducible exact ih4 _ _ _ _)
      | (with_reducible exact ih5 _ _ _ _ _)
      | (with_reducible exact ih6 _ _ _ _ _ _)
      | (with_reducible exact ih7 _ _ _ _ _ _ _ _)
      | (with_reducible exact impl_CoprimePairs.mono _ _)
      | (with_reducible exact impl_CountDivisors.mono _ _)
      | (with_reducible exact impl_PerfectUpTo.mono _ _)
      | (with_reducible exact impl_RecordsUpTo.mono _ _)
      | (with_reducible exact impl_SumStep.mono _ _)
      | (with_reducible exact laws_gCommon.mono _ _ _)
      | (with_reducible exact laws_gHas.mono _ _ _)
      | (with_reducible exact laws_gSame.mono _ _ _)
      | (with_reducible exact spec_CoprimePairs.mono _ _)
      | (with_reducible exact spec_PerfectUpTo.mono _ _)
      | (with_reducible exact spec_RecordsUpTo.mono _ _)
      | (with_reducible exact LeO.refl _)
      | (with_reducible exact LeO.none _)
      | (with_reducible refine LeO.ite ?_ ?_)
      | (with_reducible refine LeO.bind ?_ (fun _ => ?_))
      | exact ih0 _ _ _ _ _ _
      | exact ih1 _
      | exact ih2 _ _ _ _
      | exact ih3 _ _ _
      | exact ih4 _ _ _ _
      | exact ih5 _ _ _ _ _
      | exact ih6 _ _ _ _ _ _
      | exact ih7 _ _ _ _ _ _ _ _
      | exact impl_CoprimePairs.mono _ _
      | exact impl_CountDivisors.mono _ _
      | exact impl_PerfectUpTo.mono _ _
      | exact impl_RecordsUpTo.mono _ _
      | exact impl_SumStep.mono _ _
      | exact laws_gCommon.mono _ _ _
      | exact laws_gHas.mono _ _ _
      | exact laws_gSame.mono _ _ _
      | exact spec_CoprimePairs.mono _ _
      | exact spec_PerfectUpTo.mono _ _
      | exact spec_RecordsUpTo.mono _ _
      | exact LeO.none _
      | refine LeO.ite ?_ ?_
      | refine LeO.bind ?_ (fun _ => ?_)
    · intro y0
      unfold laws_FnNumbersOfKinds.j3
      repeat' first
      | (with_reducible exact ih0 _ _ _ _ _ _)
      | (with_reducible exact ih1 _)
      | (with_reducible exact ih2 _ _ _ _)
      | (with_reducible exact ih3 _ _ _)
      | (with_reducible exact ih4 _ _ _ _)
      | (with_reducible exact ih5 _ _ _ _ _)
      | (with_reducible exact ih6 _ _ _ _ _ _)
      | (with_reducible exact ih7 _ _ _ _ _ _ _ _)
      | (with_reducible exact impl_CoprimePairs.mono _ _)
      | (with_reducible exact impl_CountDivisors.mono _ _)
      | (with_reducible exact impl_PerfectUpTo.mono _ _)
      | (with_reducible exact impl_RecordsUpTo.mono _ _)
      | (with_reducible exact impl_SumStep.mono _ _)
      | (with_reducible exact laws_gCommon.mono _ _ _)
      | (with_reducible exact laws_gHas.mono _ _ _)
      | (with_reducible exact laws_gSame.mono _ _ _)
      | (with_reducible exact spec_CoprimePairs.mono _ _)
      | (with_reducible exact spec_PerfectUpTo.mono _ _)
      | (with_reducible exact spec_RecordsUpTo.mono _ _)
      | (with_reducible exact LeO.refl _)
      | (with_reducible exact LeO.none _)
      | (with_reducible refine LeO.ite ?_ ?_)
      | (with_reducible refine LeO.bind ?_ (fun _ => ?_))
      | exact ih0 _ _ _ _ _ _
      | exact ih1 _
      | exact ih2 _ _ _ _
      | exact ih3 _ _ _
      | exact ih4 _ _ _ _
      | exact ih5 _ _ _ _ _
      | exact ih6 _ _ _ _ _ _
      | exact ih7 _ _ _ _ _ _ _ _
      | exact impl_CoprimePairs.mono _ _
      | exact impl_CountDivisors.mono _ _
      | exact impl_PerfectUpTo.mono _ _
      | exact impl_RecordsUpTo.mono _ _
      | exact impl_SumStep.mono _ _
      | exact laws_gCommon.mono _ _ _
      | exact laws_gHas.mono _ _ _
      | exact laws_gSame.mono _ _ _
      | exact spec_CoprimePairs.mono _ _
      | exact spec_PerfectUpTo.mono _ _
      | exact spec_RecordsUpTo.mono _ _
      | exact LeO.none _
      | refine LeO.ite ?_ ?_
      | refine LeO.bind ?_ (fun _ => ?_)
    · intro y0 y1 y2 y3
      unfold laws_FnNumbersOfKinds.j4
      repeat' first
      | (with_reducible exact ih0 _ _ _ _ _ _)
      | (with_reducible exact ih1 _)
      | (with_reducible exact ih2 _ _ _ _)
      | (with_reducible exact ih3 _ _ _)
      | (with_reducible exact ih4 _ _ _ _)
      | (with_reducible exact ih5 _ _ _ _ _)
      | (with_reducible exact ih6 _ _ _ _ _ _)
      | (with_reducible exact ih7 _ _ _ _ _ _ _ _)
      | (with_reducible exact impl_CoprimePairs.mono _ _)
      | (with_reducible exact impl_CountDivisors.mono _ _)
      | (with_reducible exact impl_PerfectUpTo.mono _ _)
      | (with_reducible exact impl_RecordsUpTo.mono _ _)
      | (with_reducible exact impl_SumStep.mono _ _)
      | (with_reducible exact laws_gCommon.mono _ _ _)
      | (with_reducible exact laws_gHas.mono _ _ _)
      | (with_reducible exact laws_gSame.mono _ _ _)
      | (with_reducible exact spec_CoprimePairs.mono _ _)
      | (with_reducible exact spec_PerfectUpTo.mono _ _)
      | (with_reducible exact spec_RecordsUpTo.mono _ _)
      | (with_reducible exact LeO.refl _)
      | (with_reducible exact LeO.none _)
      | (with_reducible refine LeO.ite ?_ ?_)
      | (with_reducible refine LeO.bind ?_ (fun _ => ?_))
      | exact ih0 _ _ _ _ _ _
      | exact ih1 _
      | exact ih2 _ _ _ _
      | exact ih3 _ _ _
      | exact ih4 _ _ _ _
      | exact ih5 _ _ _ _ _
      | exact ih6 _ _ _ _ _ _
      | exact ih7 _ _ _ _ _ _ _ _
      | exact impl_CoprimePairs.mono _ _
      | exact impl_CountDivisors.mono _ _
      | exact impl_PerfectUpTo.mono _ _
      | exact impl_RecordsUpTo.mono _ _
      | exact impl_SumStep.mono _ _
      | exact laws_gCommon.mono _ _ _
      | exact laws_gHas.mono _ _ _
      | exact laws_gSame.mono _ _ _
      | exact spec_CoprimePairs.mono _ _
      | exact spec_PerfectUpTo.mono _ _
      | exact spec_RecordsUpTo.mono _ _
      | exact LeO.none _
      | refine LeO.ite ?_ ?_
      | refine LeO.bind ?_ (fun _ => ?_)
    · intro y0 y1 y2
      unfold laws_FnNumbersOfKinds.j5
      repeat' first
      | (with_reducible exact ih0 _ _ _ _ _ _)
      | (with_reducible exact ih1 _)
      | (with_reducible exact ih2 _ _ _ _)
      | (with_reducible exact ih3 _ _ _)
      | (with_reducible exact ih4 _ _ _ _)
      | (with_reducible exact ih5 _ _ _ _ _)
      | (with_reducible exact ih6 _ _ _ _ _ _)
      | (with_reducible exact ih7 _ _ _ _ _ _ _ _)
      | (with_reducible exact impl_CoprimePairs.mono _ _)
      | (with_reducible exact impl_CountDivisors.mono _ _)
      | (with_reducible exact impl_PerfectUpTo.mono _ _)
      | (with_reducible exact impl_RecordsUpTo.mono _ _)
      | (with_reducible exact impl_SumStep.mono _ _)
      | (with_reducible exact laws_gCommon.mono _ _ _)
      | (with_reducible exact laws_gHas.mono _ _ _)
      | (with_reducible exact laws_gSame.mono _ _ _)
      | (with_reducible exact spec_CoprimePairs.mono _ _)
      | (with_reducible exact spec_PerfectUpTo.mono _ _)
      | (with_reducible exact spec_RecordsUpTo.mono _ _)
      | (with_reducible exact LeO.refl _)
      | (with_reducible exact LeO.none _)
      | (with_reducible refine LeO.ite ?_ ?_)
      | (with_reducible refine LeO.bind ?_ (fun _ => ?_))
      | exact ih0 _ _ _ _ _ _
      | exact ih1 _
      | exact ih2 _ _ _ _
      | exact ih3 _ _ _
      | exact ih4 _ _ _ _
      | exact ih5 _ _ _ _ _
      | exact ih6 _ _ _ _ _ _
      | exact ih7 _ _ _ _ _ _ _ _
      | exact impl_CoprimePairs.mono _ _
      | exact impl_CountDivisors.mono _ _
      | exact impl_PerfectUpTo.mono _ _
      | exact impl_RecordsUpTo.mono _ _
      | exact impl_SumStep.mono _ _
      | exact laws_gCommon.mono _ _ _
      | exact laws_gHas.mono _ _ _
      | exact laws_gSame.mono _ _ _
      | exact spec_CoprimePairs.mono _ _
      | exact spec_PerfectUpTo.mono _ _
      | exact spec_RecordsUpTo.mono _ _
      | exact LeO.none _
      | refine LeO.ite ?_ ?_
      | refine LeO.bind ?_ (fun _ => ?_)
    · intro y0 y1 y2 y3
      unfold laws_FnNumbersOfKinds.l1
      repeat' first
      | (with_reducible exact ih0 _ _ _ _ _ _)
      | (with_reducible exact ih1 _)
      | (with_reducible exact ih2 _ _ _ _)
      | (with_reducible exact ih3 _ _ _)
      | (with_reducible exact ih4 _ _ _ _)
      | (with_reducible exact ih5 _ _ _ _ _)
      | (with_reducible exact ih6 _ _ _ _ _ _)
      | (with_reducible exact ih7 _ _ _ _ _ _ _ _)
      | (with_reducible exact impl_CoprimePairs.mono _ _)
      | (with_reducible exact impl_CountDivisors.mono _ _)
      | (with_reducible exact impl_PerfectUpTo.mono _ _)
      | (with_reducible exact impl_RecordsUpTo.mono _ _)
      | (with_reducible exact impl_SumStep.mono _ _)
      | (with_reducible exact laws_gCommon.mono _ _ _)
      | (with_reducible exact laws_gHas.mono _ _ _)
      | (with_reducible exact laws_gSame.mono _ _ _)
      | (with_reducible exact spec_CoprimePairs.mono _ _)
      | (with_reducible exact spec_PerfectUpTo.mono _ _)
      | (with_reducible exact spec_RecordsUpTo.mono _ _)
      | (with_reducible exact LeO.refl _)
      | (with_reducible exact LeO.none _)
      | (with_reducible refine LeO.ite ?_ ?_)
      | (with_reducible refine LeO.bind ?_ (fun _ => ?_))
      | exact ih0 _ _ _ _ _ _
      | exact ih1 _
      | exact ih2 _ _ _ _
      | exact ih3 _ _ _
      | exact ih4 _ _ _ _
      | exact ih5 _ _ _ _ _
      | exact ih6 _ _ _ _ _ _
      | exact ih7 _ _ _ _ _ _ _ _
      | exact impl_CoprimePairs.mono _ _
      | exact impl_CountDivisors.mono _ _
      | exact impl_PerfectUpTo.mono _ _
      | exact impl_RecordsUpTo.mono _ _
      | exact impl_SumStep.mono _ _
      | exact laws_gCommon.mono _ _ _
      | exact laws_gHas.mono _ _ _
      | exact laws_gSame.mono _ _ _
      | exact spec_CoprimePairs.mono _ _
      | exact spec_PerfectUpTo.mono _ _
      | exact spec_RecordsUpTo.mono _ _
      | exact LeO.none _
      | refine LeO.ite ?_ ?_
      | refine LeO.bind ?_ (fun _ => ?_)
    · intro y0 y1 y2 y3 y4
      unfold laws_FnNumbersOfKinds.l2
      repeat' first
      | (with_reducible exact ih0 _ _ _ _ _ _)
      | (with_reducible exact ih1 _)
      | (with_reducible exact ih2 _ _ _ _)
      | (with_reducible exact ih3 _ _ _)
      | (with_reducible exact ih4 _ _ _ _)
      | (with_reducible exact ih5 _ _ _ _ _)
      | (with_reducible exact ih6 _ _ _ _ _ _)
      | (with_reducible exact ih7 _ _ _ _ _ _ _ _)
      | (with_reducible exact impl_CoprimePairs.mono _ _)
      | (with_reducible exact impl_CountDivisors.mono _ _)
      | (with_reducible exact impl_PerfectUpTo.mono _ _)
      | (with_reducible exact impl_RecordsUpTo.mono _ _)
      | (with_reducible exact impl_SumStep.mono _ _)
      | (with_reducible exact laws_gCommon.mono _ _ _)
      | (with_reducible exact laws_gHas.mono _ _ _)
      | (with_reducible exact laws_gSame.mono _ _ _)
      | (with_reducible exact spec_CoprimePairs.mono _ _)
      | (with_reducible exact spec_PerfectUpTo.mono _ _)
      | (with_reducible exact spec_RecordsUpTo.mono _ _)
      | (with_reducible exact LeO.refl _)
      | (with_reducible exact LeO.none _)
      | (with_reducible refine LeO.ite ?_ ?_)
      | (with_reducible refine LeO.bind ?_ (fun _ => ?_))
      | exact ih0 _ _ _ _ _ _
      | exact ih1 _
      | exact ih2 _ _ _ _
      | exact ih3 _ _ _
      | exact ih4 _ _ _ _
      | exact ih5 _ _ _ _ _
      | exact ih6 _ _ _ _ _ _
      | exact ih7 _ _ _ _ _ _ _ _
      | exact impl_CoprimePairs.mono _ _
      | exact impl_CountDivisors.mono _ _
      | exact impl_PerfectUpTo.mono _ _
      | exact impl_RecordsUpTo.mono _ _
      | exact impl_SumStep.mono _ _
      | exact laws_gCommon.mono _ _ _
      | exact laws_gHas.mono _ _ _
      | exact laws_gSame.mono _ _ _
      | exact spec_CoprimePairs.mono _ _
      | exact spec_PerfectUpTo.mono _ _
      | exact spec_RecordsUpTo.mono _ _
      | exact LeO.none _
      | refine LeO.ite ?_ ?_
      | refine LeO.bind ?_ (fun _ => ?_)
    · intro y0 y1 y2 y3 y4 y5
      unfold laws_FnNumbersOfKinds.l0
      repeat' first
      | (with_reducible exact ih0 _ _ _ _ _ _)
      | (with_reducible exact ih1 _)
      | (with_reducible exact ih2 _ _ _ _)
      | (with_reducible exact ih3 _ _ _)
      | (with_reducible exact ih4 _ _ _ _)
      | (with_reducible exact ih5 _ _ _ _ _)
      | (with_reducible exact ih6 _ _ _ _ _ _)
      | (with_reducible exact ih7 _ _ _ _ _ _ _ _)
      | (with_reducible exact impl_CoprimePairs.mono _ _)
      | (with_reducible exact impl_CountDivisors.mono _ _)
      | (with_reducible exact impl_PerfectUpTo.mono _ _)
      | (with_reducible exact impl_RecordsUpTo.mono _ _)
      | (with_reducible exact impl_SumStep.mono _ _)
      | (with_reducible exact laws_gCommon.mono _ _ _)
      | (with_reducible exact laws_gHas.mono _ _ _)
      | (with_reducible exact laws_gSame.mono _ _ _)
      | (with_reducible exact spec_CoprimePairs.mono _ _)
      | (with_reducible exact spec_PerfectUpTo.mono _ _)
      | (with_reducible exact spec_RecordsUpTo.mono _ _)
      | (with_reducible exact LeO.refl _)
      | (with_reducible exact LeO.none _)
      | (with_reducible refine LeO.ite ?_ ?_)
      | (with_reducible refine LeO.bind ?_ (fun _ => ?_))
      | exact ih0 _ _ _ _ _ _
      | exact ih1 _
      | exact ih2 _ _ _ _
      | exact ih3 _ _ _
      | exact ih4 _ _ _ _
      | exact ih5 _ _ _ _ _
      | exact ih6 _ _ _ _ _ _
      | exact ih7 _ _ _ _ _ _ _ _
      | exact impl_CoprimePairs.mono _ _
      | exact impl_CountDivisors.mono _ _
      | exact impl_PerfectUpTo.mono _ _
      | exact impl_RecordsUpTo.mono _ _
      | exact impl_SumStep.mono _ _
      | exact laws_gCommon.mono _ _ _
      | exact laws_gHas.mono _ _ _
      | exact laws_gSame.mono _ _ _
      | exact spec_CoprimePairs.mono _ _
      | exact spec_PerfectUpTo.mono _ _
      | exact spec_RecordsUpTo.mono _ _
      | exact LeO.none _
      | refine LeO.ite ?_ ?_
      | refine LeO.bind ?_ (fun _ => ?_)
    · intro y0 y1 y2 y3 y4 y5 y6 y7
      unfold laws_FnNumbersOfKinds.j2
      repeat' first
      | (with_reducible exact ih0 _ _ _ _ _ _)
      | (with_reducible exact ih1 _)
      | (with_reducible exact ih2 _ _ _ _)
      | (with_reducible exact ih3 _ _ _)
      | (with_reducible exact ih4 _ _ _ _)
      | (with_reducible exact ih5 _ _ _ _ _)
      | (with_reducible exact ih6 _ _ _ _ _ _)
      | (with_reducible exact ih7 _ _ _ _ _ _ _ _)
      | (with_reducible exact impl_CoprimePairs.mono _ _)
      | (with_reducible exact impl_CountDivisors.mono _ _)
      | (with_reducible exact impl_PerfectUpTo.mono _ _)
      | (with_reducible exact impl_RecordsUpTo.mono _ _)
      | (with_reducible exact impl_SumStep.mono _ _)
      | (with_reducible exact laws_gCommon.mono _ _ _)
      | (with_reducible exact laws_gHas.mono _ _ _)
      | (with_reducible exact laws_gSame.mono _ _ _)
      | (with_reducible exact spec_CoprimePairs.mono _ _)
      | (with_reducible exact spec_PerfectUpTo.mono _ _)
      | (with_reducible exact spec_RecordsUpTo.mono _ _)
      | (with_reducible exact LeO.refl _)
      | (with_reducible exact LeO.none _)
      | (with_reducible refine LeO.ite ?_ ?_)
      | (with_reducible refine LeO.bind ?_ (fun _ => ?_))
      | exact ih0 _ _ _ _ _ _
      | exact ih1 _
      | exact ih2 _ _ _ _
      | exact ih3 _ _ _
      | exact ih4 _ _ _ _
      | exact ih5 _ _ _ _ _
      | exact ih6 _ _ _ _ _ _
      | exact ih7 _ _ _ _ _ _ _ _
      | exact impl_CoprimePairs.mono _ _
      | exact impl_CountDivisors.mono _ _
      | exact impl_PerfectUpTo.mono _ _
      | exact impl_RecordsUpTo.mono _ _
      | exact impl_SumStep.mono _ _
      | exact laws_gCommon.mono _ _ _
      | exact laws_gHas.mono _ _ _
      | exact laws_gSame.mono _ _ _
      | exact spec_CoprimePairs.mono _ _
      | exact spec_PerfectUpTo.mono _ _
      | exact spec_RecordsUpTo.mono _ _
      | exact LeO.none _
      | refine LeO.ite ?_ ?_
      | refine LeO.bind ?_ (fun _ => ?_)
theorem laws_FnNumbersOfKinds.mono : ∀ a0 a1 k, LeO (laws_FnNumbersOfKinds.f k a0 a1) (laws_FnNumbersOfKinds.f (k + 1) a0 a1) := by
  intro a0 a1 k
  obtain ⟨ih0, ih1, ih2, ih3, ih4, ih5, ih6, ih7⟩ := laws_FnNumbersOfKinds.mono_l k
  unfold laws_FnNumbersOfKinds.f
  repeat' first
      | (with_reducible exact ih0 _ _ _ _ _ _)
      | (with_reducible exact ih1 _)
      | (with_reducible exact ih2 _ _ _ _)
      | (with_reducible exact ih3 _ _ _)
      | (with_reducible exact ih4 _ _ _ _)
      | (with_reducible exact ih5 _ _ _ _ _)
      | (with_reducible exact ih6 _ _ _ _ _ _)
      | (with_reducible exact ih7 _ _ _ _ _ _ _ _)
      | (with_reducible exact impl_CoprimePairs.mono _ _)
      | (with_reducible exact impl_CountDivisors.mono _ _)
      | (with_reducible exact impl_PerfectUpTo.mono _ _)
      | (with_reducible exact impl_RecordsUpTo.mono _ _)
      | (with_reducible exact impl_SumStep.mono _ _)
      | (with_reducible exact laws_gCommon.mono _ _ _)
      | (with_reducible exact laws_gHas.mono _ _ _)
      | (with_reducible exact laws_gSame.mono _ _ _)
      | (with_reducible exact spec_CoprimePairs.mono _ _)
      | (with_reducible exact spec_PerfectUpTo.mono _ _)
      | (with_reducible exact spec_RecordsUpTo.mono _ _)
      | (with_reducible exact LeO.refl _)
      | (with_reducible exact LeO.none _)
      | (with_reducible refine LeO.ite ?_ ?_)
      | (with_reducible refine LeO.bind ?_ (fun _ => ?_))
      | exact ih0 _ _ _ _ _ _
      | exact ih1 _
      | exact ih2 _ _ _ _
      | exact ih3 _ _ _
      | exact ih4 _ _ _ _
      | exact ih5 _ _ _ _ _
      | exact ih6 _ _ _ _ _ _
      | exact ih7 _ _ _ _ _ _ _ _
      | exact impl_CoprimePairs.mono _ _
      | exact impl_CountDivisors.mono _ _
      | exact impl_PerfectUpTo.mono _ _
      | exact impl_RecordsUpTo.mono _ _
      | exact impl_SumStep.mono _ _
      | exact laws_gCommon.mono _ _ _
      | exact laws_gHas.mono _ _ _
      | exact laws_gSame.mono _ _ _
      | exact spec_CoprimePairs.mono _ _
      | exact spec_PerfectUpTo.mono _ _
      | exact spec_RecordsUpTo.mono _ _
      | exact LeO.none _
      | refine LeO.ite ?_ ?_
      | refine LeO.bind ?_ (fun _ => ?_)
theorem laws_FnNumbersOfKinds.j0_no : ∀ k y0 y1 y2 y3 y4, laws_FnNumbersOfKinds.j0 k y0 y1 y2 y3 y4 true = some true → False := by
  intro k y0 y1 y2 y3 y4 h
  cases k with
  | zero => simp [laws_FnNumbersOfKinds.j0] at h
  | succ k => simp [laws_FnNumbersOfKinds.j0] at h
theorem laws_FnNumbersOfKinds.j4_no : ∀ k y0 y1 y2, laws_FnNumbersOfKinds.j4 k y0 y1 y2 true = some true → False := by
  intro k y0 y1 y2 h
  cases k with
  | zero => simp [laws_FnNumbersOfKinds.j4] at h
  | succ k => simp [laws_FnNumbersOfKinds.j4] at h
theorem laws_FnNumbersOfKinds.j2_no : ∀ k y0 y1 y2 y3 y4 y5 y6, laws_FnNumbersOfKinds.j2 k y0 y1 y2 y3 y4 y5 y6 true = some true → False := by
  intro k y0 y1 y2 y3 y4 y5 y6 h
  cases k with
  | zero => simp [laws_FnNumbersOfKinds.j2] at h
  | succ k => simp [laws_FnNumbersOfKinds.j2] at h
set_option maxHeartbeats 8000000 in
set_option maxRecDepth 100000 in
theorem laws_FnNumbersOfKinds.calls (k : Nat) (A0 : Option Addr) (c0 : Nat) (l0 : List Int) (A1 : Option Addr) (c1 : Nat) (l1 : List Int) (r : Bool) (w : World) (hr0 : Kd.C (Kd.int .u8) w A0 l0.length l0) (hc0 : l0.length ≤ c0) (hr1 : Kd.C (Kd.int .u8) w A1 l1.length l1) (hc1 : l1.length ≤ c1) (h : laws_FnNumbersOfKinds.f k l0 l1 = some r) (hr_ : r = true) :
    Calls Try.prog 6 #[.slice A0 l0.length c0, .slice A1 l1.length c1] w fun e w' => e = .returned (.bool r) ∧ Below w.heap.size w w' := by
  have HRT := Aside0.mk hr_
  clear hr_
  have HR0 := Aside0.mk hr0
  have HC0 := Aside0.mk hc0
  clear hr0 hc0
  have HR1 := Aside0.mk hr1
  have HC1 := Aside0.mk hc1
  clear hr1 hc1
  have HB := Aside0.mk (Below.refl w.heap.size w)
  have H : ((laws_big.f l0 l1).bind fun t236 => (if t236 = true then (some true) else ((spec_DrawPerfectUpTo.f l0).bind fun t237 => ((impl_PerfectUpTo.f k t237).bind fun bt238 => ((spec_PerfectUpTo.f k t237).bind fun bt242 => ((impl_RecordsUpTo.f k t237).bind fun bt246 => ((spec_RecordsUpTo.f k t237).bind fun bt250 => (if (bt238.2 != bt242.2) = true then (laws_FnNumbersOfKinds.j0 k l1 t237 bt238.1 bt238.2 bt246.1 true) else ((laws_gSame.f k bt238.1 bt242.1).bind fun t254 => (if t254 = true then (if (bt246.2 != bt250.2) = true then (laws_FnNumbersOfKinds.j0 k l1 t237 bt238.1 bt238.2 bt246.1 true) else ((laws_gSame.f k bt246.1 bt250.1).bind fun t255 => (if t255 = true then (laws_FnNumbersOfKinds.j0 k l1 t237 bt238.1 bt238.2 bt246.1 (bt246.2 != bt238.2)) else (laws_FnNumbersOfKinds.j0 k l1 t237 bt238.1 bt238.2 bt246.1 true)))) else (laws_FnNumbersOfKinds.j0 k l1 t237 bt238.1 bt238.2 bt246.1 true))))))))))) = some r := h
  clear h
  replace H := Option.bind_eq_some_iff.mp H
  obtain ⟨t236, A30, H⟩ := H
  replace H : (if t236 = true then (some true) else ((spec_DrawPerfectUpTo.f l0).bind fun t237 => ((impl_PerfectUpTo.f k t237).bind fun bt238 => ((spec_PerfectUpTo.f k t237).bind fun bt242 => ((impl_RecordsUpTo.f k t237).bind fun bt246 => ((spec_RecordsUpTo.f k t237).bind fun bt250 => (if (bt238.2 != bt242.2) = true then (laws_FnNumbersOfKinds.j0 k l1 t237 bt238.1 bt238.2 bt246.1 true) else ((laws_gSame.f k bt238.1 bt242.1).bind fun t254 => (if t254 = true then (if (bt246.2 != bt250.2) = true then (laws_FnNumbersOfKinds.j0 k l1 t237 bt238.1 bt238.2 bt246.1 true) else ((laws_gSame.f k bt246.1 bt250.1).bind fun t255 => (if t255 = true then (laws_FnNumbersOfKinds.j0 k l1 t237 bt238.1 bt238.2 bt246.1 (bt246.2 != bt238.2)) else (laws_FnNumbersOfKinds.j0 k l1 t237 bt238.1 bt238.2 bt246.1 true)))) else (laws_FnNumbersOfKinds.j0 k l1 t237 bt238.1 bt238.2 bt246.1 true)))))))))) = some r := H
  have A3 := Aside0.mk A30
  clear A30
  by_cases c4 : t236 = true
  · subst c4
    have H1 : (some true) = some r := by rw [if_pos rfl] at H; exact H
    clear H
    have H := H1
    clear H1
    first
    | exact absurd (Option.some.inj (H.trans (congrArg some HRT.out))) Bool.false_ne_true
    |
      obtain rfl := Option.some.inj H
      go_enter Try.func6, Try.ntmps6
      go_wp2_with (first | ((with_reducible refine gate_callee (f := 11) rfl ?_); refine goesL_ (some 30) rfl rfl Try.func11 (by kernel_rfl) rfl #[.slice A0 l0.length c0, .slice A1 l1.length c1] rfl (by (try simp only [List.map_toArray, List.map_cons, List.map_nil]); first | done | rfl | (simp only [List.length_drop, List.length_take]; rfl)) ?_; (with_reducible refine (laws_big.calls _ _ l0 _ _ l1 true _ ?side1 ?side2 ?side3 ?side4 A3.out).mono ?_); (case side1 => repeat (first | exact HR0.out | (with_reducible refine Kd.C_alloc ?_ _) | (with_reducible refine Kd.C_drewN ?_ _) | (with_reducible refine Kd.C_drew ?_))); (case side2 => exact HC0.out); (case side3 => repeat (first | exact HR1.out | (with_reducible refine Kd.C_alloc ?_ _) | (with_reducible refine Kd.C_drewN ?_ _) | (with_reducible refine Kd.C_drew ?_))); (case side4 => exact HC1.out); rintro e w' ⟨rfl, ⟨nd, rfl⟩⟩; refine ⟨_, rfl, ?_⟩))
      go_ret
      exact ⟨by first | rfl | (simp [errW_none, errW_some] <;> rfl) | (simp [*, errW_none, errW_some] <;> rfl), by repeat (first | (with_reducible first | exact HB.out | apply below_alloc | apply pw_below_drewN | apply below_drew1) | exact HB.out)⟩
  · replace c4 := Bool.eq_false_iff.mpr c4
    subst c4
    have H1 : ((spec_DrawPerfectUpTo.f l0).bind fun t237 => ((impl_PerfectUpTo.f k t237).bind fun bt238 => ((spec_PerfectUpTo.f k t237).bind fun bt242 => ((impl_RecordsUpTo.f k t237).bind fun bt246 => ((spec_RecordsUpTo.f k t237).bind fun bt250 => (if (bt238.2 != bt242.2) = true then (laws_FnNumbersOfKinds.j0 k l1 t237 bt238.1 bt238.2 bt246.1 true) else ((laws_gSame.f k bt238.1 bt242.1).bind fun t254 => (if t254 = true then (if (bt246.2 != bt250.2) = true then (laws_FnNumbersOfKinds.j0 k l1 t237 bt238.1 bt238.2 bt246.1 true) else ((laws_gSame.f k bt246.1 bt250.1).bind fun t255 => (if t255 = true then (laws_FnNumbersOfKinds.j0 k l1 t237 bt238.1 bt238.2 bt246.1 (bt246.2 != bt238.2)) else (laws_FnNumbersOfKinds.j0 k l1 t237 bt238.1 bt238.2 bt246.1 true)))) else (laws_FnNumbersOfKinds.j0 k l1 t237 bt238.1 bt238.2 bt246.1 true))))))))) = some r := by rw [if_neg (show ¬ (false = true) by decide)] at H; exact H
    clear H
    have H := H1
    clear H1
    replace H := Option.bind_eq_some_iff.mp H
    obtain ⟨t237, A50, H⟩ := H
    replace H : ((impl_PerfectUpTo.f k t237).bind fun bt238 => ((spec_PerfectUpTo.f k t237).bind fun bt242 => ((impl_RecordsUpTo.f k t237).bind fun bt246 => ((spec_RecordsUpTo.f k t237).bind fun bt250 => (if (bt238.2 != bt242.2) = true then (laws_FnNumbersOfKinds.j0 k l1 t237 bt238.1 bt238.2 bt246.1 true) else ((laws_gSame.f k bt238.1 bt242.1).bind fun t254 => (if t254 = true then (if (bt246.2 != bt250.2) = true then (laws_FnNumbersOfKinds.j0 k l1 t237 bt238.1 bt238.2 bt246.1 true) else ((laws_gSame.f k bt246.1 bt250.1).bind fun t255 => (if t255 = true then (laws_FnNumbersOfKinds.j0 k l1 t237 bt238.1 bt238.2 bt246.1 (bt246.2 != bt238.2)) else (laws_FnNumbersOfKinds.j0 k l1 t237 bt238.1 bt238.2 bt246.1 true)))) else (laws_FnNumbersOfKinds.j0 k l1 t237 bt238.1 bt238.2 bt246.1 true)))))))) = some r := H
    have A5 := Aside0.mk A50
    clear A50
    replace H := Option.bind_eq_some_iff.mp H
    obtain ⟨⟨t238, t239⟩, A60, H⟩ := H
    replace H : ((spec_PerfectUpTo.f k t237).bind fun bt242 => ((impl_RecordsUpTo.f k t237).bind fun bt246 => ((spec_RecordsUpTo.f k t237).bind fun bt250 => (if (t239 != bt242.2) = true then (laws_FnNumbersOfKinds.j0 k l1 t237 t238 t239 bt246.1 true) else ((laws_gSame.f k t238 bt242.1).bind fun t254 => (if t254 = true then (if (bt246.2 != bt250.2) = true then (laws_FnNumbersOfKinds.j0 k l1 t237 t238 t239 bt246.1 true) else ((laws_gSame.f k bt246.1 bt250.1).bind fun t255 => (if t255 = true then (laws_FnNumbersOfKinds.j0 k l1 t237 t238 t239 bt246.1 (bt246.2 != t239)) else (laws_FnNumbersOfKinds.j0 k l1 t237 t238 t239 bt246.1 true)))) else (laws_FnNumbersOfKinds.j0 k l1 t237 t238 t239 bt246.1 true))))))) = some r := H
    have A6 := Aside0.mk A60
    clear A60
    replace H := Option.bind_eq_some_iff.mp H
    obtain ⟨⟨t242, t243⟩, A70, H⟩ := H
    replace H : ((impl_RecordsUpTo.f k t237).bind fun bt246 => ((spec_RecordsUpTo.f k t237).bind fun bt250 => (if (t239 != t243) = true then (laws_FnNumbersOfKinds.j0 k l1 t237 t238 t239 bt246.1 true) else ((laws_gSame.f k t238 t242).bind fun t254 => (if t254 = true then (if (bt246.2 != bt250.2) = true then (laws_FnNumbersOfKinds.j0 k l1 t237 t238 t239 bt246.1 true) else ((laws_gSame.f k bt246.1 bt250.1).bind fun t255 => (if t255 = true then (laws_FnNumbersOfKinds.j0 k l1 t237 t238 t239 bt246.1 (bt246.2 != t239)) else (laws_FnNumbersOfKinds.j0 k l1 t237 t238 t239 bt246.1 true)))) else (laws_FnNumbersOfKinds.j0 k l1 t237 t238 t239 bt246.1 true)))))) = some r := H
    have A7 := Aside0.mk A70
    clear A70
    replace H := Option.bind_eq_some_iff.mp H
    obtain ⟨⟨t246, t247⟩, A80, H⟩ := H
    replace H : ((spec_RecordsUpTo.f k t237).bind fun bt250 => (if (t239 != t243) = true then (laws_FnNumbersOfKinds.j0 k l1 t237 t238 t239 t246 true) else ((laws_gSame.f k t238 t242).bind fun t254 => (if t254 = true then (if (t247 != bt250.2) = true then (laws_FnNumbersOfKinds.j0 k l1 t237 t238 t239 t246 true) else ((laws_gSame.f k t246 bt250.1).bind fun t255 => (if t255 = true then (laws_FnNumbersOfKinds.j0 k l1 t237 t238 t239 t246 (t247 != t239)) else (laws_FnNumbersOfKinds.j0 k l1 t237 t238 t239 t246 true)))) else (laws_FnNumbersOfKinds.j0 k l1 t237 t238 t239 t246 true))))) = some r := H
    have A8 := Aside0.mk A80
    clear A80
    replace H := Option.bind_eq_some_iff.mp H
    obtain ⟨⟨t250, t251⟩, A90, H⟩ := H
    replace H : (if (t239 != t243) = true then (laws_FnNumbersOfKinds.j0 k l1 t237 t238 t239 t246 true) else ((laws_gSame.f k t238 t242).bind fun t254 => (if t254 = true then (if (t247 != t251) = true then (laws_FnNumbersOfKinds.j0 k l1 t237 t238 t239 t246 true) else ((laws_gSame.f k t246 t250).bind fun t255 => (if t255 = true then (laws_FnNumbersOfKinds.j0 k l1 t237 t238 t239 t246 (t247 != t239)) else (laws_FnNumbersOfKinds.j0 k l1 t237 t238 t239 t246 true)))) else (laws_FnNumbersOfKinds.j0 k l1 t237 t238 t239 t246 true)))) = some r := H
    have A9 := Aside0.mk A90
    clear A90
    have HC10 := Aside0.mk H
    clear H
    go_enter Try.func6, Try.ntmps6
    go_upto_region 8 with (first | ((with_reducible refine gate_callee (f := 11) rfl ?_); refine goesL_ (some 30) rfl rfl Try.func11 (by kernel_rfl) rfl #[.slice A0 l0.length c0, .slice A1 l1.length c1] rfl (by (try simp only [List.map_toArray, List.map_cons, List.map_nil]); first | done | rfl | (simp only [List.length_drop, List.length_take]; rfl)) ?_; (with_reducible refine (laws_big.calls _ _ l0 _ _ l1 false _ ?side1 ?side2 ?side3 ?side4 A3.out).mono ?_); (case side1 => repeat (first | exact HR0.out | (with_reducible refine Kd.C_alloc ?_ _) | (with_reducible refine Kd.C_drewN ?_ _) | (with_reducible refine Kd.C_drew ?_))); (case side2 => exact HC0.out); (case side3 => repeat (first | exact HR1.out | (with_reducible refine Kd.C_alloc ?_ _) | (with_reducible refine Kd.C_drewN ?_ _) | (with_reducible refine Kd.C_drew ?_))); (case side4 => exact HC1.out); rintro e w' ⟨rfl, ⟨nd, rfl⟩⟩; refine ⟨_, rfl, ?_⟩) | ((with_reducible refine gate_callee (f := 82) rfl ?_); refine goesL_ (some 32) rfl rfl Try.func82 (by kernel_rfl) rfl #[.slice A0 l0.length c0] rfl (by (try simp only [List.map_toArray, List.map_cons, List.map_nil]); first | done | rfl | (simp only [List.length_drop, List.length_take]; rfl)) ?_; (with_reducible refine (spec_DrawPerfectUpTo.calls _ _ l0 t237 _ ?side1 ?side2 A5.out).mono ?_); (case side1 => repeat (first | exact HR0.out | (with_reducible refine Kd.C_alloc ?_ _) | (with_reducible refine Kd.C_drewN ?_ _) | (with_reducible refine Kd.C_drew ?_))); (case side2 => exact HC0.out); rintro e w11 ⟨rfl, hb⟩; refine ⟨_, rfl, ?_⟩; have n0_ := Aside0.mk (below_step (by repeat (first | (with_reducible first | exact HB.out | apply below_alloc | apply pw_below_drewN | apply below_drew1) | exact HB.out)) hb); clear HB; have HB := n0_; clear n0_; (try clear hb); (try clear hb2); (try clear hk); (try clear hi)) | ((with_reducible refine gate_callee (f := 83) rfl ?_); refine goesL_ (some 35) rfl rfl Try.func83 (by kernel_rfl) rfl #[.int .i64 t237] rfl (by (try simp only [List.map_toArray, List.map_cons, List.map_nil]); first | done | rfl | (simp only [List.length_drop, List.length_take]; rfl)) ?_; (with_reducible refine (impl_PerfectUpTo.calls k t237 t238 t239 _ A6.out).mono ?_); rintro e w12 ⟨v240, rfl, ho0, hb⟩; refine ⟨_, rfl, ?_⟩; have n0_ := Aside0.mk (Kd.R_lower ho0 (below_size (by repeat (first | (with_reducible first | exact HB.out | apply below_alloc | apply pw_below_drewN | apply below_drew1) | exact HB.out)))); have n1_ := Aside0.mk (below_step (by repeat (first | (with_reducible first | exact HB.out | apply below_alloc | apply pw_below_drewN | apply below_drew1) | exact HB.out)) hb); clear HB; have HO241 := n0_; have HB := n1_; clear n0_ n1_; (try clear hb); (try clear hb2); (try clear hk); (try clear hi); (try clear ho0)) | ((with_reducible refine gate_callee (f := 84) rfl ?_); refine goesL_ (some 40) rfl rfl Try.func84 (by kernel_rfl) rfl #[.int .i64 t237] rfl (by (try simp only [List.map_toArray, List.map_cons, List.map_nil]); first | done | rfl | (simp only [List.length_drop, List.length_take]; rfl)) ?_; (with_reducible refine (spec_PerfectUpTo.calls k t237 t242 t243 _ A7.out).mono ?_); rintro e w13 ⟨v244, rfl, ho0, hb⟩; refine ⟨_, rfl, ?_⟩; have n0_ := Aside0.mk (Kd.R_elder' (by (with_reducible repeat (first | apply Kd.R_alloc | apply Kd.R_drewN | apply Kd.R_drew)); exact HO241.out) (Kd.R_base ho0) hb); have n1_ := Aside0.mk (Kd.R_lower (Kd.R_new' ho0 (Kd.R_lt (by (with_reducible repeat (first | apply Kd.R_alloc | apply Kd.R_drewN | apply Kd.R_drew)); exact HO241.out))) (below_size (by repeat (first | (with_reducible first | exact HB.out | apply below_alloc | apply pw_below_drewN | apply below_drew1) | exact HB.out)))); have n2_ := Aside0.mk (below_step (by repeat (first | (with_reducible first | exact HB.out | apply below_alloc | apply pw_below_drewN | apply below_drew1) | exact HB.out)) hb); clear HO241; clear HB; have HO241 := n0_; have HO245 := n1_; have HB := n2_; clear n0_ n1_ n2_; (try clear hb); (try clear hb2); (try clear hk); (try clear hi); (try clear ho0)) | ((with_reducible refine gate_callee (f := 85) rfl ?_); refine goesL_ (some 45) rfl rfl Try.func85 (by kernel_rfl) rfl #[.int .i64 t237] rfl (by (try simp only [List.map_toArray, List.map_cons, List.map_nil]); first | done | rfl | (simp only [List.length_drop, List.length_take]; rfl)) ?_; (with_reducible refine (impl_RecordsUpTo.calls k t237 t246 t247 _ A8.out).mono ?_); rintro e w14 ⟨v248, rfl, ho0, hb⟩; refine ⟨_, rfl, ?_⟩; have n0_ := Aside0.mk (Kd.R_elder' (by (with_reducible repeat (first | apply Kd.R_alloc | apply Kd.R_drewN | apply Kd.R_drew)); exact HO241.out) (Kd.R_base ho0) hb); have n1_ := Aside0.mk (Kd.R_elder' (by (with_reducible repeat (first | apply Kd.R_alloc | apply Kd.R_drewN | apply Kd.R_drew)); exact HO245.out) (Kd.R_base ho0) hb); have n2_ := Aside0.mk (Kd.R_lower (Kd.R_new' (Kd.R_new' ho0 (Kd.R_lt (by (with_reducible repeat (first | apply Kd.R_alloc | apply Kd.R_drewN | apply Kd.R_drew)); exact HO241.out))) (Kd.R_lt (by (with_reducible repeat (first | apply Kd.R_alloc | apply Kd.R_drewN | apply Kd.R_drew)); exact HO245.out))) (below_size (by repeat (first | (with_reducible first | exact HB.out | apply below_alloc | apply pw_below_drewN | apply below_drew1) | exact HB.out)))); have n3_ := Aside0.mk (below_step (by repeat (first | (with_reducible first | exact HB.out | apply below_alloc | apply pw_below_drewN | apply below_drew1) | exact HB.out)) hb); clear HO241; clear HO245; clear HB; have HO241 := n0_; have HO245 := n1_; have HO249 := n2_; have HB := n3_; clear n0_ n1_ n2_ n3_; (try clear hb); (try clear hb2); (try clear hk); (try clear hi); (try clear ho0)) | ((with_reducible refine gate_callee (f := 86) rfl ?_); refine goesL_ (some 50) rfl rfl Try.func86 (by kernel_rfl) rfl #[.int .i64 t237] rfl (by (try simp only [List.map_toArray, List.map_cons, List.map_nil]); first | done | rfl | (simp only [List.length_drop, List.length_take]; rfl)) ?_; (with_reducible refine (spec_RecordsUpTo.calls k t237 t250 t251 _ A9.out).mono ?_); rintro e w15 ⟨v252, rfl, ho0, hb⟩; refine ⟨_, rfl, ?_⟩; have n0_ := Aside0.mk (Kd.R_elder' (by (with_reducible repeat (first | apply Kd.R_alloc | apply Kd.R_drewN | apply Kd.R_drew)); exact HO241.out) (Kd.R_base ho0) hb); have n1_ := Aside0.mk (Kd.R_elder' (by (with_reducible repeat (first | apply Kd.R_alloc | apply Kd.R_drewN | apply Kd.R_drew)); exact HO245.out) (Kd.R_base ho0) hb); have n2_ := Aside0.mk (Kd.R_elder' (by (with_reducible repeat (first | apply Kd.R_alloc | apply Kd.R_drewN | apply Kd.R_drew)); exact HO249.out) (Kd.R_base ho0) hb); have n3_ := Aside0.mk (Kd.R_lower (Kd.R_new' (Kd.R_new' (Kd.R_new' ho0 (Kd.R_lt (by (with_reducible repeat (first | apply Kd.R_alloc | apply Kd.R_drewN | apply Kd.R_drew)); exact HO241.out))) (Kd.R_lt (by (with_reducible repeat (first | apply Kd.R_alloc | apply Kd.R_drewN | apply Kd.R_drew)); exact HO245.out))) (Kd.R_lt (by (with_reducible repeat (first | apply Kd.R_alloc | apply Kd.R_drewN | apply Kd.R_drew)); exact HO249.out))) (below_size (by repeat (first | (with_reducible first | exact HB.out | apply below_alloc | apply pw_below_drewN | apply below_drew1) | exact HB.out)))); have n4_ := Aside0.mk (below_step (by repeat (first | (with_reducible first | exact HB.out | apply below_alloc | apply pw_below_drewN | apply below_drew1) | exact HB.out)) hb); clear HO241; clear HO245; clear HO249; clear HB; have HO241 := n0_; have HO245 := n1_; have HO249 := n2_; have HO253 := n3_; have HB := n4_; clear n0_ n1_ n2_ n3_ n4_; (try clear hb); (try clear hb2); (try clear hk); (try clear hi); (try clear ho0)))
    (try simp only [Act.put, List.setIfInBounds_toArray, List.set_cons_zero, List.set_cons_succ])
    go_cut [77] (fun v77 wc => ∃ (kq : Nat) (x77_9 : Bool), v77 = .bool x77_9 ∧ Aside0 (laws_FnNumbersOfKinds.j0 kq l1 t237 t238 t239 t246 x77_9 = some r) ∧ Aside0 (kq ≤ k) ∧ Aside0 (Kd.R (Kd.int .i64) 3 wc w.heap.size (fun k_ => some k_ ≠ (v248 : Value).ownBlock) v240 t238) ∧ Aside0 (Kd.R (Kd.int .i64) 3 wc w.heap.size (fun k_ => some k_ ≠ (v240 : Value).ownBlock) v248 t246) ∧ Aside0 (Below w.heap.size w wc))
    case first =>
      have H := HC10.out
      clear HC10
      by_cases c16 : (t239 != t243) = true
      · rw [if_pos c16] at H
        have c16b0 : (t239 != t243) = true := c16
        (try (have c16b1 : decide (t239 = t243) = false := by simpa using c16))
        (try (have c16b2 : (t239 == t243) = false := by simpa using c16))
        (try (have c16b3 : ¬ (t239 = t243) := by simpa using c16))
        clear c16
        (first | rw [c16b0] | (simp only [i64_w, i32_w]; rw [c16b0]) | skip)
        exact (laws_FnNumbersOfKinds.j0_no _ _ _ _ _ _ (H.trans (congrArg some HRT.out))).elim
      · rw [if_neg c16] at H
        have c16b0 : (t239 != t243) = false := by simpa using c16
        (try (have c16b1 : decide (t239 = t243) = true := by simpa using c16))
        (try (have c16b2 : (t239 == t243) = true := by simpa using c16))
        clear c16
        (first | rw [c16b0] | (simp only [i64_w, i32_w]; rw [c16b0]) | skip)
        replace H := Option.bind_eq_some_iff.mp H
        obtain ⟨t254, A170, H⟩ := H
        replace H : (if t254 = true then (if (t247 != t251) = true then (laws_FnNumbersOfKinds.j0 k l1 t237 t238 t239 t246 true) else ((laws_gSame.f k t246 t250).bind fun t255 => (if t255 = true then (laws_FnNumbersOfKinds.j0 k l1 t237 t238 t239 t246 (t247 != t239)) else (laws_FnNumbersOfKinds.j0 k l1 t237 t238 t239 t246 true)))) else (laws_FnNumbersOfKinds.j0 k l1 t237 t238 t239 t246 true)) = some r := H
        have A17 := Aside0.mk A170
        clear A170
        by_cases c18 : t254 = true
        · subst c18
          have H1 : (if (t247 != t251) = true then (laws_FnNumbersOfKinds.j0 k l1 t237 t238 t239 t246 true) else ((laws_gSame.f k t246 t250).bind fun t255 => (if t255 = true then (laws_FnNumbersOfKinds.j0 k l1 t237 t238 t239 t246 (t247 != t239)) else (laws_FnNumbersOfKinds.j0 k l1 t237 t238 t239 t246 true)))) = some r := by rw [if_pos rfl] at H; exact H
          clear H
          have H := H1
          clear H1
          by_cases c19 : (t247 != t251) = true
          · rw [if_pos c19] at H
            have c19b0 : (t247 != t251) = true := c19
            (try (have c19b1 : decide (t247 = t251) = false := by simpa using c19))
            (try (have c19b2 : (t247 == t251) = false := by simpa using c19))
            (try (have c19b3 : ¬ (t247 = t251) := by simpa using c19))
            clear c19
            exact (laws_FnNumbersOfKinds.j0_no _ _ _ _ _ _ (H.trans (congrArg some HRT.out))).elim
          · rw [if_neg c19] at H
            have c19b0 : (t247 != t251) = false := by simpa using c19
            (try (have c19b1 : decide (t247 = t251) = true := by simpa using c19))
            (try (have c19b2 : (t247 == t251) = true := by simpa using c19))
            clear c19
            replace H := Option.bind_eq_some_iff.mp H
            obtain ⟨t255, A220, H⟩ := H
            replace H : (if t255 = true then (laws_FnNumbersOfKinds.j0 k l1 t237 t238 t239 t246 (t247 != t239)) else (laws_FnNumbersOfKinds.j0 k l1 t237 t238 t239 t246 true)) = some r := H
            have A22 := Aside0.mk A220
            clear A220
            by_cases c23 : t255 = true
            · subst c23
              have H1 : (laws_FnNumbersOfKinds.j0 k l1 t237 t238 t239 t246 (t247 != t239)) = some r := by rw [if_pos rfl] at H; exact H
              clear H
              have H := H1
              clear H1
              have H' := Aside0.mk H
              clear H
              obtain ⟨Ao24, co24, eo24⟩ := Kd.R_slice HO241.out
              subst eo24
              obtain ⟨Ao25, co25, eo25⟩ := Kd.R_slice HO245.out
              subst eo25
              go_wp2_with (first | (go_at_call 75; (with_reducible refine (laws_gSame.calls k _ _ t238 _ _ t242 true _ ?side1 ?side2 ?side3 ?side4 A17.out).mono ?_); (case side1 => repeat (first | exact (Kd.R_reads' HO241.out).2.2 | (with_reducible refine Kd.C_alloc ?_ _) | (with_reducible refine Kd.C_drewN ?_ _) | (with_reducible refine Kd.C_drew ?_))); (case side2 => exact (Kd.R_reads' HO241.out).2.1); (case side3 => repeat (first | exact (Kd.R_reads' HO245.out).2.2 | (with_reducible refine Kd.C_alloc ?_ _) | (with_reducible refine Kd.C_drewN ?_ _) | (with_reducible refine Kd.C_drew ?_))); (case side4 => exact (Kd.R_reads' HO245.out).2.1); rintro e w' ⟨rfl, ⟨nd, rfl⟩⟩; obtain ⟨Ao26, co26, eo26⟩ := Kd.R_slice HO249.out; subst eo26; obtain ⟨Ao27, co27, eo27⟩ := Kd.R_slice HO253.out; subst eo27) | (go_at_call 75; (with_reducible refine (laws_gSame.calls k _ _ t246 _ _ t250 true _ ?side1 ?side2 ?side3 ?side4 A22.out).mono ?_); (case side1 => repeat (first | exact (Kd.R_reads' HO249.out).2.2 | (with_reducible refine Kd.C_alloc ?_ _) | (with_reducible refine Kd.C_drewN ?_ _) | (with_reducible refine Kd.C_drew ?_))); (case side2 => exact (Kd.R_reads' HO249.out).2.1); (case side3 => repeat (first | exact (Kd.R_reads' HO253.out).2.2 | (with_reducible refine Kd.C_alloc ?_ _) | (with_reducible refine Kd.C_drewN ?_ _) | (with_reducible refine Kd.C_drew ?_))); (case side4 => exact (Kd.R_reads' HO253.out).2.1); rintro e w' ⟨rfl, ⟨nd, rfl⟩⟩))
              go_meet
              case rel => exact ⟨_, ((t247 != t239)), (by first | rfl | (simp; done) | (simp [*]; done)), H', ⟨by first | omega | exact Nat.le_refl _⟩, ⟨by (with_reducible repeat (first | apply Kd.R_alloc | apply Kd.R_drewN | apply Kd.R_drew)); exact Kd.R_mono HO241.out (fun _ hk => hk.1.2)⟩, ⟨by (with_reducible repeat (first | apply Kd.R_alloc | apply Kd.R_drewN | apply Kd.R_drew)); exact Kd.R_mono HO249.out (fun _ hk => hk.1.1.2)⟩, ⟨by repeat (first | (with_reducible first | exact HB.out | apply below_alloc | apply pw_below_drewN | apply below_drew1) | exact HB.out)⟩⟩
            · replace c23 := Bool.eq_false_iff.mpr c23
              subst c23
              have H1 : (laws_FnNumbersOfKinds.j0 k l1 t237 t238 t239 t246 true) = some r := by rw [if_neg (show ¬ (false = true) by decide)] at H; exact H
              clear H
              have H := H1
              clear H1
              exact (laws_FnNumbersOfKinds.j0_no _ _ _ _ _ _ (H.trans (congrArg some HRT.out))).elim
        · replace c18 := Bool.eq_false_iff.mpr c18
          subst c18
          have H1 : (laws_FnNumbersOfKinds.j0 k l1 t237 t238 t239 t246 true) = some r := by rw [if_neg (show ¬ (false = true) by decide)] at H; exact H
          clear H
          have H := H1
          clear H1
          exact (laws_FnNumbersOfKinds.j0_no _ _ _ _ _ _ (H.trans (congrArg some HRT.out))).elim
    case rest =>
      clear HC10
      try clear c1
      try clear c2
      try clear p2
      try clear c4
      try clear c6
      try clear c8
      try clear c11
      try clear c16
      try clear c16b0
      try clear c16b1
      try clear c16b2
      try clear c18
      try clear c19
      try clear c19b0
      try clear c19b1
      try clear c19b2
      try clear c23
      obtain ⟨kq, x77_9, rfl, HA, HJ9, HO_6, HO_10, HB⟩ := hcut
      cases kq with
      | zero => exact absurd HA.out (by simp [laws_FnNumbersOfKinds.j0])
      | succ kj9 =>
        have H := HA.out
        clear HA
        simp only [laws_FnNumbersOfKinds.j0] at H
        by_cases c34 : x77_9 = true
        · subst c34
          have H1 : (some false) = some r := by rw [if_pos rfl] at H; exact H
          clear H
          have H := H1
          clear H1
          first
          | exact absurd (Option.some.inj (H.trans (congrArg some HRT.out))) Bool.false_ne_true
          |
            obtain rfl := Option.some.inj H
            go_wp2
            go_ret
            exact ⟨by first | rfl | (simp [errW_none, errW_some] <;> rfl) | (simp [*, errW_none, errW_some] <;> rfl), by repeat (first | (with_reducible first | exact HB.out | apply below_alloc | apply pw_below_drewN | apply below_drew1) | exact HB.out)⟩
        · replace c34 := Bool.eq_false_iff.mpr c34
          subst c34
          have H1 : (if t239 = true then (laws_FnNumbersOfKinds.l0 kj9 l1 t237 t238 t246 0 1) else (laws_FnNumbersOfKinds.j3 kj9 l1)) = some r := by rw [if_neg (show ¬ (false = true) by decide)] at H; exact H
          clear H
          have H := H1
          clear H1
          have HC35 := Aside0.mk H
          clear H
          go_upto_if 78 with (fail)
          go_cut [] (fun wc => ∃ (kq : Nat), Aside0 (laws_FnNumbersOfKinds.j3 kq l1 = some r) ∧ Aside0 (kq ≤ kj9) ∧ Aside0 (Below w.heap.size w wc))
          case first =>
            have H := HC35.out
            clear HC35
            by_cases c36 : t239 = true
            · subst c36
              have H1 : (laws_FnNumbersOfKinds.l0 kj9 l1 t237 t238 t246 0 1) = some r := by rw [if_pos rfl] at H; exact H
              clear H
              have H := H1
              clear H1
              have H' := Aside0.mk H
              clear H
              go_wp2
              go_loopg [14, 15] kj9 (fun kq v14 v15 w' => ∃ (x14_2 : Int) (x15_2 : Int), v14 = .int .i64 x14_2 ∧ v15 = .int .i64 x15_2 ∧ Aside0 (laws_FnNumbersOfKinds.l0 kq l1 t237 t238 t246 x14_2 x15_2 = some r) ∧ Aside0 (kq ≤ kj9) ∧ Aside0 (Kd.R (Kd.int .i64) 3 w' w.heap.size (fun k_ => some k_ ≠ (v248 : Value).ownBlock) v240 t238) ∧ Aside0 (Kd.R (Kd.int .i64) 3 w' w.heap.size (fun k_ => some k_ ≠ (v240 : Value).ownBlock) v248 t246) ∧ Aside0 (Below w.heap.size w w'))
              case atStart => exact ⟨(0), (1), (by first | rfl | (simp; done) | (simp [*]; done)), (by first | rfl | (simp; done) | (simp [*]; done)), H', ⟨Nat.le_refl _⟩, ⟨by (with_reducible repeat (first | apply Kd.R_alloc | apply Kd.R_drewN | apply Kd.R_drew)); exact HO_6.out⟩, ⟨by (with_reducible repeat (first | apply Kd.R_alloc | apply Kd.R_drewN | apply Kd.R_drew)); exact HO_10.out⟩, ⟨by repeat (first | (with_reducible first | exact HB.out | apply below_alloc | apply pw_below_drewN | apply below_drew1) | exact HB.out)⟩⟩
              case round =>
                clear H'
                try clear c1
                try clear c2
                try clear p2
                try clear c3
                try clear c4
                try clear c6
                try clear c8
                try clear c11
                try clear c16
                try clear c16b0
                try clear c16b1
                try clear c16b2
                try clear c18
                try clear c19
                try clear c19b0
                try clear c19b1
                try clear c19b2
                try clear c23
                try clear c34
                try clear c36
                try clear p2
                obtain ⟨x14_2, x15_2, rfl, rfl, HA, HK2, HO_6, HO_10, HB⟩ := hrel
                cases gk with
                | zero => exact absurd HA.out (by simp [laws_FnNumbersOfKinds.l0])
                | succ k2 =>
                  have H := HA.out
                  clear HA
                  simp only [laws_FnNumbersOfKinds.l0] at H
                  by_cases c37 : x15_2 ≤ t237
                  · rw [if_pos c37] at H
                    have c37b0 : decide (x15_2 ≤ t237) = true := decide_eq_true c37
                    clear c37
                    (first | rw [c37b0] | (simp only [i64_w, i32_w]; rw [c37b0]) | skip)
                    replace H := Option.bind_eq_some_iff.mp H
                    obtain ⟨⟨t256, t257⟩, A380, H⟩ := H
                    replace H : ((impl_CountDivisors.f k2 x15_2).bind fun bt258 => (if t257 = true then ((laws_gHas.f k2 t238 x15_2).bind fun t260 => (if ((t256 == x15_2) != t260) = true then (laws_FnNumbersOfKinds.j2 k2 l1 t237 t238 t246 x14_2 x15_2 bt258.1 true) else (if bt258.2 = true then ((laws_gHas.f k2 t246 x15_2).bind fun t261 => (laws_FnNumbersOfKinds.j2 k2 l1 t237 t238 t246 x14_2 x15_2 bt258.1 ((decide (bt258.1 > x14_2)) != t261))) else (laws_FnNumbersOfKinds.j2 k2 l1 t237 t238 t246 x14_2 x15_2 bt258.1 true)))) else (laws_FnNumbersOfKinds.j2 k2 l1 t237 t238 t246 x14_2 x15_2 bt258.1 true))) = some r := H
                    have A38 := Aside0.mk A380
                    clear A380
                    replace H := Option.bind_eq_some_iff.mp H
                    obtain ⟨⟨t258, t259⟩, A390, H⟩ := H
                    replace H : (if t257 = true then ((laws_gHas.f k2 t238 x15_2).bind fun t260 => (if ((t256 == x15_2) != t260) = true then (laws_FnNumbersOfKinds.j2 k2 l1 t237 t238 t246 x14_2 x15_2 t258 true) else (if t259 = true then ((laws_gHas.f k2 t246 x15_2).bind fun t261 => (laws_FnNumbersOfKinds.j2 k2 l1 t237 t238 t246 x14_2 x15_2 t258 ((decide (t258 > x14_2)) != t261))) else (laws_FnNumbersOfKinds.j2 k2 l1 t237 t238 t246 x14_2 x15_2 t258 true)))) else (laws_FnNumbersOfKinds.j2 k2 l1 t237 t238 t246 x14_2 x15_2 t258 true)) = some r := H
                    have A39 := Aside0.mk A390
                    clear A390
                    have HC40 := Aside0.mk H
                    clear H
                    go_upto_region 17 with (first | ((with_reducible refine gate_callee (f := 73) rfl ?_); refine goesL_ (some 86) rfl rfl Try.func73 (by kernel_rfl) rfl #[.int .i64 x15_2] rfl (by (try simp only [List.map_toArray, List.map_cons, List.map_nil]); first | done | rfl | (simp only [List.length_drop, List.length_take]; rfl)) ?_; (with_reducible refine (impl_SumStep.calls k2 x15_2 t256 t257 _ A38.out).mono ?_); rintro e w41 ⟨rfl, hb⟩; refine ⟨_, rfl, ?_⟩; have n0_ := Aside0.mk (Kd.R_below (by (with_reducible repeat (first | apply Kd.R_alloc | apply Kd.R_drewN | apply Kd.R_drew)); exact HO_6.out) hb); have n1_ := Aside0.mk (Kd.R_below (by (with_reducible repeat (first | apply Kd.R_alloc | apply Kd.R_drewN | apply Kd.R_drew)); exact HO_10.out) hb); have n2_ := Aside0.mk (below_step (by repeat (first | (with_reducible first | exact HB.out | apply below_alloc | apply pw_below_drewN | apply below_drew1) | exact HB.out)) hb); clear HO_6; clear HO_10; clear HB; have HO_6 := n0_; have HO_10 := n1_; have HB := n2_; clear n0_ n1_ n2_; (try clear hb); (try clear hb2); (try clear hk); (try clear hi)) | ((with_reducible refine gate_callee (f := 65) rfl ?_); refine goesL_ (some 91) rfl rfl Try.func65 (by kernel_rfl) rfl #[.int .i64 x15_2] rfl (by (try simp only [List.map_toArray, List.map_cons, List.map_nil]); first | done | rfl | (simp only [List.length_drop, List.length_take]; rfl)) ?_; (with_reducible refine (impl_CountDivisors.calls k2 x15_2 t258 t259 _ A39.out).mono ?_); rintro e w42 ⟨rfl, hb⟩; refine ⟨_, rfl, ?_⟩; have n0_ := Aside0.mk (Kd.R_below (by (with_reducible repeat (first | apply Kd.R_alloc | apply Kd.R_drewN | apply Kd.R_drew)); exact HO_6.out) hb); have n1_ := Aside0.mk (Kd.R_below (by (with_reducible repeat (first | apply Kd.R_alloc | apply Kd.R_drewN | apply Kd.R_drew)); exact HO_10.out) hb); have n2_ := Aside0.mk (below_step (by repeat (first | (with_reducible first | exact HB.out | apply below_alloc | apply pw_below_drewN | apply below_drew1) | exact HB.out)) hb); clear HO_6; clear HO_10; clear HB; have HO_6 := n0_; have HO_10 := n1_; have HB := n2_; clear n0_ n1_ n2_; (try clear hb); (try clear hb2); (try clear hk); (try clear hi)))
                    (try simp only [Act.put, List.setIfInBounds_toArray, List.set_cons_zero, List.set_cons_succ])
                    go_cut [117] (fun v117 wc => ∃ (kq : Nat) (x117_39 : Bool), v117 = .bool x117_39 ∧ Aside0 (laws_FnNumbersOfKinds.j2 kq l1 t237 t238 t246 x14_2 x15_2 t258 x117_39 = some r) ∧ Aside0 (kq ≤ k2) ∧ Aside0 (Kd.R (Kd.int .i64) 3 wc w.heap.size (fun k_ => some k_ ≠ (v248 : Value).ownBlock) v240 t238) ∧ Aside0 (Kd.R (Kd.int .i64) 3 wc w.heap.size (fun k_ => some k_ ≠ (v240 : Value).ownBlock) v248 t246) ∧ Aside0 (Below w.heap.size w wc))
                    case first =>
                      have H := HC40.out
                      clear HC40
                      by_cases c43 : t257 = true
                      · subst c43
                        have H1 : ((laws_gHas.f k2 t238 x15_2).bind fun t260 => (if ((t256 == x15_2) != t260) = true then (laws_FnNumbersOfKinds.j2 k2 l1 t237 t238 t246 x14_2 x15_2 t258 true) else (if t259 = true then ((laws_gHas.f k2 t246 x15_2).bind fun t261 => (laws_FnNumbersOfKinds.j2 k2 l1 t237 t238 t246 x14_2 x15_2 t258 ((decide (t258 > x14_2)) != t261))) else (laws_FnNumbersOfKinds.j2 k2 l1 t237 t238 t246 x14_2 x15_2 t258 true)))) = some r := by rw [if_pos rfl] at H; exact H
                        clear H
                        have H := H1
                        clear H1
                        replace H := Option.bind_eq_some_iff.mp H
                        obtain ⟨t260, A440, H⟩ := H
                        replace H : (if ((t256 == x15_2) != t260) = true then (laws_FnNumbersOfKinds.j2 k2 l1 t237 t238 t246 x14_2 x15_2 t258 true) else (if t259 = true then ((laws_gHas.f k2 t246 x15_2).bind fun t261 => (laws_FnNumbersOfKinds.j2 k2 l1 t237 t238 t246 x14_2 x15_2 t258 ((decide (t258 > x14_2)) != t261))) else (laws_FnNumbersOfKinds.j2 k2 l1 t237 t238 t246 x14_2 x15_2 t258 true))) = some r := H
                        have A44 := Aside0.mk A440
                        clear A440
                        by_cases c45 : ((t256 == x15_2) != t260) = true
                        · rw [if_pos c45] at H
                          have c45b0 : ((t256 == x15_2) != t260) = true := c45
                          (try (have c45b1 : decide ((t256 == x15_2) = t260) = false := by simpa using c45))
                          (try (have c45b2 : ((t256 == x15_2) == t260) = false := by simpa using c45))
                          (try (have c45b3 : ¬ ((t256 == x15_2) = t260) := by simpa using c45))
                          clear c45
                          (first | rw [c45b0] | (simp only [i64_w, i32_w]; rw [c45b0]) | skip)
                          exact (laws_FnNumbersOfKinds.j2_no _ _ _ _ _ _ _ _ (H.trans (congrArg some HRT.out))).elim
                        · rw [if_neg c45] at H
                          have c45b0 : ((t256 == x15_2) != t260) = false := by simpa using c45
                          (try (have c45b1 : decide ((t256 == x15_2) = t260) = true := by simpa using c45))
                          (try (have c45b2 : ((t256 == x15_2) == t260) = true := by simpa using c45))
                          clear c45
                          (first | rw [c45b0] | (simp only [i64_w, i32_w]; rw [c45b0]) | skip)
                          by_cases c47 : t259 = true
                          · subst c47
                            have H1 : ((laws_gHas.f k2 t246 x15_2).bind fun t261 => (laws_FnNumbersOfKinds.j2 k2 l1 t237 t238 t246 x14_2 x15_2 t258 ((decide (t258 > x14_2)) != t261))) = some r := by rw [if_pos rfl] at H; exact H
                            clear H
                            have H := H1
                            clear H1
                            replace H := Option.bind_eq_some_iff.mp H
                            obtain ⟨t261, A480, H⟩ := H
                            replace H : (laws_FnNumbersOfKinds.j2 k2 l1 t237 t238 t246 x14_2 x15_2 t258 ((decide (t258 > x14_2)) != t261)) = some r := H
                            have A48 := Aside0.mk A480
                            clear A480
                            have H' := Aside0.mk H
                            clear H
                            obtain ⟨Ao49, co49, eo49⟩ := Kd.R_slice HO_6.out
                            subst eo49
                            go_wp2_with (first | (go_at_call 87; (with_reducible refine (laws_gHas.calls k2 _ _ t238 x15_2 t260 _ ?side1 ?side2 A44.out).mono ?_); (case side1 => repeat (first | exact (Kd.R_reads' HO_6.out).2.2 | (with_reducible refine Kd.C_alloc ?_ _) | (with_reducible refine Kd.C_drewN ?_ _) | (with_reducible refine Kd.C_drew ?_))); (case side2 => exact (Kd.R_reads' HO_6.out).2.1); rintro e w' ⟨rfl, ⟨nd, rfl⟩⟩; obtain ⟨Ao50, co50, eo50⟩ := Kd.R_slice HO_10.out; subst eo50) | (go_at_call 87; (with_reducible refine (laws_gHas.calls k2 _ _ t246 x15_2 t261 _ ?side1 ?side2 A48.out).mono ?_); (case side1 => repeat (first | exact (Kd.R_reads' HO_10.out).2.2 | (with_reducible refine Kd.C_alloc ?_ _) | (with_reducible refine Kd.C_drewN ?_ _) | (with_reducible refine Kd.C_drew ?_))); (case side2 => exact (Kd.R_reads' HO_10.out).2.1); rintro e w' ⟨rfl, ⟨nd, rfl⟩⟩))
                            go_meet
                            case rel => exact ⟨_, (((decide (t258 > x14_2)) != t261)), (by first | rfl | (simp; done) | (simp [*]; done)), H', ⟨by have := HJ9.out; have := HK2.out; first | omega | exact Nat.le_refl _⟩, ⟨by (with_reducible repeat (first | apply Kd.R_alloc | apply Kd.R_drewN | apply Kd.R_drew)); exact HO_6.out⟩, ⟨by (with_reducible repeat (first | apply Kd.R_alloc | apply Kd.R_drewN | apply Kd.R_drew)); exact HO_10.out⟩, ⟨by repeat (first | (with_reducible first | exact HB.out | apply below_alloc | apply pw_below_drewN | apply below_drew1) | exact HB.out)⟩⟩
                          · replace c47 := Bool.eq_false_iff.mpr c47
                            subst c47
                            have H1 : (laws_FnNumbersOfKinds.j2 k2 l1 t237 t238 t246 x14_2 x15_2 t258 true) = some r := by rw [if_neg (show ¬ (false = true) by decide)] at H; exact H
                            clear H
                            have H := H1
                            clear H1
                            exact (laws_FnNumbersOfKinds.j2_no _ _ _ _ _ _ _ _ (H.trans (congrArg some HRT.out))).elim
                      · replace c43 := Bool.eq_false_iff.mpr c43
                        subst c43
                        have H1 : (laws_FnNumbersOfKinds.j2 k2 l1 t237 t238 t246 x14_2 x15_2 t258 true) = some r := by rw [if_neg (show ¬ (false = true) by decide)] at H; exact H
                        clear H
                        have H := H1
                        clear H1
                        exact (laws_FnNumbersOfKinds.j2_no _ _ _ _ _ _ _ _ (H.trans (congrArg some HRT.out))).elim
                    case rest =>
                      clear HC40
                      try clear c1
                      try clear c2
                      try clear p2
                      try clear c3
                      try clear c4
                      try clear c6
                      try clear c7
                      try clear c8
                      try clear c11
                      try clear c16
                      try clear c16b0
                      try clear c16b1
                      try clear c16b2
                      try clear c18
                      try clear c19
                      try clear c19b0
                      try clear c19b1
                      try clear c19b2
                      try clear c23
                      try clear c34
                      try clear c36
                      try clear c37
                      try clear c37b0
                      try clear c43
                      try clear c45
                      try clear c45b0
                      try clear c45b1
                      try clear c45b2
                      try clear c47
                      try clear p2
                      obtain ⟨kq, x117_39, rfl, HA, HJ39, HO_6, HO_10, HB⟩ := hcut
                      cases kq with
                      | zero => exact absurd HA.out (by simp [laws_FnNumbersOfKinds.j2])
                      | succ kj39 =>
                        have H := HA.out
                        clear HA
                        simp only [laws_FnNumbersOfKinds.j2] at H
                        by_cases c52 : x117_39 = true
                        · subst c52
                          have H1 : (some false) = some r := by rw [if_pos rfl] at H; exact H
                          clear H
                          have H := H1
                          clear H1
                          first
                          | exact absurd (Option.some.inj (H.trans (congrArg some HRT.out))) Bool.false_ne_true
                          |
                            obtain rfl := Option.some.inj H
                            go_wp2
                            go_ret
                            exact ⟨by first | rfl | (simp [errW_none, errW_some] <;> rfl) | (simp [*, errW_none, errW_some] <;> rfl), by repeat (first | (with_reducible first | exact HB.out | apply below_alloc | apply pw_below_drewN | apply below_drew1) | exact HB.out)⟩
                        · replace c52 := Bool.eq_false_iff.mpr c52
                          subst c52
                          have H1 : (if t258 > x14_2 then (laws_FnNumbersOfKinds.l0 kj39 l1 t237 t238 t246 t258 (wrap64 (x15_2 + 1))) else (laws_FnNumbersOfKinds.l0 kj39 l1 t237 t238 t246 x14_2 (wrap64 (x15_2 + 1)))) = some r := by rw [if_neg (show ¬ (false = true) by decide)] at H; exact H
                          clear H
                          have H := H1
                          clear H1
                          by_cases c53 : t258 > x14_2
                          · rw [if_pos c53] at H
                            have c53b0 : decide (x14_2 < t258) = true := decide_eq_true c53
                            clear c53
                            have H' := Aside0.mk H
                            clear H
                            go_wp2
                            go_roundg kj39
                            case measure => have := HJ9.out; have := HK2.out; have := HJ39.out; omega
                            case rel => exact ⟨(t258), (wrap64 (x15_2 + 1)), (by first | rfl | (simp; done) | (simp [*]; done)), (by first | rfl | (simp; done) | (simp [*]; done)), H', ⟨by have := HJ9.out; have := HK2.out; have := HJ39.out; omega⟩, ⟨by (with_reducible repeat (first | apply Kd.R_alloc | apply Kd.R_drewN | apply Kd.R_drew)); exact HO_6.out⟩, ⟨by (with_reducible repeat (first | apply Kd.R_alloc | apply Kd.R_drewN | apply Kd.R_drew)); exact HO_10.out⟩, ⟨by repeat (first | (with_reducible first | exact HB.out | apply below_alloc | apply pw_below_drewN | apply below_drew1) | exact HB.out)⟩⟩
                          · rw [if_neg c53] at H
                            have c53b0 : decide (x14_2 < t258) = false := decide_eq_false c53
                            clear c53
                            have H' := Aside0.mk H
                            clear H
                            go_wp2
                            go_roundg kj39
                            case measure => have := HJ9.out; have := HK2.out; have := HJ39.out; omega
                            case rel => exact ⟨(x14_2), (wrap64 (x15_2 + 1)), (by first | rfl | (simp; done) | (simp [*]; done)), (by first | rfl | (simp; done) | (simp [*]; done)), H', ⟨by have := HJ9.out; have := HK2.out; have := HJ39.out; omega⟩, ⟨by (with_reducible repeat (first | apply Kd.R_alloc | apply Kd.R_drewN | apply Kd.R_drew)); exact HO_6.out⟩, ⟨by (with_reducible repeat (first | apply Kd.R_alloc | apply Kd.R_drewN | apply Kd.R_drew)); exact HO_10.out⟩, ⟨by repeat (first | (with_reducible first | exact HB.out | apply below_alloc | apply pw_below_drewN | apply below_drew1) | exact HB.out)⟩⟩
                  · rw [if_neg c37] at H
                    have c37b0 : decide (x15_2 ≤ t237) = false := decide_eq_false c37
                    clear c37
                    (first | rw [c37b0] | (simp only [i64_w, i32_w]; rw [c37b0]) | skip)
                    have H' := Aside0.mk H
                    clear H
                    go_wp2
                    go_meet
                    case rel => exact ⟨_, H', ⟨by have := HJ9.out; have := HK2.out; first | omega | exact Nat.le_refl _⟩, ⟨by repeat (first | (with_reducible first | exact HB.out | apply below_alloc | apply pw_below_drewN | apply below_drew1) | exact HB.out)⟩⟩
            · replace c36 := Bool.eq_false_iff.mpr c36
              subst c36
              have H1 : (laws_FnNumbersOfKinds.j3 kj9 l1) = some r := by rw [if_neg (show ¬ (false = true) by decide)] at H; exact H
              clear H
              have H := H1
              clear H1
              have H' := Aside0.mk H
              clear H
              go_wp2
              go_meet
              case rel => exact ⟨_, H', ⟨by have := HJ9.out; first | omega | exact Nat.le_refl _⟩, ⟨by repeat (first | (with_reducible first | exact HB.out | apply below_alloc | apply pw_below_drewN | apply below_drew1) | exact HB.out)⟩⟩
          case rest =>
            clear HC35
            try clear c1
            try clear c2
            try clear p2
            try clear c3
            try clear c4
            try clear c5
            try clear c6
            try clear p6
            try clear c7
            try clear c8
            try clear c11
            try clear c16
            try clear c16b0
            try clear c16b1
            try clear c16b2
            try clear c18
            try clear c19
            try clear c19b0
            try clear c19b1
            try clear c19b2
            try clear c23
            try clear c34
            try clear c36
            try clear c37
            try clear c37b0
            try clear c43
            try clear c45
            try clear c45b0
            try clear c45b1
            try clear c45b2
            try clear c47
            try clear c52
            try clear c53
            try clear c53b0
            try clear p2
            obtain ⟨kq, HA, HJ34, HB⟩ := hcut
            cases kq with
            | zero => exact absurd HA.out (by simp [laws_FnNumbersOfKinds.j3])
            | succ kj34 =>
              have H := HA.out
              clear HA
              simp only [laws_FnNumbersOfKinds.j3] at H
              replace H := Option.bind_eq_some_iff.mp H
              obtain ⟨t262, A540, H⟩ := H
              replace H : ((impl_CoprimePairs.f kj34 t262).bind fun bt263 => ((spec_CoprimePairs.f kj34 t262).bind fun bt265 => (if (bt263.2 != bt265.2) = true then (laws_FnNumbersOfKinds.j4 kj34 t262 bt263.1 bt263.2 true) else (laws_FnNumbersOfKinds.j4 kj34 t262 bt263.1 bt263.2 (bt263.1 != bt265.1))))) = some r := H
              have A54 := Aside0.mk A540
              clear A540
              replace H := Option.bind_eq_some_iff.mp H
              obtain ⟨⟨t263, t264⟩, A550, H⟩ := H
              replace H : ((spec_CoprimePairs.f kj34 t262).bind fun bt265 => (if (t264 != bt265.2) = true then (laws_FnNumbersOfKinds.j4 kj34 t262 t263 t264 true) else (laws_FnNumbersOfKinds.j4 kj34 t262 t263 t264 (t263 != bt265.1)))) = some r := H
              have A55 := Aside0.mk A550
              clear A550
              replace H := Option.bind_eq_some_iff.mp H
              obtain ⟨⟨t265, t266⟩, A560, H⟩ := H
              replace H : (if (t264 != t266) = true then (laws_FnNumbersOfKinds.j4 kj34 t262 t263 t264 true) else (laws_FnNumbersOfKinds.j4 kj34 t262 t263 t264 (t263 != t265))) = some r := H
              have A56 := Aside0.mk A560
              clear A560
              have HC57 := Aside0.mk H
              clear H
              go_upto_region 24 with (first | ((with_reducible refine gate_callee (f := 88) rfl ?_); refine goesL_ (some 123) rfl rfl Try.func88 (by kernel_rfl) rfl #[.slice A1 l1.length c1] rfl (by (try simp only [List.map_toArray, List.map_cons, List.map_nil]); first | done | rfl | (simp only [List.length_drop, List.length_take]; rfl)) ?_; (with_reducible refine (spec_DrawCoprimePairs.calls _ _ l1 t262 _ ?side1 ?side2 A54.out).mono ?_); (case side1 => repeat (first | exact (Kd.C_below HR1.out HB.out) | (with_reducible refine Kd.C_alloc ?_ _) | (with_reducible refine Kd.C_drewN ?_ _) | (with_reducible refine Kd.C_drew ?_))); (case side2 => exact HC1.out); rintro e w58 ⟨rfl, hb⟩; refine ⟨_, rfl, ?_⟩; have n0_ := Aside0.mk (below_step (by repeat (first | (with_reducible first | exact HB.out | apply below_alloc | apply pw_below_drewN | apply below_drew1) | exact HB.out)) hb); clear HB; have HB := n0_; clear n0_; (try clear hb); (try clear hb2); (try clear hk); (try clear hi)) | ((with_reducible refine gate_callee (f := 89) rfl ?_); refine goesL_ (some 126) rfl rfl Try.func89 (by kernel_rfl) rfl #[.int .i64 t262] rfl (by (try simp only [List.map_toArray, List.map_cons, List.map_nil]); first | done | rfl | (simp only [List.length_drop, List.length_take]; rfl)) ?_; (with_reducible refine (impl_CoprimePairs.calls kj34 t262 t263 t264 _ A55.out).mono ?_); rintro e w59 ⟨rfl, hb⟩; refine ⟨_, rfl, ?_⟩; have n0_ := Aside0.mk (below_step (by repeat (first | (with_reducible first | exact HB.out | apply below_alloc | apply pw_below_drewN | apply below_drew1) | exact HB.out)) hb); clear HB; have HB := n0_; clear n0_; (try clear hb); (try clear hb2); (try clear hk); (try clear hi)) | ((with_reducible refine gate_callee (f := 90) rfl ?_); refine goesL_ (some 131) rfl rfl Try.func90 (by kernel_rfl) rfl #[.int .i64 t262] rfl (by (try simp only [List.map_toArray, List.map_cons, List.map_nil]); first | done | rfl | (simp only [List.length_drop, List.length_take]; rfl)) ?_; (with_reducible refine (spec_CoprimePairs.calls kj34 t262 t265 t266 _ A56.out).mono ?_); rintro e w60 ⟨rfl, hb⟩; refine ⟨_, rfl, ?_⟩; have n0_ := Aside0.mk (below_step (by repeat (first | (with_reducible first | exact HB.out | apply below_alloc | apply pw_below_drewN | apply below_drew1) | exact HB.out)) hb); clear HB; have HB := n0_; clear n0_; (try clear hb); (try clear hb2); (try clear hk); (try clear hi)))
              (try simp only [Act.put, List.setIfInBounds_toArray, List.set_cons_zero, List.set_cons_succ])
              go_cut [141] (fun v141 wc => ∃ (kq : Nat) (x141_56 : Bool), v141 = .bool x141_56 ∧ Aside0 (laws_FnNumbersOfKinds.j4 kq t262 t263 t264 x141_56 = some r) ∧ Aside0 (kq ≤ kj34) ∧ Aside0 (Below w.heap.size w wc))
              case first =>
                have H := HC57.out
                clear HC57
                by_cases c61 : (t264 != t266) = true
                · rw [if_pos c61] at H
                  have c61b0 : (t264 != t266) = true := c61
                  (try (have c61b1 : decide (t264 = t266) = false := by simpa using c61))
                  (try (have c61b2 : (t264 == t266) = false := by simpa using c61))
                  (try (have c61b3 : ¬ (t264 = t266) := by simpa using c61))
                  clear c61
                  (first | rw [c61b0] | (simp only [i64_w, i32_w]; rw [c61b0]) | skip)
                  exact (laws_FnNumbersOfKinds.j4_no _ _ _ _ (H.trans (congrArg some HRT.out))).elim
                · rw [if_neg c61] at H
                  have c61b0 : (t264 != t266) = false := by simpa using c61
                  (try (have c61b1 : decide (t264 = t266) = true := by simpa using c61))
                  (try (have c61b2 : (t264 == t266) = true := by simpa using c61))
                  clear c61
                  (first | rw [c61b0] | (simp only [i64_w, i32_w]; rw [c61b0]) | skip)
                  have H' := Aside0.mk H
                  clear H
                  go_wp2
                  go_meet
                  case rel => exact ⟨_, ((t263 != t265)), (by first | rfl | (simp; done) | (simp [*]; done)), H', ⟨by have := HJ9.out; have := HJ34.out; first | omega | exact Nat.le_refl _⟩, ⟨by repeat (first | (with_reducible first | exact HB.out | apply below_alloc | apply pw_below_drewN | apply below_drew1) | exact HB.out)⟩⟩
              case rest =>
                clear HC57
                try clear c1
                try clear c2
                try clear p2
                try clear c3
                try clear c4
                try clear c5
                try clear c6
                try clear p6
                try clear c7
                try clear c8
                try clear c9
                try clear c11
                try clear c16
                try clear c16b0
                try clear c16b1
                try clear c16b2
                try clear c18
                try clear c19
                try clear c19b0
                try clear c19b1
                try clear c19b2
                try clear c23
                try clear c34
                try clear c36
                try clear c37
                try clear c37b0
                try clear c43
                try clear c45
                try clear c45b0
                try clear c45b1
                try clear c45b2
                try clear c47
                try clear c52
                try clear c53
                try clear c53b0
                try clear c61
                try clear c61b0
                try clear c61b1
                try clear c61b2
                try clear p2
                try clear p6
                obtain ⟨kq, x141_56, rfl, HA, HJ56, HB⟩ := hcut
                cases kq with
                | zero => exact absurd HA.out (by simp [laws_FnNumbersOfKinds.j4])
                | succ kj56 =>
                  have H := HA.out
                  clear HA
                  simp only [laws_FnNumbersOfKinds.j4] at H
                  by_cases c62 : x141_56 = true
                  · subst c62
                    have H1 : (some false) = some r := by rw [if_pos rfl] at H; exact H
                    clear H
                    have H := H1
                    clear H1
                    first
                    | exact absurd (Option.some.inj (H.trans (congrArg some HRT.out))) Bool.false_ne_true
                    |
                      obtain rfl := Option.some.inj H
                      go_wp2
                      go_ret
                      exact ⟨by first | rfl | (simp [errW_none, errW_some] <;> rfl) | (simp [*, errW_none, errW_some] <;> rfl), by repeat (first | (with_reducible first | exact HB.out | apply below_alloc | apply pw_below_drewN | apply below_drew1) | exact HB.out)⟩
                  · replace c62 := Bool.eq_false_iff.mpr c62
                    subst c62
                    have H1 : (if t264 = true then (laws_FnNumbersOfKinds.j5 kj56 t262 t263 (decide (t262 ≤ 60))) else (laws_FnNumbersOfKinds.j5 kj56 t262 t263 false)) = some r := by rw [if_neg (show ¬ (false = true) by decide)] at H; exact H
                    clear H
                    have H := H1
                    clear H1
                    have HC63 := Aside0.mk H
                    clear H
                    go_upto_region 26 with (fail)
                    go_cut [146] (fun v146 wc => ∃ (kq : Nat) (x146_62 : Bool), v146 = .bool x146_62 ∧ Aside0 (laws_FnNumbersOfKinds.j5 kq t262 t263 x146_62 = some r) ∧ Aside0 (kq ≤ kj56) ∧ Aside0 (Below w.heap.size w wc))
                    case first =>
                      have H := HC63.out
                      clear HC63
                      by_cases c64 : t264 = true
                      · subst c64
                        have H1 : (laws_FnNumbersOfKinds.j5 kj56 t262 t263 (decide (t262 ≤ 60))) = some r := by rw [if_pos rfl] at H; exact H
                        clear H
                        have H := H1
                        clear H1
                        have H' := Aside0.mk H
                        clear H
                        go_wp2
                        go_meet
                        case rel => exact ⟨_, (decide (t262 ≤ 60)), (by first | rfl | (simp; done) | (simp [*]; done)), H', ⟨by have := HJ9.out; have := HJ34.out; have := HJ56.out; first | omega | exact Nat.le_refl _⟩, ⟨by repeat (first | (with_reducible first | exact HB.out | apply below_alloc | apply pw_below_drewN | apply below_drew1) | exact HB.out)⟩⟩
                      · replace c64 := Bool.eq_false_iff.mpr c64
                        subst c64
                        have H1 : (laws_FnNumbersOfKinds.j5 kj56 t262 t263 false) = some r := by rw [if_neg (show ¬ (false = true) by decide)] at H; exact H
                        clear H
                        have H := H1
                        clear H1
                        have H' := Aside0.mk H
                        clear H
                        go_wp2
                        go_meet
                        case rel => exact ⟨_, (false), (by first | rfl | (simp; done) | (simp [*]; done)), H', ⟨by have := HJ9.out; have := HJ34.out; have := HJ56.out; first | omega | exact Nat.le_refl _⟩, ⟨by repeat (first | (with_reducible first | exact HB.out | apply below_alloc | apply pw_below_drewN | apply below_drew1) | exact HB.out)⟩⟩
                    case rest =>
                      clear HC63
                      try clear c1
                      try clear c2
                      try clear p2
                      try clear c3
                      try clear c4
                      try clear c5
                      try clear c6
                      try clear p6
                      try clear c7
                      try clear c8
                      try clear c9
                      try clear c11
                      try clear c16
                      try clear c16b0
                      try clear c16b1
                      try clear c16b2
                      try clear c18
                      try clear c19
                      try clear c19b0
                      try clear c19b1
                      try clear c19b2
                      try clear c23
                      try clear c34
                      try clear c36
                      try clear c37
                      try clear c37b0
                      try clear c43
                      try clear c45
                      try clear c45b0
                      try clear c45b1
                      try clear c45b2
                      try clear c47
                      try clear c52
                      try clear c53
                      try clear c53b0
                      try clear c61
                      try clear c61b0
                      try clear c61b1
                      try clear c61b2
                      try clear c62
                      try clear c64
                      try clear p64
                      try clear p2
                      try clear p6
                      obtain ⟨kq, x146_62, rfl, HA, HJ62, HB⟩ := hcut
                      cases kq with
                      | zero => exact absurd HA.out (by simp [laws_FnNumbersOfKinds.j5])
                      | succ kj62 =>
                        have H := HA.out
                        clear HA
                        simp only [laws_FnNumbersOfKinds.j5] at H
                        by_cases c65 : x146_62 = true
                        · subst c65
                          have H1 : (laws_FnNumbersOfKinds.l1 kj62 t262 t263 0 1) = some r := by rw [if_pos rfl] at H; exact H
                          clear H
                          have H := H1
                          clear H1
                          have H' := Aside0.mk H
                          clear H
                          go_wp2
                          go_loopg [25, 26] kj62 (fun kq v25 v26 w' => ∃ (x25_5 : Int) (x26_5 : Int), v25 = .int .i64 x25_5 ∧ v26 = .int .i64 x26_5 ∧ Aside0 (laws_FnNumbersOfKinds.l1 kq t262 t263 x25_5 x26_5 = some r) ∧ Aside0 (kq ≤ kj62) ∧ Aside0 (Below w.heap.size w w'))
                          case atStart => exact ⟨(0), (1), (by first | rfl | (simp; done) | (simp [*]; done)), (by first | rfl | (simp; done) | (simp [*]; done)), H', ⟨Nat.le_refl _⟩, ⟨by repeat (first | (with_reducible first | exact HB.out | apply below_alloc | apply pw_below_drewN | apply below_drew1) | exact HB.out)⟩⟩
                          case round =>
                            clear H'
                            try clear c1
                            try clear c2
                            try clear p2
                            try clear c3
                            try clear c4
                            try clear c5
                            try clear c6
                            try clear p6
                            try clear c7
                            try clear c8
                            try clear c9
                            try clear c11
                            try clear c16
                            try clear c16b0
                            try clear c16b1
                            try clear c16b2
                            try clear c18
                            try clear c19
                            try clear c19b0
                            try clear c19b1
                            try clear c19b2
                            try clear c23
                            try clear c34
                            try clear c36
                            try clear c37
                            try clear c37b0
                            try clear c43
                            try clear c45
                            try clear c45b0
                            try clear c45b1
                            try clear c45b2
                            try clear c47
                            try clear c52
                            try clear c53
                            try clear c53b0
                            try clear c61
                            try clear c61b0
                            try clear c61b1
                            try clear c61b2
                            try clear c62
                            try clear c64
                            try clear p64
                            try clear c65
                            try clear p2
                            try clear p6
                            try clear p64
                            obtain ⟨x25_5, x26_5, rfl, rfl, HA, HK5, HB⟩ := hrel
                            cases gk with
                            | zero => exact absurd HA.out (by simp [laws_FnNumbersOfKinds.l1])
                            | succ k5 =>
                              have H := HA.out
                              clear HA
                              simp only [laws_FnNumbersOfKinds.l1] at H
                              by_cases c66 : x26_5 ≤ t262
                              · rw [if_pos c66] at H
                                have c66b0 : decide (x26_5 ≤ t262) = true := decide_eq_true c66
                                clear c66
                                have H' := Aside0.mk H
                                clear H
                                go_wp2
                                go_loopg [25, 27] k5 (fun kq v25 v27 w' => ∃ (x25_6 : Int) (x27_6 : Int), v25 = .int .i64 x25_6 ∧ v27 = .int .i64 x27_6 ∧ Aside0 (laws_FnNumbersOfKinds.l2 kq t262 t263 x25_6 x26_5 x27_6 = some r) ∧ Aside0 (kq ≤ k5) ∧ Aside0 (Below w.heap.size w w'))
                                case atStart => exact ⟨(x25_5), (1), (by first | rfl | (simp; done) | (simp [*]; done)), (by first | rfl | (simp; done) | (simp [*]; done)), H', ⟨Nat.le_refl _⟩, ⟨by repeat (first | (with_reducible first | exact HB.out | apply below_alloc | apply pw_below_drewN | apply below_drew1) | exact HB.out)⟩⟩
                                case round =>
                                  clear H'
                                  try clear c1
                                  try clear c2
                                  try clear p2
                                  try clear c3
                                  try clear c4
                                  try clear c5
                                  try clear c6
                                  try clear p6
                                  try clear c7
                                  try clear c8
                                  try clear c9
                                  try clear c11
                                  try clear c16
                                  try clear c16b0
                                  try clear c16b1
                                  try clear c16b2
                                  try clear c18
                                  try clear c19
                                  try clear c19b0
                                  try clear c19b1
                                  try clear c19b2
                                  try clear c23
                                  try clear c34
                                  try clear c36
                                  try clear c37
                                  try clear c37b0
                                  try clear c43
                                  try clear c45
                                  try clear c45b0
                                  try clear c45b1
                                  try clear c45b2
                                  try clear c47
                                  try clear c52
                                  try clear c53
                                  try clear c53b0
                                  try clear c61
                                  try clear c61b0
                                  try clear c61b1
                                  try clear c61b2
                                  try clear c62
                                  try clear c64
                                  try clear p64
                                  try clear c65
                                  try clear c66
                                  try clear c66b0
                                  try clear p2
                                  try clear p6
                                  try clear p64
                                  obtain ⟨x25_6, x27_6, rfl, rfl, HA, HK6, HB⟩ := hrel
                                  cases gk with
                                  | zero => exact absurd HA.out (by simp [laws_FnNumbersOfKinds.l2])
                                  | succ k6 =>
                                    have H := HA.out
                                    clear HA
                                    simp only [laws_FnNumbersOfKinds.l2] at H
                                    by_cases c67 : x27_6 ≤ t262
                                    · rw [if_pos c67] at H
                                      have c67b0 : decide (x27_6 ≤ t262) = true := decide_eq_true c67
                                      clear c67
                                      replace H := Option.bind_eq_some_iff.mp H
                                      obtain ⟨t267, A680, H⟩ := H
                                      replace H : (if t267 = 1 then (laws_FnNumbersOfKinds.l2 k6 t262 t263 (wrap64 (x25_6 + 1)) x26_5 (wrap64 (x27_6 + 1))) else (laws_FnNumbersOfKinds.l2 k6 t262 t263 x25_6 x26_5 (wrap64 (x27_6 + 1)))) = some r := H
                                      have A68 := Aside0.mk A680
                                      clear A680
                                      by_cases c69 : t267 = 1
                                      · rw [if_pos c69] at H
                                        have c69b0 : (t267 == 1) = true := beq_iff_eq.mpr c69
                                        have c69b1 : (t267 != 1) = false := bne_eq_false_iff_eq.mpr c69
                                        clear c69
                                        have H' := Aside0.mk H
                                        clear H
                                        go_wp2_with (first | ((with_reducible refine gate_callee (f := 77) rfl ?_); refine goesL_ (some 159) rfl rfl Try.func77 (by kernel_rfl) rfl #[.int .i64 x26_5, .int .i64 x27_6] rfl (by (try simp only [List.map_toArray, List.map_cons, List.map_nil]); first | done | rfl | (simp only [List.length_drop, List.length_take]; rfl)) ?_; (with_reducible refine (laws_gCommon.calls k6 x26_5 x27_6 t267 _ A68.out).mono ?_); rintro e w' ⟨rfl, ⟨nd, rfl⟩⟩; refine ⟨_, rfl, ?_⟩))
                                        go_roundg k6
                                        case measure => have := HJ9.out; have := HJ34.out; have := HJ56.out; have := HJ62.out; have := HK5.out; have := HK6.out; omega
                                        case rel => exact ⟨(wrap64 (x25_6 + 1)), (wrap64 (x27_6 + 1)), (by first | rfl | (simp; done) | (simp [*]; done)), (by first | rfl | (simp; done) | (simp [*]; done)), H', ⟨by have := HJ9.out; have := HJ34.out; have := HJ56.out; have := HJ62.out; have := HK5.out; have := HK6.out; omega⟩, ⟨by repeat (first | (with_reducible first | exact HB.out | apply below_alloc | apply pw_below_drewN | apply below_drew1) | exact HB.out)⟩⟩
                                      · rw [if_neg c69] at H
                                        have c69b0 : (t267 == 1) = false := beq_eq_false_iff_ne.mpr c69
                                        have c69b1 : (t267 != 1) = true := bne_iff_ne.mpr c69
                                        have H' := Aside0.mk H
                                        clear H
                                        go_wp2_with (first | ((with_reducible refine gate_callee (f := 77) rfl ?_); refine goesL_ (some 159) rfl rfl Try.func77 (by kernel_rfl) rfl #[.int .i64 x26_5, .int .i64 x27_6] rfl (by (try simp only [List.map_toArray, List.map_cons, List.map_nil]); first | done | rfl | (simp only [List.length_drop, List.length_take]; rfl)) ?_; (with_reducible refine (laws_gCommon.calls k6 x26_5 x27_6 t267 _ A68.out).mono ?_); rintro e w' ⟨rfl, ⟨nd, rfl⟩⟩; refine ⟨_, rfl, ?_⟩))
                                        go_roundg k6
                                        case measure => have := HJ9.out; have := HJ34.out; have := HJ56.out; have := HJ62.out; have := HK5.out; have := HK6.out; omega
                                        case rel => exact ⟨(x25_6), (wrap64 (x27_6 + 1)), (by first | rfl | (simp; done) | (simp [*]; done)), (by first | rfl | (simp; done) | (simp [*]; done)), H', ⟨by have := HJ9.out; have := HJ34.out; have := HJ56.out; have := HJ62.out; have := HK5.out; have := HK6.out; omega⟩, ⟨by repeat (first | (with_reducible first | exact HB.out | apply below_alloc | apply pw_below_drewN | apply below_drew1) | exact HB.out)⟩⟩
                                    · rw [if_neg c67] at H
                                      have c67b0 : decide (x27_6 ≤ t262) = false := decide_eq_false c67
                                      clear c67
                                      have H' := Aside0.mk H
                                      clear H
                                      go_wp2
                                      go_roundg k6
                                      case measure => have := HJ9.out; have := HJ34.out; have := HJ56.out; have := HJ62.out; have := HK5.out; have := HK6.out; omega
                                      case rel => exact ⟨(x25_6), (wrap64 (x26_5 + 1)), (by first | rfl | (simp; done) | (simp [*]; done)), (by first | rfl | (simp; done) | (simp [*]; done)), H', ⟨by have := HJ9.out; have := HJ34.out; have := HJ56.out; have := HJ62.out; have := HK5.out; have := HK6.out; omega⟩, ⟨by repeat (first | (with_reducible first | exact HB.out | apply below_alloc | apply pw_below_drewN | apply below_drew1) | exact HB.out)⟩⟩
                              · rw [if_neg c66] at H
                                have c66b0 : decide (x26_5 ≤ t262) = false := decide_eq_false c66
                                clear c66
                                first
                                | exact absurd (Option.some.inj (H.trans (congrArg some HRT.out))) Bool.false_ne_true
                                |
                                  obtain rfl := Option.some.inj H
                                  go_wp2
                                  go_ret
                                  exact ⟨by first | rfl | (simp [errW_none, errW_some] <;> rfl) | (simp [*, errW_none, errW_some] <;> rfl), by repeat (first | (with_reducible first | exact HB.out | apply below_alloc | apply pw_below_drewN | apply below_drew1) | exact HB.out)⟩
                        · replace c65 := Bool.eq_false_iff.mpr c65
                          subst c65
                          have H1 : (some true) = some r := by rw [if_neg (show ¬ (false = true) by decide)] at H; exact H
                          clear H
                          have H := H1
                          clear H1
                          first
                          | exact absurd (Option.some.inj (H.trans (congrArg some HRT.out))) Bool.false_ne_true
                          |
                            obtain rfl := Option.some.inj H
                            go_wp2
                            go_ret
                            exact ⟨by first | rfl | (simp [errW_none, errW_some] <;> rfl) | (simp [*, errW_none, errW_some] <;> rfl), by repeat (first | (with_reducible first | exact HB.out | apply below_alloc | apply pw_below_drewN | apply below_drew1) | exact HB.out)⟩

/-- THE ONE PURE STATEMENT of laws_FnNumbersOfKinds: yours. -/
def laws_FnNumbersOfKinds.Pure : Prop := ∀ (l0 : List Int) (l1 : List Int), l0.length ≤ maxLen → l0.length * 1 ≤ 140737488351232 → (∀ x ∈ l0, (Lit.int .u8 x).wf = true) → l1.length ≤ maxLen → l1.length * 1 ≤ 140737488351232 → (∀ x ∈ l1, (Lit.int .u8 x).wf = true) → ∃ k, laws_FnNumbersOfKinds.f k l0 l1 = some true
theorem laws_FnNumbersOfKinds.walk (P : laws_FnNumbersOfKinds.Pure) (a0 : Option Addr) (len0 cap0 : Nat) (z0 : List Int) (a1 : Option Addr) (len1 cap1 : Nat) (z1 : List Int) (w : World) (w0 : (a0 = none ∧ len0 = 0 ∧ cap0 = 0 ∧ z0 = []) ∨ ∃ x, a0 = some x ∧ len0 ≤ cap0 ∧ cap0 ≤ maxLen ∧ z0.length = cap0 ∧ (∀ i, i < z0.length → w.cell? (x.add i) = some (.int .u8 (z0.getD i 0))) ∧ ∀ n ∈ z0, (Lit.int .u8 n).wf = true) (y0 : len0 * 1 ≤ 140737488351232) (w1 : (a1 = none ∧ len1 = 0 ∧ cap1 = 0 ∧ z1 = []) ∨ ∃ x, a1 = some x ∧ len1 ≤ cap1 ∧ cap1 ≤ maxLen ∧ z1.length = cap1 ∧ (∀ i, i < z1.length → w.cell? (x.add i) = some (.int .u8 (z1.getD i 0))) ∧ ∀ n ∈ z1, (Lit.int .u8 n).wf = true) (y1 : len1 * 1 ≤ 140737488351232) :
    Calls Try.prog 6 #[.slice a0 len0 cap0, .slice a1 len1 cap1] w fun e w' => e = .returned (.bool true) ∧ Below w.heap.size w w' := by
  obtain ⟨l0, rfl, hr0, hm0, hw0, hc0⟩ := ReadsInt.ofRowC w0
  obtain ⟨l1, rfl, hr1, hm1, hw1, hc1⟩ := ReadsInt.ofRowC w1
  obtain ⟨k, h⟩ := P l0 l1 hm0 y0 hw0 hm1 y1 hw1
  refine (laws_FnNumbersOfKinds.calls k _ _ l0 _ _ l1 true w (Kd.C_of_reads (d := (0 : Int)) (h1 := fun _ => rfl) hr0) hc0 (Kd.C_of_reads (d := (0 : Int)) (h1 := fun _ => rfl) hr1) hc1 h rfl).mono ?_
  rintro e w' ⟨rfl, hd⟩
  exact ⟨rfl, hd⟩

end Go.Proofs.Ytfhfbicejddoiaa.PFnNumbersOfKinds
