-- Written for this claim by a program of this session, out of the translation and given contracts.
import Derived.Test.YtfhfbicejddoiaaPFnTablesMultipliedOfAllx0
import Derived.Test.YtfhfbicejddoiaaPFnTablesMultipliedOfAllx1
import Derived.Test.YtfhfbicejddoiaaPFnTablesMultipliedOfAllx2
import Derived.Test.YtfhfbicejddoiaaPFnTablesMultipliedOfAllx3
import Derived.Test.YtfhfbicejddoiaaPFnTablesMultipliedOfAllx5
import Derived.Test.YtfhfbicejddoiaaPFnTablesMultipliedOfAllx6
import Derived.Test.YtfhfbicejddoiaaPFnTablesMultipliedOfAllx7
import Derived.Test.YtfhfbicejddoiaaPFnTablesMultipliedOfAllx8
namespace Go.Proofs.Ytfhfbicejddoiaa.PFnTablesMultipliedOfAll
open Go.RowKit Go.Proofs.YtfhfbicejddoiaaW.PrintWords Go.Proofs.YtfhfbicejddoiaaW.PrintLast Go.Proofs.YtfhfbicejddoiaaW.PrintMore
attribute [local go_sem] max2_int min2_int max_two min_two max_three min_three max_four min_four   -- for this text's walks alone
set_option linter.unusedVariables false
set_option linter.unusedSimpArgs false

/-! ### laws_FnTablesMultipliedOfAll: function 8 -/
mutual
def laws_FnTablesMultipliedOfAll.j0 : Nat → List Int → List Int → List Int → Int → Int → List Int → Bool → Option (Bool)
 | 0, _, _, _, _, _, _, _ => none
 | k + 1, x0, x1, x2, x3, x4, x5, x84 => if x84 = true then (some true) else ((impl_OverDivisors.f k x0 x1).bind fun bt338 => ((spec_OverDivisors.f k x0 x1).bind fun bt342 => ((impl_IsSpread.f k x0).bind fun bt346 => ((spec_IsSpread.f k x0).bind fun bt348 => (if (bt338.2 != bt342.2) = true then (laws_FnTablesMultipliedOfAll.j1 k x0 x1 x2 x3 x4 x5 bt338.1 bt338.2 bt346.1 bt346.2 true) else ((laws_gSame.f k bt338.1 bt342.1).bind fun t350 => (if t350 = true then (if (bt346.2 != bt348.2) = true then (laws_FnTablesMultipliedOfAll.j1 k x0 x1 x2 x3 x4 x5 bt338.1 bt338.2 bt346.1 bt346.2 true) else (laws_FnTablesMultipliedOfAll.j1 k x0 x1 x2 x3 x4 x5 bt338.1 bt338.2 bt346.1 bt346.2 (bt346.1 != bt348.1))) else (laws_FnTablesMultipliedOfAll.j1 k x0 x1 x2 x3 x4 x5 bt338.1 bt338.2 bt346.1 bt346.2 true))))))))
def laws_FnTablesMultipliedOfAll.j1 : Nat → List Int → List Int → List Int → Int → Int → List Int → List Int → Bool → Bool → Bool → Bool → Option (Bool)
 | 0, _, _, _, _, _, _, _, _, _, _, _ => none
 | k + 1, x0, x1, x2, x3, x4, x5, x13, x14, x17, x18, x125 => if x125 = true then (some false) else (if x14 = true then ((impl_OverDivisors.f k x1 x0).bind fun bt351 => ((impl_IsSpread.f k x1).bind fun bt355 => ((impl_IsSpread.f k x13).bind fun bt357 => (if x18 = true then (if bt351.2 = true then ((laws_gSame.f k bt351.1 x13).bind fun t359 => (if t359 = true then (if bt355.2 = true then (if bt357.2 = true then (if x17 = true then (if bt355.1 = true then (if bt357.1 = true then (if 0 < (x13.length : Int) then (if 0 < (x0.length : Int) then (if 0 < (x1.length : Int) then (if (rd x13 0) = (wrap64 ((rd x0 0) * (rd x1 0))) then (laws_FnTablesMultipliedOfAll.j2 k x2 x3 x4 x5) else (some false)) else (none)) else (none)) else (none)) else (some false)) else (if 0 < (x13.length : Int) then (if 0 < (x0.length : Int) then (if 0 < (x1.length : Int) then (if (rd x13 0) = (wrap64 ((rd x0 0) * (rd x1 0))) then (laws_FnTablesMultipliedOfAll.j2 k x2 x3 x4 x5) else (some false)) else (none)) else (none)) else (none))) else (if 0 < (x13.length : Int) then (if 0 < (x0.length : Int) then (if 0 < (x1.length : Int) then (if (rd x13 0) = (wrap64 ((rd x0 0) * (rd x1 0))) then (laws_FnTablesMultipliedOfAll.j2 k x2 x3 x4 x5) else (some false)) else (none)) else (none)) else (none))) else (some false)) else (some false)) else (some false))) else (some false)) else (some false))))) else (laws_FnTablesMultipliedOfAll.j2 k x2 x3 x4 x5))
def laws_FnTablesMultipliedOfAll.j2 : Nat → List Int → Int → Int → List Int → Option (Bool)
 | 0, _, _, _, _ => none
 | k + 1, x2, x3, x4, x5 => (impl_UndoTable.f k x2).bind fun bt369 => ((spec_UndoTable.f k x2).bind fun bt373 => ((impl_SumOverDivisors.f k x2).bind fun bt377 => ((spec_SumOverDivisors.f k x2).bind fun bt381 => (if (bt369.2 != bt373.2) = true then (laws_FnTablesMultipliedOfAll.j3 k x2 x3 x4 x5 bt369.1 bt369.2 bt377.1 bt377.2 true) else ((laws_gSame.f k bt369.1 bt373.1).bind fun t385 => (if t385 = true then (if (bt377.2 != bt381.2) = true then (laws_FnTablesMultipliedOfAll.j3 k x2 x3 x4 x5 bt369.1 bt369.2 bt377.1 bt377.2 true) else ((laws_gSame.f k bt377.1 bt381.1).bind fun t386 => (laws_FnTablesMultipliedOfAll.j3 k x2 x3 x4 x5 bt369.1 bt369.2 bt377.1 bt377.2 (!t386)))) else (laws_FnTablesMultipliedOfAll.j3 k x2 x3 x4 x5 bt369.1 bt369.2 bt377.1 bt377.2 true)))))))
def laws_FnTablesMultipliedOfAll.j3 : Nat → List Int → Int → Int → List Int → List Int → Bool → List Int → Bool → Bool → Option (Bool)
 | 0, _, _, _, _, _, _, _, _, _ => none
 | k + 1, x2, x3, x4, x5, x27, x28, x31, x32, x225 => if x225 = true then (some false) else (if x28 = true then ((impl_TableOf.f k 6 (x2.length : Int)).bind fun bt387 => ((impl_OverDivisors.f k x2 x27).bind fun bt391 => ((impl_UndoTable.f k x27).bind fun bt395 => (if bt387.2 = true then (if bt391.2 = true then ((laws_gSame.f k bt391.1 bt387.1).bind fun t399 => (if t399 = true then (if bt395.2 = true then ((laws_gSame.f k bt395.1 x2).bind fun t400 => (if t400 = true then (laws_FnTablesMultipliedOfAll.j4 k x2 x3 x4 x5 x31 x32) else (some false))) else (some false)) else (some false))) else (some false)) else (some false))))) else (laws_FnTablesMultipliedOfAll.j4 k x2 x3 x4 x5 x31 x32))
def laws_FnTablesMultipliedOfAll.j4 : Nat → List Int → Int → Int → List Int → List Int → Bool → Option (Bool)
 | 0, _, _, _, _, _, _ => none
 | k + 1, x2, x3, x4, x5, x31, x32 => if x32 = true then ((impl_TableOf.f k 5 (x2.length : Int)).bind fun bt401 => ((impl_OverDivisors.f k x31 bt401.1).bind fun bt405 => (if bt401.2 = true then (if bt405.2 = true then ((laws_gSame.f k bt405.1 x2).bind fun t409 => (if t409 = true then (laws_FnTablesMultipliedOfAll.j5 k x3 x4 x5) else (some false))) else (some false)) else (some false)))) else (laws_FnTablesMultipliedOfAll.j5 k x3 x4 x5)
def laws_FnTablesMultipliedOfAll.j5 : Nat → Int → Int → List Int → Option (Bool)
 | 0, _, _, _ => none
 | k + 1, x3, x4, x5 => (impl_TableOf.f k x3 x4).bind fun bt410 => ((spec_TableOf.f k x3 x4).bind fun bt414 => (if (bt410.2 != bt414.2) = true then (laws_FnTablesMultipliedOfAll.j6 k x4 x5 bt410.1 bt410.2 true) else ((laws_gSame.f k bt410.1 bt414.1).bind fun t418 => (laws_FnTablesMultipliedOfAll.j6 k x4 x5 bt410.1 bt410.2 (!t418)))))
def laws_FnTablesMultipliedOfAll.j6 : Nat → Int → List Int → List Int → Bool → Bool → Option (Bool)
 | 0, _, _, _, _, _ => none
 | k + 1, x4, x5, x45, x46, x311 => if x311 = true then (some false) else (if x46 = true then ((impl_IsSpread.f k x45).bind fun bt419 => (if bt419.2 = true then (if bt419.1 = true then (laws_FnTablesMultipliedOfAll.j7 k x4 x5 ((x45.length : Int) != x4)) else (laws_FnTablesMultipliedOfAll.j7 k x4 x5 true)) else (laws_FnTablesMultipliedOfAll.j7 k x4 x5 true))) else ((impl_IsSpread.f k x5).bind fun bt451 => ((spec_IsSpread.f k x5).bind fun bt453 => (if (bt451.2 == bt453.2) = true then (some (bt451.1 == bt453.1)) else (some false)))))
def laws_FnTablesMultipliedOfAll.j7 : Nat → Int → List Int → Bool → Option (Bool)
 | 0, _, _, _ => none
 | k + 1, x4, x5, x329 => if x329 = true then (some false) else ((impl_TableOf.f k 0 x4).bind fun bt421 => ((impl_TableOf.f k 2 x4).bind fun bt425 => ((impl_TableOf.f k 1 x4).bind fun bt429 => ((impl_TableOf.f k 4 x4).bind fun bt433 => ((impl_OverDivisors.f k bt421.1 bt421.1).bind fun bt437 => ((impl_SumOverDivisors.f k bt433.1).bind fun bt441 => (if bt421.2 = true then (if bt425.2 = true then (if bt429.2 = true then (if bt433.2 = true then (if bt437.2 = true then ((laws_gSame.f k bt437.1 bt425.1).bind fun t445 => (if t445 = true then (if bt441.2 = true then ((laws_gSame.f k bt441.1 bt429.1).bind fun t446 => (laws_FnTablesMultipliedOfAll.j8 k x5 (!t446))) else (laws_FnTablesMultipliedOfAll.j8 k x5 true)) else (laws_FnTablesMultipliedOfAll.j8 k x5 true))) else (laws_FnTablesMultipliedOfAll.j8 k x5 true)) else (laws_FnTablesMultipliedOfAll.j8 k x5 true)) else (laws_FnTablesMultipliedOfAll.j8 k x5 true)) else (laws_FnTablesMultipliedOfAll.j8 k x5 true)) else (laws_FnTablesMultipliedOfAll.j8 k x5 true))))))))
def laws_FnTablesMultipliedOfAll.j8 : Nat → List Int → Bool → Option (Bool)
 | 0, _, _ => none
 | k + 1, x5, x394 => if x394 = true then (some false) else ((impl_IsSpread.f k x5).bind fun bt447 => ((spec_IsSpread.f k x5).bind fun bt449 => (if (bt447.2 == bt449.2) = true then (some (bt447.1 == bt449.1)) else (some false))))
end
def laws_FnTablesMultipliedOfAll.f (k : Nat) (l0 : List Int) (l1 : List Int) (l2 : List Int) (a3 : Int) (a4 : Int) (l5 : List Int) : Option (Bool) := if (l0.length : Int) > 10000 then (laws_FnTablesMultipliedOfAll.j0 k l0 l1 l2 a3 a4 l5 true) else (if (l1.length : Int) > 10000 then (laws_FnTablesMultipliedOfAll.j0 k l0 l1 l2 a3 a4 l5 true) else (if (l2.length : Int) > 10000 then (laws_FnTablesMultipliedOfAll.j0 k l0 l1 l2 a3 a4 l5 true) else (laws_FnTablesMultipliedOfAll.j0 k l0 l1 l2 a3 a4 l5 (decide ((l5.length : Int) > 10000)))))
open laws_FnTablesMultipliedOfAll
theorem laws_FnTablesMultipliedOfAll.mono_l : ∀ k, (∀ y0 y1 y2 y3 y4 y5 y6, LeO (j0 k y0 y1 y2 y3 y4 y5 y6) (j0 (k + 1) y0 y1 y2 y3 y4 y5 y6)) ∧ (∀ y0 y1 y2 y3 y4 y5 y6 y7 y8 y9 y10, LeO (j1 k y0 y1 y2 y3 y4 y5 y6 y7 y8 y9 y10) (j1 (k + 1) y0 y1 y2 y3 y4 y5 y6 y7 y8 y9 y10)) ∧ (∀ y0 y1 y2 y3, LeO (j2 k y0 y1 y2 y3) (j2 (k + 1) y0 y1 y2 y3)) ∧ (∀ y0 y1 y2 y3 y4 y5 y6 y7 y8, LeO (j3 k y0 y1 y2 y3 y4 y5 y6 y7 y8) (j3 (k + 1) y0 y1 y2 y3 y4 y5 y6 y7 y8)) ∧ (∀ y0 y1 y2 y3 y4 y5, LeO (j4 k y0 y1 y2 y3 y4 y5) (j4 (k + 1) y0 y1 y2 y3 y4 y5)) ∧ (∀ y0 y1 y2, LeO (j5 k y0 y1 y2) (j5 (k + 1) y0 y1 y2)) ∧ (∀ y0 y1 y2 y3 y4, LeO (j6 k y0 y1 y2 y3 y4) (j6 (k + 1) y0 y1 y2 y3 y4)) ∧ (∀ y0 y1 y2, LeO (j7 k y0 y1 y2) (j7 (k + 1) y0 y1 y2)) ∧ (∀ y0 y1, LeO (j8 k y0 y1) (j8 (k + 1) y0 y1))
 | 0 => ⟨fun _ _ _ _ _ _ _ r h => by simp [j0] at h, fun _ _ _ _ _ _ _ _ _ _ _ r h => by simp [j1] at h, fun _ _ _ _ r h => by simp [j2] at h, fun _ _ _ _ _ _ _ _ _ r h => by simp [j3] at h, fun _ _ _ _ _ _ r h => by simp [j4] at h, fun _ _ _ r h => by simp [j5] at h, fun _ _ _ _ _ r h => by simp [j6] at h, fun _ _ _ r h => by simp [j7] at h, fun _ _ r h => by simp [j8] at h⟩
 | k + 1 => by
  obtain ⟨ih0, ih1, ih2, ih3, ih4, ih5, ih6, ih7, ih8⟩ := laws_FnTablesMultipliedOfAll.mono_l k
  refine ⟨?_, ?_, ?_, ?_, ?_, ?_, ?_, ?_, ?_⟩
  ·
   intro y0 y1 y2 y3 y4 y5 y6
   unfold j0
   repeat' first
   | (with_reducible first | exact ih0 _ _ _ _ _ _ _ | exact ih1 _ _ _ _ _ _ _ _ _ _ _ | exact ih2 _ _ _ _ | exact ih3 _ _ _ _ _ _ _ _ _ | exact ih4 _ _ _ _ _ _ | exact ih5 _ _ _ | exact ih6 _ _ _ _ _ | exact ih7 _ _ _ | exact ih8 _ _ | exact impl_IsSpread.mono _ _ | exact impl_OverDivisors.mono _ _ _ | exact impl_SumOverDivisors.mono _ _ | exact impl_TableOf.mono _ _ _ | exact impl_UndoTable.mono _ _ | exact laws_gSame.mono _ _ _ | exact spec_IsSpread.mono _ _ | exact spec_OverDivisors.mono _ _ _ | exact spec_SumOverDivisors.mono _ _ | exact spec_TableOf.mono _ _ _ | exact spec_UndoTable.mono _ _ | exact LeO.refl _ | exact LeO.none _ | refine LeO.ite ?_ ?_ | refine LeO.bind ?_ (fun _ => ?_))
  ·
   intro y0 y1 y2 y3 y4 y5 y6 y7 y8 y9 y10
   unfold j1
   repeat' first
   | (with_reducible first | exact ih0 _ _ _ _ _ _ _ | exact ih1 _ _ _ _ _ _ _ _ _ _ _ | exact ih2 _ _ _ _ | exact ih3 _ _ _ _ _ _ _ _ _ | exact ih4 _ _ _ _ _ _ | exact ih5 _ _ _ | exact ih6 _ _ _ _ _ | exact ih7 _ _ _ | exact ih8 _ _ | exact impl_IsSpread.mono _ _ | exact impl_OverDivisors.mono _ _ _ | exact impl_SumOverDivisors.mono _ _ | exact impl_TableOf.mono _ _ _ | exact impl_UndoTable.mono _ _ | exact laws_gSame.mono _ _ _ | exact spec_IsSpread.mono _ _ | exact spec_OverDivisors.mono _ _ _ | exact spec_SumOverDivisors.mono _ _ | exact spec_TableOf.mono _ _ _ | exact spec_UndoTable.mono _ _ | exact LeO.refl _ | exact LeO.none _ | refine LeO.ite ?_ ?_ | refine LeO.bind ?_ (fun _ => ?_))
  ·
   intro y0 y1 y2 y3
   unfold j2
   repeat' first
   | (with_reducible first | exact ih0 _ _ _ _ _ _ _ | exact ih1 _ _ _ _ _ _ _ _ _ _ _ | exact ih2 _ _ _ _ | exact ih3 _ _ _ _ _ _ _ _ _ | exact ih4 _ _ _ _ _ _ | exact ih5 _ _ _ | exact ih6 _ _ _ _ _ | exact ih7 _ _ _ | exact ih8 _ _ | exact impl_IsSpread.mono _ _ | exact impl_OverDivisors.mono _ _ _ | exact impl_SumOverDivisors.mono _ _ | exact impl_TableOf.mono _ _ _ | exact impl_UndoTable.mono _ _ | exact laws_gSame.mono _ _ _ | exact spec_IsSpread.mono _ _ | exact spec_OverDivisors.mono _ _ _ | exact spec_SumOverDivisors.mono _ _ | exact spec_TableOf.mono _ _ _ | exact spec_UndoTable.mono _ _ | exact LeO.refl _ | exact LeO.none _ | refine LeO.ite ?_ ?_ | refine LeO.bind ?_ (fun _ => ?_))
  ·
   intro y0 y1 y2 y3 y4 y5 y6 y7 y8
   unfold j3
   repeat' first
   | (with_reducible first | exact ih0 _ _ _ _ _ _ _ | exact ih1 _ _ _ _ _ _ _ _ _ _ _ | exact ih2 _ _ _ _ | exact ih3 _ _ _ _ _ _ _ _ _ | exact ih4 _ _ _ _ _ _ | exact ih5 _ _ _ | exact ih6 _ _ _ _ _ | exact ih7 _ _ _ | exact ih8 _ _ | exact impl_IsSpread.mono _ _ | exact impl_OverDivisors.mono _ _ _ | exact impl_SumOverDivisors.mono _ _ | exact impl_TableOf.mono _ _ _ | exact impl_UndoTable.mono _ _ | exact laws_gSame.mono _ _ _ | exact spec_IsSpread.mono _ _ | exact spec_OverDivisors.mono _ _ _ | exact spec_SumOverDivisors.mono _ _ | exact spec_TableOf.mono _ _ _ | exact spec_UndoTable.mono _ _ | exact LeO.refl _ | exact LeO.none _ | refine LeO.ite ?_ ?_ | refine LeO.bind ?_ (fun _ => ?_))
  ·
   intro y0 y1 y2 y3 y4 y5
   unfold j4
   repeat' first
   | (with_reducible first | exact ih0 _ _ _ _ _ _ _ | exact ih1 _ _ _ _ _ _ _ _ _ _ _ | exact ih2 _ _ _ _ | exact ih3 _ _ _ _ _ _ _ _ _ | exact ih4 _ _ _ _ _ _ | exact ih5 _ _ _ | exact ih6 _ _ _ _ _ | exact ih7 _ _ _ | exact ih8 _ _ | exact impl_IsSpread.mono _ _ | exact impl_OverDivisors.mono _ _ _ | exact impl_SumOverDivisors.mono _ _ | exact impl_TableOf.mono _ _ _ | exact impl_UndoTable.mono _ _ | exact laws_gSame.mono _ _ _ | exact spec_IsSpread.mono _ _ | exact spec_OverDivisors.mono _ _ _ | exact spec_SumOverDivisors.mono _ _ | exact spec_TableOf.mono _ _ _ | exact spec_UndoTable.mono _ _ | exact LeO.refl _ | exact LeO.none _ | refine LeO.ite ?_ ?_ | refine LeO.bind ?_ (fun _ => ?_))
  ·
   intro y0 y1 y2
   unfold j5
   repeat' first
   | (with_reducible first | exact ih0 _ _ _ _ _ _ _ | exact ih1 _ _ _ _ _ _ _ _ _ _ _ | exact ih2 _ _ _ _ | exact ih3 _ _ _ _ _ _ _ _ _ | exact ih4 _ _ _ _ _ _ | exact ih5 _ _ _ | exact ih6 _ _ _ _ _ | exact ih7 _ _ _ | exact ih8 _ _ | exact impl_IsSpread.mono _ _ | exact impl_OverDivisors.mono _ _ _ | exact impl_SumOverDivisors.mono _ _ | exact impl_TableOf.mono _ _ _ | exact impl_UndoTable.mono _ _ | exact laws_gSame.mono _ _ _ | exact spec_IsSpread.mono _ _ | exact spec_OverDivisors.mono _ _ _ | exact spec_SumOverDivisors.mono _ _ | exact spec_TableOf.mono _ _ _ | exact spec_UndoTable.mono _ _ | exact LeO.refl _ | exact LeO.none _ | refine LeO.ite ?_ ?_ | refine LeO.bind ?_ (fun _ => ?_))
  ·
   intro y0 y1 y2 y3 y4
   unfold j6
   repeat' first
   | (with_reducible first | exact ih0 _ _ _ _ _ _ _ | exact ih1 _ _ _ _ _ _ _ _ _ _ _ | exact ih2 _ _ _ _ | exact ih3 _ _ _ _ _ _ _ _ _ | exact ih4 _ _ _ _ _ _ | exact ih5 _ _ _ | exact ih6 _ _ _ _ _ | exact ih7 _ _ _ | exact ih8 _ _ | exact impl_IsSpread.mono _ _ | exact impl_OverDivisors.mono _ _ _ | exact impl_SumOverDivisors.mono _ _ | exact impl_TableOf.mono _ _ _ | exact impl_UndoTable.mono _ _ | exact laws_gSame.mono _ _ _ | exact spec_IsSpread.mono _ _ | exact spec_OverDivisors.mono _ _ _ | exact spec_SumOverDivisors.mono _ _ | exact spec_TableOf.mono _ _ _ | exact spec_UndoTable.mono _ _ | exact LeO.refl _ | exact LeO.none _ | refine LeO.ite ?_ ?_ | refine LeO.bind ?_ (fun _ => ?_))
  ·
   intro y0 y1 y2
   unfold j7
   repeat' first
   | (with_reducible first | exact ih0 _ _ _ _ _ _ _ | exact ih1 _ _ _ _ _ _ _ _ _ _ _ | exact ih2 _ _ _ _ | exact ih3 _ _ _ _ _ _ _ _ _ | exact ih4 _ _ _ _ _ _ | exact ih5 _ _ _ | exact ih6 _ _ _ _ _ | exact ih7 _ _ _ | exact ih8 _ _ | exact impl_IsSpread.mono _ _ | exact impl_OverDivisors.mono _ _ _ | exact impl_SumOverDivisors.mono _ _ | exact impl_TableOf.mono _ _ _ | exact impl_UndoTable.mono _ _ | exact laws_gSame.mono _ _ _ | exact spec_IsSpread.mono _ _ | exact spec_OverDivisors.mono _ _ _ | exact spec_SumOverDivisors.mono _ _ | exact spec_TableOf.mono _ _ _ | exact spec_UndoTable.mono _ _ | exact LeO.refl _ | exact LeO.none _ | refine LeO.ite ?_ ?_ | refine LeO.bind ?_ (fun _ => ?_))
  ·
   intro y0 y1
   unfold j8
   repeat' first
   | (with_reducible first | exact ih0 _ _ _ _ _ _ _ | exact ih1 _ _ _ _ _ _ _ _ _ _ _ | exact ih2 _ _ _ _ | exact ih3 _ _ _ _ _ _ _ _ _ | exact ih4 _ _ _ _ _ _ | exact ih5 _ _ _ | exact ih6 _ _ _ _ _ | exact ih7 _ _ _ | exact ih8 _ _ | exact impl_IsSpread.mono _ _ | exact impl_OverDivisors.mono _ _ _ | exact impl_SumOverDivisors.mono _ _ | exact impl_TableOf.mono _ _ _ | exact impl_UndoTable.mono _ _ | exact laws_gSame.mono _ _ _ | exact spec_IsSpread.mono _ _ | exact spec_OverDivisors.mono _ _ _ | exact spec_SumOverDivisors.mono _ _ | exact spec_TableOf.mono _ _ _ | exact spec_UndoTable.mono _ _ | exact LeO.refl _ | exact LeO.none _ | refine LeO.ite ?_ ?_ | refine LeO.bind ?_ (fun _ => ?_))
theorem laws_FnTablesMultipliedOfAll.mono : ∀ a0 a1 a2 a3 a4 a5 k, LeO (laws_FnTablesMultipliedOfAll.f k a0 a1 a2 a3 a4 a5) (laws_FnTablesMultipliedOfAll.f (k + 1) a0 a1 a2 a3 a4 a5) := by
 intro a0 a1 a2 a3 a4 a5 k
 obtain ⟨ih0, ih1, ih2, ih3, ih4, ih5, ih6, ih7, ih8⟩ := laws_FnTablesMultipliedOfAll.mono_l k
 unfold laws_FnTablesMultipliedOfAll.f
 repeat' first
   | (with_reducible first | exact ih0 _ _ _ _ _ _ _ | exact ih1 _ _ _ _ _ _ _ _ _ _ _ | exact ih2 _ _ _ _ | exact ih3 _ _ _ _ _ _ _ _ _ | exact ih4 _ _ _ _ _ _ | exact ih5 _ _ _ | exact ih6 _ _ _ _ _ | exact ih7 _ _ _ | exact ih8 _ _ | exact impl_IsSpread.mono _ _ | exact impl_OverDivisors.mono _ _ _ | exact impl_SumOverDivisors.mono _ _ | exact impl_TableOf.mono _ _ _ | exact impl_UndoTable.mono _ _ | exact laws_gSame.mono _ _ _ | exact spec_IsSpread.mono _ _ | exact spec_OverDivisors.mono _ _ _ | exact spec_SumOverDivisors.mono _ _ | exact spec_TableOf.mono _ _ _ | exact spec_UndoTable.mono _ _ | exact LeO.refl _ | exact LeO.none _ | refine LeO.ite ?_ ?_ | refine LeO.bind ?_ (fun _ => ?_))
def laws_FnTablesMultipliedOfAll.T13 : Bool × List (List Nat × List Nat) := (true, [([], []), ([0], [0]), ([1], [1]), ([2], [2]), ([3, 2], [2, 3]), ([2, 4], [2, 4]), ([5, 2], [5]), ([6], [6]), ([6], [6]), ([7, 8, 6, 6], [6, 7, 8]), ([9, 6], [6, 9]), ([6, 10], [6, 10]), ([11, 9], [11]), ([12], [12]), ([13, 12], [12, 13]), ([12, 14], [12, 14]), ([15, 12], [15]), ([16], [16]), ([17, 16], [16, 17]), ([16, 18], [16, 18]), ([19, 16], [19]), ([20], [20]), ([21, 20, 20], [20, 21]), ([22], [22]), ([22, 23, 20], [20, 22, 23]), ([24, 22, 20], [20, 24]), ([25], [25]), ([26, 25], [25, 26]), ([25, 27, 20], [20, 25, 27]), ([20, 28], [20, 28]), ([29, 25], [29]), ([30], [30]), ([31, 30], [30, 31]), ([32, 30], [30, 32]), ([30], [30]), ([34, 30], [30, 34]), ([35, 30], [30, 35]), ([30], [30]), ([37, 30], [30, 37]), ([38, 30], [30, 38]), ([36, 39, 30], [30, 36, 39]), ([33, 40, 30], [30, 33, 40]), ([30, 41], [30, 41])])
def laws_FnTablesMultipliedOfAll.B13 : List Nat := [0, 1, 3, 7, 15, 31, 63, 127, 127, 511, 1023, 2047, 4095, 8191, 16383, 32767, 65535, 131071, 262143, 524287, 1048575, 2097151, 4194303, 8388607, 16777215, 33554431, 67108863, 134217727, 268435455, 536870911, 1073741823, 2147483647, 4294967295, 8589934591, 2147483647, 19327352831, 53687091199, 2147483647, 139586437119, 414464344063, 1084479242239, 2199023255551, 4398046511103]
theorem laws_FnTablesMultipliedOfAll.tab13 : rtab .any (opsOf Try.f8 13) = laws_FnTablesMultipliedOfAll.T13 := by kernel_rfl
theorem laws_FnTablesMultipliedOfAll.bits13 : waitsOk laws_FnTablesMultipliedOfAll.T13.2 laws_FnTablesMultipliedOfAll.B13 = true := by kernel_rfl
theorem laws_FnTablesMultipliedOfAll.j1_no : ∀ k y0 y1 y2 y3 y4 y5 y6 y7 y8 y9, j1 k y0 y1 y2 y3 y4 y5 y6 y7 y8 y9 true = some true → False := by
 intro k y0 y1 y2 y3 y4 y5 y6 y7 y8 y9 h
 cases k with
 | zero => simp [j1] at h
 | succ k => simp [j1] at h
theorem laws_FnTablesMultipliedOfAll.j3_no : ∀ k y0 y1 y2 y3 y4 y5 y6 y7, j3 k y0 y1 y2 y3 y4 y5 y6 y7 true = some true → False := by
 intro k y0 y1 y2 y3 y4 y5 y6 y7 h
 cases k with
 | zero => simp [j3] at h
 | succ k => simp [j3] at h
theorem laws_FnTablesMultipliedOfAll.j6_no : ∀ k y0 y1 y2 y3, j6 k y0 y1 y2 y3 true = some true → False := by
 intro k y0 y1 y2 y3 h
 cases k with
 | zero => simp [j6] at h
 | succ k => simp [j6] at h
theorem laws_FnTablesMultipliedOfAll.j7_no : ∀ k y0 y1, j7 k y0 y1 true = some true → False := by
 intro k y0 y1 h
 cases k with
 | zero => simp [j7] at h
 | succ k => simp [j7] at h
theorem laws_FnTablesMultipliedOfAll.j8_no : ∀ k y0, j8 k y0 true = some true → False := by
 intro k y0 h
 cases k with
 | zero => simp [j8] at h
 | succ k => simp [j8] at h
/-- A frame of which some slots (by two masks) hold whatever u says. -/
def cutFgt (u : Nat → Value) : List (Option Nat) → List Value → List Value
 | some n :: m, _ :: l => u n :: cutFgt u m l
 | none :: m, v :: l => v :: cutFgt u m l
 | _, l => l
theorem cutF {P : Program} {s : Code} {K : Act → World → Prop} {Q' : Exit → Act → World → Prop} {w : World} {L : List Value} {fr} (m m2 : List (Option Nat)) (R : (Nat → Value) → World → Prop)
  (first : ∀ (J K' : Act → World → Prop), (∀ u w', R u w' → J ⟨(cutFgt u m2 (cutFgt u m L)).toArray, fr⟩ w') → (∀ a' w', Met J a' w' → K' a' w') → s.wp P (Exit.then K' Q') ⟨L.toArray, fr⟩ w)
  (rest : ∀ u w', R u w' → K ⟨(cutFgt u m2 (cutFgt u m L)).toArray, fr⟩ w') : s.wp P (Exit.then K Q') ⟨L.toArray, fr⟩ w := by
 refine wp_cut (fun a' w' => ∃ u, R u w' ∧ a' = ⟨(cutFgt u m2 (cutFgt u m L)).toArray, fr⟩) ?_ ?_
 ·
  rintro _ w' ⟨u, h, rfl⟩
  exact rest u w' h
 ·
  intro J K' h1 h2
  exact first J K' (fun u w' h => h1 _ _ ⟨u, h, rfl⟩) h2
theorem cutMeet {J : Act → World → Prop} {R : (Nat → Value) → World → Prop} {m m2 : List (Option Nat)} {L0 L : List Value} {fr} {w' : World} (h : ∀ u w', R u w' → J ⟨(cutFgt u m2 (cutFgt u m L0)).toArray, fr⟩ w') (hr : R (fun n => L.getD n (.bool false)) w') (he : cutFgt (fun n => L.getD n (.bool false)) m2 (cutFgt (fun n => L.getD n (.bool false)) m L0) = L) : Met J ⟨L.toArray, fr⟩ w' := by
 have := h _ _ hr
 rw [he] at this
 exact this
def mk0 : List (Option Nat) := [none, none, none, none, none, none, none, none, none, none, none, none, none, none, none, none, none, none, none, none, none, none, none, none, none, none, none, none, none, none, none, none, none, none, none, none, none, none, none, none, none, none, none, none, none, none, none, none, none, none, none, none, none, none, none, none, none, none, none, none, none, none, none, none, none, none, none, some 67, some 68, some 69, some 70, some 71, some 72, some 73, some 74, some 75, some 76, some 77, some 78, some 79, some 80, some 81, some 82, some 83, some 84, some 85, some 86, some 87, some 88, some 89, some 90, some 91, some 92, some 93, some 94, some 95, some 96, some 97, some 98, some 99, some 100, some 101, some 102, some 103, some 104, some 105, some 106, some 107, some 108, some 109, some 110, some 111, some 112, some 113, some 114, some 115, some 116, some 117, some 118, some 119, some 120, some 121, some 122, some 123, some 124, some 125, some 126, some 127, some 128, some 129, some 130, some 131, some 132, some 133, some 134, some 135, some 136, some 137, some 138, some 139, some 140, some 141, some 142, some 143, some 144, some 145, some 146, some 147, some 148, some 149, some 150, some 151, some 152, some 153, some 154, some 155, some 156, some 157, some 158, some 159, some 160, some 161, some 162, some 163, some 164, some 165, some 166, some 167, some 168, some 169, some 170, some 171, some 172, some 173, some 174, some 175, some 176, some 177, some 178, some 179, some 180, some 181, some 182, some 183, some 184, some 185, some 186, some 187, some 188, some 189, some 190, some 191, some 192, some 193, some 194, some 195, some 196, some 197, some 198, some 199, some 200, some 201, some 202, some 203, some 204, some 205, some 206, some 207, some 208, some 209, some 210, some 211, some 212, some 213, some 214, some 215, some 216, some 217, some 218, some 219, some 220, some 221, some 222, some 223, some 224, some 225, some 226, some 227, some 228, some 229, some 230, some 231, some 232, some 233, some 234, some 235, some 236, some 237, some 238, some 239, some 240, some 241, some 242, some 243, some 244, some 245, some 246, some 247, some 248, some 249, some 250, some 251, some 252, some 253, some 254, some 255, some 256, some 257, some 258, some 259, some 260, some 261, some 262, some 263, some 264, some 265, some 266, some 267, some 268, some 269, some 270, some 271, some 272, some 273, some 274, some 275, some 276, some 277, some 278, some 279, some 280, some 281, some 282, some 283, some 284, some 285, some 286, some 287, some 288, some 289, some 290, some 291, some 292, some 293, some 294, some 295, some 296, some 297, some 298, some 299, some 300, some 301, some 302, some 303, some 304, some 305, some 306, some 307, some 308, some 309, some 310, some 311, some 312, some 313, some 314, some 315, some 316, some 317, some 318, some 319, some 320, some 321, some 322, some 323, some 324, some 325, some 326, some 327, some 328, some 329, some 330, some 331, some 332, some 333, some 334, some 335, some 336, some 337, some 338, some 339, some 340, some 341, some 342, some 343, some 344, some 345, some 346, some 347, some 348, some 349, some 350, some 351, some 352, some 353, some 354, some 355, some 356, some 357, some 358, some 359, some 360, some 361, some 362, some 363, some 364, some 365, some 366, some 367, some 368, some 369, some 370, some 371, some 372, some 373, some 374, some 375, some 376, some 377, some 378, some 379, some 380, some 381, some 382, some 383, some 384, some 385, some 386, some 387, some 388, some 389, some 390, some 391, some 392, some 393, some 394, some 395, some 396, some 397, some 398, some 399, some 400, some 401, some 402, some 403, some 404, some 405, some 406, some 407, some 408, some 409, some 410, some 411, some 412]
set_option maxHeartbeats 200000000 in
set_option maxRecDepth 100000 in
theorem laws_FnTablesMultipliedOfAll.calls (k : Nat) (A0 : Option Addr) (c0 : Nat) (l0 : List Int) (A1 : Option Addr) (c1 : Nat) (l1 : List Int) (A2 : Option Addr) (c2 : Nat) (l2 : List Int) (a3 : Int) (a4 : Int) (A5 : Option Addr) (c5 : Nat) (l5 : List Int) (r : Bool) (w : World) (hr0 : Kd.C (Kd.int .i64) w A0 l0.length l0) (hc0 : l0.length ≤ c0) (hr1 : Kd.C (Kd.int .i64) w A1 l1.length l1) (hc1 : l1.length ≤ c1) (hr2 : Kd.C (Kd.int .i64) w A2 l2.length l2) (hc2 : l2.length ≤ c2) (hr5 : Kd.C (Kd.int .i64) w A5 l5.length l5) (hc5 : l5.length ≤ c5) (h : laws_FnTablesMultipliedOfAll.f k l0 l1 l2 a3 a4 l5 = some r) (hr_ : r = true) :
  Calls Try.prog 8 #[.slice A0 l0.length c0, .slice A1 l1.length c1, .slice A2 l2.length c2, .int .i64 a3, .int .i64 a4, .slice A5 l5.length c5] w fun e w' => e = .returned (.bool r) ∧ Below w.heap.size w w' := by
 have HRT := Aside0.mk hr_
 clear hr_
 have HR0 := Aside0.mk hr0
 have HC0 := Aside0.mk hc0
 clear hr0 hc0
 have HR1 := Aside0.mk hr1
 have HC1 := Aside0.mk hc1
 clear hr1 hc1
 have HR2 := Aside0.mk hr2
 have HC2 := Aside0.mk hc2
 clear hr2 hc2
 have HR5 := Aside0.mk hr5
 have HC5 := Aside0.mk hc5
 clear hr5 hc5
 have HB := Aside0.mk (Below.refl w.heap.size w)
 have H : (if (l0.length : Int) > 10000 then (j0 k l0 l1 l2 a3 a4 l5 true) else (if (l1.length : Int) > 10000 then (j0 k l0 l1 l2 a3 a4 l5 true) else (if (l2.length : Int) > 10000 then (j0 k l0 l1 l2 a3 a4 l5 true) else (j0 k l0 l1 l2 a3 a4 l5 (decide ((l5.length : Int) > 10000)))))) = some r := h
 clear h
 have HC7 := Aside0.mk H
 clear H
 go_enter Try.func8, Try.ntmps8
 go_upto_region 1 with (fail)
 refine cutF mk0 [] (fun u_ wc => ∃ (kq : Nat) (x84_6 : Bool), (u_ 84) = .bool x84_6 ∧ Aside0 (j0 kq l0 l1 l2 a3 a4 l5 x84_6 = some r) ∧ Aside0 (kq ≤ k) ∧ Aside0 (Below w.heap.size w wc)) ?_ ?_
 ·
  as_aux_lemma =>
   intro J_ K_ hJ_ hK_
   have H := HC7.out
   clear HC7
   by_cases c8 : (l0.length : Int) > 10000
   ·
    rw [if_pos c8] at H
    have c8b0 : decide (10000 < (l0.length : Int)) = true := decide_eq_true c8
    have c8b1 : decide (10000 < l0.length) = true := decide_eq_true (by omega)
    clear c8
    (first | rw [c8b0] | (simp only [i64_w, i32_w]; rw [c8b0]) | skip)
    have H' := Aside0.mk H
    clear H
    go_wp2
    refine cutMeet hJ_ ?_ (by kernel_rfl)
    exact ⟨_, (true), (by first | rfl | (simp; done) | (simp [*]; done)), H', ⟨by first | omega | exact Nat.le_refl _⟩, ⟨by repeat (first | (with_reducible first | exact HB.out | apply below_alloc | apply pw_below_drewN | apply below_drew1))⟩⟩
   rw [if_neg c8] at H
   have c8b0 : decide (10000 < (l0.length : Int)) = false := decide_eq_false c8
   have c8b1 : decide (10000 < l0.length) = false := decide_eq_false (by omega)
   clear c8
   (first | rw [c8b0] | (simp only [i64_w, i32_w]; rw [c8b0]) | skip)
   by_cases c9 : (l1.length : Int) > 10000
   ·
    rw [if_pos c9] at H
    have c9b0 : decide (10000 < (l1.length : Int)) = true := decide_eq_true c9
    have c9b1 : decide (10000 < l1.length) = true := decide_eq_true (by omega)
    clear c9
    have H' := Aside0.mk H
    clear H
    go_wp2
    refine cutMeet hJ_ ?_ (by kernel_rfl)
    exact ⟨_, (true), (by first | rfl | (simp; done) | (simp [*]; done)), H', ⟨by first | omega | exact Nat.le_refl _⟩, ⟨by repeat (first | (with_reducible first | exact HB.out | apply below_alloc | apply pw_below_drewN | apply below_drew1))⟩⟩
   rw [if_neg c9] at H
   have c9b0 : decide (10000 < (l1.length : Int)) = false := decide_eq_false c9
   have c9b1 : decide (10000 < l1.length) = false := decide_eq_false (by omega)
   clear c9
   by_cases c10 : (l2.length : Int) > 10000
   ·
    rw [if_pos c10] at H
    have c10b0 : decide (10000 < (l2.length : Int)) = true := decide_eq_true c10
    have c10b1 : decide (10000 < l2.length) = true := decide_eq_true (by omega)
    clear c10
    have H' := Aside0.mk H
    clear H
    go_wp2
    refine cutMeet hJ_ ?_ (by kernel_rfl)
    exact ⟨_, (true), (by first | rfl | (simp; done) | (simp [*]; done)), H', ⟨by first | omega | exact Nat.le_refl _⟩, ⟨by repeat (first | (with_reducible first | exact HB.out | apply below_alloc | apply pw_below_drewN | apply below_drew1))⟩⟩
   rw [if_neg c10] at H
   have c10b0 : decide (10000 < (l2.length : Int)) = false := decide_eq_false c10
   have c10b1 : decide (10000 < l2.length) = false := decide_eq_false (by omega)
   clear c10
   have H' := Aside0.mk H
   clear H
   go_wp2
   refine cutMeet hJ_ ?_ (by kernel_rfl)
   exact ⟨_, (decide ((l5.length : Int) > 10000)), (by first | rfl | (simp; done) | (simp [*]; done)), H', ⟨by first | omega | exact Nat.le_refl _⟩, ⟨by repeat (first | (with_reducible first | exact HB.out | apply below_alloc | apply pw_below_drewN | apply below_drew1))⟩⟩
 ·
  intro u_ wc hcut
  clear HC7
  obtain ⟨kq, x84_6, e_84, HA, HJ6, HB⟩ := hcut
  dsimp only [cutFgt, mk0]
  rw [e_84]
  cases kq with
  | zero => exact absurd HA.out (by simp [j0])
  | succ kj6 =>
   have H := HA.out
   clear HA
   simp only [j0] at H
   by_cases c11 : x84_6 = true
   ·
    subst c11
    have H1 : (some true) = some r := by rw [if_pos rfl] at H; exact H
    clear H
    have H := H1
    clear H1
    first
    | exact absurd (Option.some.inj (H.trans (congrArg some HRT.out))) Bool.false_ne_true
    |
     obtain rfl := Option.some.inj H
     go_wp2
     go_ret
     exact ⟨by first | rfl | (simp [errW_none, errW_some] <;> rfl) | (simp [*, errW_none, errW_some] <;> rfl), by repeat (first | (with_reducible first | exact HB.out | apply below_alloc | apply pw_below_drewN | apply below_drew1))⟩
   replace c11 := Bool.eq_false_iff.mpr c11
   subst c11
   have H1 : ((impl_OverDivisors.f kj6 l0 l1).bind fun bt338 => ((spec_OverDivisors.f kj6 l0 l1).bind fun bt342 => ((impl_IsSpread.f kj6 l0).bind fun bt346 => ((spec_IsSpread.f kj6 l0).bind fun bt348 => (if (bt338.2 != bt342.2) = true then (j1 kj6 l0 l1 l2 a3 a4 l5 bt338.1 bt338.2 bt346.1 bt346.2 true) else ((laws_gSame.f kj6 bt338.1 bt342.1).bind fun t350 => (if t350 = true then (if (bt346.2 != bt348.2) = true then (j1 kj6 l0 l1 l2 a3 a4 l5 bt338.1 bt338.2 bt346.1 bt346.2 true) else (j1 kj6 l0 l1 l2 a3 a4 l5 bt338.1 bt338.2 bt346.1 bt346.2 (bt346.1 != bt348.1))) else (j1 kj6 l0 l1 l2 a3 a4 l5 bt338.1 bt338.2 bt346.1 bt346.2 true)))))))) = some r := by rw [if_neg (show ¬ (false = true) by decide)] at H; exact H
   clear H
   have H := H1
   clear H1
   replace H := Option.bind_eq_some_iff.mp H
   obtain ⟨⟨t338, t339⟩, A120, H⟩ := H
   replace H : ((spec_OverDivisors.f kj6 l0 l1).bind fun bt342 => ((impl_IsSpread.f kj6 l0).bind fun bt346 => ((spec_IsSpread.f kj6 l0).bind fun bt348 => (if (t339 != bt342.2) = true then (j1 kj6 l0 l1 l2 a3 a4 l5 t338 t339 bt346.1 bt346.2 true) else ((laws_gSame.f kj6 t338 bt342.1).bind fun t350 => (if t350 = true then (if (bt346.2 != bt348.2) = true then (j1 kj6 l0 l1 l2 a3 a4 l5 t338 t339 bt346.1 bt346.2 true) else (j1 kj6 l0 l1 l2 a3 a4 l5 t338 t339 bt346.1 bt346.2 (bt346.1 != bt348.1))) else (j1 kj6 l0 l1 l2 a3 a4 l5 t338 t339 bt346.1 bt346.2 true))))))) = some r := H
   have A12 := Aside0.mk A120
   clear A120
   replace H := Option.bind_eq_some_iff.mp H
   obtain ⟨⟨t342, t343⟩, A130, H⟩ := H
   replace H : ((impl_IsSpread.f kj6 l0).bind fun bt346 => ((spec_IsSpread.f kj6 l0).bind fun bt348 => (if (t339 != t343) = true then (j1 kj6 l0 l1 l2 a3 a4 l5 t338 t339 bt346.1 bt346.2 true) else ((laws_gSame.f kj6 t338 t342).bind fun t350 => (if t350 = true then (if (bt346.2 != bt348.2) = true then (j1 kj6 l0 l1 l2 a3 a4 l5 t338 t339 bt346.1 bt346.2 true) else (j1 kj6 l0 l1 l2 a3 a4 l5 t338 t339 bt346.1 bt346.2 (bt346.1 != bt348.1))) else (j1 kj6 l0 l1 l2 a3 a4 l5 t338 t339 bt346.1 bt346.2 true)))))) = some r := H
   have A13 := Aside0.mk A130
   clear A130
   replace H := Option.bind_eq_some_iff.mp H
   obtain ⟨⟨t346, t347⟩, A140, H⟩ := H
   replace H : ((spec_IsSpread.f kj6 l0).bind fun bt348 => (if (t339 != t343) = true then (j1 kj6 l0 l1 l2 a3 a4 l5 t338 t339 t346 t347 true) else ((laws_gSame.f kj6 t338 t342).bind fun t350 => (if t350 = true then (if (t347 != bt348.2) = true then (j1 kj6 l0 l1 l2 a3 a4 l5 t338 t339 t346 t347 true) else (j1 kj6 l0 l1 l2 a3 a4 l5 t338 t339 t346 t347 (t346 != bt348.1))) else (j1 kj6 l0 l1 l2 a3 a4 l5 t338 t339 t346 t347 true))))) = some r := H
   have A14 := Aside0.mk A140
   clear A140
   replace H := Option.bind_eq_some_iff.mp H
   obtain ⟨⟨t348, t349⟩, A150, H⟩ := H
   replace H : (if (t339 != t343) = true then (j1 kj6 l0 l1 l2 a3 a4 l5 t338 t339 t346 t347 true) else ((laws_gSame.f kj6 t338 t342).bind fun t350 => (if t350 = true then (if (t347 != t349) = true then (j1 kj6 l0 l1 l2 a3 a4 l5 t338 t339 t346 t347 true) else (j1 kj6 l0 l1 l2 a3 a4 l5 t338 t339 t346 t347 (t346 != t348))) else (j1 kj6 l0 l1 l2 a3 a4 l5 t338 t339 t346 t347 true)))) = some r := H
   have A15 := Aside0.mk A150
   clear A150
   have HC16 := Aside0.mk H
   clear H
   go_upto_region 7 with (first | ((with_reducible refine gate_callee (f := 94) rfl ?_); refine goesL_ (some 88) rfl rfl Try.func94 (by kernel_rfl) rfl #[.slice A0 l0.length c0, .slice A1 l1.length c1] rfl (by (try simp only [List.map_toArray, List.map_cons, List.map_nil]); first | done | rfl | (simp only [List.length_drop, List.length_take]; rfl)) ?_; (with_reducible refine (impl_OverDivisors.calls kj6 _ _ l0 _ _ l1 t338 t339 _ ?side1 ?side2 ?side3 ?side4 A12.out).mono ?_); (case side1 => repeat (first | exact (Kd.C_below HR0.out HB.out) | (with_reducible refine Kd.C_alloc ?_ _) | (with_reducible refine Kd.C_drewN ?_ _) | (with_reducible refine Kd.C_drew ?_))); (case side2 => exact HC0.out); (case side3 => repeat (first | exact (Kd.C_below HR1.out HB.out) | (with_reducible refine Kd.C_alloc ?_ _) | (with_reducible refine Kd.C_drewN ?_ _) | (with_reducible refine Kd.C_drew ?_))); (case side4 => exact HC1.out); rintro e w17 ⟨v340, rfl, ho0, hb⟩; refine ⟨_, rfl, ?_⟩; have n0_ := Aside0.mk (Kd.R_lower ho0 (below_size (by repeat (first | (with_reducible first | exact HB.out | apply below_alloc | apply pw_below_drewN | apply below_drew1))))); have n1_ := Aside0.mk (below_step (by repeat (first | (with_reducible first | exact HB.out | apply below_alloc | apply pw_below_drewN | apply below_drew1))) hb); clear HB; have HO341 := n0_; have HB := n1_; clear n0_ n1_; (try clear hb); (try clear ho0)) | ((with_reducible refine gate_callee (f := 95) rfl ?_); refine goesL_ (some 94) rfl rfl Try.func95 (by kernel_rfl) rfl #[.slice A0 l0.length c0, .slice A1 l1.length c1] rfl (by (try simp only [List.map_toArray, List.map_cons, List.map_nil]); first | done | rfl | (simp only [List.length_drop, List.length_take]; rfl)) ?_; (with_reducible refine (spec_OverDivisors.calls kj6 _ _ l0 _ _ l1 t342 t343 _ ?side1 ?side2 ?side3 ?side4 A13.out).mono ?_); (case side1 => repeat (first | exact (Kd.C_below HR0.out HB.out) | (with_reducible refine Kd.C_alloc ?_ _) | (with_reducible refine Kd.C_drewN ?_ _) | (with_reducible refine Kd.C_drew ?_))); (case side2 => exact HC0.out); (case side3 => repeat (first | exact (Kd.C_below HR1.out HB.out) | (with_reducible refine Kd.C_alloc ?_ _) | (with_reducible refine Kd.C_drewN ?_ _) | (with_reducible refine Kd.C_drew ?_))); (case side4 => exact HC1.out); rintro e w18 ⟨v344, rfl, ho0, hb⟩; refine ⟨_, rfl, ?_⟩; have n0_ := Aside0.mk (Kd.R_elder' (by (with_reducible repeat (first | apply Kd.R_alloc | apply Kd.R_drewN | apply Kd.R_drew)); exact HO341.out) (Kd.R_base ho0) hb); have n1_ := Aside0.mk (Kd.R_lower (Kd.R_new' ho0 (Kd.R_lt (by (with_reducible repeat (first | apply Kd.R_alloc | apply Kd.R_drewN | apply Kd.R_drew)); exact HO341.out))) (below_size (by repeat (first | (with_reducible first | exact HB.out | apply below_alloc | apply pw_below_drewN | apply below_drew1))))); have n2_ := Aside0.mk (below_step (by repeat (first | (with_reducible first | exact HB.out | apply below_alloc | apply pw_below_drewN | apply below_drew1))) hb); clear HO341; clear HB; have HO341 := n0_; have HO345 := n1_; have HB := n2_; clear n0_ n1_ n2_; (try clear hb); (try clear ho0)) | ((with_reducible refine gate_callee (f := 96) rfl ?_); refine goesL_ (some 99) rfl rfl Try.func96 (by kernel_rfl) rfl #[.slice A0 l0.length c0] rfl (by (try simp only [List.map_toArray, List.map_cons, List.map_nil]); first | done | rfl | (simp only [List.length_drop, List.length_take]; rfl)) ?_; (with_reducible refine (impl_IsSpread.calls kj6 _ _ l0 t346 t347 _ ?side1 ?side2 A14.out).mono ?_); (case side1 => repeat (first | exact (Kd.C_below HR0.out HB.out) | (with_reducible refine Kd.C_alloc ?_ _) | (with_reducible refine Kd.C_drewN ?_ _) | (with_reducible refine Kd.C_drew ?_))); (case side2 => exact HC0.out); rintro e w' ⟨rfl, ⟨nd, rfl⟩⟩; refine ⟨_, rfl, ?_⟩) | ((with_reducible refine gate_callee (f := 97) rfl ?_); refine goesL_ (some 104) rfl rfl Try.func97 (by kernel_rfl) rfl #[.slice A0 l0.length c0] rfl (by (try simp only [List.map_toArray, List.map_cons, List.map_nil]); first | done | rfl | (simp only [List.length_drop, List.length_take]; rfl)) ?_; (with_reducible refine (spec_IsSpread.calls kj6 _ _ l0 t348 t349 _ ?side1 ?side2 A15.out).mono ?_); (case side1 => repeat (first | exact (Kd.C_below HR0.out (by repeat (first | (with_reducible first | exact HB.out | apply below_alloc | apply pw_below_drewN | apply below_drew1)))) | (with_reducible refine Kd.C_alloc ?_ _) | (with_reducible refine Kd.C_drewN ?_ _) | (with_reducible refine Kd.C_drew ?_))); (case side2 => exact HC0.out); rintro e w' ⟨rfl, ⟨nd, rfl⟩⟩; refine ⟨_, rfl, ?_⟩))
   (try simp only [Act.put, List.setIfInBounds_toArray, List.set_cons_zero, List.set_cons_succ])
   refine cutF mk0 [] (fun u_ wc => ∃ (kq : Nat) (x125_15 : Bool), (u_ 125) = .bool x125_15 ∧ Aside0 (j1 kq l0 l1 l2 a3 a4 l5 t338 t339 t346 t347 x125_15 = some r) ∧ Aside0 (kq ≤ kj6) ∧ Aside0 (Kd.R (Kd.int .i64) 3 wc w.heap.size (fun _ => True) v340 t338) ∧ Aside0 (Below w.heap.size w wc)) ?_ ?_
   ·
    as_aux_lemma =>
     intro J_ K_ hJ_ hK_
     have H := HC16.out
     clear HC16
     by_cases c19 : (t339 != t343) = true
     ·
      rw [if_pos c19] at H
      exact (laws_FnTablesMultipliedOfAll.j1_no _ _ _ _ _ _ _ _ _ _ _ (H.trans (congrArg some HRT.out))).elim
     rw [if_neg c19] at H
     have c19b0 : (t339 != t343) = false := by simpa using c19
     (try (have c19b1 : decide (t339 = t343) = true := by simpa using c19))
     (try (have c19b2 : (t339 == t343) = true := by simpa using c19))
     clear c19
     (first | rw [c19b0] | (simp only [i64_w, i32_w]; rw [c19b0]) | skip)
     replace H := Option.bind_eq_some_iff.mp H
     obtain ⟨t350, A200, H⟩ := H
     replace H : (if t350 = true then (if (t347 != t349) = true then (j1 kj6 l0 l1 l2 a3 a4 l5 t338 t339 t346 t347 true) else (j1 kj6 l0 l1 l2 a3 a4 l5 t338 t339 t346 t347 (t346 != t348))) else (j1 kj6 l0 l1 l2 a3 a4 l5 t338 t339 t346 t347 true)) = some r := H
     have A20 := Aside0.mk A200
     clear A200
     by_cases c21 : t350 = true
     ·
      subst c21
      have H1 : (if (t347 != t349) = true then (j1 kj6 l0 l1 l2 a3 a4 l5 t338 t339 t346 t347 true) else (j1 kj6 l0 l1 l2 a3 a4 l5 t338 t339 t346 t347 (t346 != t348))) = some r := by rw [if_pos rfl] at H; exact H
      clear H
      have H := H1
      clear H1
      by_cases c22 : (t347 != t349) = true
      ·
       rw [if_pos c22] at H
       exact (laws_FnTablesMultipliedOfAll.j1_no _ _ _ _ _ _ _ _ _ _ _ (H.trans (congrArg some HRT.out))).elim
      rw [if_neg c22] at H
      have c22b0 : (t347 != t349) = false := by simpa using c22
      (try (have c22b1 : decide (t347 = t349) = true := by simpa using c22))
      (try (have c22b2 : (t347 == t349) = true := by simpa using c22))
      clear c22
      have H' := Aside0.mk H
      clear H
      obtain ⟨Ao25, co25, eo25⟩ := Kd.R_slice HO341.out
      subst eo25
      obtain ⟨Ao26, co26, eo26⟩ := Kd.R_slice HO345.out
      subst eo26
      go_wp2_with (first | (go_at_call 75; (with_reducible refine (laws_gSame.calls kj6 _ _ t338 _ _ t342 true _ ?side1 ?side2 ?side3 ?side4 A20.out).mono ?_); (case side1 => repeat (first | exact (Kd.R_reads' HO341.out).2.2 | (with_reducible refine Kd.C_alloc ?_ _) | (with_reducible refine Kd.C_drewN ?_ _) | (with_reducible refine Kd.C_drew ?_))); (case side2 => exact (Kd.R_reads' HO341.out).2.1); (case side3 => repeat (first | exact (Kd.R_reads' HO345.out).2.2 | (with_reducible refine Kd.C_alloc ?_ _) | (with_reducible refine Kd.C_drewN ?_ _) | (with_reducible refine Kd.C_drew ?_))); (case side4 => exact (Kd.R_reads' HO345.out).2.1); rintro e w' ⟨rfl, ⟨nd, rfl⟩⟩))
      refine cutMeet hJ_ ?_ (by kernel_rfl)
      exact ⟨_, ((t346 != t348)), (by first | rfl | (simp; done) | (simp [*]; done)), H', ⟨by have := HJ6.out; first | omega | exact Nat.le_refl _⟩, ⟨by (with_reducible repeat (first | apply Kd.R_alloc | apply Kd.R_drewN | apply Kd.R_drew)); exact Kd.R_mono HO341.out (fun _ hk => trivial)⟩, ⟨by repeat (first | (with_reducible first | exact HB.out | apply below_alloc | apply pw_below_drewN | apply below_drew1))⟩⟩
     replace c21 := Bool.eq_false_iff.mpr c21
     subst c21
     have H1 : (j1 kj6 l0 l1 l2 a3 a4 l5 t338 t339 t346 t347 true) = some r := by rw [if_neg (show ¬ (false = true) by decide)] at H; exact H
     clear H
     have H := H1
     clear H1
     exact (laws_FnTablesMultipliedOfAll.j1_no _ _ _ _ _ _ _ _ _ _ _ (H.trans (congrArg some HRT.out))).elim
   intro u_ wc hcut
   clear HC16
   obtain ⟨kq, x125_15, e_125, HA, HJ15, HO_13, HB⟩ := hcut
   dsimp only [cutFgt, mk0]
   rw [e_125]
   cases kq with
   | zero => exact absurd HA.out (by simp [j1])
   | succ kj15 =>
    have H := HA.out
    clear HA
    simp only [j1] at H
    by_cases c29 : x125_15 = true
    ·
     subst c29
     have H1 : (some false) = some r := by rw [if_pos rfl] at H; exact H
     clear H
     have H := H1
     clear H1
     exact absurd (Option.some.inj (H.trans (congrArg some HRT.out))) Bool.false_ne_true
    replace c29 := Bool.eq_false_iff.mpr c29
    subst c29
    have H1 : (if t339 = true then ((impl_OverDivisors.f kj15 l1 l0).bind fun bt351 => ((impl_IsSpread.f kj15 l1).bind fun bt355 => ((impl_IsSpread.f kj15 t338).bind fun bt357 => (if t347 = true then (if bt351.2 = true then ((laws_gSame.f kj15 bt351.1 t338).bind fun t359 => (if t359 = true then (if bt355.2 = true then (if bt357.2 = true then (if t346 = true then (if bt355.1 = true then (if bt357.1 = true then (if 0 < (t338.length : Int) then (if 0 < (l0.length : Int) then (if 0 < (l1.length : Int) then (if (rd t338 0) = (wrap64 ((rd l0 0) * (rd l1 0))) then (j2 kj15 l2 a3 a4 l5) else (some false)) else (none)) else (none)) else (none)) else (some false)) else (if 0 < (t338.length : Int) then (if 0 < (l0.length : Int) then (if 0 < (l1.length : Int) then (if (rd t338 0) = (wrap64 ((rd l0 0) * (rd l1 0))) then (j2 kj15 l2 a3 a4 l5) else (some false)) else (none)) else (none)) else (none))) else (if 0 < (t338.length : Int) then (if 0 < (l0.length : Int) then (if 0 < (l1.length : Int) then (if (rd t338 0) = (wrap64 ((rd l0 0) * (rd l1 0))) then (j2 kj15 l2 a3 a4 l5) else (some false)) else (none)) else (none)) else (none))) else (some false)) else (some false)) else (some false))) else (some false)) else (some false))))) else (j2 kj15 l2 a3 a4 l5)) = some r := by rw [if_neg (show ¬ (false = true) by decide)] at H; exact H
    clear H
    have H := H1
    clear H1
    have HC30 := Aside0.mk H
    clear H
    go_upto_if 126 with (fail)
    refine cutF mk0 [none, none, none, none, none, none, none, none, none, none, none, none, some 12, none, none, none, none, none, none, none, none, some 21, some 22, some 23, some 24, some 25, some 26] (fun u_ wc => ∃ (kq : Nat), Aside0 (j2 kq l2 a3 a4 l5 = some r) ∧ Aside0 (kq ≤ kj15) ∧ Aside0 (Below w.heap.size w wc)) ?_ ?_
    ·
     as_aux_lemma =>
      intro J_ K_ hJ_ hK_
      have H := HC30.out
      clear HC30
      by_cases c31 : t339 = true
      ·
       subst c31
       have H1 : ((impl_OverDivisors.f kj15 l1 l0).bind fun bt351 => ((impl_IsSpread.f kj15 l1).bind fun bt355 => ((impl_IsSpread.f kj15 t338).bind fun bt357 => (if t347 = true then (if bt351.2 = true then ((laws_gSame.f kj15 bt351.1 t338).bind fun t359 => (if t359 = true then (if bt355.2 = true then (if bt357.2 = true then (if t346 = true then (if bt355.1 = true then (if bt357.1 = true then (if 0 < (t338.length : Int) then (if 0 < (l0.length : Int) then (if 0 < (l1.length : Int) then (if (rd t338 0) = (wrap64 ((rd l0 0) * (rd l1 0))) then (j2 kj15 l2 a3 a4 l5) else (some false)) else (none)) else (none)) else (none)) else (some false)) else (if 0 < (t338.length : Int) then (if 0 < (l0.length : Int) then (if 0 < (l1.length : Int) then (if (rd t338 0) = (wrap64 ((rd l0 0) * (rd l1 0))) then (j2 kj15 l2 a3 a4 l5) else (some false)) else (none)) else (none)) else (none))) else (if 0 < (t338.length : Int) then (if 0 < (l0.length : Int) then (if 0 < (l1.length : Int) then (if (rd t338 0) = (wrap64 ((rd l0 0) * (rd l1 0))) then (j2 kj15 l2 a3 a4 l5) else (some false)) else (none)) else (none)) else (none))) else (some false)) else (some false)) else (some false))) else (some false)) else (some false))))) = some r := by rw [if_pos rfl] at H; exact H
       clear H
       have H := H1
       clear H1
       replace H := Option.bind_eq_some_iff.mp H
       obtain ⟨⟨t351, t352⟩, A320, H⟩ := H
       try dsimp only at H
       have A32 := Aside0.mk A320
       clear A320
       replace H := Option.bind_eq_some_iff.mp H
       obtain ⟨⟨t355, t356⟩, A330, H⟩ := H
       try dsimp only at H
       have A33 := Aside0.mk A330
       clear A330
       replace H := Option.bind_eq_some_iff.mp H
       obtain ⟨⟨t357, t358⟩, A340, H⟩ := H
       try dsimp only at H
       have A34 := Aside0.mk A340
       clear A340
       by_cases c35 : t347 = true
       ·
        subst c35
        have H1 : (if t352 = true then ((laws_gSame.f kj15 t351 t338).bind fun t359 => (if t359 = true then (if t356 = true then (if t358 = true then (if t346 = true then (if t355 = true then (if t357 = true then (if 0 < (t338.length : Int) then (if 0 < (l0.length : Int) then (if 0 < (l1.length : Int) then (if (rd t338 0) = (wrap64 ((rd l0 0) * (rd l1 0))) then (j2 kj15 l2 a3 a4 l5) else (some false)) else (none)) else (none)) else (none)) else (some false)) else (if 0 < (t338.length : Int) then (if 0 < (l0.length : Int) then (if 0 < (l1.length : Int) then (if (rd t338 0) = (wrap64 ((rd l0 0) * (rd l1 0))) then (j2 kj15 l2 a3 a4 l5) else (some false)) else (none)) else (none)) else (none))) else (if 0 < (t338.length : Int) then (if 0 < (l0.length : Int) then (if 0 < (l1.length : Int) then (if (rd t338 0) = (wrap64 ((rd l0 0) * (rd l1 0))) then (j2 kj15 l2 a3 a4 l5) else (some false)) else (none)) else (none)) else (none))) else (some false)) else (some false)) else (some false))) else (some false)) = some r := by rw [if_pos rfl] at H; exact H
        clear H
        have H := H1
        clear H1
        by_cases c36 : t352 = true
        ·
         subst c36
         have H1 : ((laws_gSame.f kj15 t351 t338).bind fun t359 => (if t359 = true then (if t356 = true then (if t358 = true then (if t346 = true then (if t355 = true then (if t357 = true then (if 0 < (t338.length : Int) then (if 0 < (l0.length : Int) then (if 0 < (l1.length : Int) then (if (rd t338 0) = (wrap64 ((rd l0 0) * (rd l1 0))) then (j2 kj15 l2 a3 a4 l5) else (some false)) else (none)) else (none)) else (none)) else (some false)) else (if 0 < (t338.length : Int) then (if 0 < (l0.length : Int) then (if 0 < (l1.length : Int) then (if (rd t338 0) = (wrap64 ((rd l0 0) * (rd l1 0))) then (j2 kj15 l2 a3 a4 l5) else (some false)) else (none)) else (none)) else (none))) else (if 0 < (t338.length : Int) then (if 0 < (l0.length : Int) then (if 0 < (l1.length : Int) then (if (rd t338 0) = (wrap64 ((rd l0 0) * (rd l1 0))) then (j2 kj15 l2 a3 a4 l5) else (some false)) else (none)) else (none)) else (none))) else (some false)) else (some false)) else (some false))) = some r := by rw [if_pos rfl] at H; exact H
         clear H
         have H := H1
         clear H1
         replace H := Option.bind_eq_some_iff.mp H
         obtain ⟨t359, A370, H⟩ := H
         try dsimp only at H
         have A37 := Aside0.mk A370
         clear A370
         by_cases c38 : t359 = true
         ·
          subst c38
          have H1 : (if t356 = true then (if t358 = true then (if t346 = true then (if t355 = true then (if t357 = true then (if 0 < (t338.length : Int) then (if 0 < (l0.length : Int) then (if 0 < (l1.length : Int) then (if (rd t338 0) = (wrap64 ((rd l0 0) * (rd l1 0))) then (j2 kj15 l2 a3 a4 l5) else (some false)) else (none)) else (none)) else (none)) else (some false)) else (if 0 < (t338.length : Int) then (if 0 < (l0.length : Int) then (if 0 < (l1.length : Int) then (if (rd t338 0) = (wrap64 ((rd l0 0) * (rd l1 0))) then (j2 kj15 l2 a3 a4 l5) else (some false)) else (none)) else (none)) else (none))) else (if 0 < (t338.length : Int) then (if 0 < (l0.length : Int) then (if 0 < (l1.length : Int) then (if (rd t338 0) = (wrap64 ((rd l0 0) * (rd l1 0))) then (j2 kj15 l2 a3 a4 l5) else (some false)) else (none)) else (none)) else (none))) else (some false)) else (some false)) = some r := by rw [if_pos rfl] at H; exact H
          clear H
          have H := H1
          clear H1
          by_cases c39 : t356 = true
          ·
           subst c39
           have H1 : (if t358 = true then (if t346 = true then (if t355 = true then (if t357 = true then (if 0 < (t338.length : Int) then (if 0 < (l0.length : Int) then (if 0 < (l1.length : Int) then (if (rd t338 0) = (wrap64 ((rd l0 0) * (rd l1 0))) then (j2 kj15 l2 a3 a4 l5) else (some false)) else (none)) else (none)) else (none)) else (some false)) else (if 0 < (t338.length : Int) then (if 0 < (l0.length : Int) then (if 0 < (l1.length : Int) then (if (rd t338 0) = (wrap64 ((rd l0 0) * (rd l1 0))) then (j2 kj15 l2 a3 a4 l5) else (some false)) else (none)) else (none)) else (none))) else (if 0 < (t338.length : Int) then (if 0 < (l0.length : Int) then (if 0 < (l1.length : Int) then (if (rd t338 0) = (wrap64 ((rd l0 0) * (rd l1 0))) then (j2 kj15 l2 a3 a4 l5) else (some false)) else (none)) else (none)) else (none))) else (some false)) = some r := by rw [if_pos rfl] at H; exact H
           clear H
           have H := H1
           clear H1
           by_cases c40 : t358 = true
           ·
            subst c40
            have H1 : (if t346 = true then (if t355 = true then (if t357 = true then (if 0 < (t338.length : Int) then (if 0 < (l0.length : Int) then (if 0 < (l1.length : Int) then (if (rd t338 0) = (wrap64 ((rd l0 0) * (rd l1 0))) then (j2 kj15 l2 a3 a4 l5) else (some false)) else (none)) else (none)) else (none)) else (some false)) else (if 0 < (t338.length : Int) then (if 0 < (l0.length : Int) then (if 0 < (l1.length : Int) then (if (rd t338 0) = (wrap64 ((rd l0 0) * (rd l1 0))) then (j2 kj15 l2 a3 a4 l5) else (some false)) else (none)) else (none)) else (none))) else (if 0 < (t338.length : Int) then (if 0 < (l0.length : Int) then (if 0 < (l1.length : Int) then (if (rd t338 0) = (wrap64 ((rd l0 0) * (rd l1 0))) then (j2 kj15 l2 a3 a4 l5) else (some false)) else (none)) else (none)) else (none))) = some r := by rw [if_pos rfl] at H; exact H
            clear H
            have H := H1
            clear H1
            by_cases c41 : t346 = true
            ·
             subst c41
             have H1 : (if t355 = true then (if t357 = true then (if 0 < (t338.length : Int) then (if 0 < (l0.length : Int) then (if 0 < (l1.length : Int) then (if (rd t338 0) = (wrap64 ((rd l0 0) * (rd l1 0))) then (j2 kj15 l2 a3 a4 l5) else (some false)) else (none)) else (none)) else (none)) else (some false)) else (if 0 < (t338.length : Int) then (if 0 < (l0.length : Int) then (if 0 < (l1.length : Int) then (if (rd t338 0) = (wrap64 ((rd l0 0) * (rd l1 0))) then (j2 kj15 l2 a3 a4 l5) else (some false)) else (none)) else (none)) else (none))) = some r := by rw [if_pos rfl] at H; exact H
             clear H
             have H := H1
             clear H1
             by_cases c42 : t355 = true
             ·
              subst c42
              have H1 : (if t357 = true then (if 0 < (t338.length : Int) then (if 0 < (l0.length : Int) then (if 0 < (l1.length : Int) then (if (rd t338 0) = (wrap64 ((rd l0 0) * (rd l1 0))) then (j2 kj15 l2 a3 a4 l5) else (some false)) else (none)) else (none)) else (none)) else (some false)) = some r := by rw [if_pos rfl] at H; exact H
              clear H
              have H := H1
              clear H1
              by_cases c43 : t357 = true
              ·
               subst c43
               have H1 : (if 0 < (t338.length : Int) then (if 0 < (l0.length : Int) then (if 0 < (l1.length : Int) then (if (rd t338 0) = (wrap64 ((rd l0 0) * (rd l1 0))) then (j2 kj15 l2 a3 a4 l5) else (some false)) else (none)) else (none)) else (none)) = some r := by rw [if_pos rfl] at H; exact H
               clear H
               have H := H1
               clear H1
               by_cases c44 : 0 < (t338.length : Int)
               ·
                rw [if_pos c44] at H
                have c44b0 : decide (0 < (t338.length : Int)) = true := decide_eq_true c44
                have c44b1 : decide (0 < t338.length) = true := decide_eq_true (by omega)
                clear c44
                (first | rw [c44b0] | (simp only [i64_w, i32_w]; rw [c44b0]) | skip)
                by_cases c45 : 0 < (l0.length : Int)
                ·
                 rw [if_pos c45] at H
                 have c45b0 : decide (0 < (l0.length : Int)) = true := decide_eq_true c45
                 have c45b1 : decide (0 < l0.length) = true := decide_eq_true (by omega)
                 clear c45
                 by_cases c46 : 0 < (l1.length : Int)
                 ·
                  rw [if_pos c46] at H
                  have c46b0 : decide (0 < (l1.length : Int)) = true := decide_eq_true c46
                  have c46b1 : decide (0 < l1.length) = true := decide_eq_true (by omega)
                  clear c46
                  by_cases c47 : (rd t338 0) = (wrap64 ((rd l0 0) * (rd l1 0)))
                  ·
                   rw [if_pos c47] at H
                   have c47b0 : ((rd t338 0) == (wrap64 ((rd l0 0) * (rd l1 0)))) = true := beq_iff_eq.mpr c47
                   have c47b1 : ((rd t338 0) != (wrap64 ((rd l0 0) * (rd l1 0)))) = false := bne_eq_false_iff_eq.mpr c47
                   clear c47
                   have H' := Aside0.mk H
                   clear H
                   try go_wp2_with (first | ((with_reducible refine gate_callee (f := 94) rfl ?_); refine goesL_ (some 130) rfl rfl Try.func94 (by kernel_rfl) rfl #[.slice A1 l1.length c1, .slice A0 l0.length c0] rfl (by (try simp only [List.map_toArray, List.map_cons, List.map_nil]); first | done | rfl | (simp only [List.length_drop, List.length_take]; rfl)) ?_; (with_reducible refine (impl_OverDivisors.calls kj15 _ _ l1 _ _ l0 t351 true _ ?side1 ?side2 ?side3 ?side4 A32.out).mono ?_); (case side1 => repeat (first | exact (Kd.C_below HR1.out HB.out) | (with_reducible refine Kd.C_alloc ?_ _) | (with_reducible refine Kd.C_drewN ?_ _) | (with_reducible refine Kd.C_drew ?_))); (case side2 => exact HC1.out); (case side3 => repeat (first | exact (Kd.C_below HR0.out HB.out) | (with_reducible refine Kd.C_alloc ?_ _) | (with_reducible refine Kd.C_drewN ?_ _) | (with_reducible refine Kd.C_drew ?_))); (case side4 => exact HC0.out); rintro e w48 ⟨v353, rfl, ho0, hb⟩; refine ⟨_, rfl, ?_⟩; have n0_ := Aside0.mk (Kd.R_elder' (by (with_reducible repeat (first | apply Kd.R_alloc | apply Kd.R_drewN | apply Kd.R_drew)); exact HO_13.out) (Kd.R_base ho0) hb); have n1_ := Aside0.mk (Kd.R_lower (Kd.R_new' ho0 (Kd.R_lt (by (with_reducible repeat (first | apply Kd.R_alloc | apply Kd.R_drewN | apply Kd.R_drew)); exact HO_13.out))) (below_size (by repeat (first | (with_reducible first | exact HB.out | apply below_alloc | apply pw_below_drewN | apply below_drew1))))); have n2_ := Aside0.mk (below_step (by repeat (first | (with_reducible first | exact HB.out | apply below_alloc | apply pw_below_drewN | apply below_drew1))) hb); clear HO_13; clear HB; have HO_13 := n0_; have HO354 := n1_; have HB := n2_; clear n0_ n1_ n2_; (try clear hb); (try clear ho0)) | ((with_reducible refine gate_callee (f := 96) rfl ?_); refine goesL_ (some 135) rfl rfl Try.func96 (by kernel_rfl) rfl #[.slice A1 l1.length c1] rfl (by (try simp only [List.map_toArray, List.map_cons, List.map_nil]); first | done | rfl | (simp only [List.length_drop, List.length_take]; rfl)) ?_; (with_reducible refine (impl_IsSpread.calls kj15 _ _ l1 true true _ ?side1 ?side2 A33.out).mono ?_); (case side1 => repeat (first | exact (Kd.C_below HR1.out HB.out) | (with_reducible refine Kd.C_alloc ?_ _) | (with_reducible refine Kd.C_drewN ?_ _) | (with_reducible refine Kd.C_drew ?_))); (case side2 => exact HC1.out); rintro e w' ⟨rfl, ⟨nd, rfl⟩⟩; refine ⟨_, rfl, ?_⟩; obtain ⟨Ao49, co49, eo49⟩ := Kd.R_slice HO_13.out; subst eo49) | ((with_reducible refine gate_callee (f := 96) rfl ?_); refine goesL_ (some 140) rfl rfl Try.func96 (by kernel_rfl) rfl #[.slice Ao49 t338.length co49] rfl (by (try simp only [List.map_toArray, List.map_cons, List.map_nil]); first | done | rfl | (simp only [List.length_drop, List.length_take]; rfl)) ?_; (with_reducible refine (impl_IsSpread.calls kj15 _ _ t338 true true _ ?side1 ?side2 A34.out).mono ?_); (case side1 => repeat (first | exact (Kd.R_reads' HO_13.out).2.2 | (with_reducible refine Kd.C_alloc ?_ _) | (with_reducible refine Kd.C_drewN ?_ _) | (with_reducible refine Kd.C_drew ?_))); (case side2 => exact (Kd.R_reads' HO_13.out).2.1); rintro e w' ⟨rfl, ⟨nd, rfl⟩⟩; refine ⟨_, rfl, ?_⟩))
                   (try (rw [drewN_self w48]; generalize hq_ : World.drewN w48 _ = w48; have n0_ : Aside0 (Kd.R (Kd.int .i64) 3 w48 w.heap.size (fun k_ => some k_ ≠ (.slice Ao49 t338.length co49 : Value).ownBlock) v353 t351) := ⟨by rw [← hq_]; exact (by (with_reducible repeat (first | apply Kd.R_alloc | apply Kd.R_drewN | apply Kd.R_drew)); exact Kd.R_mono HO354.out (fun _ hk => hk.2))⟩; have n1_ : Aside0 (Kd.R (Kd.int .i64) 3 w48 w.heap.size (fun k_ => some k_ ≠ (v353 : Value).ownBlock) (.slice Ao49 t338.length co49) t338) := ⟨by rw [← hq_]; exact (by (with_reducible repeat (first | apply Kd.R_alloc | apply Kd.R_drewN | apply Kd.R_drew)); exact Kd.R_mono HO_13.out (fun _ hk => hk.2))⟩; have n2_ : Aside0 (Below w.heap.size w w48) := ⟨by rw [← hq_]; exact (by repeat (first | (with_reducible first | exact HB.out | apply below_alloc | apply pw_below_drewN | apply below_drew1)))⟩; clear HO354 HO_13 HB hq_; have HO354 := n0_; have HO_13 := n1_; have HB := n2_; clear n0_ n1_ n2_))
                   have n0_ := Aside0.mk (Kd.R_drew HO_13.out)
                   have n1_ := Aside0.mk (Kd.R_drew HO354.out)
                   have n2_ := Aside0.mk (below_drew1 HB.out)
                   clear HO_13
                   clear HO354
                   clear HB
                   have HO_13 := n0_
                   have HO354 := n1_
                   have HB := n2_
                   clear n0_ n1_ n2_
                   obtain ⟨Ao51, co51, eo51⟩ := Kd.R_slice HO354.out
                   (first | subst eo51 | (injection eo51 with f1_ f2_ f3_; have f4_ := f1_.symm; have f5_ := f3_.symm; clear f1_ f2_ f3_; subst f4_; subst f5_))
                   have p360 : 0 ≤ (0 : Int) := (by omega)
                   have q360 : 0 < (t338.length : Int) := of_decide_eq_true (by first | (with_reducible assumption) | assumption)
                   obtain ⟨ad360, e360, hx360_0⟩ := Kd.at_int (Kd.R_reads' HO_13.out).2.2 0 p360 q360
                   cases e360
                   have qi360 : (0 < t338.length) = True := eq_true (by omega)
                   (try rw [show ((0 : Int)).toNat = 0 from rfl] at hx360_0)
                   (try rw [Addr.add_zero'] at hx360_0)
                   replace p360 := eq_true p360
                   replace q360 := eq_true q360
                   have p361 : 0 ≤ (0 : Int) := (by omega)
                   have q361 : 0 < (l0.length : Int) := of_decide_eq_true (by first | (with_reducible assumption) | assumption)
                   obtain ⟨ad361, e361, hx361_0⟩ := Kd.at_int HR0.out 0 p361 q361
                   have hw361_0 := hx361_0
                   (try rw [show ((0 : Int)).toNat = 0 from rfl] at hw361_0)
                   (try rw [show 0 * 1 = 0 from rfl] at hw361_0)
                   (try rw [Addr.add_zero'] at hw361_0)
                   cases e361
                   have qi361 : (0 < l0.length) = True := eq_true (by omega)
                   (try rw [show ((0 : Int)).toNat = 0 from rfl] at hx361_0)
                   (try rw [Addr.add_zero'] at hx361_0)
                   (try replace hx361_0 := (HB.out.cell (World.block_lt_of_cell? w _ hx361_0)).trans hx361_0)
                   replace p361 := eq_true p361
                   replace q361 := eq_true q361
                   have p362 : 0 ≤ (0 : Int) := (by omega)
                   have q362 : 0 < (l1.length : Int) := of_decide_eq_true (by first | (with_reducible assumption) | assumption)
                   obtain ⟨ad362, e362, hx362_0⟩ := Kd.at_int HR1.out 0 p362 q362
                   have hw362_0 := hx362_0
                   (try rw [show ((0 : Int)).toNat = 0 from rfl] at hw362_0)
                   (try rw [show 0 * 1 = 0 from rfl] at hw362_0)
                   (try rw [Addr.add_zero'] at hw362_0)
                   cases e362
                   have qi362 : (0 < l1.length) = True := eq_true (by omega)
                   (try rw [show ((0 : Int)).toNat = 0 from rfl] at hx362_0)
                   (try rw [Addr.add_zero'] at hx362_0)
                   (try replace hx362_0 := (HB.out.cell (World.block_lt_of_cell? w _ hx362_0)).trans hx362_0)
                   replace p362 := eq_true p362
                   replace q362 := eq_true q362
                   refine start_ (n := 43) (S := fun w' => w'.cell? ad360 = some (.int .i64 (rd t338 0)) ∧ w'.cell? ad361 = some (.int .i64 (rd l0 0)) ∧ w'.cell? ad362 = some (.int .i64 (rd l1 0))) (ds := []) #[false, false, false, false, false, false, false, false, false, false, false, false, false, false, false, false, false, false, false, false, false, false, false, false, false, false, false, false, false, false, false, false, false, false, false, false, false, false, false, false, false, false, false] (by kernel_rfl) rfl rfl ⟨hx360_0, ((HB.out.cell (World.block_lt_of_cell? w _ hw361_0)).trans hw361_0), ((HB.out.cell (World.block_lt_of_cell? w _ hw362_0)).trans hw362_0)⟩ (fun hHeld => ?_); refine with_tabW laws_FnTablesMultipliedOfAll.tab13 laws_FnTablesMultipliedOfAll.bits13 (fun HT_ HW_ => ?_)
                   generalize w48.drew = w50 at HO_13 HO354 HB hx360_0 hx361_0 hx362_0 hHeld ⊢
                   refine pure_ (i := 0) (N := some 143) (v := ?_) (a' := ?_) #[true, false, false, false, false, false, false, false, false, false, false, false, false, false, false, false, false, false, false, false, false, false, false, false, false, false, false, false, false, false, false, false, false, false, false, false, false, false, false, false, false, false, false] rfl rfl (any_of HT_.out (by kernel_rfl)) (fun _ _ _ h => h) (Or.inl ⟨by rfl, ?_⟩) ?_ ?_
                   rotate_left
                   ·
                    intro w'
                    go_simp
                    with_reducible rfl
                   rotate_left
                   ·
                    simp only [Act.put, List.setIfInBounds_toArray, List.set_cons_zero, List.set_cons_succ, i64_w, i32_w]
                    rfl
                   refine pure_ (i := 1) (N := some 144) (v := ?_) (a' := ?_) #[true, true, false, false, false, false, false, false, false, false, false, false, false, false, false, false, false, false, false, false, false, false, false, false, false, false, false, false, false, false, false, false, false, false, false, false, false, false, false, false, false, false, false] rfl rfl (any_of HT_.out (by kernel_rfl)) (fun _ _ _ h => h) (Or.inl ⟨by rfl, ?_⟩) ?_ ?_
                   rotate_left
                   ·
                    intro w'
                    go_simp
                    with_reducible rfl
                   rotate_left
                   ·
                    simp only [Act.put, List.setIfInBounds_toArray, List.set_cons_zero, List.set_cons_succ, i64_w, i32_w]
                    rfl
                   refine pure_ (i := 2) (N := some 145) (v := ?_) (a' := ?_) #[true, true, true, false, false, false, false, false, false, false, false, false, false, false, false, false, false, false, false, false, false, false, false, false, false, false, false, false, false, false, false, false, false, false, false, false, false, false, false, false, false, false, false] rfl rfl (any_of HT_.out (by kernel_rfl)) (fun _ _ _ h => h) (Or.inl ⟨by rfl, ?_⟩) ?_ ?_
                   rotate_left
                   ·
                    intro w'
                    go_simp
                    with_reducible rfl
                   rotate_left
                   ·
                    simp only [Act.put, List.setIfInBounds_toArray, List.set_cons_zero, List.set_cons_succ, i64_w, i32_w]
                    rfl
                   refine pure_ (i := 3) (N := some 146) (v := ?_) (a' := ?_) #[true, true, true, true, false, false, false, false, false, false, false, false, false, false, false, false, false, false, false, false, false, false, false, false, false, false, false, false, false, false, false, false, false, false, false, false, false, false, false, false, false, false, false] rfl rfl (any_of HT_.out (by kernel_rfl)) (fun _ _ _ h => h) (Or.inl ⟨by rfl, ?_⟩) ?_ ?_
                   rotate_left
                   ·
                    intro w'
                    go_simp
                    with_reducible rfl
                   rotate_left
                   ·
                    simp only [Act.put, List.setIfInBounds_toArray, List.set_cons_zero, List.set_cons_succ, i64_w, i32_w]
                    rfl
                   refine pure_ (i := 4) (N := some 147) (v := ?_) (a' := ?_) #[true, true, true, true, true, false, false, false, false, false, false, false, false, false, false, false, false, false, false, false, false, false, false, false, false, false, false, false, false, false, false, false, false, false, false, false, false, false, false, false, false, false, false] rfl rfl (any_of HT_.out (by kernel_rfl)) (fun _ _ _ h => h) (Or.inl ⟨by rfl, ?_⟩) ?_ ?_
                   rotate_left
                   ·
                    intro w'
                    go_simp
                    with_reducible rfl
                   rotate_left
                   ·
                    simp only [Act.put, List.setIfInBounds_toArray, List.set_cons_zero, List.set_cons_succ, i64_w, i32_w]
                    rfl
                   refine pure_ (i := 5) (N := some 148) (v := ?_) (a' := ?_) #[true, true, true, true, true, true, false, false, false, false, false, false, false, false, false, false, false, false, false, false, false, false, false, false, false, false, false, false, false, false, false, false, false, false, false, false, false, false, false, false, false, false, false] rfl rfl (any_of HT_.out (by kernel_rfl)) (fun _ _ _ h => h) (Or.inl ⟨by rfl, ?_⟩) ?_ ?_
                   rotate_left
                   ·
                    intro w'
                    go_simp
                    with_reducible rfl
                   rotate_left
                   ·
                    simp only [Act.put, List.setIfInBounds_toArray, List.set_cons_zero, List.set_cons_succ, i64_w, i32_w]
                    rfl
                   refine pure_ (i := 6) (N := some 149) (v := ?_) (a' := ?_) #[true, true, true, true, true, true, true, false, false, false, false, false, false, false, false, false, false, false, false, false, false, false, false, false, false, false, false, false, false, false, false, false, false, false, false, false, false, false, false, false, false, false, false] rfl rfl (any_of HT_.out (by kernel_rfl)) (fun _ _ _ h => h) (Or.inl ⟨by rfl, ?_⟩) ?_ ?_
                   rotate_left
                   ·
                    intro w'
                    go_simp
                    with_reducible rfl
                   rotate_left
                   ·
                    simp only [Act.put, List.setIfInBounds_toArray, List.set_cons_zero, List.set_cons_succ, i64_w, i32_w]
                    rfl
                   refine pure_ (i := 7) (N := some 150) (v := ?_) (a' := ?_) #[true, true, true, true, true, true, true, true, false, false, false, false, false, false, false, false, false, false, false, false, false, false, false, false, false, false, false, false, false, false, false, false, false, false, false, false, false, false, false, false, false, false, false] rfl rfl (any_of HT_.out (by kernel_rfl)) (fun _ _ _ h => h) (Or.inl ⟨by rfl, ?_⟩) ?_ ?_
                   rotate_left
                   ·
                    intro w'
                    go_simp
                    with_reducible rfl
                   rotate_left
                   ·
                    simp only [Act.put, List.setIfInBounds_toArray, List.set_cons_zero, List.set_cons_succ, i64_w, i32_w]
                    rfl
                   refine pure_ (i := 8) (N := some 151) (v := ?_) (a' := ?_) #[true, true, true, true, true, true, true, true, true, false, false, false, false, false, false, false, false, false, false, false, false, false, false, false, false, false, false, false, false, false, false, false, false, false, false, false, false, false, false, false, false, false, false] rfl rfl (any_of HT_.out (by kernel_rfl)) (fun _ _ _ h => h) (Or.inl ⟨by rfl, ?_⟩) ?_ ?_
                   rotate_left
                   ·
                    intro w'
                    go_simp
                    with_reducible rfl
                   rotate_left
                   ·
                    simp only [Act.put, List.setIfInBounds_toArray, List.set_cons_zero, List.set_cons_succ, i64_w, i32_w]
                    rfl
                   refine one_ (i := 9) (N := some 152) #[true, true, true, true, true, true, true, true, true, true, false, false, false, false, false, false, false, false, false, false, false, false, false, false, false, false, false, false, false, false, false, false, false, false, false, false, false, false, false, false, false, false, false] rfl rfl (one_of HT_.out (by kernel_rfl)) (by decide) (fun K hK => ?_)
                   refine goes_ Try.func75 (by kernel_rfl) rfl #[.slice Ao51 t351.length co51, .slice (some ad360) t338.length co49] (by rfl) rfl rfl (by (try simp only [List.map_toArray, List.map_cons, List.map_nil]); first | done | rfl | (simp only [List.length_drop, List.length_take]; rfl)) ?_
                   with_reducible refine (laws_gSame.calls kj15 _ _ t351 _ _ t338 true _ ?side1 ?side2 ?side3 ?side4 A37.out).mono ?_
                   (case side1 => repeat (first | exact (Kd.R_reads' HO354.out).2.2 | (with_reducible refine Kd.C_alloc ?_ _) | (with_reducible refine Kd.C_drewN ?_ _) | (with_reducible refine Kd.C_drew ?_)))
                   (case side2 => exact (Kd.R_reads' HO354.out).2.1)
                   (case side3 => repeat (first | exact (Kd.R_reads' HO_13.out).2.2 | (with_reducible refine Kd.C_alloc ?_ _) | (with_reducible refine Kd.C_drewN ?_ _) | (with_reducible refine Kd.C_drew ?_)))
                   (case side4 => exact (Kd.R_reads' HO_13.out).2.1)
                   rintro e w' ⟨rfl, ⟨nd, rfl⟩⟩
                   refine ⟨_, rfl, ?_⟩
                   refine hK.out _ _ ⟨hHeld.1, ((HB.out.cell (World.block_lt_of_cell? w _ hw361_0)).trans hw361_0), ((HB.out.cell (World.block_lt_of_cell? w _ hw362_0)).trans hw362_0)⟩ (fun hHeld => ?_)
                   clear hK K
                   refine norm_ (a' := ?_) ?_ ?_
                   rotate_left
                   ·
                    show Act.put _ (some 152) _ = _
                    simp only [Act.put, List.setIfInBounds_toArray, List.set_cons_zero, List.set_cons_succ, i64_w, i32_w]
                    rfl
                   refine pure_ (i := 10) (N := some 153) (v := ?_) (a' := ?_) #[true, true, true, true, true, true, true, true, true, true, true, false, false, false, false, false, false, false, false, false, false, false, false, false, false, false, false, false, false, false, false, false, false, false, false, false, false, false, false, false, false, false, false] rfl rfl (any_of HT_.out (by kernel_rfl)) (fun _ _ _ h => h) (Or.inl ⟨by rfl, ?_⟩) ?_ ?_
                   rotate_left
                   ·
                    intro w'
                    go_simp
                    with_reducible rfl
                   rotate_left
                   ·
                    simp only [Act.put, List.setIfInBounds_toArray, List.set_cons_zero, List.set_cons_succ, i64_w, i32_w]
                    rfl
                   refine pure_ (i := 11) (N := some 154) (v := ?_) (a' := ?_) #[true, true, true, true, true, true, true, true, true, true, true, true, false, false, false, false, false, false, false, false, false, false, false, false, false, false, false, false, false, false, false, false, false, false, false, false, false, false, false, false, false, false, false] rfl rfl (any_of HT_.out (by kernel_rfl)) (fun _ _ _ h => h) (Or.inl ⟨by rfl, ?_⟩) ?_ ?_
                   rotate_left
                   ·
                    intro w'
                    go_simp
                    with_reducible rfl
                   rotate_left
                   ·
                    simp only [Act.put, List.setIfInBounds_toArray, List.set_cons_zero, List.set_cons_succ, i64_w, i32_w]
                    rfl
                   refine pure_ (i := 12) (N := some 155) (v := ?_) (a' := ?_) #[true, true, true, true, true, true, true, true, true, true, true, true, true, false, false, false, false, false, false, false, false, false, false, false, false, false, false, false, false, false, false, false, false, false, false, false, false, false, false, false, false, false, false] rfl rfl (any_of HT_.out (by kernel_rfl)) (fun _ _ _ h => h) (Or.inl ⟨by rfl, ?_⟩) ?_ ?_
                   rotate_left
                   ·
                    intro w'
                    go_simp
                    with_reducible rfl
                   rotate_left
                   ·
                    simp only [Act.put, List.setIfInBounds_toArray, List.set_cons_zero, List.set_cons_succ, i64_w, i32_w]
                    rfl
                   refine pure_ (i := 13) (N := some 156) (v := ?_) (a' := ?_) #[true, true, true, true, true, true, true, true, true, true, true, true, true, true, false, false, false, false, false, false, false, false, false, false, false, false, false, false, false, false, false, false, false, false, false, false, false, false, false, false, false, false, false] rfl rfl (any_of HT_.out (by kernel_rfl)) (fun _ _ _ h => h) (Or.inl ⟨by rfl, ?_⟩) ?_ ?_
                   rotate_left
                   ·
                    intro w'
                    go_simp
                    with_reducible rfl
                   rotate_left
                   ·
                    simp only [Act.put, List.setIfInBounds_toArray, List.set_cons_zero, List.set_cons_succ, i64_w, i32_w]
                    rfl
                   refine pure_ (i := 14) (N := some 157) (v := ?_) (a' := ?_) #[true, true, true, true, true, true, true, true, true, true, true, true, true, true, true, false, false, false, false, false, false, false, false, false, false, false, false, false, false, false, false, false, false, false, false, false, false, false, false, false, false, false, false] rfl rfl (any_of HT_.out (by kernel_rfl)) (fun _ _ _ h => h) (Or.inl ⟨by rfl, ?_⟩) ?_ ?_
                   rotate_left
                   ·
                    intro w'
                    go_simp
                    with_reducible rfl
                   rotate_left
                   ·
                    simp only [Act.put, List.setIfInBounds_toArray, List.set_cons_zero, List.set_cons_succ, i64_w, i32_w]
                    rfl
                   refine pure_ (i := 15) (N := some 158) (v := ?_) (a' := ?_) #[true, true, true, true, true, true, true, true, true, true, true, true, true, true, true, true, false, false, false, false, false, false, false, false, false, false, false, false, false, false, false, false, false, false, false, false, false, false, false, false, false, false, false] rfl rfl (any_of HT_.out (by kernel_rfl)) (fun _ _ _ h => h) (Or.inl ⟨by rfl, ?_⟩) ?_ ?_
                   rotate_left
                   ·
                    intro w'
                    go_simp
                    with_reducible rfl
                   rotate_left
                   ·
                    simp only [Act.put, List.setIfInBounds_toArray, List.set_cons_zero, List.set_cons_succ, i64_w, i32_w]
                    rfl
                   refine pure_ (i := 16) (N := some 159) (v := ?_) (a' := ?_) #[true, true, true, true, true, true, true, true, true, true, true, true, true, true, true, true, true, false, false, false, false, false, false, false, false, false, false, false, false, false, false, false, false, false, false, false, false, false, false, false, false, false, false] rfl rfl (any_of HT_.out (by kernel_rfl)) (fun _ _ _ h => h) (Or.inl ⟨by rfl, ?_⟩) ?_ ?_
                   rotate_left
                   ·
                    intro w'
                    go_simp
                    with_reducible rfl
                   rotate_left
                   ·
                    simp only [Act.put, List.setIfInBounds_toArray, List.set_cons_zero, List.set_cons_succ, i64_w, i32_w]
                    rfl
                   refine pure_ (i := 17) (N := some 160) (v := ?_) (a' := ?_) #[true, true, true, true, true, true, true, true, true, true, true, true, true, true, true, true, true, true, false, false, false, false, false, false, false, false, false, false, false, false, false, false, false, false, false, false, false, false, false, false, false, false, false] rfl rfl (any_of HT_.out (by kernel_rfl)) (fun _ _ _ h => h) (Or.inl ⟨by rfl, ?_⟩) ?_ ?_
                   rotate_left
                   ·
                    intro w'
                    go_simp
                    with_reducible rfl
                   rotate_left
                   ·
                    simp only [Act.put, List.setIfInBounds_toArray, List.set_cons_zero, List.set_cons_succ, i64_w, i32_w]
                    rfl
                   refine pure_ (i := 18) (N := some 161) (v := ?_) (a' := ?_) #[true, true, true, true, true, true, true, true, true, true, true, true, true, true, true, true, true, true, true, false, false, false, false, false, false, false, false, false, false, false, false, false, false, false, false, false, false, false, false, false, false, false, false] rfl rfl (any_of HT_.out (by kernel_rfl)) (fun _ _ _ h => h) (Or.inl ⟨by rfl, ?_⟩) ?_ ?_
                   rotate_left
                   ·
                    intro w'
                    go_simp
                    with_reducible rfl
                   rotate_left
                   ·
                    simp only [Act.put, List.setIfInBounds_toArray, List.set_cons_zero, List.set_cons_succ, i64_w, i32_w]
                    rfl
                   refine pure_ (i := 19) (N := some 162) (v := ?_) (a' := ?_) #[true, true, true, true, true, true, true, true, true, true, true, true, true, true, true, true, true, true, true, true, false, false, false, false, false, false, false, false, false, false, false, false, false, false, false, false, false, false, false, false, false, false, false] rfl rfl (any_of HT_.out (by kernel_rfl)) (fun _ _ _ h => h) (Or.inl ⟨by rfl, ?_⟩) ?_ ?_
                   rotate_left
                   ·
                    intro w'
                    go_simp
                    with_reducible rfl
                   rotate_left
                   ·
                    simp only [Act.put, List.setIfInBounds_toArray, List.set_cons_zero, List.set_cons_succ, i64_w, i32_w]
                    rfl
                   refine pure_ (i := 20) (N := some 163) (v := ?_) (a' := ?_) #[true, true, true, true, true, true, true, true, true, true, true, true, true, true, true, true, true, true, true, true, true, false, false, false, false, false, false, false, false, false, false, false, false, false, false, false, false, false, false, false, false, false, false] rfl rfl (any_of HT_.out (by kernel_rfl)) (fun _ _ _ h => h) (Or.inl ⟨by rfl, ?_⟩) ?_ ?_
                   rotate_left
                   ·
                    intro w'
                    go_simp
                    with_reducible rfl
                   rotate_left
                   ·
                    simp only [Act.put, List.setIfInBounds_toArray, List.set_cons_zero, List.set_cons_succ, i64_w, i32_w]
                    rfl
                   refine pure_ (i := 21) (N := some 164) (v := ?_) (a' := ?_) #[true, true, true, true, true, true, true, true, true, true, true, true, true, true, true, true, true, true, true, true, true, true, false, false, false, false, false, false, false, false, false, false, false, false, false, false, false, false, false, false, false, false, false] rfl rfl (any_of HT_.out (by kernel_rfl)) (fun _ _ _ h => h) (Or.inl ⟨by rfl, ?_⟩) ?_ ?_
                   rotate_left
                   ·
                    intro w'
                    go_simp
                    with_reducible rfl
                   rotate_left
                   ·
                    simp only [Act.put, List.setIfInBounds_toArray, List.set_cons_zero, List.set_cons_succ, i64_w, i32_w]
                    rfl
                   refine pure_ (i := 22) (N := some 165) (v := ?_) (a' := ?_) #[true, true, true, true, true, true, true, true, true, true, true, true, true, true, true, true, true, true, true, true, true, true, true, false, false, false, false, false, false, false, false, false, false, false, false, false, false, false, false, false, false, false, false] rfl rfl (any_of HT_.out (by kernel_rfl)) (fun _ _ _ h => h) (Or.inl ⟨by rfl, ?_⟩) ?_ ?_
                   rotate_left
                   ·
                    intro w'
                    go_simp
                    with_reducible rfl
                   rotate_left
                   ·
                    simp only [Act.put, List.setIfInBounds_toArray, List.set_cons_zero, List.set_cons_succ, i64_w, i32_w]
                    rfl
                   refine pure_ (i := 23) (N := some 166) (v := ?_) (a' := ?_) #[true, true, true, true, true, true, true, true, true, true, true, true, true, true, true, true, true, true, true, true, true, true, true, true, false, false, false, false, false, false, false, false, false, false, false, false, false, false, false, false, false, false, false] rfl rfl (any_of HT_.out (by kernel_rfl)) (fun _ _ _ h => h) (Or.inl ⟨by rfl, ?_⟩) ?_ ?_
                   rotate_left
                   ·
                    intro w'
                    go_simp
                    with_reducible rfl
                   rotate_left
                   ·
                    simp only [Act.put, List.setIfInBounds_toArray, List.set_cons_zero, List.set_cons_succ, i64_w, i32_w]
                    rfl
                   refine pure_ (i := 24) (N := some 167) (v := ?_) (a' := ?_) #[true, true, true, true, true, true, true, true, true, true, true, true, true, true, true, true, true, true, true, true, true, true, true, true, true, false, false, false, false, false, false, false, false, false, false, false, false, false, false, false, false, false, false] rfl rfl (any_of HT_.out (by kernel_rfl)) (fun _ _ _ h => h) (Or.inl ⟨by rfl, ?_⟩) ?_ ?_
                   rotate_left
                   ·
                    intro w'
                    go_simp
                    with_reducible rfl
                   rotate_left
                   ·
                    simp only [Act.put, List.setIfInBounds_toArray, List.set_cons_zero, List.set_cons_succ, i64_w, i32_w]
                    rfl
                   refine pure_ (i := 25) (N := some 168) (v := ?_) (a' := ?_) #[true, true, true, true, true, true, true, true, true, true, true, true, true, true, true, true, true, true, true, true, true, true, true, true, true, true, false, false, false, false, false, false, false, false, false, false, false, false, false, false, false, false, false] rfl rfl (any_of HT_.out (by kernel_rfl)) (fun _ _ _ h => h) (Or.inl ⟨by rfl, ?_⟩) ?_ ?_
                   rotate_left
                   ·
                    intro w'
                    go_simp
                    with_reducible rfl
                   rotate_left
                   ·
                    simp only [Act.put, List.setIfInBounds_toArray, List.set_cons_zero, List.set_cons_succ, i64_w, i32_w]
                    rfl
                   refine pure_ (i := 26) (N := some 169) (v := ?_) (a' := ?_) #[true, true, true, true, true, true, true, true, true, true, true, true, true, true, true, true, true, true, true, true, true, true, true, true, true, true, true, false, false, false, false, false, false, false, false, false, false, false, false, false, false, false, false] rfl rfl (any_of HT_.out (by kernel_rfl)) (fun _ _ _ h => h) (Or.inl ⟨by rfl, ?_⟩) ?_ ?_
                   rotate_left
                   ·
                    intro w'
                    go_simp
                    with_reducible rfl
                   rotate_left
                   ·
                    simp only [Act.put, List.setIfInBounds_toArray, List.set_cons_zero, List.set_cons_succ, i64_w, i32_w]
                    rfl
                   refine pure_ (i := 27) (N := some 170) (v := ?_) (a' := ?_) #[true, true, true, true, true, true, true, true, true, true, true, true, true, true, true, true, true, true, true, true, true, true, true, true, true, true, true, true, false, false, false, false, false, false, false, false, false, false, false, false, false, false, false] rfl rfl (any_of HT_.out (by kernel_rfl)) (fun _ _ _ h => h) (Or.inl ⟨by rfl, ?_⟩) ?_ ?_
                   rotate_left
                   ·
                    intro w'
                    go_simp
                    with_reducible rfl
                   rotate_left
                   ·
                    simp only [Act.put, List.setIfInBounds_toArray, List.set_cons_zero, List.set_cons_succ, i64_w, i32_w]
                    rfl
                   refine pure_ (i := 28) (N := some 171) (v := ?_) (a' := ?_) #[true, true, true, true, true, true, true, true, true, true, true, true, true, true, true, true, true, true, true, true, true, true, true, true, true, true, true, true, true, false, false, false, false, false, false, false, false, false, false, false, false, false, false] rfl rfl (any_of HT_.out (by kernel_rfl)) (fun _ _ _ h => h) (Or.inl ⟨by rfl, ?_⟩) ?_ ?_
                   rotate_left
                   ·
                    intro w'
                    go_simp
                    with_reducible rfl
                   rotate_left
                   ·
                    simp only [Act.put, List.setIfInBounds_toArray, List.set_cons_zero, List.set_cons_succ, i64_w, i32_w]
                    rfl
                   refine pure_ (i := 29) (N := some 172) (v := ?_) (a' := ?_) #[true, true, true, true, true, true, true, true, true, true, true, true, true, true, true, true, true, true, true, true, true, true, true, true, true, true, true, true, true, true, false, false, false, false, false, false, false, false, false, false, false, false, false] rfl rfl (any_of HT_.out (by kernel_rfl)) (fun _ _ _ h => h) (Or.inl ⟨by rfl, ?_⟩) ?_ ?_
                   rotate_left
                   ·
                    intro w'
                    go_simp
                    with_reducible rfl
                   rotate_left
                   ·
                    simp only [Act.put, List.setIfInBounds_toArray, List.set_cons_zero, List.set_cons_succ, i64_w, i32_w]
                    rfl
                   refine pure_ (i := 30) (N := some 173) (v := ?_) (a' := ?_) #[true, true, true, true, true, true, true, true, true, true, true, true, true, true, true, true, true, true, true, true, true, true, true, true, true, true, true, true, true, true, true, false, false, false, false, false, false, false, false, false, false, false, false] rfl rfl (any_of HT_.out (by kernel_rfl)) (fun _ _ _ h => h) (Or.inl ⟨by rfl, ?_⟩) ?_ ?_
                   rotate_left
                   ·
                    intro w'
                    go_simp
                    with_reducible rfl
                   rotate_left
                   ·
                    simp only [Act.put, List.setIfInBounds_toArray, List.set_cons_zero, List.set_cons_succ, i64_w, i32_w]
                    rfl
                   refine pure_ (i := 31) (N := some 174) (v := ?_) (a' := ?_) #[true, true, true, true, true, true, true, true, true, true, true, true, true, true, true, true, true, true, true, true, true, true, true, true, true, true, true, true, true, true, true, true, false, false, false, false, false, false, false, false, false, false, false] rfl rfl (any_of HT_.out (by kernel_rfl)) (fun _ _ _ h => h) (Or.inl ⟨by rfl, ?_⟩) ?_ ?_
                   rotate_left
                   ·
                    intro w'
                    go_simp
                    with_reducible rfl
                   rotate_left
                   ·
                    simp only [Act.put, List.setIfInBounds_toArray, List.set_cons_zero, List.set_cons_succ, i64_w, i32_w]
                    rfl
                   refine pure_ (i := 32) (N := some 175) (v := ?_) (a' := ?_) #[true, true, true, true, true, true, true, true, true, true, true, true, true, true, true, true, true, true, true, true, true, true, true, true, true, true, true, true, true, true, true, true, true, false, false, false, false, false, false, false, false, false, false] rfl rfl (any_of HT_.out (by kernel_rfl)) (fun _ _ _ h => h) (Or.inl ⟨by rfl, ?_⟩) ?_ ?_
                   rotate_left
                   ·
                    intro w'
                    go_simp
                    with_reducible rfl
                   rotate_left
                   ·
                    simp only [Act.put, List.setIfInBounds_toArray, List.set_cons_zero, List.set_cons_succ, i64_w, i32_w]
                    rfl
                   refine pure_ (i := 34) (N := some 177) (v := ?_) (a' := ?_) #[true, true, true, true, true, true, true, true, true, true, true, true, true, true, true, true, true, true, true, true, true, true, true, true, true, true, true, true, true, true, true, true, true, false, true, false, false, false, false, false, false, false, false] rfl rfl (any_of HT_.out (by kernel_rfl)) (fun _ _ _ h => h) (Or.inl ⟨by rfl, ?_⟩) ?_ ?_
                   rotate_left
                   ·
                    intro w'
                    go_simp
                    with_reducible rfl
                   rotate_left
                   ·
                    simp only [Act.put, List.setIfInBounds_toArray, List.set_cons_zero, List.set_cons_succ, i64_w, i32_w]
                    rfl
                   refine pure_ (i := 35) (N := some 178) (v := ?_) (a' := ?_) #[true, true, true, true, true, true, true, true, true, true, true, true, true, true, true, true, true, true, true, true, true, true, true, true, true, true, true, true, true, true, true, true, true, false, true, true, false, false, false, false, false, false, false] rfl rfl (any_of HT_.out (by kernel_rfl)) (fun _ _ _ h => h) (Or.inl ⟨by rfl, ?_⟩) ?_ ?_
                   rotate_left
                   ·
                    intro w'
                    go_simp
                    with_reducible rfl
                   rotate_left
                   ·
                    simp only [Act.put, List.setIfInBounds_toArray, List.set_cons_zero, List.set_cons_succ, i64_w, i32_w]
                    rfl
                   refine pure_ (i := 37) (N := some 180) (v := ?_) (a' := ?_) #[true, true, true, true, true, true, true, true, true, true, true, true, true, true, true, true, true, true, true, true, true, true, true, true, true, true, true, true, true, true, true, true, true, false, true, true, false, true, false, false, false, false, false] rfl rfl (any_of HT_.out (by kernel_rfl)) (fun _ _ _ h => h) (Or.inl ⟨by rfl, ?_⟩) ?_ ?_
                   rotate_left
                   ·
                    intro w'
                    go_simp
                    with_reducible rfl
                   rotate_left
                   ·
                    simp only [Act.put, List.setIfInBounds_toArray, List.set_cons_zero, List.set_cons_succ, i64_w, i32_w]
                    rfl
                   refine pure_ (i := 38) (N := some 181) (v := ?_) (a' := ?_) #[true, true, true, true, true, true, true, true, true, true, true, true, true, true, true, true, true, true, true, true, true, true, true, true, true, true, true, true, true, true, true, true, true, false, true, true, false, true, true, false, false, false, false] rfl rfl (any_of HT_.out (by kernel_rfl)) (fun _ _ _ h => h) (Or.inl ⟨by rfl, ?_⟩) ?_ ?_
                   rotate_left
                   ·
                    intro w'
                    go_simp
                    with_reducible rfl
                   rotate_left
                   ·
                    simp only [Act.put, List.setIfInBounds_toArray, List.set_cons_zero, List.set_cons_succ, i64_w, i32_w]
                    rfl
                   refine take_ (i := 33) (N := some 176) (v := ?_) (a' := ?_) #[true, true, true, true, true, true, true, true, true, true, true, true, true, true, true, true, true, true, true, true, true, true, true, true, true, true, true, true, true, true, true, true, true, true, true, true, false, true, true, false, false, false, false] rfl rfl (take_ofW HT_.out HW_.out (by kernel_rfl)) (fun _ _ _ h => h) (Or.inl ⟨by rfl, ?_⟩) hHeld ?_ ?_
                   rotate_left
                   ·
                    rintro w' ⟨s0, s1, s2⟩
                    go_simp
                    with_reducible rfl
                   rotate_left
                   ·
                    simp only [Act.put, List.setIfInBounds_toArray, List.set_cons_zero, List.set_cons_succ, i64_w, i32_w]
                    rfl
                   refine take_ (i := 36) (N := some 179) (v := ?_) (a' := ?_) #[true, true, true, true, true, true, true, true, true, true, true, true, true, true, true, true, true, true, true, true, true, true, true, true, true, true, true, true, true, true, true, true, true, true, true, true, true, true, true, false, false, false, false] rfl rfl (take_ofW HT_.out HW_.out (by kernel_rfl)) (fun _ _ _ h => h) (Or.inl ⟨by rfl, ?_⟩) hHeld ?_ ?_
                   rotate_left
                   ·
                    rintro w' ⟨s0, s1, s2⟩
                    go_simp
                    with_reducible rfl
                   rotate_left
                   ·
                    simp only [Act.put, List.setIfInBounds_toArray, List.set_cons_zero, List.set_cons_succ, i64_w, i32_w]
                    rfl
                   refine take_ (i := 39) (N := some 182) (v := ?_) (a' := ?_) #[true, true, true, true, true, true, true, true, true, true, true, true, true, true, true, true, true, true, true, true, true, true, true, true, true, true, true, true, true, true, true, true, true, true, true, true, true, true, true, true, false, false, false] rfl rfl (take_ofW HT_.out HW_.out (by kernel_rfl)) (fun _ _ _ h => h) (Or.inl ⟨by rfl, ?_⟩) hHeld ?_ ?_
                   rotate_left
                   ·
                    rintro w' ⟨s0, s1, s2⟩
                    go_simp
                    with_reducible rfl
                   rotate_left
                   ·
                    simp only [Act.put, List.setIfInBounds_toArray, List.set_cons_zero, List.set_cons_succ, i64_w, i32_w]
                    rfl
                   refine pure_ (i := 40) (N := some 183) (v := ?_) (a' := ?_) #[true, true, true, true, true, true, true, true, true, true, true, true, true, true, true, true, true, true, true, true, true, true, true, true, true, true, true, true, true, true, true, true, true, true, true, true, true, true, true, true, true, false, false] rfl rfl (any_of HT_.out (by kernel_rfl)) (fun _ _ _ h => h) (Or.inl ⟨by rfl, ?_⟩) ?_ ?_
                   rotate_left
                   ·
                    intro w'
                    go_simp
                    with_reducible rfl
                   rotate_left
                   ·
                    simp only [Act.put, List.setIfInBounds_toArray, List.set_cons_zero, List.set_cons_succ, i64_w, i32_w]
                    rfl
                   refine pure_ (i := 41) (N := some 184) (v := ?_) (a' := ?_) #[true, true, true, true, true, true, true, true, true, true, true, true, true, true, true, true, true, true, true, true, true, true, true, true, true, true, true, true, true, true, true, true, true, true, true, true, true, true, true, true, true, true, false] rfl rfl (any_of HT_.out (by kernel_rfl)) (fun _ _ _ h => h) (Or.inl ⟨by rfl, ?_⟩) ?_ ?_
                   rotate_left
                   ·
                    intro w'
                    go_simp
                    with_reducible rfl
                   rotate_left
                   ·
                    simp only [Act.put, List.setIfInBounds_toArray, List.set_cons_zero, List.set_cons_succ, i64_w, i32_w]
                    rfl
                   refine pure_ (i := 42) (N := some 185) (v := ?_) (a' := ?_) #[true, true, true, true, true, true, true, true, true, true, true, true, true, true, true, true, true, true, true, true, true, true, true, true, true, true, true, true, true, true, true, true, true, true, true, true, true, true, true, true, true, true, true] rfl rfl (any_of HT_.out (by kernel_rfl)) (fun _ _ _ h => h) (Or.inl ⟨by rfl, ?_⟩) ?_ ?_
                   rotate_left
                   ·
                    intro w'
                    go_simp
                    with_reducible rfl
                   rotate_left
                   ·
                    simp only [Act.put, List.setIfInBounds_toArray, List.set_cons_zero, List.set_cons_succ, i64_w, i32_w]
                    rfl
                   refine done_ (done_of HT_.out (by kernel_rfl)) ?_
                   try go_wp2
                   refine cutMeet hJ_ ?_ (by kernel_rfl)
                   exact ⟨_, H', ⟨by have := HJ6.out; have := HJ15.out; first | omega | exact Nat.le_refl _⟩, ⟨by repeat (first | (with_reducible first | exact HB.out | apply below_alloc | apply pw_below_drewN | apply below_drew1))⟩⟩
                  rw [if_neg c47] at H
                  have c47b0 : ((rd t338 0) == (wrap64 ((rd l0 0) * (rd l1 0)))) = false := beq_eq_false_iff_ne.mpr c47
                  have c47b1 : ((rd t338 0) != (wrap64 ((rd l0 0) * (rd l1 0)))) = true := bne_iff_ne.mpr c47
                  exact absurd (Option.some.inj (H.trans (congrArg some HRT.out))) Bool.false_ne_true
                 rw [if_neg c46] at H
                 exact absurd H (by simp)
                rw [if_neg c45] at H
                exact absurd H (by simp)
               rw [if_neg c44] at H
               exact absurd H (by simp)
              replace c43 := Bool.eq_false_iff.mpr c43
              subst c43
              have H1 : (some false) = some r := by rw [if_neg (show ¬ (false = true) by decide)] at H; exact H
              clear H
              have H := H1
              clear H1
              exact absurd (Option.some.inj (H.trans (congrArg some HRT.out))) Bool.false_ne_true
             replace c42 := Bool.eq_false_iff.mpr c42
             subst c42
             have H1 : (if 0 < (t338.length : Int) then (if 0 < (l0.length : Int) then (if 0 < (l1.length : Int) then (if (rd t338 0) = (wrap64 ((rd l0 0) * (rd l1 0))) then (j2 kj15 l2 a3 a4 l5) else (some false)) else (none)) else (none)) else (none)) = some r := by rw [if_neg (show ¬ (false = true) by decide)] at H; exact H
             clear H
             have H := H1
             clear H1
             by_cases c60 : 0 < (t338.length : Int)
             ·
              rw [if_pos c60] at H
              have c60b0 : decide (0 < (t338.length : Int)) = true := decide_eq_true c60
              have c60b1 : decide (0 < t338.length) = true := decide_eq_true (by omega)
              clear c60
              by_cases c61 : 0 < (l0.length : Int)
              ·
               rw [if_pos c61] at H
               have c61b0 : decide (0 < (l0.length : Int)) = true := decide_eq_true c61
               have c61b1 : decide (0 < l0.length) = true := decide_eq_true (by omega)
               clear c61
               by_cases c62 : 0 < (l1.length : Int)
               ·
                rw [if_pos c62] at H
                have c62b0 : decide (0 < (l1.length : Int)) = true := decide_eq_true c62
                have c62b1 : decide (0 < l1.length) = true := decide_eq_true (by omega)
                clear c62
                by_cases c63 : (rd t338 0) = (wrap64 ((rd l0 0) * (rd l1 0)))
                ·
                 rw [if_pos c63] at H
                 have c63b0 : ((rd t338 0) == (wrap64 ((rd l0 0) * (rd l1 0)))) = true := beq_iff_eq.mpr c63
                 have c63b1 : ((rd t338 0) != (wrap64 ((rd l0 0) * (rd l1 0)))) = false := bne_eq_false_iff_eq.mpr c63
                 clear c63
                 have H' := Aside0.mk H
                 clear H
                 try go_wp2_with (first | ((with_reducible refine gate_callee (f := 94) rfl ?_); refine goesL_ (some 130) rfl rfl Try.func94 (by kernel_rfl) rfl #[.slice A1 l1.length c1, .slice A0 l0.length c0] rfl (by (try simp only [List.map_toArray, List.map_cons, List.map_nil]); first | done | rfl | (simp only [List.length_drop, List.length_take]; rfl)) ?_; (with_reducible refine (impl_OverDivisors.calls kj15 _ _ l1 _ _ l0 t351 true _ ?side1 ?side2 ?side3 ?side4 A32.out).mono ?_); (case side1 => repeat (first | exact (Kd.C_below HR1.out HB.out) | (with_reducible refine Kd.C_alloc ?_ _) | (with_reducible refine Kd.C_drewN ?_ _) | (with_reducible refine Kd.C_drew ?_))); (case side2 => exact HC1.out); (case side3 => repeat (first | exact (Kd.C_below HR0.out HB.out) | (with_reducible refine Kd.C_alloc ?_ _) | (with_reducible refine Kd.C_drewN ?_ _) | (with_reducible refine Kd.C_drew ?_))); (case side4 => exact HC0.out); rintro e w64 ⟨v353, rfl, ho0, hb⟩; refine ⟨_, rfl, ?_⟩; have n0_ := Aside0.mk (Kd.R_elder' (by (with_reducible repeat (first | apply Kd.R_alloc | apply Kd.R_drewN | apply Kd.R_drew)); exact HO_13.out) (Kd.R_base ho0) hb); have n1_ := Aside0.mk (Kd.R_lower (Kd.R_new' ho0 (Kd.R_lt (by (with_reducible repeat (first | apply Kd.R_alloc | apply Kd.R_drewN | apply Kd.R_drew)); exact HO_13.out))) (below_size (by repeat (first | (with_reducible first | exact HB.out | apply below_alloc | apply pw_below_drewN | apply below_drew1))))); have n2_ := Aside0.mk (below_step (by repeat (first | (with_reducible first | exact HB.out | apply below_alloc | apply pw_below_drewN | apply below_drew1))) hb); clear HO_13; clear HB; have HO_13 := n0_; have HO354 := n1_; have HB := n2_; clear n0_ n1_ n2_; (try clear hb); (try clear ho0)) | ((with_reducible refine gate_callee (f := 96) rfl ?_); refine goesL_ (some 135) rfl rfl Try.func96 (by kernel_rfl) rfl #[.slice A1 l1.length c1] rfl (by (try simp only [List.map_toArray, List.map_cons, List.map_nil]); first | done | rfl | (simp only [List.length_drop, List.length_take]; rfl)) ?_; (with_reducible refine (impl_IsSpread.calls kj15 _ _ l1 false true _ ?side1 ?side2 A33.out).mono ?_); (case side1 => repeat (first | exact (Kd.C_below HR1.out HB.out) | (with_reducible refine Kd.C_alloc ?_ _) | (with_reducible refine Kd.C_drewN ?_ _) | (with_reducible refine Kd.C_drew ?_))); (case side2 => exact HC1.out); rintro e w' ⟨rfl, ⟨nd, rfl⟩⟩; refine ⟨_, rfl, ?_⟩; obtain ⟨Ao65, co65, eo65⟩ := Kd.R_slice HO_13.out; subst eo65) | ((with_reducible refine gate_callee (f := 96) rfl ?_); refine goesL_ (some 140) rfl rfl Try.func96 (by kernel_rfl) rfl #[.slice Ao65 t338.length co65] rfl (by (try simp only [List.map_toArray, List.map_cons, List.map_nil]); first | done | rfl | (simp only [List.length_drop, List.length_take]; rfl)) ?_; (with_reducible refine (impl_IsSpread.calls kj15 _ _ t338 t357 true _ ?side1 ?side2 A34.out).mono ?_); (case side1 => repeat (first | exact (Kd.R_reads' HO_13.out).2.2 | (with_reducible refine Kd.C_alloc ?_ _) | (with_reducible refine Kd.C_drewN ?_ _) | (with_reducible refine Kd.C_drew ?_))); (case side2 => exact (Kd.R_reads' HO_13.out).2.1); rintro e w' ⟨rfl, ⟨nd, rfl⟩⟩; refine ⟨_, rfl, ?_⟩))
                 (try (rw [drewN_self w64]; generalize hq_ : World.drewN w64 _ = w64; have n0_ : Aside0 (Kd.R (Kd.int .i64) 3 w64 w.heap.size (fun k_ => some k_ ≠ (.slice Ao65 t338.length co65 : Value).ownBlock) v353 t351) := ⟨by rw [← hq_]; exact (by (with_reducible repeat (first | apply Kd.R_alloc | apply Kd.R_drewN | apply Kd.R_drew)); exact Kd.R_mono HO354.out (fun _ hk => hk.2))⟩; have n1_ : Aside0 (Kd.R (Kd.int .i64) 3 w64 w.heap.size (fun k_ => some k_ ≠ (v353 : Value).ownBlock) (.slice Ao65 t338.length co65) t338) := ⟨by rw [← hq_]; exact (by (with_reducible repeat (first | apply Kd.R_alloc | apply Kd.R_drewN | apply Kd.R_drew)); exact Kd.R_mono HO_13.out (fun _ hk => hk.2))⟩; have n2_ : Aside0 (Below w.heap.size w w64) := ⟨by rw [← hq_]; exact (by repeat (first | (with_reducible first | exact HB.out | apply below_alloc | apply pw_below_drewN | apply below_drew1)))⟩; clear HO354 HO_13 HB hq_; have HO354 := n0_; have HO_13 := n1_; have HB := n2_; clear n0_ n1_ n2_))
                 have n0_ := Aside0.mk (Kd.R_drew HO_13.out)
                 have n1_ := Aside0.mk (Kd.R_drew HO354.out)
                 have n2_ := Aside0.mk (below_drew1 HB.out)
                 clear HO_13
                 clear HO354
                 clear HB
                 have HO_13 := n0_
                 have HO354 := n1_
                 have HB := n2_
                 clear n0_ n1_ n2_
                 obtain ⟨Ao67, co67, eo67⟩ := Kd.R_slice HO354.out
                 (first | subst eo67 | (injection eo67 with f1_ f2_ f3_; have f4_ := f1_.symm; have f5_ := f3_.symm; clear f1_ f2_ f3_; subst f4_; subst f5_))
                 have p363 : 0 ≤ (0 : Int) := (by omega)
                 have q363 : 0 < (t338.length : Int) := of_decide_eq_true (by first | (with_reducible assumption) | assumption)
                 obtain ⟨ad363, e363, hx363_0⟩ := Kd.at_int (Kd.R_reads' HO_13.out).2.2 0 p363 q363
                 cases e363
                 have qi363 : (0 < t338.length) = True := eq_true (by omega)
                 (try rw [show ((0 : Int)).toNat = 0 from rfl] at hx363_0)
                 (try rw [Addr.add_zero'] at hx363_0)
                 replace p363 := eq_true p363
                 replace q363 := eq_true q363
                 have p364 : 0 ≤ (0 : Int) := (by omega)
                 have q364 : 0 < (l0.length : Int) := of_decide_eq_true (by first | (with_reducible assumption) | assumption)
                 obtain ⟨ad364, e364, hx364_0⟩ := Kd.at_int HR0.out 0 p364 q364
                 have hw364_0 := hx364_0
                 (try rw [show ((0 : Int)).toNat = 0 from rfl] at hw364_0)
                 (try rw [show 0 * 1 = 0 from rfl] at hw364_0)
                 (try rw [Addr.add_zero'] at hw364_0)
                 cases e364
                 have qi364 : (0 < l0.length) = True := eq_true (by omega)
                 (try rw [show ((0 : Int)).toNat = 0 from rfl] at hx364_0)
                 (try rw [Addr.add_zero'] at hx364_0)
                 (try replace hx364_0 := (HB.out.cell (World.block_lt_of_cell? w _ hx364_0)).trans hx364_0)
                 replace p364 := eq_true p364
                 replace q364 := eq_true q364
                 have p365 : 0 ≤ (0 : Int) := (by omega)
                 have q365 : 0 < (l1.length : Int) := of_decide_eq_true (by first | (with_reducible assumption) | assumption)
                 obtain ⟨ad365, e365, hx365_0⟩ := Kd.at_int HR1.out 0 p365 q365
                 have hw365_0 := hx365_0
                 (try rw [show ((0 : Int)).toNat = 0 from rfl] at hw365_0)
                 (try rw [show 0 * 1 = 0 from rfl] at hw365_0)
                 (try rw [Addr.add_zero'] at hw365_0)
                 cases e365
                 have qi365 : (0 < l1.length) = True := eq_true (by omega)
                 (try rw [show ((0 : Int)).toNat = 0 from rfl] at hx365_0)
                 (try rw [Addr.add_zero'] at hx365_0)
                 (try replace hx365_0 := (HB.out.cell (World.block_lt_of_cell? w _ hx365_0)).trans hx365_0)
                 replace p365 := eq_true p365
                 replace q365 := eq_true q365
                 refine start_ (n := 43) (S := fun w' => w'.cell? ad363 = some (.int .i64 (rd t338 0)) ∧ w'.cell? ad364 = some (.int .i64 (rd l0 0)) ∧ w'.cell? ad365 = some (.int .i64 (rd l1 0))) (ds := []) #[false, false, false, false, false, false, false, false, false, false, false, false, false, false, false, false, false, false, false, false, false, false, false, false, false, false, false, false, false, false, false, false, false, false, false, false, false, false, false, false, false, false, false] (by kernel_rfl) rfl rfl ⟨hx363_0, ((HB.out.cell (World.block_lt_of_cell? w _ hw364_0)).trans hw364_0), ((HB.out.cell (World.block_lt_of_cell? w _ hw365_0)).trans hw365_0)⟩ (fun hHeld => ?_); refine with_tabW laws_FnTablesMultipliedOfAll.tab13 laws_FnTablesMultipliedOfAll.bits13 (fun HT_ HW_ => ?_)
                 generalize w64.drew = w66 at HO_13 HO354 HB hx363_0 hx364_0 hx365_0 hHeld ⊢
                 refine pure_ (i := 0) (N := some 143) (v := ?_) (a' := ?_) #[true, false, false, false, false, false, false, false, false, false, false, false, false, false, false, false, false, false, false, false, false, false, false, false, false, false, false, false, false, false, false, false, false, false, false, false, false, false, false, false, false, false, false] rfl rfl (any_of HT_.out (by kernel_rfl)) (fun _ _ _ h => h) (Or.inl ⟨by rfl, ?_⟩) ?_ ?_
                 rotate_left
                 ·
                  intro w'
                  go_simp
                  with_reducible rfl
                 rotate_left
                 ·
                  simp only [Act.put, List.setIfInBounds_toArray, List.set_cons_zero, List.set_cons_succ, i64_w, i32_w]
                  rfl
                 refine pure_ (i := 1) (N := some 144) (v := ?_) (a' := ?_) #[true, true, false, false, false, false, false, false, false, false, false, false, false, false, false, false, false, false, false, false, false, false, false, false, false, false, false, false, false, false, false, false, false, false, false, false, false, false, false, false, false, false, false] rfl rfl (any_of HT_.out (by kernel_rfl)) (fun _ _ _ h => h) (Or.inl ⟨by rfl, ?_⟩) ?_ ?_
                 rotate_left
                 ·
                  intro w'
                  go_simp
                  with_reducible rfl
                 rotate_left
                 ·
                  simp only [Act.put, List.setIfInBounds_toArray, List.set_cons_zero, List.set_cons_succ, i64_w, i32_w]
                  rfl
                 refine pure_ (i := 2) (N := some 145) (v := ?_) (a' := ?_) #[true, true, true, false, false, false, false, false, false, false, false, false, false, false, false, false, false, false, false, false, false, false, false, false, false, false, false, false, false, false, false, false, false, false, false, false, false, false, false, false, false, false, false] rfl rfl (any_of HT_.out (by kernel_rfl)) (fun _ _ _ h => h) (Or.inl ⟨by rfl, ?_⟩) ?_ ?_
                 rotate_left
                 ·
                  intro w'
                  go_simp
                  with_reducible rfl
                 rotate_left
                 ·
                  simp only [Act.put, List.setIfInBounds_toArray, List.set_cons_zero, List.set_cons_succ, i64_w, i32_w]
                  rfl
                 refine pure_ (i := 3) (N := some 146) (v := ?_) (a' := ?_) #[true, true, true, true, false, false, false, false, false, false, false, false, false, false, false, false, false, false, false, false, false, false, false, false, false, false, false, false, false, false, false, false, false, false, false, false, false, false, false, false, false, false, false] rfl rfl (any_of HT_.out (by kernel_rfl)) (fun _ _ _ h => h) (Or.inl ⟨by rfl, ?_⟩) ?_ ?_
                 rotate_left
                 ·
                  intro w'
                  go_simp
                  with_reducible rfl
                 rotate_left
                 ·
                  simp only [Act.put, List.setIfInBounds_toArray, List.set_cons_zero, List.set_cons_succ, i64_w, i32_w]
                  rfl
                 refine pure_ (i := 4) (N := some 147) (v := ?_) (a' := ?_) #[true, true, true, true, true, false, false, false, false, false, false, false, false, false, false, false, false, false, false, false, false, false, false, false, false, false, false, false, false, false, false, false, false, false, false, false, false, false, false, false, false, false, false] rfl rfl (any_of HT_.out (by kernel_rfl)) (fun _ _ _ h => h) (Or.inl ⟨by rfl, ?_⟩) ?_ ?_
                 rotate_left
                 ·
                  intro w'
                  go_simp
                  with_reducible rfl
                 rotate_left
                 ·
                  simp only [Act.put, List.setIfInBounds_toArray, List.set_cons_zero, List.set_cons_succ, i64_w, i32_w]
                  rfl
                 refine pure_ (i := 5) (N := some 148) (v := ?_) (a' := ?_) #[true, true, true, true, true, true, false, false, false, false, false, false, false, false, false, false, false, false, false, false, false, false, false, false, false, false, false, false, false, false, false, false, false, false, false, false, false, false, false, false, false, false, false] rfl rfl (any_of HT_.out (by kernel_rfl)) (fun _ _ _ h => h) (Or.inl ⟨by rfl, ?_⟩) ?_ ?_
                 rotate_left
                 ·
                  intro w'
                  go_simp
                  with_reducible rfl
                 rotate_left
                 ·
                  simp only [Act.put, List.setIfInBounds_toArray, List.set_cons_zero, List.set_cons_succ, i64_w, i32_w]
                  rfl
                 refine pure_ (i := 6) (N := some 149) (v := ?_) (a' := ?_) #[true, true, true, true, true, true, true, false, false, false, false, false, false, false, false, false, false, false, false, false, false, false, false, false, false, false, false, false, false, false, false, false, false, false, false, false, false, false, false, false, false, false, false] rfl rfl (any_of HT_.out (by kernel_rfl)) (fun _ _ _ h => h) (Or.inl ⟨by rfl, ?_⟩) ?_ ?_
                 rotate_left
                 ·
                  intro w'
                  go_simp
                  with_reducible rfl
                 rotate_left
                 ·
                  simp only [Act.put, List.setIfInBounds_toArray, List.set_cons_zero, List.set_cons_succ, i64_w, i32_w]
                  rfl
                 refine pure_ (i := 7) (N := some 150) (v := ?_) (a' := ?_) #[true, true, true, true, true, true, true, true, false, false, false, false, false, false, false, false, false, false, false, false, false, false, false, false, false, false, false, false, false, false, false, false, false, false, false, false, false, false, false, false, false, false, false] rfl rfl (any_of HT_.out (by kernel_rfl)) (fun _ _ _ h => h) (Or.inl ⟨by rfl, ?_⟩) ?_ ?_
                 rotate_left
                 ·
                  intro w'
                  go_simp
                  with_reducible rfl
                 rotate_left
                 ·
                  simp only [Act.put, List.setIfInBounds_toArray, List.set_cons_zero, List.set_cons_succ, i64_w, i32_w]
                  rfl
                 refine pure_ (i := 8) (N := some 151) (v := ?_) (a' := ?_) #[true, true, true, true, true, true, true, true, true, false, false, false, false, false, false, false, false, false, false, false, false, false, false, false, false, false, false, false, false, false, false, false, false, false, false, false, false, false, false, false, false, false, false] rfl rfl (any_of HT_.out (by kernel_rfl)) (fun _ _ _ h => h) (Or.inl ⟨by rfl, ?_⟩) ?_ ?_
                 rotate_left
                 ·
                  intro w'
                  go_simp
                  with_reducible rfl
                 rotate_left
                 ·
                  simp only [Act.put, List.setIfInBounds_toArray, List.set_cons_zero, List.set_cons_succ, i64_w, i32_w]
                  rfl
                 refine one_ (i := 9) (N := some 152) #[true, true, true, true, true, true, true, true, true, true, false, false, false, false, false, false, false, false, false, false, false, false, false, false, false, false, false, false, false, false, false, false, false, false, false, false, false, false, false, false, false, false, false] rfl rfl (one_of HT_.out (by kernel_rfl)) (by decide) (fun K hK => ?_)
                 refine goes_ Try.func75 (by kernel_rfl) rfl #[.slice Ao67 t351.length co67, .slice (some ad363) t338.length co65] (by rfl) rfl rfl (by (try simp only [List.map_toArray, List.map_cons, List.map_nil]); first | done | rfl | (simp only [List.length_drop, List.length_take]; rfl)) ?_
                 with_reducible refine (laws_gSame.calls kj15 _ _ t351 _ _ t338 true _ ?side1 ?side2 ?side3 ?side4 A37.out).mono ?_
                 (case side1 => repeat (first | exact (Kd.R_reads' HO354.out).2.2 | (with_reducible refine Kd.C_alloc ?_ _) | (with_reducible refine Kd.C_drewN ?_ _) | (with_reducible refine Kd.C_drew ?_)))
                 (case side2 => exact (Kd.R_reads' HO354.out).2.1)
                 (case side3 => repeat (first | exact (Kd.R_reads' HO_13.out).2.2 | (with_reducible refine Kd.C_alloc ?_ _) | (with_reducible refine Kd.C_drewN ?_ _) | (with_reducible refine Kd.C_drew ?_)))
                 (case side4 => exact (Kd.R_reads' HO_13.out).2.1)
                 rintro e w' ⟨rfl, ⟨nd, rfl⟩⟩
                 refine ⟨_, rfl, ?_⟩
                 refine hK.out _ _ ⟨hHeld.1, ((HB.out.cell (World.block_lt_of_cell? w _ hw364_0)).trans hw364_0), ((HB.out.cell (World.block_lt_of_cell? w _ hw365_0)).trans hw365_0)⟩ (fun hHeld => ?_)
                 clear hK K
                 refine norm_ (a' := ?_) ?_ ?_
                 rotate_left
                 ·
                  show Act.put _ (some 152) _ = _
                  simp only [Act.put, List.setIfInBounds_toArray, List.set_cons_zero, List.set_cons_succ, i64_w, i32_w]
                  rfl
                 refine pure_ (i := 10) (N := some 153) (v := ?_) (a' := ?_) #[true, true, true, true, true, true, true, true, true, true, true, false, false, false, false, false, false, false, false, false, false, false, false, false, false, false, false, false, false, false, false, false, false, false, false, false, false, false, false, false, false, false, false] rfl rfl (any_of HT_.out (by kernel_rfl)) (fun _ _ _ h => h) (Or.inl ⟨by rfl, ?_⟩) ?_ ?_
                 rotate_left
                 ·
                  intro w'
                  go_simp
                  with_reducible rfl
                 rotate_left
                 ·
                  simp only [Act.put, List.setIfInBounds_toArray, List.set_cons_zero, List.set_cons_succ, i64_w, i32_w]
                  rfl
                 refine pure_ (i := 11) (N := some 154) (v := ?_) (a' := ?_) #[true, true, true, true, true, true, true, true, true, true, true, true, false, false, false, false, false, false, false, false, false, false, false, false, false, false, false, false, false, false, false, false, false, false, false, false, false, false, false, false, false, false, false] rfl rfl (any_of HT_.out (by kernel_rfl)) (fun _ _ _ h => h) (Or.inl ⟨by rfl, ?_⟩) ?_ ?_
                 rotate_left
                 ·
                  intro w'
                  go_simp
                  with_reducible rfl
                 rotate_left
                 ·
                  simp only [Act.put, List.setIfInBounds_toArray, List.set_cons_zero, List.set_cons_succ, i64_w, i32_w]
                  rfl
                 refine pure_ (i := 12) (N := some 155) (v := ?_) (a' := ?_) #[true, true, true, true, true, true, true, true, true, true, true, true, true, false, false, false, false, false, false, false, false, false, false, false, false, false, false, false, false, false, false, false, false, false, false, false, false, false, false, false, false, false, false] rfl rfl (any_of HT_.out (by kernel_rfl)) (fun _ _ _ h => h) (Or.inl ⟨by rfl, ?_⟩) ?_ ?_
                 rotate_left
                 ·
                  intro w'
                  go_simp
                  with_reducible rfl
                 rotate_left
                 ·
                  simp only [Act.put, List.setIfInBounds_toArray, List.set_cons_zero, List.set_cons_succ, i64_w, i32_w]
                  rfl
                 refine pure_ (i := 13) (N := some 156) (v := ?_) (a' := ?_) #[true, true, true, true, true, true, true, true, true, true, true, true, true, true, false, false, false, false, false, false, false, false, false, false, false, false, false, false, false, false, false, false, false, false, false, false, false, false, false, false, false, false, false] rfl rfl (any_of HT_.out (by kernel_rfl)) (fun _ _ _ h => h) (Or.inl ⟨by rfl, ?_⟩) ?_ ?_
                 rotate_left
                 ·
                  intro w'
                  go_simp
                  with_reducible rfl
                 rotate_left
                 ·
                  simp only [Act.put, List.setIfInBounds_toArray, List.set_cons_zero, List.set_cons_succ, i64_w, i32_w]
                  rfl
                 refine pure_ (i := 14) (N := some 157) (v := ?_) (a' := ?_) #[true, true, true, true, true, true, true, true, true, true, true, true, true, true, true, false, false, false, false, false, false, false, false, false, false, false, false, false, false, false, false, false, false, false, false, false, false, false, false, false, false, false, false] rfl rfl (any_of HT_.out (by kernel_rfl)) (fun _ _ _ h => h) (Or.inl ⟨by rfl, ?_⟩) ?_ ?_
                 rotate_left
                 ·
                  intro w'
                  go_simp
                  with_reducible rfl
                 rotate_left
                 ·
                  simp only [Act.put, List.setIfInBounds_toArray, List.set_cons_zero, List.set_cons_succ, i64_w, i32_w]
                  rfl
                 refine pure_ (i := 15) (N := some 158) (v := ?_) (a' := ?_) #[true, true, true, true, true, true, true, true, true, true, true, true, true, true, true, true, false, false, false, false, false, false, false, false, false, false, false, false, false, false, false, false, false, false, false, false, false, false, false, false, false, false, false] rfl rfl (any_of HT_.out (by kernel_rfl)) (fun _ _ _ h => h) (Or.inl ⟨by rfl, ?_⟩) ?_ ?_
                 rotate_left
                 ·
                  intro w'
                  go_simp
                  with_reducible rfl
                 rotate_left
                 ·
                  simp only [Act.put, List.setIfInBounds_toArray, List.set_cons_zero, List.set_cons_succ, i64_w, i32_w]
                  rfl
                 refine pure_ (i := 16) (N := some 159) (v := ?_) (a' := ?_) #[true, true, true, true, true, true, true, true, true, true, true, true, true, true, true, true, true, false, false, false, false, false, false, false, false, false, false, false, false, false, false, false, false, false, false, false, false, false, false, false, false, false, false] rfl rfl (any_of HT_.out (by kernel_rfl)) (fun _ _ _ h => h) (Or.inl ⟨by rfl, ?_⟩) ?_ ?_
                 rotate_left
                 ·
                  intro w'
                  go_simp
                  with_reducible rfl
                 rotate_left
                 ·
                  simp only [Act.put, List.setIfInBounds_toArray, List.set_cons_zero, List.set_cons_succ, i64_w, i32_w]
                  rfl
                 refine pure_ (i := 17) (N := some 160) (v := ?_) (a' := ?_) #[true, true, true, true, true, true, true, true, true, true, true, true, true, true, true, true, true, true, false, false, false, false, false, false, false, false, false, false, false, false, false, false, false, false, false, false, false, false, false, false, false, false, false] rfl rfl (any_of HT_.out (by kernel_rfl)) (fun _ _ _ h => h) (Or.inl ⟨by rfl, ?_⟩) ?_ ?_
                 rotate_left
                 ·
                  intro w'
                  go_simp
                  with_reducible rfl
                 rotate_left
                 ·
                  simp only [Act.put, List.setIfInBounds_toArray, List.set_cons_zero, List.set_cons_succ, i64_w, i32_w]
                  rfl
                 refine pure_ (i := 18) (N := some 161) (v := ?_) (a' := ?_) #[true, true, true, true, true, true, true, true, true, true, true, true, true, true, true, true, true, true, true, false, false, false, false, false, false, false, false, false, false, false, false, false, false, false, false, false, false, false, false, false, false, false, false] rfl rfl (any_of HT_.out (by kernel_rfl)) (fun _ _ _ h => h) (Or.inl ⟨by rfl, ?_⟩) ?_ ?_
                 rotate_left
                 ·
                  intro w'
                  go_simp
                  with_reducible rfl
                 rotate_left
                 ·
                  simp only [Act.put, List.setIfInBounds_toArray, List.set_cons_zero, List.set_cons_succ, i64_w, i32_w]
                  rfl
                 refine pure_ (i := 19) (N := some 162) (v := ?_) (a' := ?_) #[true, true, true, true, true, true, true, true, true, true, true, true, true, true, true, true, true, true, true, true, false, false, false, false, false, false, false, false, false, false, false, false, false, false, false, false, false, false, false, false, false, false, false] rfl rfl (any_of HT_.out (by kernel_rfl)) (fun _ _ _ h => h) (Or.inl ⟨by rfl, ?_⟩) ?_ ?_
                 rotate_left
                 ·
                  intro w'
                  go_simp
                  with_reducible rfl
                 rotate_left
                 ·
                  simp only [Act.put, List.setIfInBounds_toArray, List.set_cons_zero, List.set_cons_succ, i64_w, i32_w]
                  rfl
                 refine pure_ (i := 20) (N := some 163) (v := ?_) (a' := ?_) #[true, true, true, true, true, true, true, true, true, true, true, true, true, true, true, true, true, true, true, true, true, false, false, false, false, false, false, false, false, false, false, false, false, false, false, false, false, false, false, false, false, false, false] rfl rfl (any_of HT_.out (by kernel_rfl)) (fun _ _ _ h => h) (Or.inl ⟨by rfl, ?_⟩) ?_ ?_
                 rotate_left
                 ·
                  intro w'
                  go_simp
                  with_reducible rfl
                 rotate_left
                 ·
                  simp only [Act.put, List.setIfInBounds_toArray, List.set_cons_zero, List.set_cons_succ, i64_w, i32_w]
                  rfl
                 refine pure_ (i := 21) (N := some 164) (v := ?_) (a' := ?_) #[true, true, true, true, true, true, true, true, true, true, true, true, true, true, true, true, true, true, true, true, true, true, false, false, false, false, false, false, false, false, false, false, false, false, false, false, false, false, false, false, false, false, false] rfl rfl (any_of HT_.out (by kernel_rfl)) (fun _ _ _ h => h) (Or.inl ⟨by rfl, ?_⟩) ?_ ?_
                 rotate_left
                 ·
                  intro w'
                  go_simp
                  with_reducible rfl
                 rotate_left
                 ·
                  simp only [Act.put, List.setIfInBounds_toArray, List.set_cons_zero, List.set_cons_succ, i64_w, i32_w]
                  rfl
                 refine pure_ (i := 22) (N := some 165) (v := ?_) (a' := ?_) #[true, true, true, true, true, true, true, true, true, true, true, true, true, true, true, true, true, true, true, true, true, true, true, false, false, false, false, false, false, false, false, false, false, false, false, false, false, false, false, false, false, false, false] rfl rfl (any_of HT_.out (by kernel_rfl)) (fun _ _ _ h => h) (Or.inl ⟨by rfl, ?_⟩) ?_ ?_
                 rotate_left
                 ·
                  intro w'
                  go_simp
                  with_reducible rfl
                 rotate_left
                 ·
                  simp only [Act.put, List.setIfInBounds_toArray, List.set_cons_zero, List.set_cons_succ, i64_w, i32_w]
                  rfl
                 refine pure_ (i := 23) (N := some 166) (v := ?_) (a' := ?_) #[true, true, true, true, true, true, true, true, true, true, true, true, true, true, true, true, true, true, true, true, true, true, true, true, false, false, false, false, false, false, false, false, false, false, false, false, false, false, false, false, false, false, false] rfl rfl (any_of HT_.out (by kernel_rfl)) (fun _ _ _ h => h) (Or.inl ⟨by rfl, ?_⟩) ?_ ?_
                 rotate_left
                 ·
                  intro w'
                  go_simp
                  with_reducible rfl
                 rotate_left
                 ·
                  simp only [Act.put, List.setIfInBounds_toArray, List.set_cons_zero, List.set_cons_succ, i64_w, i32_w]
                  rfl
                 refine pure_ (i := 24) (N := some 167) (v := ?_) (a' := ?_) #[true, true, true, true, true, true, true, true, true, true, true, true, true, true, true, true, true, true, true, true, true, true, true, true, true, false, false, false, false, false, false, false, false, false, false, false, false, false, false, false, false, false, false] rfl rfl (any_of HT_.out (by kernel_rfl)) (fun _ _ _ h => h) (Or.inl ⟨by rfl, ?_⟩) ?_ ?_
                 rotate_left
                 ·
                  intro w'
                  go_simp
                  with_reducible rfl
                 rotate_left
                 ·
                  simp only [Act.put, List.setIfInBounds_toArray, List.set_cons_zero, List.set_cons_succ, i64_w, i32_w]
                  rfl
                 refine pure_ (i := 25) (N := some 168) (v := ?_) (a' := ?_) #[true, true, true, true, true, true, true, true, true, true, true, true, true, true, true, true, true, true, true, true, true, true, true, true, true, true, false, false, false, false, false, false, false, false, false, false, false, false, false, false, false, false, false] rfl rfl (any_of HT_.out (by kernel_rfl)) (fun _ _ _ h => h) (Or.inl ⟨by rfl, ?_⟩) ?_ ?_
                 rotate_left
                 ·
                  intro w'
                  go_simp
                  with_reducible rfl
                 rotate_left
                 ·
                  simp only [Act.put, List.setIfInBounds_toArray, List.set_cons_zero, List.set_cons_succ, i64_w, i32_w]
                  rfl
                 refine pure_ (i := 26) (N := some 169) (v := undef) (a' := ?_) #[true, true, true, true, true, true, true, true, true, true, true, true, true, true, true, true, true, true, true, true, true, true, true, true, true, true, true, false, false, false, false, false, false, false, false, false, false, false, false, false, false, false, false] rfl rfl (any_of HT_.out (by kernel_rfl)) (fun _ _ _ h => h) (Or.inr ⟨by rfl, rfl⟩) ?_ ?_
                 rotate_left
                 ·
                  simp only [Act.put, List.setIfInBounds_toArray, List.set_cons_zero, List.set_cons_succ, i64_w, i32_w]
                  rfl
                 refine pure_ (i := 27) (N := some 170) (v := undef) (a' := ?_) #[true, true, true, true, true, true, true, true, true, true, true, true, true, true, true, true, true, true, true, true, true, true, true, true, true, true, true, true, false, false, false, false, false, false, false, false, false, false, false, false, false, false, false] rfl rfl (any_of HT_.out (by kernel_rfl)) (fun _ _ _ h => h) (Or.inr ⟨by rfl, rfl⟩) ?_ ?_
                 rotate_left
                 ·
                  simp only [Act.put, List.setIfInBounds_toArray, List.set_cons_zero, List.set_cons_succ, i64_w, i32_w]
                  rfl
                 refine pure_ (i := 28) (N := some 171) (v := ?_) (a' := ?_) #[true, true, true, true, true, true, true, true, true, true, true, true, true, true, true, true, true, true, true, true, true, true, true, true, true, true, true, true, true, false, false, false, false, false, false, false, false, false, false, false, false, false, false] rfl rfl (any_of HT_.out (by kernel_rfl)) (fun _ _ _ h => h) (Or.inl ⟨by rfl, ?_⟩) ?_ ?_
                 rotate_left
                 ·
                  intro w'
                  go_simp
                  with_reducible rfl
                 rotate_left
                 ·
                  simp only [Act.put, List.setIfInBounds_toArray, List.set_cons_zero, List.set_cons_succ, i64_w, i32_w]
                  rfl
                 refine pure_ (i := 29) (N := some 172) (v := ?_) (a' := ?_) #[true, true, true, true, true, true, true, true, true, true, true, true, true, true, true, true, true, true, true, true, true, true, true, true, true, true, true, true, true, true, false, false, false, false, false, false, false, false, false, false, false, false, false] rfl rfl (any_of HT_.out (by kernel_rfl)) (fun _ _ _ h => h) (Or.inl ⟨by rfl, ?_⟩) ?_ ?_
                 rotate_left
                 ·
                  intro w'
                  go_simp
                  with_reducible rfl
                 rotate_left
                 ·
                  simp only [Act.put, List.setIfInBounds_toArray, List.set_cons_zero, List.set_cons_succ, i64_w, i32_w]
                  rfl
                 refine pure_ (i := 30) (N := some 173) (v := ?_) (a' := ?_) #[true, true, true, true, true, true, true, true, true, true, true, true, true, true, true, true, true, true, true, true, true, true, true, true, true, true, true, true, true, true, true, false, false, false, false, false, false, false, false, false, false, false, false] rfl rfl (any_of HT_.out (by kernel_rfl)) (fun _ _ _ h => h) (Or.inl ⟨by rfl, ?_⟩) ?_ ?_
                 rotate_left
                 ·
                  intro w'
                  go_simp
                  with_reducible rfl
                 rotate_left
                 ·
                  simp only [Act.put, List.setIfInBounds_toArray, List.set_cons_zero, List.set_cons_succ, i64_w, i32_w]
                  rfl
                 refine pure_ (i := 31) (N := some 174) (v := ?_) (a' := ?_) #[true, true, true, true, true, true, true, true, true, true, true, true, true, true, true, true, true, true, true, true, true, true, true, true, true, true, true, true, true, true, true, true, false, false, false, false, false, false, false, false, false, false, false] rfl rfl (any_of HT_.out (by kernel_rfl)) (fun _ _ _ h => h) (Or.inl ⟨by rfl, ?_⟩) ?_ ?_
                 rotate_left
                 ·
                  intro w'
                  go_simp
                  with_reducible rfl
                 rotate_left
                 ·
                  simp only [Act.put, List.setIfInBounds_toArray, List.set_cons_zero, List.set_cons_succ, i64_w, i32_w]
                  rfl
                 refine pure_ (i := 32) (N := some 175) (v := ?_) (a' := ?_) #[true, true, true, true, true, true, true, true, true, true, true, true, true, true, true, true, true, true, true, true, true, true, true, true, true, true, true, true, true, true, true, true, true, false, false, false, false, false, false, false, false, false, false] rfl rfl (any_of HT_.out (by kernel_rfl)) (fun _ _ _ h => h) (Or.inl ⟨by rfl, ?_⟩) ?_ ?_
                 rotate_left
                 ·
                  intro w'
                  go_simp
                  with_reducible rfl
                 rotate_left
                 ·
                  simp only [Act.put, List.setIfInBounds_toArray, List.set_cons_zero, List.set_cons_succ, i64_w, i32_w]
                  rfl
                 refine pure_ (i := 34) (N := some 177) (v := ?_) (a' := ?_) #[true, true, true, true, true, true, true, true, true, true, true, true, true, true, true, true, true, true, true, true, true, true, true, true, true, true, true, true, true, true, true, true, true, false, true, false, false, false, false, false, false, false, false] rfl rfl (any_of HT_.out (by kernel_rfl)) (fun _ _ _ h => h) (Or.inl ⟨by rfl, ?_⟩) ?_ ?_
                 rotate_left
                 ·
                  intro w'
                  go_simp
                  with_reducible rfl
                 rotate_left
                 ·
                  simp only [Act.put, List.setIfInBounds_toArray, List.set_cons_zero, List.set_cons_succ, i64_w, i32_w]
                  rfl
                 refine pure_ (i := 35) (N := some 178) (v := ?_) (a' := ?_) #[true, true, true, true, true, true, true, true, true, true, true, true, true, true, true, true, true, true, true, true, true, true, true, true, true, true, true, true, true, true, true, true, true, false, true, true, false, false, false, false, false, false, false] rfl rfl (any_of HT_.out (by kernel_rfl)) (fun _ _ _ h => h) (Or.inl ⟨by rfl, ?_⟩) ?_ ?_
                 rotate_left
                 ·
                  intro w'
                  go_simp
                  with_reducible rfl
                 rotate_left
                 ·
                  simp only [Act.put, List.setIfInBounds_toArray, List.set_cons_zero, List.set_cons_succ, i64_w, i32_w]
                  rfl
                 refine pure_ (i := 37) (N := some 180) (v := ?_) (a' := ?_) #[true, true, true, true, true, true, true, true, true, true, true, true, true, true, true, true, true, true, true, true, true, true, true, true, true, true, true, true, true, true, true, true, true, false, true, true, false, true, false, false, false, false, false] rfl rfl (any_of HT_.out (by kernel_rfl)) (fun _ _ _ h => h) (Or.inl ⟨by rfl, ?_⟩) ?_ ?_
                 rotate_left
                 ·
                  intro w'
                  go_simp
                  with_reducible rfl
                 rotate_left
                 ·
                  simp only [Act.put, List.setIfInBounds_toArray, List.set_cons_zero, List.set_cons_succ, i64_w, i32_w]
                  rfl
                 refine pure_ (i := 38) (N := some 181) (v := ?_) (a' := ?_) #[true, true, true, true, true, true, true, true, true, true, true, true, true, true, true, true, true, true, true, true, true, true, true, true, true, true, true, true, true, true, true, true, true, false, true, true, false, true, true, false, false, false, false] rfl rfl (any_of HT_.out (by kernel_rfl)) (fun _ _ _ h => h) (Or.inl ⟨by rfl, ?_⟩) ?_ ?_
                 rotate_left
                 ·
                  intro w'
                  go_simp
                  with_reducible rfl
                 rotate_left
                 ·
                  simp only [Act.put, List.setIfInBounds_toArray, List.set_cons_zero, List.set_cons_succ, i64_w, i32_w]
                  rfl
                 refine take_ (i := 33) (N := some 176) (v := ?_) (a' := ?_) #[true, true, true, true, true, true, true, true, true, true, true, true, true, true, true, true, true, true, true, true, true, true, true, true, true, true, true, true, true, true, true, true, true, true, true, true, false, true, true, false, false, false, false] rfl rfl (take_ofW HT_.out HW_.out (by kernel_rfl)) (fun _ _ _ h => h) (Or.inl ⟨by rfl, ?_⟩) hHeld ?_ ?_
                 rotate_left
                 ·
                  rintro w' ⟨s0, s1, s2⟩
                  go_simp
                  with_reducible rfl
                 rotate_left
                 ·
                  simp only [Act.put, List.setIfInBounds_toArray, List.set_cons_zero, List.set_cons_succ, i64_w, i32_w]
                  rfl
                 refine take_ (i := 36) (N := some 179) (v := ?_) (a' := ?_) #[true, true, true, true, true, true, true, true, true, true, true, true, true, true, true, true, true, true, true, true, true, true, true, true, true, true, true, true, true, true, true, true, true, true, true, true, true, true, true, false, false, false, false] rfl rfl (take_ofW HT_.out HW_.out (by kernel_rfl)) (fun _ _ _ h => h) (Or.inl ⟨by rfl, ?_⟩) hHeld ?_ ?_
                 rotate_left
                 ·
                  rintro w' ⟨s0, s1, s2⟩
                  go_simp
                  with_reducible rfl
                 rotate_left
                 ·
                  simp only [Act.put, List.setIfInBounds_toArray, List.set_cons_zero, List.set_cons_succ, i64_w, i32_w]
                  rfl
                 refine take_ (i := 39) (N := some 182) (v := ?_) (a' := ?_) #[true, true, true, true, true, true, true, true, true, true, true, true, true, true, true, true, true, true, true, true, true, true, true, true, true, true, true, true, true, true, true, true, true, true, true, true, true, true, true, true, false, false, false] rfl rfl (take_ofW HT_.out HW_.out (by kernel_rfl)) (fun _ _ _ h => h) (Or.inl ⟨by rfl, ?_⟩) hHeld ?_ ?_
                 rotate_left
                 ·
                  rintro w' ⟨s0, s1, s2⟩
                  go_simp
                  with_reducible rfl
                 rotate_left
                 ·
                  simp only [Act.put, List.setIfInBounds_toArray, List.set_cons_zero, List.set_cons_succ, i64_w, i32_w]
                  rfl
                 refine pure_ (i := 40) (N := some 183) (v := ?_) (a' := ?_) #[true, true, true, true, true, true, true, true, true, true, true, true, true, true, true, true, true, true, true, true, true, true, true, true, true, true, true, true, true, true, true, true, true, true, true, true, true, true, true, true, true, false, false] rfl rfl (any_of HT_.out (by kernel_rfl)) (fun _ _ _ h => h) (Or.inl ⟨by rfl, ?_⟩) ?_ ?_
                 rotate_left
                 ·
                  intro w'
                  go_simp
                  with_reducible rfl
                 rotate_left
                 ·
                  simp only [Act.put, List.setIfInBounds_toArray, List.set_cons_zero, List.set_cons_succ, i64_w, i32_w]
                  rfl
                 refine pure_ (i := 41) (N := some 184) (v := ?_) (a' := ?_) #[true, true, true, true, true, true, true, true, true, true, true, true, true, true, true, true, true, true, true, true, true, true, true, true, true, true, true, true, true, true, true, true, true, true, true, true, true, true, true, true, true, true, false] rfl rfl (any_of HT_.out (by kernel_rfl)) (fun _ _ _ h => h) (Or.inl ⟨by rfl, ?_⟩) ?_ ?_
                 rotate_left
                 ·
                  intro w'
                  go_simp
                  with_reducible rfl
                 rotate_left
                 ·
                  simp only [Act.put, List.setIfInBounds_toArray, List.set_cons_zero, List.set_cons_succ, i64_w, i32_w]
                  rfl
                 refine pure_ (i := 42) (N := some 185) (v := ?_) (a' := ?_) #[true, true, true, true, true, true, true, true, true, true, true, true, true, true, true, true, true, true, true, true, true, true, true, true, true, true, true, true, true, true, true, true, true, true, true, true, true, true, true, true, true, true, true] rfl rfl (any_of HT_.out (by kernel_rfl)) (fun _ _ _ h => h) (Or.inl ⟨by rfl, ?_⟩) ?_ ?_
                 rotate_left
                 ·
                  intro w'
                  go_simp
                  with_reducible rfl
                 rotate_left
                 ·
                  simp only [Act.put, List.setIfInBounds_toArray, List.set_cons_zero, List.set_cons_succ, i64_w, i32_w]
                  rfl
                 refine done_ (done_of HT_.out (by kernel_rfl)) ?_
                 try go_wp2
                 refine cutMeet hJ_ ?_ (by kernel_rfl)
                 exact ⟨_, H', ⟨by have := HJ6.out; have := HJ15.out; first | omega | exact Nat.le_refl _⟩, ⟨by repeat (first | (with_reducible first | exact HB.out | apply below_alloc | apply pw_below_drewN | apply below_drew1))⟩⟩
                rw [if_neg c63] at H
                have c63b0 : ((rd t338 0) == (wrap64 ((rd l0 0) * (rd l1 0)))) = false := beq_eq_false_iff_ne.mpr c63
                have c63b1 : ((rd t338 0) != (wrap64 ((rd l0 0) * (rd l1 0)))) = true := bne_iff_ne.mpr c63
                exact absurd (Option.some.inj (H.trans (congrArg some HRT.out))) Bool.false_ne_true
               rw [if_neg c62] at H
               exact absurd H (by simp)
              rw [if_neg c61] at H
              exact absurd H (by simp)
             rw [if_neg c60] at H
             exact absurd H (by simp)
            replace c41 := Bool.eq_false_iff.mpr c41
            subst c41
            have H1 : (if 0 < (t338.length : Int) then (if 0 < (l0.length : Int) then (if 0 < (l1.length : Int) then (if (rd t338 0) = (wrap64 ((rd l0 0) * (rd l1 0))) then (j2 kj15 l2 a3 a4 l5) else (some false)) else (none)) else (none)) else (none)) = some r := by rw [if_neg (show ¬ (false = true) by decide)] at H; exact H
            clear H
            have H := H1
            clear H1
            by_cases c72 : 0 < (t338.length : Int)
            ·
             rw [if_pos c72] at H
             have c72b0 : decide (0 < (t338.length : Int)) = true := decide_eq_true c72
             have c72b1 : decide (0 < t338.length) = true := decide_eq_true (by omega)
             clear c72
             by_cases c73 : 0 < (l0.length : Int)
             ·
              rw [if_pos c73] at H
              have c73b0 : decide (0 < (l0.length : Int)) = true := decide_eq_true c73
              have c73b1 : decide (0 < l0.length) = true := decide_eq_true (by omega)
              clear c73
              by_cases c74 : 0 < (l1.length : Int)
              ·
               rw [if_pos c74] at H
               have c74b0 : decide (0 < (l1.length : Int)) = true := decide_eq_true c74
               have c74b1 : decide (0 < l1.length) = true := decide_eq_true (by omega)
               clear c74
               by_cases c75 : (rd t338 0) = (wrap64 ((rd l0 0) * (rd l1 0)))
               ·
                rw [if_pos c75] at H
                have c75b0 : ((rd t338 0) == (wrap64 ((rd l0 0) * (rd l1 0)))) = true := beq_iff_eq.mpr c75
                have c75b1 : ((rd t338 0) != (wrap64 ((rd l0 0) * (rd l1 0)))) = false := bne_eq_false_iff_eq.mpr c75
                clear c75
                have H' := Aside0.mk H
                clear H
                try go_wp2_with (first | ((with_reducible refine gate_callee (f := 94) rfl ?_); refine goesL_ (some 130) rfl rfl Try.func94 (by kernel_rfl) rfl #[.slice A1 l1.length c1, .slice A0 l0.length c0] rfl (by (try simp only [List.map_toArray, List.map_cons, List.map_nil]); first | done | rfl | (simp only [List.length_drop, List.length_take]; rfl)) ?_; (with_reducible refine (impl_OverDivisors.calls kj15 _ _ l1 _ _ l0 t351 true _ ?side1 ?side2 ?side3 ?side4 A32.out).mono ?_); (case side1 => repeat (first | exact (Kd.C_below HR1.out HB.out) | (with_reducible refine Kd.C_alloc ?_ _) | (with_reducible refine Kd.C_drewN ?_ _) | (with_reducible refine Kd.C_drew ?_))); (case side2 => exact HC1.out); (case side3 => repeat (first | exact (Kd.C_below HR0.out HB.out) | (with_reducible refine Kd.C_alloc ?_ _) | (with_reducible refine Kd.C_drewN ?_ _) | (with_reducible refine Kd.C_drew ?_))); (case side4 => exact HC0.out); rintro e w76 ⟨v353, rfl, ho0, hb⟩; refine ⟨_, rfl, ?_⟩; have n0_ := Aside0.mk (Kd.R_elder' (by (with_reducible repeat (first | apply Kd.R_alloc | apply Kd.R_drewN | apply Kd.R_drew)); exact HO_13.out) (Kd.R_base ho0) hb); have n1_ := Aside0.mk (Kd.R_lower (Kd.R_new' ho0 (Kd.R_lt (by (with_reducible repeat (first | apply Kd.R_alloc | apply Kd.R_drewN | apply Kd.R_drew)); exact HO_13.out))) (below_size (by repeat (first | (with_reducible first | exact HB.out | apply below_alloc | apply pw_below_drewN | apply below_drew1))))); have n2_ := Aside0.mk (below_step (by repeat (first | (with_reducible first | exact HB.out | apply below_alloc | apply pw_below_drewN | apply below_drew1))) hb); clear HO_13; clear HB; have HO_13 := n0_; have HO354 := n1_; have HB := n2_; clear n0_ n1_ n2_; (try clear hb); (try clear ho0)) | ((with_reducible refine gate_callee (f := 96) rfl ?_); refine goesL_ (some 135) rfl rfl Try.func96 (by kernel_rfl) rfl #[.slice A1 l1.length c1] rfl (by (try simp only [List.map_toArray, List.map_cons, List.map_nil]); first | done | rfl | (simp only [List.length_drop, List.length_take]; rfl)) ?_; (with_reducible refine (impl_IsSpread.calls kj15 _ _ l1 t355 true _ ?side1 ?side2 A33.out).mono ?_); (case side1 => repeat (first | exact (Kd.C_below HR1.out HB.out) | (with_reducible refine Kd.C_alloc ?_ _) | (with_reducible refine Kd.C_drewN ?_ _) | (with_reducible refine Kd.C_drew ?_))); (case side2 => exact HC1.out); rintro e w' ⟨rfl, ⟨nd, rfl⟩⟩; refine ⟨_, rfl, ?_⟩; obtain ⟨Ao77, co77, eo77⟩ := Kd.R_slice HO_13.out; subst eo77) | ((with_reducible refine gate_callee (f := 96) rfl ?_); refine goesL_ (some 140) rfl rfl Try.func96 (by kernel_rfl) rfl #[.slice Ao77 t338.length co77] rfl (by (try simp only [List.map_toArray, List.map_cons, List.map_nil]); first | done | rfl | (simp only [List.length_drop, List.length_take]; rfl)) ?_; (with_reducible refine (impl_IsSpread.calls kj15 _ _ t338 t357 true _ ?side1 ?side2 A34.out).mono ?_); (case side1 => repeat (first | exact (Kd.R_reads' HO_13.out).2.2 | (with_reducible refine Kd.C_alloc ?_ _) | (with_reducible refine Kd.C_drewN ?_ _) | (with_reducible refine Kd.C_drew ?_))); (case side2 => exact (Kd.R_reads' HO_13.out).2.1); rintro e w' ⟨rfl, ⟨nd, rfl⟩⟩; refine ⟨_, rfl, ?_⟩))
                (try (rw [drewN_self w76]; generalize hq_ : World.drewN w76 _ = w76; have n0_ : Aside0 (Kd.R (Kd.int .i64) 3 w76 w.heap.size (fun k_ => some k_ ≠ (.slice Ao77 t338.length co77 : Value).ownBlock) v353 t351) := ⟨by rw [← hq_]; exact (by (with_reducible repeat (first | apply Kd.R_alloc | apply Kd.R_drewN | apply Kd.R_drew)); exact Kd.R_mono HO354.out (fun _ hk => hk.2))⟩; have n1_ : Aside0 (Kd.R (Kd.int .i64) 3 w76 w.heap.size (fun k_ => some k_ ≠ (v353 : Value).ownBlock) (.slice Ao77 t338.length co77) t338) := ⟨by rw [← hq_]; exact (by (with_reducible repeat (first | apply Kd.R_alloc | apply Kd.R_drewN | apply Kd.R_drew)); exact Kd.R_mono HO_13.out (fun _ hk => hk.2))⟩; have n2_ : Aside0 (Below w.heap.size w w76) := ⟨by rw [← hq_]; exact (by repeat (first | (with_reducible first | exact HB.out | apply below_alloc | apply pw_below_drewN | apply below_drew1)))⟩; clear HO354 HO_13 HB hq_; have HO354 := n0_; have HO_13 := n1_; have HB := n2_; clear n0_ n1_ n2_))
                have n0_ := Aside0.mk (Kd.R_drew HO_13.out)
                have n1_ := Aside0.mk (Kd.R_drew HO354.out)
                have n2_ := Aside0.mk (below_drew1 HB.out)
                clear HO_13
                clear HO354
                clear HB
                have HO_13 := n0_
                have HO354 := n1_
                have HB := n2_
                clear n0_ n1_ n2_
                obtain ⟨Ao79, co79, eo79⟩ := Kd.R_slice HO354.out
                (first | subst eo79 | (injection eo79 with f1_ f2_ f3_; have f4_ := f1_.symm; have f5_ := f3_.symm; clear f1_ f2_ f3_; subst f4_; subst f5_))
                have p366 : 0 ≤ (0 : Int) := (by omega)
                have q366 : 0 < (t338.length : Int) := of_decide_eq_true (by first | (with_reducible assumption) | assumption)
                obtain ⟨ad366, e366, hx366_0⟩ := Kd.at_int (Kd.R_reads' HO_13.out).2.2 0 p366 q366
                cases e366
                have qi366 : (0 < t338.length) = True := eq_true (by omega)
                (try rw [show ((0 : Int)).toNat = 0 from rfl] at hx366_0)
                (try rw [Addr.add_zero'] at hx366_0)
                replace p366 := eq_true p366
                replace q366 := eq_true q366
                have p367 : 0 ≤ (0 : Int) := (by omega)
                have q367 : 0 < (l0.length : Int) := of_decide_eq_true (by first | (with_reducible assumption) | assumption)
                obtain ⟨ad367, e367, hx367_0⟩ := Kd.at_int HR0.out 0 p367 q367
                have hw367_0 := hx367_0
                (try rw [show ((0 : Int)).toNat = 0 from rfl] at hw367_0)
                (try rw [show 0 * 1 = 0 from rfl] at hw367_0)
                (try rw [Addr.add_zero'] at hw367_0)
                cases e367
                have qi367 : (0 < l0.length) = True := eq_true (by omega)
                (try rw [show ((0 : Int)).toNat = 0 from rfl] at hx367_0)
                (try rw [Addr.add_zero'] at hx367_0)
                (try replace hx367_0 := (HB.out.cell (World.block_lt_of_cell? w _ hx367_0)).trans hx367_0)
                replace p367 := eq_true p367
                replace q367 := eq_true q367
                have p368 : 0 ≤ (0 : Int) := (by omega)
                have q368 : 0 < (l1.length : Int) := of_decide_eq_true (by first | (with_reducible assumption) | assumption)
                obtain ⟨ad368, e368, hx368_0⟩ := Kd.at_int HR1.out 0 p368 q368
                have hw368_0 := hx368_0
                (try rw [show ((0 : Int)).toNat = 0 from rfl] at hw368_0)
                (try rw [show 0 * 1 = 0 from rfl] at hw368_0)
                (try rw [Addr.add_zero'] at hw368_0)
                cases e368
                have qi368 : (0 < l1.length) = True := eq_true (by omega)
                (try rw [show ((0 : Int)).toNat = 0 from rfl] at hx368_0)
                (try rw [Addr.add_zero'] at hx368_0)
                (try replace hx368_0 := (HB.out.cell (World.block_lt_of_cell? w _ hx368_0)).trans hx368_0)
                replace p368 := eq_true p368
                replace q368 := eq_true q368
                refine start_ (n := 43) (S := fun w' => w'.cell? ad366 = some (.int .i64 (rd t338 0)) ∧ w'.cell? ad367 = some (.int .i64 (rd l0 0)) ∧ w'.cell? ad368 = some (.int .i64 (rd l1 0))) (ds := []) #[false, false, false, false, false, false, false, false, false, false, false, false, false, false, false, false, false, false, false, false, false, false, false, false, false, false, false, false, false, false, false, false, false, false, false, false, false, false, false, false, false, false, false] (by kernel_rfl) rfl rfl ⟨hx366_0, ((HB.out.cell (World.block_lt_of_cell? w _ hw367_0)).trans hw367_0), ((HB.out.cell (World.block_lt_of_cell? w _ hw368_0)).trans hw368_0)⟩ (fun hHeld => ?_); refine with_tabW laws_FnTablesMultipliedOfAll.tab13 laws_FnTablesMultipliedOfAll.bits13 (fun HT_ HW_ => ?_)
                generalize w76.drew = w78 at HO_13 HO354 HB hx366_0 hx367_0 hx368_0 hHeld ⊢
                refine pure_ (i := 0) (N := some 143) (v := ?_) (a' := ?_) #[true, false, false, false, false, false, false, false, false, false, false, false, false, false, false, false, false, false, false, false, false, false, false, false, false, false, false, false, false, false, false, false, false, false, false, false, false, false, false, false, false, false, false] rfl rfl (any_of HT_.out (by kernel_rfl)) (fun _ _ _ h => h) (Or.inl ⟨by rfl, ?_⟩) ?_ ?_
                rotate_left
                ·
                 intro w'
                 go_simp
                 with_reducible rfl
                rotate_left
                ·
                 simp only [Act.put, List.setIfInBounds_toArray, List.set_cons_zero, List.set_cons_succ, i64_w, i32_w]
                 rfl
                refine pure_ (i := 1) (N := some 144) (v := ?_) (a' := ?_) #[true, true, false, false, false, false, false, false, false, false, false, false, false, false, false, false, false, false, false, false, false, false, false, false, false, false, false, false, false, false, false, false, false, false, false, false, false, false, false, false, false, false, false] rfl rfl (any_of HT_.out (by kernel_rfl)) (fun _ _ _ h => h) (Or.inl ⟨by rfl, ?_⟩) ?_ ?_
                rotate_left
                ·
                 intro w'
                 go_simp
                 with_reducible rfl
                rotate_left
                ·
                 simp only [Act.put, List.setIfInBounds_toArray, List.set_cons_zero, List.set_cons_succ, i64_w, i32_w]
                 rfl
                refine pure_ (i := 2) (N := some 145) (v := ?_) (a' := ?_) #[true, true, true, false, false, false, false, false, false, false, false, false, false, false, false, false, false, false, false, false, false, false, false, false, false, false, false, false, false, false, false, false, false, false, false, false, false, false, false, false, false, false, false] rfl rfl (any_of HT_.out (by kernel_rfl)) (fun _ _ _ h => h) (Or.inl ⟨by rfl, ?_⟩) ?_ ?_
                rotate_left
                ·
                 intro w'
                 go_simp
                 with_reducible rfl
                rotate_left
                ·
                 simp only [Act.put, List.setIfInBounds_toArray, List.set_cons_zero, List.set_cons_succ, i64_w, i32_w]
                 rfl
                refine pure_ (i := 3) (N := some 146) (v := ?_) (a' := ?_) #[true, true, true, true, false, false, false, false, false, false, false, false, false, false, false, false, false, false, false, false, false, false, false, false, false, false, false, false, false, false, false, false, false, false, false, false, false, false, false, false, false, false, false] rfl rfl (any_of HT_.out (by kernel_rfl)) (fun _ _ _ h => h) (Or.inl ⟨by rfl, ?_⟩) ?_ ?_
                rotate_left
                ·
                 intro w'
                 go_simp
                 with_reducible rfl
                rotate_left
                ·
                 simp only [Act.put, List.setIfInBounds_toArray, List.set_cons_zero, List.set_cons_succ, i64_w, i32_w]
                 rfl
                refine pure_ (i := 4) (N := some 147) (v := ?_) (a' := ?_) #[true, true, true, true, true, false, false, false, false, false, false, false, false, false, false, false, false, false, false, false, false, false, false, false, false, false, false, false, false, false, false, false, false, false, false, false, false, false, false, false, false, false, false] rfl rfl (any_of HT_.out (by kernel_rfl)) (fun _ _ _ h => h) (Or.inl ⟨by rfl, ?_⟩) ?_ ?_
                rotate_left
                ·
                 intro w'
                 go_simp
                 with_reducible rfl
                rotate_left
                ·
                 simp only [Act.put, List.setIfInBounds_toArray, List.set_cons_zero, List.set_cons_succ, i64_w, i32_w]
                 rfl
                refine pure_ (i := 5) (N := some 148) (v := ?_) (a' := ?_) #[true, true, true, true, true, true, false, false, false, false, false, false, false, false, false, false, false, false, false, false, false, false, false, false, false, false, false, false, false, false, false, false, false, false, false, false, false, false, false, false, false, false, false] rfl rfl (any_of HT_.out (by kernel_rfl)) (fun _ _ _ h => h) (Or.inl ⟨by rfl, ?_⟩) ?_ ?_
                rotate_left
                ·
                 intro w'
                 go_simp
                 with_reducible rfl
                rotate_left
                ·
                 simp only [Act.put, List.setIfInBounds_toArray, List.set_cons_zero, List.set_cons_succ, i64_w, i32_w]
                 rfl
                refine pure_ (i := 6) (N := some 149) (v := ?_) (a' := ?_) #[true, true, true, true, true, true, true, false, false, false, false, false, false, false, false, false, false, false, false, false, false, false, false, false, false, false, false, false, false, false, false, false, false, false, false, false, false, false, false, false, false, false, false] rfl rfl (any_of HT_.out (by kernel_rfl)) (fun _ _ _ h => h) (Or.inl ⟨by rfl, ?_⟩) ?_ ?_
                rotate_left
                ·
                 intro w'
                 go_simp
                 with_reducible rfl
                rotate_left
                ·
                 simp only [Act.put, List.setIfInBounds_toArray, List.set_cons_zero, List.set_cons_succ, i64_w, i32_w]
                 rfl
                refine pure_ (i := 7) (N := some 150) (v := ?_) (a' := ?_) #[true, true, true, true, true, true, true, true, false, false, false, false, false, false, false, false, false, false, false, false, false, false, false, false, false, false, false, false, false, false, false, false, false, false, false, false, false, false, false, false, false, false, false] rfl rfl (any_of HT_.out (by kernel_rfl)) (fun _ _ _ h => h) (Or.inl ⟨by rfl, ?_⟩) ?_ ?_
                rotate_left
                ·
                 intro w'
                 go_simp
                 with_reducible rfl
                rotate_left
                ·
                 simp only [Act.put, List.setIfInBounds_toArray, List.set_cons_zero, List.set_cons_succ, i64_w, i32_w]
                 rfl
                refine pure_ (i := 8) (N := some 151) (v := ?_) (a' := ?_) #[true, true, true, true, true, true, true, true, true, false, false, false, false, false, false, false, false, false, false, false, false, false, false, false, false, false, false, false, false, false, false, false, false, false, false, false, false, false, false, false, false, false, false] rfl rfl (any_of HT_.out (by kernel_rfl)) (fun _ _ _ h => h) (Or.inl ⟨by rfl, ?_⟩) ?_ ?_
                rotate_left
                ·
                 intro w'
                 go_simp
                 with_reducible rfl
                rotate_left
                ·
                 simp only [Act.put, List.setIfInBounds_toArray, List.set_cons_zero, List.set_cons_succ, i64_w, i32_w]
                 rfl
                refine one_ (i := 9) (N := some 152) #[true, true, true, true, true, true, true, true, true, true, false, false, false, false, false, false, false, false, false, false, false, false, false, false, false, false, false, false, false, false, false, false, false, false, false, false, false, false, false, false, false, false, false] rfl rfl (one_of HT_.out (by kernel_rfl)) (by decide) (fun K hK => ?_)
                refine goes_ Try.func75 (by kernel_rfl) rfl #[.slice Ao79 t351.length co79, .slice (some ad366) t338.length co77] (by rfl) rfl rfl (by (try simp only [List.map_toArray, List.map_cons, List.map_nil]); first | done | rfl | (simp only [List.length_drop, List.length_take]; rfl)) ?_
                with_reducible refine (laws_gSame.calls kj15 _ _ t351 _ _ t338 true _ ?side1 ?side2 ?side3 ?side4 A37.out).mono ?_
                (case side1 => repeat (first | exact (Kd.R_reads' HO354.out).2.2 | (with_reducible refine Kd.C_alloc ?_ _) | (with_reducible refine Kd.C_drewN ?_ _) | (with_reducible refine Kd.C_drew ?_)))
                (case side2 => exact (Kd.R_reads' HO354.out).2.1)
                (case side3 => repeat (first | exact (Kd.R_reads' HO_13.out).2.2 | (with_reducible refine Kd.C_alloc ?_ _) | (with_reducible refine Kd.C_drewN ?_ _) | (with_reducible refine Kd.C_drew ?_)))
                (case side4 => exact (Kd.R_reads' HO_13.out).2.1)
                rintro e w' ⟨rfl, ⟨nd, rfl⟩⟩
                refine ⟨_, rfl, ?_⟩
                refine hK.out _ _ ⟨hHeld.1, ((HB.out.cell (World.block_lt_of_cell? w _ hw367_0)).trans hw367_0), ((HB.out.cell (World.block_lt_of_cell? w _ hw368_0)).trans hw368_0)⟩ (fun hHeld => ?_)
                clear hK K
                refine norm_ (a' := ?_) ?_ ?_
                rotate_left
                ·
                 show Act.put _ (some 152) _ = _
                 simp only [Act.put, List.setIfInBounds_toArray, List.set_cons_zero, List.set_cons_succ, i64_w, i32_w]
                 rfl
                refine pure_ (i := 10) (N := some 153) (v := ?_) (a' := ?_) #[true, true, true, true, true, true, true, true, true, true, true, false, false, false, false, false, false, false, false, false, false, false, false, false, false, false, false, false, false, false, false, false, false, false, false, false, false, false, false, false, false, false, false] rfl rfl (any_of HT_.out (by kernel_rfl)) (fun _ _ _ h => h) (Or.inl ⟨by rfl, ?_⟩) ?_ ?_
                rotate_left
                ·
                 intro w'
                 go_simp
                 with_reducible rfl
                rotate_left
                ·
                 simp only [Act.put, List.setIfInBounds_toArray, List.set_cons_zero, List.set_cons_succ, i64_w, i32_w]
                 rfl
                refine pure_ (i := 11) (N := some 154) (v := ?_) (a' := ?_) #[true, true, true, true, true, true, true, true, true, true, true, true, false, false, false, false, false, false, false, false, false, false, false, false, false, false, false, false, false, false, false, false, false, false, false, false, false, false, false, false, false, false, false] rfl rfl (any_of HT_.out (by kernel_rfl)) (fun _ _ _ h => h) (Or.inl ⟨by rfl, ?_⟩) ?_ ?_
                rotate_left
                ·
                 intro w'
                 go_simp
                 with_reducible rfl
                rotate_left
                ·
                 simp only [Act.put, List.setIfInBounds_toArray, List.set_cons_zero, List.set_cons_succ, i64_w, i32_w]
                 rfl
                refine pure_ (i := 12) (N := some 155) (v := ?_) (a' := ?_) #[true, true, true, true, true, true, true, true, true, true, true, true, true, false, false, false, false, false, false, false, false, false, false, false, false, false, false, false, false, false, false, false, false, false, false, false, false, false, false, false, false, false, false] rfl rfl (any_of HT_.out (by kernel_rfl)) (fun _ _ _ h => h) (Or.inl ⟨by rfl, ?_⟩) ?_ ?_
                rotate_left
                ·
                 intro w'
                 go_simp
                 with_reducible rfl
                rotate_left
                ·
                 simp only [Act.put, List.setIfInBounds_toArray, List.set_cons_zero, List.set_cons_succ, i64_w, i32_w]
                 rfl
                refine pure_ (i := 13) (N := some 156) (v := ?_) (a' := ?_) #[true, true, true, true, true, true, true, true, true, true, true, true, true, true, false, false, false, false, false, false, false, false, false, false, false, false, false, false, false, false, false, false, false, false, false, false, false, false, false, false, false, false, false] rfl rfl (any_of HT_.out (by kernel_rfl)) (fun _ _ _ h => h) (Or.inl ⟨by rfl, ?_⟩) ?_ ?_
                rotate_left
                ·
                 intro w'
                 go_simp
                 with_reducible rfl
                rotate_left
                ·
                 simp only [Act.put, List.setIfInBounds_toArray, List.set_cons_zero, List.set_cons_succ, i64_w, i32_w]
                 rfl
                refine pure_ (i := 14) (N := some 157) (v := ?_) (a' := ?_) #[true, true, true, true, true, true, true, true, true, true, true, true, true, true, true, false, false, false, false, false, false, false, false, false, false, false, false, false, false, false, false, false, false, false, false, false, false, false, false, false, false, false, false] rfl rfl (any_of HT_.out (by kernel_rfl)) (fun _ _ _ h => h) (Or.inl ⟨by rfl, ?_⟩) ?_ ?_
                rotate_left
                ·
                 intro w'
                 go_simp
                 with_reducible rfl
                rotate_left
                ·
                 simp only [Act.put, List.setIfInBounds_toArray, List.set_cons_zero, List.set_cons_succ, i64_w, i32_w]
                 rfl
                refine pure_ (i := 15) (N := some 158) (v := ?_) (a' := ?_) #[true, true, true, true, true, true, true, true, true, true, true, true, true, true, true, true, false, false, false, false, false, false, false, false, false, false, false, false, false, false, false, false, false, false, false, false, false, false, false, false, false, false, false] rfl rfl (any_of HT_.out (by kernel_rfl)) (fun _ _ _ h => h) (Or.inl ⟨by rfl, ?_⟩) ?_ ?_
                rotate_left
                ·
                 intro w'
                 go_simp
                 with_reducible rfl
                rotate_left
                ·
                 simp only [Act.put, List.setIfInBounds_toArray, List.set_cons_zero, List.set_cons_succ, i64_w, i32_w]
                 rfl
                refine pure_ (i := 16) (N := some 159) (v := ?_) (a' := ?_) #[true, true, true, true, true, true, true, true, true, true, true, true, true, true, true, true, true, false, false, false, false, false, false, false, false, false, false, false, false, false, false, false, false, false, false, false, false, false, false, false, false, false, false] rfl rfl (any_of HT_.out (by kernel_rfl)) (fun _ _ _ h => h) (Or.inl ⟨by rfl, ?_⟩) ?_ ?_
                rotate_left
                ·
                 intro w'
                 go_simp
                 with_reducible rfl
                rotate_left
                ·
                 simp only [Act.put, List.setIfInBounds_toArray, List.set_cons_zero, List.set_cons_succ, i64_w, i32_w]
                 rfl
                refine pure_ (i := 17) (N := some 160) (v := ?_) (a' := ?_) #[true, true, true, true, true, true, true, true, true, true, true, true, true, true, true, true, true, true, false, false, false, false, false, false, false, false, false, false, false, false, false, false, false, false, false, false, false, false, false, false, false, false, false] rfl rfl (any_of HT_.out (by kernel_rfl)) (fun _ _ _ h => h) (Or.inl ⟨by rfl, ?_⟩) ?_ ?_
                rotate_left
                ·
                 intro w'
                 go_simp
                 with_reducible rfl
                rotate_left
                ·
                 simp only [Act.put, List.setIfInBounds_toArray, List.set_cons_zero, List.set_cons_succ, i64_w, i32_w]
                 rfl
                refine pure_ (i := 18) (N := some 161) (v := ?_) (a' := ?_) #[true, true, true, true, true, true, true, true, true, true, true, true, true, true, true, true, true, true, true, false, false, false, false, false, false, false, false, false, false, false, false, false, false, false, false, false, false, false, false, false, false, false, false] rfl rfl (any_of HT_.out (by kernel_rfl)) (fun _ _ _ h => h) (Or.inl ⟨by rfl, ?_⟩) ?_ ?_
                rotate_left
                ·
                 intro w'
                 go_simp
                 with_reducible rfl
                rotate_left
                ·
                 simp only [Act.put, List.setIfInBounds_toArray, List.set_cons_zero, List.set_cons_succ, i64_w, i32_w]
                 rfl
                refine pure_ (i := 19) (N := some 162) (v := ?_) (a' := ?_) #[true, true, true, true, true, true, true, true, true, true, true, true, true, true, true, true, true, true, true, true, false, false, false, false, false, false, false, false, false, false, false, false, false, false, false, false, false, false, false, false, false, false, false] rfl rfl (any_of HT_.out (by kernel_rfl)) (fun _ _ _ h => h) (Or.inl ⟨by rfl, ?_⟩) ?_ ?_
                rotate_left
                ·
                 intro w'
                 go_simp
                 with_reducible rfl
                rotate_left
                ·
                 simp only [Act.put, List.setIfInBounds_toArray, List.set_cons_zero, List.set_cons_succ, i64_w, i32_w]
                 rfl
                refine pure_ (i := 20) (N := some 163) (v := ?_) (a' := ?_) #[true, true, true, true, true, true, true, true, true, true, true, true, true, true, true, true, true, true, true, true, true, false, false, false, false, false, false, false, false, false, false, false, false, false, false, false, false, false, false, false, false, false, false] rfl rfl (any_of HT_.out (by kernel_rfl)) (fun _ _ _ h => h) (Or.inl ⟨by rfl, ?_⟩) ?_ ?_
                rotate_left
                ·
                 intro w'
                 go_simp
                 with_reducible rfl
                rotate_left
                ·
                 simp only [Act.put, List.setIfInBounds_toArray, List.set_cons_zero, List.set_cons_succ, i64_w, i32_w]
                 rfl
                refine pure_ (i := 21) (N := some 164) (v := ?_) (a' := ?_) #[true, true, true, true, true, true, true, true, true, true, true, true, true, true, true, true, true, true, true, true, true, true, false, false, false, false, false, false, false, false, false, false, false, false, false, false, false, false, false, false, false, false, false] rfl rfl (any_of HT_.out (by kernel_rfl)) (fun _ _ _ h => h) (Or.inl ⟨by rfl, ?_⟩) ?_ ?_
                rotate_left
                ·
                 intro w'
                 go_simp
                 with_reducible rfl
                rotate_left
                ·
                 simp only [Act.put, List.setIfInBounds_toArray, List.set_cons_zero, List.set_cons_succ, i64_w, i32_w]
                 rfl
                refine pure_ (i := 22) (N := some 165) (v := ?_) (a' := ?_) #[true, true, true, true, true, true, true, true, true, true, true, true, true, true, true, true, true, true, true, true, true, true, true, false, false, false, false, false, false, false, false, false, false, false, false, false, false, false, false, false, false, false, false] rfl rfl (any_of HT_.out (by kernel_rfl)) (fun _ _ _ h => h) (Or.inl ⟨by rfl, ?_⟩) ?_ ?_
                rotate_left
                ·
                 intro w'
                 go_simp
                 with_reducible rfl
                rotate_left
                ·
                 simp only [Act.put, List.setIfInBounds_toArray, List.set_cons_zero, List.set_cons_succ, i64_w, i32_w]
                 rfl
                refine pure_ (i := 23) (N := some 166) (v := undef) (a' := ?_) #[true, true, true, true, true, true, true, true, true, true, true, true, true, true, true, true, true, true, true, true, true, true, true, true, false, false, false, false, false, false, false, false, false, false, false, false, false, false, false, false, false, false, false] rfl rfl (any_of HT_.out (by kernel_rfl)) (fun _ _ _ h => h) (Or.inr ⟨by rfl, rfl⟩) ?_ ?_
                rotate_left
                ·
                 simp only [Act.put, List.setIfInBounds_toArray, List.set_cons_zero, List.set_cons_succ, i64_w, i32_w]
                 rfl
                refine pure_ (i := 24) (N := some 167) (v := ?_) (a' := ?_) #[true, true, true, true, true, true, true, true, true, true, true, true, true, true, true, true, true, true, true, true, true, true, true, true, true, false, false, false, false, false, false, false, false, false, false, false, false, false, false, false, false, false, false] rfl rfl (any_of HT_.out (by kernel_rfl)) (fun _ _ _ h => h) (Or.inl ⟨by rfl, ?_⟩) ?_ ?_
                rotate_left
                ·
                 intro w'
                 go_simp
                 with_reducible rfl
                rotate_left
                ·
                 simp only [Act.put, List.setIfInBounds_toArray, List.set_cons_zero, List.set_cons_succ, i64_w, i32_w]
                 rfl
                refine pure_ (i := 25) (N := some 168) (v := ?_) (a' := ?_) #[true, true, true, true, true, true, true, true, true, true, true, true, true, true, true, true, true, true, true, true, true, true, true, true, true, true, false, false, false, false, false, false, false, false, false, false, false, false, false, false, false, false, false] rfl rfl (any_of HT_.out (by kernel_rfl)) (fun _ _ _ h => h) (Or.inl ⟨by rfl, ?_⟩) ?_ ?_
                rotate_left
                ·
                 intro w'
                 go_simp
                 with_reducible rfl
                rotate_left
                ·
                 simp only [Act.put, List.setIfInBounds_toArray, List.set_cons_zero, List.set_cons_succ, i64_w, i32_w]
                 rfl
                refine pure_ (i := 26) (N := some 169) (v := undef) (a' := ?_) #[true, true, true, true, true, true, true, true, true, true, true, true, true, true, true, true, true, true, true, true, true, true, true, true, true, true, true, false, false, false, false, false, false, false, false, false, false, false, false, false, false, false, false] rfl rfl (any_of HT_.out (by kernel_rfl)) (fun _ _ _ h => h) (Or.inr ⟨by rfl, rfl⟩) ?_ ?_
                rotate_left
                ·
                 simp only [Act.put, List.setIfInBounds_toArray, List.set_cons_zero, List.set_cons_succ, i64_w, i32_w]
                 rfl
                refine pure_ (i := 27) (N := some 170) (v := undef) (a' := ?_) #[true, true, true, true, true, true, true, true, true, true, true, true, true, true, true, true, true, true, true, true, true, true, true, true, true, true, true, true, false, false, false, false, false, false, false, false, false, false, false, false, false, false, false] rfl rfl (any_of HT_.out (by kernel_rfl)) (fun _ _ _ h => h) (Or.inr ⟨by rfl, rfl⟩) ?_ ?_
                rotate_left
                ·
                 simp only [Act.put, List.setIfInBounds_toArray, List.set_cons_zero, List.set_cons_succ, i64_w, i32_w]
                 rfl
                refine pure_ (i := 28) (N := some 171) (v := ?_) (a' := ?_) #[true, true, true, true, true, true, true, true, true, true, true, true, true, true, true, true, true, true, true, true, true, true, true, true, true, true, true, true, true, false, false, false, false, false, false, false, false, false, false, false, false, false, false] rfl rfl (any_of HT_.out (by kernel_rfl)) (fun _ _ _ h => h) (Or.inl ⟨by rfl, ?_⟩) ?_ ?_
                rotate_left
                ·
                 intro w'
                 go_simp
                 with_reducible rfl
                rotate_left
                ·
                 simp only [Act.put, List.setIfInBounds_toArray, List.set_cons_zero, List.set_cons_succ, i64_w, i32_w]
                 rfl
                refine pure_ (i := 29) (N := some 172) (v := ?_) (a' := ?_) #[true, true, true, true, true, true, true, true, true, true, true, true, true, true, true, true, true, true, true, true, true, true, true, true, true, true, true, true, true, true, false, false, false, false, false, false, false, false, false, false, false, false, false] rfl rfl (any_of HT_.out (by kernel_rfl)) (fun _ _ _ h => h) (Or.inl ⟨by rfl, ?_⟩) ?_ ?_
                rotate_left
                ·
                 intro w'
                 go_simp
                 with_reducible rfl
                rotate_left
                ·
                 simp only [Act.put, List.setIfInBounds_toArray, List.set_cons_zero, List.set_cons_succ, i64_w, i32_w]
                 rfl
                refine pure_ (i := 30) (N := some 173) (v := ?_) (a' := ?_) #[true, true, true, true, true, true, true, true, true, true, true, true, true, true, true, true, true, true, true, true, true, true, true, true, true, true, true, true, true, true, true, false, false, false, false, false, false, false, false, false, false, false, false] rfl rfl (any_of HT_.out (by kernel_rfl)) (fun _ _ _ h => h) (Or.inl ⟨by rfl, ?_⟩) ?_ ?_
                rotate_left
                ·
                 intro w'
                 go_simp
                 with_reducible rfl
                rotate_left
                ·
                 simp only [Act.put, List.setIfInBounds_toArray, List.set_cons_zero, List.set_cons_succ, i64_w, i32_w]
                 rfl
                refine pure_ (i := 31) (N := some 174) (v := ?_) (a' := ?_) #[true, true, true, true, true, true, true, true, true, true, true, true, true, true, true, true, true, true, true, true, true, true, true, true, true, true, true, true, true, true, true, true, false, false, false, false, false, false, false, false, false, false, false] rfl rfl (any_of HT_.out (by kernel_rfl)) (fun _ _ _ h => h) (Or.inl ⟨by rfl, ?_⟩) ?_ ?_
                rotate_left
                ·
                 intro w'
                 go_simp
                 with_reducible rfl
                rotate_left
                ·
                 simp only [Act.put, List.setIfInBounds_toArray, List.set_cons_zero, List.set_cons_succ, i64_w, i32_w]
                 rfl
                refine pure_ (i := 32) (N := some 175) (v := ?_) (a' := ?_) #[true, true, true, true, true, true, true, true, true, true, true, true, true, true, true, true, true, true, true, true, true, true, true, true, true, true, true, true, true, true, true, true, true, false, false, false, false, false, false, false, false, false, false] rfl rfl (any_of HT_.out (by kernel_rfl)) (fun _ _ _ h => h) (Or.inl ⟨by rfl, ?_⟩) ?_ ?_
                rotate_left
                ·
                 intro w'
                 go_simp
                 with_reducible rfl
                rotate_left
                ·
                 simp only [Act.put, List.setIfInBounds_toArray, List.set_cons_zero, List.set_cons_succ, i64_w, i32_w]
                 rfl
                refine pure_ (i := 34) (N := some 177) (v := ?_) (a' := ?_) #[true, true, true, true, true, true, true, true, true, true, true, true, true, true, true, true, true, true, true, true, true, true, true, true, true, true, true, true, true, true, true, true, true, false, true, false, false, false, false, false, false, false, false] rfl rfl (any_of HT_.out (by kernel_rfl)) (fun _ _ _ h => h) (Or.inl ⟨by rfl, ?_⟩) ?_ ?_
                rotate_left
                ·
                 intro w'
                 go_simp
                 with_reducible rfl
                rotate_left
                ·
                 simp only [Act.put, List.setIfInBounds_toArray, List.set_cons_zero, List.set_cons_succ, i64_w, i32_w]
                 rfl
                refine pure_ (i := 35) (N := some 178) (v := ?_) (a' := ?_) #[true, true, true, true, true, true, true, true, true, true, true, true, true, true, true, true, true, true, true, true, true, true, true, true, true, true, true, true, true, true, true, true, true, false, true, true, false, false, false, false, false, false, false] rfl rfl (any_of HT_.out (by kernel_rfl)) (fun _ _ _ h => h) (Or.inl ⟨by rfl, ?_⟩) ?_ ?_
                rotate_left
                ·
                 intro w'
                 go_simp
                 with_reducible rfl
                rotate_left
                ·
                 simp only [Act.put, List.setIfInBounds_toArray, List.set_cons_zero, List.set_cons_succ, i64_w, i32_w]
                 rfl
                refine pure_ (i := 37) (N := some 180) (v := ?_) (a' := ?_) #[true, true, true, true, true, true, true, true, true, true, true, true, true, true, true, true, true, true, true, true, true, true, true, true, true, true, true, true, true, true, true, true, true, false, true, true, false, true, false, false, false, false, false] rfl rfl (any_of HT_.out (by kernel_rfl)) (fun _ _ _ h => h) (Or.inl ⟨by rfl, ?_⟩) ?_ ?_
                rotate_left
                ·
                 intro w'
                 go_simp
                 with_reducible rfl
                rotate_left
                ·
                 simp only [Act.put, List.setIfInBounds_toArray, List.set_cons_zero, List.set_cons_succ, i64_w, i32_w]
                 rfl
                refine pure_ (i := 38) (N := some 181) (v := ?_) (a' := ?_) #[true, true, true, true, true, true, true, true, true, true, true, true, true, true, true, true, true, true, true, true, true, true, true, true, true, true, true, true, true, true, true, true, true, false, true, true, false, true, true, false, false, false, false] rfl rfl (any_of HT_.out (by kernel_rfl)) (fun _ _ _ h => h) (Or.inl ⟨by rfl, ?_⟩) ?_ ?_
                rotate_left
                ·
                 intro w'
                 go_simp
                 with_reducible rfl
                rotate_left
                ·
                 simp only [Act.put, List.setIfInBounds_toArray, List.set_cons_zero, List.set_cons_succ, i64_w, i32_w]
                 rfl
                refine take_ (i := 33) (N := some 176) (v := ?_) (a' := ?_) #[true, true, true, true, true, true, true, true, true, true, true, true, true, true, true, true, true, true, true, true, true, true, true, true, true, true, true, true, true, true, true, true, true, true, true, true, false, true, true, false, false, false, false] rfl rfl (take_ofW HT_.out HW_.out (by kernel_rfl)) (fun _ _ _ h => h) (Or.inl ⟨by rfl, ?_⟩) hHeld ?_ ?_
                rotate_left
                ·
                 rintro w' ⟨s0, s1, s2⟩
                 go_simp
                 with_reducible rfl
                rotate_left
                ·
                 simp only [Act.put, List.setIfInBounds_toArray, List.set_cons_zero, List.set_cons_succ, i64_w, i32_w]
                 rfl
                refine take_ (i := 36) (N := some 179) (v := ?_) (a' := ?_) #[true, true, true, true, true, true, true, true, true, true, true, true, true, true, true, true, true, true, true, true, true, true, true, true, true, true, true, true, true, true, true, true, true, true, true, true, true, true, true, false, false, false, false] rfl rfl (take_ofW HT_.out HW_.out (by kernel_rfl)) (fun _ _ _ h => h) (Or.inl ⟨by rfl, ?_⟩) hHeld ?_ ?_
                rotate_left
                ·
                 rintro w' ⟨s0, s1, s2⟩
                 go_simp
                 with_reducible rfl
                rotate_left
                ·
                 simp only [Act.put, List.setIfInBounds_toArray, List.set_cons_zero, List.set_cons_succ, i64_w, i32_w]
                 rfl
                refine take_ (i := 39) (N := some 182) (v := ?_) (a' := ?_) #[true, true, true, true, true, true, true, true, true, true, true, true, true, true, true, true, true, true, true, true, true, true, true, true, true, true, true, true, true, true, true, true, true, true, true, true, true, true, true, true, false, false, false] rfl rfl (take_ofW HT_.out HW_.out (by kernel_rfl)) (fun _ _ _ h => h) (Or.inl ⟨by rfl, ?_⟩) hHeld ?_ ?_
                rotate_left
                ·
                 rintro w' ⟨s0, s1, s2⟩
                 go_simp
                 with_reducible rfl
                rotate_left
                ·
                 simp only [Act.put, List.setIfInBounds_toArray, List.set_cons_zero, List.set_cons_succ, i64_w, i32_w]
                 rfl
                refine pure_ (i := 40) (N := some 183) (v := ?_) (a' := ?_) #[true, true, true, true, true, true, true, true, true, true, true, true, true, true, true, true, true, true, true, true, true, true, true, true, true, true, true, true, true, true, true, true, true, true, true, true, true, true, true, true, true, false, false] rfl rfl (any_of HT_.out (by kernel_rfl)) (fun _ _ _ h => h) (Or.inl ⟨by rfl, ?_⟩) ?_ ?_
                rotate_left
                ·
                 intro w'
                 go_simp
                 with_reducible rfl
                rotate_left
                ·
                 simp only [Act.put, List.setIfInBounds_toArray, List.set_cons_zero, List.set_cons_succ, i64_w, i32_w]
                 rfl
                refine pure_ (i := 41) (N := some 184) (v := ?_) (a' := ?_) #[true, true, true, true, true, true, true, true, true, true, true, true, true, true, true, true, true, true, true, true, true, true, true, true, true, true, true, true, true, true, true, true, true, true, true, true, true, true, true, true, true, true, false] rfl rfl (any_of HT_.out (by kernel_rfl)) (fun _ _ _ h => h) (Or.inl ⟨by rfl, ?_⟩) ?_ ?_
                rotate_left
                ·
                 intro w'
                 go_simp
                 with_reducible rfl
                rotate_left
                ·
                 simp only [Act.put, List.setIfInBounds_toArray, List.set_cons_zero, List.set_cons_succ, i64_w, i32_w]
                 rfl
                refine pure_ (i := 42) (N := some 185) (v := ?_) (a' := ?_) #[true, true, true, true, true, true, true, true, true, true, true, true, true, true, true, true, true, true, true, true, true, true, true, true, true, true, true, true, true, true, true, true, true, true, true, true, true, true, true, true, true, true, true] rfl rfl (any_of HT_.out (by kernel_rfl)) (fun _ _ _ h => h) (Or.inl ⟨by rfl, ?_⟩) ?_ ?_
                rotate_left
                ·
                 intro w'
                 go_simp
                 with_reducible rfl
                rotate_left
                ·
                 simp only [Act.put, List.setIfInBounds_toArray, List.set_cons_zero, List.set_cons_succ, i64_w, i32_w]
                 rfl
                refine done_ (done_of HT_.out (by kernel_rfl)) ?_
                try go_wp2
                refine cutMeet hJ_ ?_ (by kernel_rfl)
                exact ⟨_, H', ⟨by have := HJ6.out; have := HJ15.out; first | omega | exact Nat.le_refl _⟩, ⟨by repeat (first | (with_reducible first | exact HB.out | apply below_alloc | apply pw_below_drewN | apply below_drew1))⟩⟩
               rw [if_neg c75] at H
               have c75b0 : ((rd t338 0) == (wrap64 ((rd l0 0) * (rd l1 0)))) = false := beq_eq_false_iff_ne.mpr c75
               have c75b1 : ((rd t338 0) != (wrap64 ((rd l0 0) * (rd l1 0)))) = true := bne_iff_ne.mpr c75
               exact absurd (Option.some.inj (H.trans (congrArg some HRT.out))) Bool.false_ne_true
              rw [if_neg c74] at H
              exact absurd H (by simp)
             rw [if_neg c73] at H
             exact absurd H (by simp)
            rw [if_neg c72] at H
            exact absurd H (by simp)
           replace c40 := Bool.eq_false_iff.mpr c40
           subst c40
           have H1 : (some false) = some r := by rw [if_neg (show ¬ (false = true) by decide)] at H; exact H
           clear H
           have H := H1
           clear H1
           exact absurd (Option.some.inj (H.trans (congrArg some HRT.out))) Bool.false_ne_true
          replace c39 := Bool.eq_false_iff.mpr c39
          subst c39
          have H1 : (some false) = some r := by rw [if_neg (show ¬ (false = true) by decide)] at H; exact H
          clear H
          have H := H1
          clear H1
          exact absurd (Option.some.inj (H.trans (congrArg some HRT.out))) Bool.false_ne_true
         replace c38 := Bool.eq_false_iff.mpr c38
         subst c38
         have H1 : (some false) = some r := by rw [if_neg (show ¬ (false = true) by decide)] at H; exact H
         clear H
         have H := H1
         clear H1
         exact absurd (Option.some.inj (H.trans (congrArg some HRT.out))) Bool.false_ne_true
        replace c36 := Bool.eq_false_iff.mpr c36
        subst c36
        have H1 : (some false) = some r := by rw [if_neg (show ¬ (false = true) by decide)] at H; exact H
        clear H
        have H := H1
        clear H1
        exact absurd (Option.some.inj (H.trans (congrArg some HRT.out))) Bool.false_ne_true
       replace c35 := Bool.eq_false_iff.mpr c35
       subst c35
       have H1 : (some false) = some r := by rw [if_neg (show ¬ (false = true) by decide)] at H; exact H
       clear H
       have H := H1
       clear H1
       exact absurd (Option.some.inj (H.trans (congrArg some HRT.out))) Bool.false_ne_true
      replace c31 := Bool.eq_false_iff.mpr c31
      subst c31
      have H1 : (j2 kj15 l2 a3 a4 l5) = some r := by rw [if_neg (show ¬ (false = true) by decide)] at H; exact H
      clear H
      have H := H1
      clear H1
      have H' := Aside0.mk H
      clear H
      go_wp2
      refine cutMeet hJ_ ?_ (by kernel_rfl)
      exact ⟨_, H', ⟨by have := HJ6.out; have := HJ15.out; first | omega | exact Nat.le_refl _⟩, ⟨by repeat (first | (with_reducible first | exact HB.out | apply below_alloc | apply pw_below_drewN | apply below_drew1))⟩⟩
    intro u_ wc hcut
    clear HC30
    obtain ⟨kq, HA, HJ29, HB⟩ := hcut
    dsimp only [cutFgt, mk0]
    cases kq with
    | zero => exact absurd HA.out (by simp [j2])
    | succ kj29 =>
     have H := HA.out
     clear HA
     simp only [j2] at H
     replace H := Option.bind_eq_some_iff.mp H
     obtain ⟨⟨t369, t370⟩, A1020, H⟩ := H
     try dsimp only at H
     have A102 := Aside0.mk A1020
     clear A1020
     replace H := Option.bind_eq_some_iff.mp H
     obtain ⟨⟨t373, t374⟩, A1030, H⟩ := H
     replace H : ((impl_SumOverDivisors.f kj29 l2).bind fun bt377 => ((spec_SumOverDivisors.f kj29 l2).bind fun bt381 => (if (t370 != t374) = true then (j3 kj29 l2 a3 a4 l5 t369 t370 bt377.1 bt377.2 true) else ((laws_gSame.f kj29 t369 t373).bind fun t385 => (if t385 = true then (if (bt377.2 != bt381.2) = true then (j3 kj29 l2 a3 a4 l5 t369 t370 bt377.1 bt377.2 true) else ((laws_gSame.f kj29 bt377.1 bt381.1).bind fun t386 => (j3 kj29 l2 a3 a4 l5 t369 t370 bt377.1 bt377.2 (!t386)))) else (j3 kj29 l2 a3 a4 l5 t369 t370 bt377.1 bt377.2 true)))))) = some r := H
     have A103 := Aside0.mk A1030
     clear A1030
     replace H := Option.bind_eq_some_iff.mp H
     obtain ⟨⟨t377, t378⟩, A1040, H⟩ := H
     replace H : ((spec_SumOverDivisors.f kj29 l2).bind fun bt381 => (if (t370 != t374) = true then (j3 kj29 l2 a3 a4 l5 t369 t370 t377 t378 true) else ((laws_gSame.f kj29 t369 t373).bind fun t385 => (if t385 = true then (if (t378 != bt381.2) = true then (j3 kj29 l2 a3 a4 l5 t369 t370 t377 t378 true) else ((laws_gSame.f kj29 t377 bt381.1).bind fun t386 => (j3 kj29 l2 a3 a4 l5 t369 t370 t377 t378 (!t386)))) else (j3 kj29 l2 a3 a4 l5 t369 t370 t377 t378 true))))) = some r := H
     have A104 := Aside0.mk A1040
     clear A1040
     replace H := Option.bind_eq_some_iff.mp H
     obtain ⟨⟨t381, t382⟩, A1050, H⟩ := H
     replace H : (if (t370 != t374) = true then (j3 kj29 l2 a3 a4 l5 t369 t370 t377 t378 true) else ((laws_gSame.f kj29 t369 t373).bind fun t385 => (if t385 = true then (if (t378 != t382) = true then (j3 kj29 l2 a3 a4 l5 t369 t370 t377 t378 true) else ((laws_gSame.f kj29 t377 t381).bind fun t386 => (j3 kj29 l2 a3 a4 l5 t369 t370 t377 t378 (!t386)))) else (j3 kj29 l2 a3 a4 l5 t369 t370 t377 t378 true)))) = some r := H
     have A105 := Aside0.mk A1050
     clear A1050
     have HC106 := Aside0.mk H
     clear H
     go_upto_region 19 with (first | ((with_reducible refine gate_callee (f := 98) rfl ?_); refine goesL_ (some 188) rfl rfl Try.func98 (by kernel_rfl) rfl #[.slice A2 l2.length c2] rfl (by (try simp only [List.map_toArray, List.map_cons, List.map_nil]); first | done | rfl | (simp only [List.length_drop, List.length_take]; rfl)) ?_; (with_reducible refine (impl_UndoTable.calls kj29 _ _ l2 t369 t370 _ ?side1 ?side2 A102.out).mono ?_); (case side1 => repeat (first | exact (Kd.C_below HR2.out HB.out) | (with_reducible refine Kd.C_alloc ?_ _) | (with_reducible refine Kd.C_drewN ?_ _) | (with_reducible refine Kd.C_drew ?_))); (case side2 => exact HC2.out); rintro e w107 ⟨v371, rfl, ho0, hb⟩; refine ⟨_, rfl, ?_⟩; have n0_ := Aside0.mk (Kd.R_lower ho0 (below_size (by repeat (first | (with_reducible first | exact HB.out | apply below_alloc | apply pw_below_drewN | apply below_drew1))))); have n1_ := Aside0.mk (below_step (by repeat (first | (with_reducible first | exact HB.out | apply below_alloc | apply pw_below_drewN | apply below_drew1))) hb); clear HB; have HO372 := n0_; have HB := n1_; clear n0_ n1_; (try clear hb); (try clear ho0)) | ((with_reducible refine gate_callee (f := 99) rfl ?_); refine goesL_ (some 193) rfl rfl Try.func99 (by kernel_rfl) rfl #[.slice A2 l2.length c2] rfl (by (try simp only [List.map_toArray, List.map_cons, List.map_nil]); first | done | rfl | (simp only [List.length_drop, List.length_take]; rfl)) ?_; (with_reducible refine (spec_UndoTable.calls kj29 _ _ l2 t373 t374 _ ?side1 ?side2 A103.out).mono ?_); (case side1 => repeat (first | exact (Kd.C_below HR2.out HB.out) | (with_reducible refine Kd.C_alloc ?_ _) | (with_reducible refine Kd.C_drewN ?_ _) | (with_reducible refine Kd.C_drew ?_))); (case side2 => exact HC2.out); rintro e w108 ⟨v375, rfl, ho0, hb⟩; refine ⟨_, rfl, ?_⟩; have n0_ := Aside0.mk (Kd.R_elder' (by (with_reducible repeat (first | apply Kd.R_alloc | apply Kd.R_drewN | apply Kd.R_drew)); exact HO372.out) (Kd.R_base ho0) hb); have n1_ := Aside0.mk (Kd.R_lower (Kd.R_new' ho0 (Kd.R_lt (by (with_reducible repeat (first | apply Kd.R_alloc | apply Kd.R_drewN | apply Kd.R_drew)); exact HO372.out))) (below_size (by repeat (first | (with_reducible first | exact HB.out | apply below_alloc | apply pw_below_drewN | apply below_drew1))))); have n2_ := Aside0.mk (below_step (by repeat (first | (with_reducible first | exact HB.out | apply below_alloc | apply pw_below_drewN | apply below_drew1))) hb); clear HO372; clear HB; have HO372 := n0_; have HO376 := n1_; have HB := n2_; clear n0_ n1_ n2_; (try clear hb); (try clear ho0)) | ((with_reducible refine gate_callee (f := 100) rfl ?_); refine goesL_ (some 198) rfl rfl Try.func100 (by kernel_rfl) rfl #[.slice A2 l2.length c2] rfl (by (try simp only [List.map_toArray, List.map_cons, List.map_nil]); first | done | rfl | (simp only [List.length_drop, List.length_take]; rfl)) ?_; (with_reducible refine (impl_SumOverDivisors.calls kj29 _ _ l2 t377 t378 _ ?side1 ?side2 A104.out).mono ?_); (case side1 => repeat (first | exact (Kd.C_below HR2.out HB.out) | (with_reducible refine Kd.C_alloc ?_ _) | (with_reducible refine Kd.C_drewN ?_ _) | (with_reducible refine Kd.C_drew ?_))); (case side2 => exact HC2.out); rintro e w109 ⟨v379, rfl, ho0, hb⟩; refine ⟨_, rfl, ?_⟩; have n0_ := Aside0.mk (Kd.R_elder' (by (with_reducible repeat (first | apply Kd.R_alloc | apply Kd.R_drewN | apply Kd.R_drew)); exact HO372.out) (Kd.R_base ho0) hb); have n1_ := Aside0.mk (Kd.R_elder' (by (with_reducible repeat (first | apply Kd.R_alloc | apply Kd.R_drewN | apply Kd.R_drew)); exact HO376.out) (Kd.R_base ho0) hb); have n2_ := Aside0.mk (Kd.R_lower (Kd.R_new' (Kd.R_new' ho0 (Kd.R_lt (by (with_reducible repeat (first | apply Kd.R_alloc | apply Kd.R_drewN | apply Kd.R_drew)); exact HO372.out))) (Kd.R_lt (by (with_reducible repeat (first | apply Kd.R_alloc | apply Kd.R_drewN | apply Kd.R_drew)); exact HO376.out))) (below_size (by repeat (first | (with_reducible first | exact HB.out | apply below_alloc | apply pw_below_drewN | apply below_drew1))))); have n3_ := Aside0.mk (below_step (by repeat (first | (with_reducible first | exact HB.out | apply below_alloc | apply pw_below_drewN | apply below_drew1))) hb); clear HO372; clear HO376; clear HB; have HO372 := n0_; have HO376 := n1_; have HO380 := n2_; have HB := n3_; clear n0_ n1_ n2_ n3_; (try clear hb); (try clear ho0)) | ((with_reducible refine gate_callee (f := 101) rfl ?_); refine goesL_ (some 203) rfl rfl Try.func101 (by kernel_rfl) rfl #[.slice A2 l2.length c2] rfl (by (try simp only [List.map_toArray, List.map_cons, List.map_nil]); first | done | rfl | (simp only [List.length_drop, List.length_take]; rfl)) ?_; (with_reducible refine (spec_SumOverDivisors.calls kj29 _ _ l2 t381 t382 _ ?side1 ?side2 A105.out).mono ?_); (case side1 => repeat (first | exact (Kd.C_below HR2.out HB.out) | (with_reducible refine Kd.C_alloc ?_ _) | (with_reducible refine Kd.C_drewN ?_ _) | (with_reducible refine Kd.C_drew ?_))); (case side2 => exact HC2.out); rintro e w110 ⟨v383, rfl, ho0, hb⟩; refine ⟨_, rfl, ?_⟩; have n0_ := Aside0.mk (Kd.R_elder' (by (with_reducible repeat (first | apply Kd.R_alloc | apply Kd.R_drewN | apply Kd.R_drew)); exact HO372.out) (Kd.R_base ho0) hb); have n1_ := Aside0.mk (Kd.R_elder' (by (with_reducible repeat (first | apply Kd.R_alloc | apply Kd.R_drewN | apply Kd.R_drew)); exact HO376.out) (Kd.R_base ho0) hb); have n2_ := Aside0.mk (Kd.R_elder' (by (with_reducible repeat (first | apply Kd.R_alloc | apply Kd.R_drewN | apply Kd.R_drew)); exact HO380.out) (Kd.R_base ho0) hb); have n3_ := Aside0.mk (Kd.R_lower (Kd.R_new' (Kd.R_new' (Kd.R_new' ho0 (Kd.R_lt (by (with_reducible repeat (first | apply Kd.R_alloc | apply Kd.R_drewN | apply Kd.R_drew)); exact HO372.out))) (Kd.R_lt (by (with_reducible repeat (first | apply Kd.R_alloc | apply Kd.R_drewN | apply Kd.R_drew)); exact HO376.out))) (Kd.R_lt (by (with_reducible repeat (first | apply Kd.R_alloc | apply Kd.R_drewN | apply Kd.R_drew)); exact HO380.out))) (below_size (by repeat (first | (with_reducible first | exact HB.out | apply below_alloc | apply pw_below_drewN | apply below_drew1))))); have n4_ := Aside0.mk (below_step (by repeat (first | (with_reducible first | exact HB.out | apply below_alloc | apply pw_below_drewN | apply below_drew1))) hb); clear HO372; clear HO376; clear HO380; clear HB; have HO372 := n0_; have HO376 := n1_; have HO380 := n2_; have HO384 := n3_; have HB := n4_; clear n0_ n1_ n2_ n3_ n4_; (try clear hb); (try clear ho0)))
     (try simp only [Act.put, List.setIfInBounds_toArray, List.set_cons_zero, List.set_cons_succ])
     refine cutF mk0 [] (fun u_ wc => ∃ (kq : Nat) (x225_105 : Bool), (u_ 225) = .bool x225_105 ∧ Aside0 (j3 kq l2 a3 a4 l5 t369 t370 t377 t378 x225_105 = some r) ∧ Aside0 (kq ≤ kj29) ∧ Aside0 (Kd.R (Kd.int .i64) 3 wc w.heap.size (fun k_ => some k_ ≠ (v379 : Value).ownBlock) v371 t369) ∧ Aside0 (Kd.R (Kd.int .i64) 3 wc w.heap.size (fun k_ => some k_ ≠ (v371 : Value).ownBlock) v379 t377) ∧ Aside0 (Below w.heap.size w wc)) ?_ ?_
     ·
      as_aux_lemma =>
       intro J_ K_ hJ_ hK_
       have H := HC106.out
       clear HC106
       by_cases c111 : (t370 != t374) = true
       ·
        rw [if_pos c111] at H
        exact (laws_FnTablesMultipliedOfAll.j3_no _ _ _ _ _ _ _ _ _ (H.trans (congrArg some HRT.out))).elim
       rw [if_neg c111] at H
       have c111b0 : (t370 != t374) = false := by simpa using c111
       (try (have c111b1 : decide (t370 = t374) = true := by simpa using c111))
       (try (have c111b2 : (t370 == t374) = true := by simpa using c111))
       clear c111
       (first | rw [c111b0] | (simp only [i64_w, i32_w]; rw [c111b0]) | skip)
       replace H := Option.bind_eq_some_iff.mp H
       obtain ⟨t385, A1120, H⟩ := H
       replace H : (if t385 = true then (if (t378 != t382) = true then (j3 kj29 l2 a3 a4 l5 t369 t370 t377 t378 true) else ((laws_gSame.f kj29 t377 t381).bind fun t386 => (j3 kj29 l2 a3 a4 l5 t369 t370 t377 t378 (!t386)))) else (j3 kj29 l2 a3 a4 l5 t369 t370 t377 t378 true)) = some r := H
       have A112 := Aside0.mk A1120
       clear A1120
       by_cases c113 : t385 = true
       ·
        subst c113
        have H1 : (if (t378 != t382) = true then (j3 kj29 l2 a3 a4 l5 t369 t370 t377 t378 true) else ((laws_gSame.f kj29 t377 t381).bind fun t386 => (j3 kj29 l2 a3 a4 l5 t369 t370 t377 t378 (!t386)))) = some r := by rw [if_pos rfl] at H; exact H
        clear H
        have H := H1
        clear H1
        by_cases c114 : (t378 != t382) = true
        ·
         rw [if_pos c114] at H
         exact (laws_FnTablesMultipliedOfAll.j3_no _ _ _ _ _ _ _ _ _ (H.trans (congrArg some HRT.out))).elim
        rw [if_neg c114] at H
        have c114b0 : (t378 != t382) = false := by simpa using c114
        (try (have c114b1 : decide (t378 = t382) = true := by simpa using c114))
        (try (have c114b2 : (t378 == t382) = true := by simpa using c114))
        clear c114
        replace H := Option.bind_eq_some_iff.mp H
        obtain ⟨t386, A1170, H⟩ := H
        replace H : (j3 kj29 l2 a3 a4 l5 t369 t370 t377 t378 (!t386)) = some r := H
        have A117 := Aside0.mk A1170
        clear A1170
        have H' := Aside0.mk H
        clear H
        obtain ⟨Ao118, co118, eo118⟩ := Kd.R_slice HO372.out
        subst eo118
        obtain ⟨Ao119, co119, eo119⟩ := Kd.R_slice HO376.out
        subst eo119
        go_wp2_with (first | (go_at_call 75; (with_reducible refine (laws_gSame.calls kj29 _ _ t369 _ _ t373 true _ ?side1 ?side2 ?side3 ?side4 A112.out).mono ?_); (case side1 => repeat (first | exact (Kd.R_reads' HO372.out).2.2 | (with_reducible refine Kd.C_alloc ?_ _) | (with_reducible refine Kd.C_drewN ?_ _) | (with_reducible refine Kd.C_drew ?_))); (case side2 => exact (Kd.R_reads' HO372.out).2.1); (case side3 => repeat (first | exact (Kd.R_reads' HO376.out).2.2 | (with_reducible refine Kd.C_alloc ?_ _) | (with_reducible refine Kd.C_drewN ?_ _) | (with_reducible refine Kd.C_drew ?_))); (case side4 => exact (Kd.R_reads' HO376.out).2.1); rintro e w' ⟨rfl, ⟨nd, rfl⟩⟩; obtain ⟨Ao120, co120, eo120⟩ := Kd.R_slice HO380.out; subst eo120; obtain ⟨Ao121, co121, eo121⟩ := Kd.R_slice HO384.out; subst eo121) | (go_at_call 75; (with_reducible refine (laws_gSame.calls kj29 _ _ t377 _ _ t381 t386 _ ?side1 ?side2 ?side3 ?side4 A117.out).mono ?_); (case side1 => repeat (first | exact (Kd.R_reads' HO380.out).2.2 | (with_reducible refine Kd.C_alloc ?_ _) | (with_reducible refine Kd.C_drewN ?_ _) | (with_reducible refine Kd.C_drew ?_))); (case side2 => exact (Kd.R_reads' HO380.out).2.1); (case side3 => repeat (first | exact (Kd.R_reads' HO384.out).2.2 | (with_reducible refine Kd.C_alloc ?_ _) | (with_reducible refine Kd.C_drewN ?_ _) | (with_reducible refine Kd.C_drew ?_))); (case side4 => exact (Kd.R_reads' HO384.out).2.1); rintro e w' ⟨rfl, ⟨nd, rfl⟩⟩))
        refine cutMeet hJ_ ?_ (by kernel_rfl)
        exact ⟨_, (!t386), (by first | rfl | (simp; done) | (simp [*]; done)), H', ⟨by have := HJ6.out; have := HJ15.out; have := HJ29.out; first | omega | exact Nat.le_refl _⟩, ⟨by (with_reducible repeat (first | apply Kd.R_alloc | apply Kd.R_drewN | apply Kd.R_drew)); exact Kd.R_mono HO372.out (fun _ hk => hk.1.2)⟩, ⟨by (with_reducible repeat (first | apply Kd.R_alloc | apply Kd.R_drewN | apply Kd.R_drew)); exact Kd.R_mono HO380.out (fun _ hk => hk.1.1.2)⟩, ⟨by repeat (first | (with_reducible first | exact HB.out | apply below_alloc | apply pw_below_drewN | apply below_drew1))⟩⟩
       replace c113 := Bool.eq_false_iff.mpr c113
       subst c113
       have H1 : (j3 kj29 l2 a3 a4 l5 t369 t370 t377 t378 true) = some r := by rw [if_neg (show ¬ (false = true) by decide)] at H; exact H
       clear H
       have H := H1
       clear H1
       exact (laws_FnTablesMultipliedOfAll.j3_no _ _ _ _ _ _ _ _ _ (H.trans (congrArg some HRT.out))).elim
     intro u_ wc hcut
     clear HC106
     obtain ⟨kq, x225_105, e_225, HA, HJ105, HO_27, HO_31, HB⟩ := hcut
     dsimp only [cutFgt, mk0]
     rw [e_225]
     cases kq with
     | zero => exact absurd HA.out (by simp [j3])
     | succ kj105 =>
      have H := HA.out
      clear HA
      simp only [j3] at H
      by_cases c124 : x225_105 = true
      ·
       subst c124
       have H1 : (some false) = some r := by rw [if_pos rfl] at H; exact H
       clear H
       have H := H1
       clear H1
       exact absurd (Option.some.inj (H.trans (congrArg some HRT.out))) Bool.false_ne_true
      replace c124 := Bool.eq_false_iff.mpr c124
      subst c124
      have H1 : (if t370 = true then ((impl_TableOf.f kj105 6 (l2.length : Int)).bind fun bt387 => ((impl_OverDivisors.f kj105 l2 t369).bind fun bt391 => ((impl_UndoTable.f kj105 t369).bind fun bt395 => (if bt387.2 = true then (if bt391.2 = true then ((laws_gSame.f kj105 bt391.1 bt387.1).bind fun t399 => (if t399 = true then (if bt395.2 = true then ((laws_gSame.f kj105 bt395.1 l2).bind fun t400 => (if t400 = true then (j4 kj105 l2 a3 a4 l5 t377 t378) else (some false))) else (some false)) else (some false))) else (some false)) else (some false))))) else (j4 kj105 l2 a3 a4 l5 t377 t378)) = some r := by rw [if_neg (show ¬ (false = true) by decide)] at H; exact H
      clear H
      have H := H1
      clear H1
      have HC125 := Aside0.mk H
      clear H
      go_upto_if 226 with (fail)
      refine cutF mk0 [none, none, none, none, none, none, none, none, none, none, none, none, some 12, none, none, none, none, none, none, none, none, none, none, none, none, none, none, none, none, none, none, none, none, none, none, some 35, some 36, some 37, some 38, some 39, some 40] (fun u_ wc => ∃ (kq : Nat), Aside0 (j4 kq l2 a3 a4 l5 t377 t378 = some r) ∧ Aside0 (kq ≤ kj105) ∧ Aside0 (Kd.R (Kd.int .i64) 3 wc w.heap.size (fun _ => True) v379 t377) ∧ Aside0 (Below w.heap.size w wc)) ?_ ?_
      ·
       as_aux_lemma =>
        intro J_ K_ hJ_ hK_
        have H := HC125.out
        clear HC125
        by_cases c126 : t370 = true
        ·
         subst c126
         have H1 : ((impl_TableOf.f kj105 6 (l2.length : Int)).bind fun bt387 => ((impl_OverDivisors.f kj105 l2 t369).bind fun bt391 => ((impl_UndoTable.f kj105 t369).bind fun bt395 => (if bt387.2 = true then (if bt391.2 = true then ((laws_gSame.f kj105 bt391.1 bt387.1).bind fun t399 => (if t399 = true then (if bt395.2 = true then ((laws_gSame.f kj105 bt395.1 l2).bind fun t400 => (if t400 = true then (j4 kj105 l2 a3 a4 l5 t377 t378) else (some false))) else (some false)) else (some false))) else (some false)) else (some false))))) = some r := by rw [if_pos rfl] at H; exact H
         clear H
         have H := H1
         clear H1
         replace H := Option.bind_eq_some_iff.mp H
         obtain ⟨⟨t387, t388⟩, A1270, H⟩ := H
         replace H : ((impl_OverDivisors.f kj105 l2 t369).bind fun bt391 => ((impl_UndoTable.f kj105 t369).bind fun bt395 => (if t388 = true then (if bt391.2 = true then ((laws_gSame.f kj105 bt391.1 t387).bind fun t399 => (if t399 = true then (if bt395.2 = true then ((laws_gSame.f kj105 bt395.1 l2).bind fun t400 => (if t400 = true then (j4 kj105 l2 a3 a4 l5 t377 t378) else (some false))) else (some false)) else (some false))) else (some false)) else (some false)))) = some r := H
         have A127 := Aside0.mk A1270
         clear A1270
         replace H := Option.bind_eq_some_iff.mp H
         obtain ⟨⟨t391, t392⟩, A1280, H⟩ := H
         replace H : ((impl_UndoTable.f kj105 t369).bind fun bt395 => (if t388 = true then (if t392 = true then ((laws_gSame.f kj105 t391 t387).bind fun t399 => (if t399 = true then (if bt395.2 = true then ((laws_gSame.f kj105 bt395.1 l2).bind fun t400 => (if t400 = true then (j4 kj105 l2 a3 a4 l5 t377 t378) else (some false))) else (some false)) else (some false))) else (some false)) else (some false))) = some r := H
         have A128 := Aside0.mk A1280
         clear A1280
         replace H := Option.bind_eq_some_iff.mp H
         obtain ⟨⟨t395, t396⟩, A1290, H⟩ := H
         replace H : (if t388 = true then (if t392 = true then ((laws_gSame.f kj105 t391 t387).bind fun t399 => (if t399 = true then (if t396 = true then ((laws_gSame.f kj105 t395 l2).bind fun t400 => (if t400 = true then (j4 kj105 l2 a3 a4 l5 t377 t378) else (some false))) else (some false)) else (some false))) else (some false)) else (some false)) = some r := H
         have A129 := Aside0.mk A1290
         clear A1290
         by_cases c130 : t388 = true
         ·
          subst c130
          have H1 : (if t392 = true then ((laws_gSame.f kj105 t391 t387).bind fun t399 => (if t399 = true then (if t396 = true then ((laws_gSame.f kj105 t395 l2).bind fun t400 => (if t400 = true then (j4 kj105 l2 a3 a4 l5 t377 t378) else (some false))) else (some false)) else (some false))) else (some false)) = some r := by rw [if_pos rfl] at H; exact H
          clear H
          have H := H1
          clear H1
          by_cases c131 : t392 = true
          ·
           subst c131
           have H1 : ((laws_gSame.f kj105 t391 t387).bind fun t399 => (if t399 = true then (if t396 = true then ((laws_gSame.f kj105 t395 l2).bind fun t400 => (if t400 = true then (j4 kj105 l2 a3 a4 l5 t377 t378) else (some false))) else (some false)) else (some false))) = some r := by rw [if_pos rfl] at H; exact H
           clear H
           have H := H1
           clear H1
           replace H := Option.bind_eq_some_iff.mp H
           obtain ⟨t399, A1320, H⟩ := H
           replace H : (if t399 = true then (if t396 = true then ((laws_gSame.f kj105 t395 l2).bind fun t400 => (if t400 = true then (j4 kj105 l2 a3 a4 l5 t377 t378) else (some false))) else (some false)) else (some false)) = some r := H
           have A132 := Aside0.mk A1320
           clear A1320
           by_cases c133 : t399 = true
           ·
            subst c133
            have H1 : (if t396 = true then ((laws_gSame.f kj105 t395 l2).bind fun t400 => (if t400 = true then (j4 kj105 l2 a3 a4 l5 t377 t378) else (some false))) else (some false)) = some r := by rw [if_pos rfl] at H; exact H
            clear H
            have H := H1
            clear H1
            by_cases c134 : t396 = true
            ·
             subst c134
             have H1 : ((laws_gSame.f kj105 t395 l2).bind fun t400 => (if t400 = true then (j4 kj105 l2 a3 a4 l5 t377 t378) else (some false))) = some r := by rw [if_pos rfl] at H; exact H
             clear H
             have H := H1
             clear H1
             replace H := Option.bind_eq_some_iff.mp H
             obtain ⟨t400, A1350, H⟩ := H
             replace H : (if t400 = true then (j4 kj105 l2 a3 a4 l5 t377 t378) else (some false)) = some r := H
             have A135 := Aside0.mk A1350
             clear A1350
             by_cases c136 : t400 = true
             ·
              subst c136
              have H1 : (j4 kj105 l2 a3 a4 l5 t377 t378) = some r := by rw [if_pos rfl] at H; exact H
              clear H
              have H := H1
              clear H1
              have H' := Aside0.mk H
              clear H
              go_wp2_with (first | ((with_reducible refine gate_callee (f := 102) rfl ?_); refine goesL_ (some 230) rfl rfl Try.func102 (by kernel_rfl) rfl #[.int .i64 6, .int .i64 (l2.length : Int)] rfl (by (try simp only [List.map_toArray, List.map_cons, List.map_nil]); first | done | rfl | (simp only [List.length_drop, List.length_take]; rfl)) ?_; (with_reducible refine (impl_TableOf.calls kj105 6 (l2.length : Int) t387 true _ A127.out).mono ?_); rintro e w137 ⟨v389, rfl, ho0, hb⟩; refine ⟨_, rfl, ?_⟩; have n0_ := Aside0.mk (Kd.R_elder' (by (with_reducible repeat (first | apply Kd.R_alloc | apply Kd.R_drewN | apply Kd.R_drew)); exact HO_27.out) (Kd.R_base ho0) hb); have n1_ := Aside0.mk (Kd.R_elder' (by (with_reducible repeat (first | apply Kd.R_alloc | apply Kd.R_drewN | apply Kd.R_drew)); exact HO_31.out) (Kd.R_base ho0) hb); have n2_ := Aside0.mk (Kd.R_lower (Kd.R_new' (Kd.R_new' ho0 (Kd.R_lt (by (with_reducible repeat (first | apply Kd.R_alloc | apply Kd.R_drewN | apply Kd.R_drew)); exact HO_27.out))) (Kd.R_lt (by (with_reducible repeat (first | apply Kd.R_alloc | apply Kd.R_drewN | apply Kd.R_drew)); exact HO_31.out))) (below_size (by repeat (first | (with_reducible first | exact HB.out | apply below_alloc | apply pw_below_drewN | apply below_drew1))))); have n3_ := Aside0.mk (below_step (by repeat (first | (with_reducible first | exact HB.out | apply below_alloc | apply pw_below_drewN | apply below_drew1))) hb); clear HO_27; clear HO_31; clear HB; have HO_27 := n0_; have HO_31 := n1_; have HO390 := n2_; have HB := n3_; clear n0_ n1_ n2_ n3_; (try clear hb); (try clear ho0); obtain ⟨Ao138, co138, eo138⟩ := Kd.R_slice HO_27.out; subst eo138) | ((with_reducible refine gate_callee (f := 94) rfl ?_); refine goesL_ (some 236) rfl rfl Try.func94 (by kernel_rfl) rfl #[.slice A2 l2.length c2, .slice Ao138 t369.length co138] rfl (by (try simp only [List.map_toArray, List.map_cons, List.map_nil]); first | done | rfl | (simp only [List.length_drop, List.length_take]; rfl)) ?_; (with_reducible refine (impl_OverDivisors.calls kj105 _ _ l2 _ _ t369 t391 true _ ?side1 ?side2 ?side3 ?side4 A128.out).mono ?_); (case side1 => repeat (first | exact (Kd.C_below HR2.out HB.out) | (with_reducible refine Kd.C_alloc ?_ _) | (with_reducible refine Kd.C_drewN ?_ _) | (with_reducible refine Kd.C_drew ?_))); (case side2 => exact HC2.out); (case side3 => repeat (first | exact (Kd.R_reads' HO_27.out).2.2 | (with_reducible refine Kd.C_alloc ?_ _) | (with_reducible refine Kd.C_drewN ?_ _) | (with_reducible refine Kd.C_drew ?_))); (case side4 => exact (Kd.R_reads' HO_27.out).2.1); rintro e w139 ⟨v393, rfl, ho0, hb⟩; refine ⟨_, rfl, ?_⟩; have n0_ := Aside0.mk (Kd.R_elder' (by (with_reducible repeat (first | apply Kd.R_alloc | apply Kd.R_drewN | apply Kd.R_drew)); exact HO_27.out) (Kd.R_base ho0) hb); have n1_ := Aside0.mk (Kd.R_elder' (by (with_reducible repeat (first | apply Kd.R_alloc | apply Kd.R_drewN | apply Kd.R_drew)); exact HO_31.out) (Kd.R_base ho0) hb); have n2_ := Aside0.mk (Kd.R_elder' (by (with_reducible repeat (first | apply Kd.R_alloc | apply Kd.R_drewN | apply Kd.R_drew)); exact HO390.out) (Kd.R_base ho0) hb); have n3_ := Aside0.mk (Kd.R_lower (Kd.R_new' (Kd.R_new' (Kd.R_new' ho0 (Kd.R_lt (by (with_reducible repeat (first | apply Kd.R_alloc | apply Kd.R_drewN | apply Kd.R_drew)); exact HO_27.out))) (Kd.R_lt (by (with_reducible repeat (first | apply Kd.R_alloc | apply Kd.R_drewN | apply Kd.R_drew)); exact HO_31.out))) (Kd.R_lt (by (with_reducible repeat (first | apply Kd.R_alloc | apply Kd.R_drewN | apply Kd.R_drew)); exact HO390.out))) (below_size (by repeat (first | (with_reducible first | exact HB.out | apply below_alloc | apply pw_below_drewN | apply below_drew1))))); have n4_ := Aside0.mk (below_step (by repeat (first | (with_reducible first | exact HB.out | apply below_alloc | apply pw_below_drewN | apply below_drew1))) hb); clear HO_27; clear HO_31; clear HO390; clear HB; have HO_27 := n0_; have HO_31 := n1_; have HO390 := n2_; have HO394 := n3_; have HB := n4_; clear n0_ n1_ n2_ n3_ n4_; (try clear hb); (try clear ho0)) | ((with_reducible refine gate_callee (f := 98) rfl ?_); refine goesL_ (some 241) rfl rfl Try.func98 (by kernel_rfl) rfl #[.slice Ao138 t369.length co138] rfl (by (try simp only [List.map_toArray, List.map_cons, List.map_nil]); first | done | rfl | (simp only [List.length_drop, List.length_take]; rfl)) ?_; (with_reducible refine (impl_UndoTable.calls kj105 _ _ t369 t395 true _ ?side1 ?side2 A129.out).mono ?_); (case side1 => repeat (first | exact (Kd.R_reads' HO_27.out).2.2 | (with_reducible refine Kd.C_alloc ?_ _) | (with_reducible refine Kd.C_drewN ?_ _) | (with_reducible refine Kd.C_drew ?_))); (case side2 => exact (Kd.R_reads' HO_27.out).2.1); rintro e w140 ⟨v397, rfl, ho0, hb⟩; refine ⟨_, rfl, ?_⟩; have n0_ := Aside0.mk (Kd.R_elder' (by (with_reducible repeat (first | apply Kd.R_alloc | apply Kd.R_drewN | apply Kd.R_drew)); exact HO_27.out) (Kd.R_base ho0) hb); have n1_ := Aside0.mk (Kd.R_elder' (by (with_reducible repeat (first | apply Kd.R_alloc | apply Kd.R_drewN | apply Kd.R_drew)); exact HO_31.out) (Kd.R_base ho0) hb); have n2_ := Aside0.mk (Kd.R_elder' (by (with_reducible repeat (first | apply Kd.R_alloc | apply Kd.R_drewN | apply Kd.R_drew)); exact HO390.out) (Kd.R_base ho0) hb); have n3_ := Aside0.mk (Kd.R_elder' (by (with_reducible repeat (first | apply Kd.R_alloc | apply Kd.R_drewN | apply Kd.R_drew)); exact HO394.out) (Kd.R_base ho0) hb); have n4_ := Aside0.mk (Kd.R_lower (Kd.R_new' (Kd.R_new' (Kd.R_new' (Kd.R_new' ho0 (Kd.R_lt (by (with_reducible repeat (first | apply Kd.R_alloc | apply Kd.R_drewN | apply Kd.R_drew)); exact HO_27.out))) (Kd.R_lt (by (with_reducible repeat (first | apply Kd.R_alloc | apply Kd.R_drewN | apply Kd.R_drew)); exact HO_31.out))) (Kd.R_lt (by (with_reducible repeat (first | apply Kd.R_alloc | apply Kd.R_drewN | apply Kd.R_drew)); exact HO390.out))) (Kd.R_lt (by (with_reducible repeat (first | apply Kd.R_alloc | apply Kd.R_drewN | apply Kd.R_drew)); exact HO394.out))) (below_size (by repeat (first | (with_reducible first | exact HB.out | apply below_alloc | apply pw_below_drewN | apply below_drew1))))); have n5_ := Aside0.mk (below_step (by repeat (first | (with_reducible first | exact HB.out | apply below_alloc | apply pw_below_drewN | apply below_drew1))) hb); clear HO_27; clear HO_31; clear HO390; clear HO394; clear HB; have HO_27 := n0_; have HO_31 := n1_; have HO390 := n2_; have HO394 := n3_; have HO398 := n4_; have HB := n5_; clear n0_ n1_ n2_ n3_ n4_ n5_; (try clear hb); (try clear ho0); obtain ⟨Ao141, co141, eo141⟩ := Kd.R_slice HO394.out; subst eo141; obtain ⟨Ao142, co142, eo142⟩ := Kd.R_slice HO390.out; subst eo142) | (go_at_call 75; (with_reducible refine (laws_gSame.calls kj105 _ _ t391 _ _ t387 true _ ?side1 ?side2 ?side3 ?side4 A132.out).mono ?_); (case side1 => repeat (first | exact (Kd.R_reads' HO394.out).2.2 | (with_reducible refine Kd.C_alloc ?_ _) | (with_reducible refine Kd.C_drewN ?_ _) | (with_reducible refine Kd.C_drew ?_))); (case side2 => exact (Kd.R_reads' HO394.out).2.1); (case side3 => repeat (first | exact (Kd.R_reads' HO390.out).2.2 | (with_reducible refine Kd.C_alloc ?_ _) | (with_reducible refine Kd.C_drewN ?_ _) | (with_reducible refine Kd.C_drew ?_))); (case side4 => exact (Kd.R_reads' HO390.out).2.1); rintro e w' ⟨rfl, ⟨nd, rfl⟩⟩; obtain ⟨Ao143, co143, eo143⟩ := Kd.R_slice HO398.out; subst eo143) | (go_at_call 75; (with_reducible refine (laws_gSame.calls kj105 _ _ t395 _ _ l2 true _ ?side1 ?side2 ?side3 ?side4 A135.out).mono ?_); (case side1 => repeat (first | exact (Kd.R_reads' HO398.out).2.2 | (with_reducible refine Kd.C_alloc ?_ _) | (with_reducible refine Kd.C_drewN ?_ _) | (with_reducible refine Kd.C_drew ?_))); (case side2 => exact (Kd.R_reads' HO398.out).2.1); (case side3 => repeat (first | exact (Kd.C_below HR2.out (by repeat (first | (with_reducible first | exact HB.out | apply below_alloc | apply pw_below_drewN | apply below_drew1)))) | (with_reducible refine Kd.C_alloc ?_ _) | (with_reducible refine Kd.C_drewN ?_ _) | (with_reducible refine Kd.C_drew ?_))); (case side4 => exact HC2.out); rintro e w' ⟨rfl, ⟨nd, rfl⟩⟩))
              refine cutMeet hJ_ ?_ (by kernel_rfl)
              exact ⟨_, H', ⟨by have := HJ6.out; have := HJ15.out; have := HJ29.out; have := HJ105.out; first | omega | exact Nat.le_refl _⟩, ⟨by (with_reducible repeat (first | apply Kd.R_alloc | apply Kd.R_drewN | apply Kd.R_drew)); exact Kd.R_mono HO_31.out (fun _ hk => trivial)⟩, ⟨by repeat (first | (with_reducible first | exact HB.out | apply below_alloc | apply pw_below_drewN | apply below_drew1))⟩⟩
             replace c136 := Bool.eq_false_iff.mpr c136
             subst c136
             have H1 : (some false) = some r := by rw [if_neg (show ¬ (false = true) by decide)] at H; exact H
             clear H
             have H := H1
             clear H1
             exact absurd (Option.some.inj (H.trans (congrArg some HRT.out))) Bool.false_ne_true
            replace c134 := Bool.eq_false_iff.mpr c134
            subst c134
            have H1 : (some false) = some r := by rw [if_neg (show ¬ (false = true) by decide)] at H; exact H
            clear H
            have H := H1
            clear H1
            exact absurd (Option.some.inj (H.trans (congrArg some HRT.out))) Bool.false_ne_true
           replace c133 := Bool.eq_false_iff.mpr c133
           subst c133
           have H1 : (some false) = some r := by rw [if_neg (show ¬ (false = true) by decide)] at H; exact H
           clear H
           have H := H1
           clear H1
           exact absurd (Option.some.inj (H.trans (congrArg some HRT.out))) Bool.false_ne_true
          replace c131 := Bool.eq_false_iff.mpr c131
          subst c131
          have H1 : (some false) = some r := by rw [if_neg (show ¬ (false = true) by decide)] at H; exact H
          clear H
          have H := H1
          clear H1
          exact absurd (Option.some.inj (H.trans (congrArg some HRT.out))) Bool.false_ne_true
         replace c130 := Bool.eq_false_iff.mpr c130
         subst c130
         have H1 : (some false) = some r := by rw [if_neg (show ¬ (false = true) by decide)] at H; exact H
         clear H
         have H := H1
         clear H1
         exact absurd (Option.some.inj (H.trans (congrArg some HRT.out))) Bool.false_ne_true
        replace c126 := Bool.eq_false_iff.mpr c126
        subst c126
        have H1 : (j4 kj105 l2 a3 a4 l5 t377 t378) = some r := by rw [if_neg (show ¬ (false = true) by decide)] at H; exact H
        clear H
        have H := H1
        clear H1
        have H' := Aside0.mk H
        clear H
        go_wp2
        refine cutMeet hJ_ ?_ (by kernel_rfl)
        exact ⟨_, H', ⟨by have := HJ6.out; have := HJ15.out; have := HJ29.out; have := HJ105.out; first | omega | exact Nat.le_refl _⟩, ⟨by (with_reducible repeat (first | apply Kd.R_alloc | apply Kd.R_drewN | apply Kd.R_drew)); exact Kd.R_mono HO_31.out (fun _ hk => trivial)⟩, ⟨by repeat (first | (with_reducible first | exact HB.out | apply below_alloc | apply pw_below_drewN | apply below_drew1))⟩⟩
      intro u_ wc hcut
      clear HC125
      obtain ⟨kq, HA, HJ124, HO_31, HB⟩ := hcut
      dsimp only [cutFgt, mk0]
      cases kq with
      | zero => exact absurd HA.out (by simp [j4])
      | succ kj124 =>
       have H := HA.out
       clear HA
       simp only [j4] at H
       have HC171 := Aside0.mk H
       clear H
       go_upto_if 266 with (fail)
       refine cutF mk0 [none, none, none, none, none, none, none, none, none, none, none, none, some 12, none, none, none, none, none, none, none, none, none, none, none, none, none, none, none, none, none, none, none, none, none, none, none, none, none, none, none, none, some 41, some 42, some 43, some 44] (fun u_ wc => ∃ (kq : Nat), Aside0 (j5 kq a3 a4 l5 = some r) ∧ Aside0 (kq ≤ kj124) ∧ Aside0 (Below w.heap.size w wc)) ?_ ?_
       ·
        as_aux_lemma =>
         intro J_ K_ hJ_ hK_
         have H := HC171.out
         clear HC171
         by_cases c172 : t378 = true
         ·
          subst c172
          have H1 : ((impl_TableOf.f kj124 5 (l2.length : Int)).bind fun bt401 => ((impl_OverDivisors.f kj124 t377 bt401.1).bind fun bt405 => (if bt401.2 = true then (if bt405.2 = true then ((laws_gSame.f kj124 bt405.1 l2).bind fun t409 => (if t409 = true then (j5 kj124 a3 a4 l5) else (some false))) else (some false)) else (some false)))) = some r := by rw [if_pos rfl] at H; exact H
          clear H
          have H := H1
          clear H1
          replace H := Option.bind_eq_some_iff.mp H
          obtain ⟨⟨t401, t402⟩, A1730, H⟩ := H
          replace H : ((impl_OverDivisors.f kj124 t377 t401).bind fun bt405 => (if t402 = true then (if bt405.2 = true then ((laws_gSame.f kj124 bt405.1 l2).bind fun t409 => (if t409 = true then (j5 kj124 a3 a4 l5) else (some false))) else (some false)) else (some false))) = some r := H
          have A173 := Aside0.mk A1730
          clear A1730
          replace H := Option.bind_eq_some_iff.mp H
          obtain ⟨⟨t405, t406⟩, A1740, H⟩ := H
          replace H : (if t402 = true then (if t406 = true then ((laws_gSame.f kj124 t405 l2).bind fun t409 => (if t409 = true then (j5 kj124 a3 a4 l5) else (some false))) else (some false)) else (some false)) = some r := H
          have A174 := Aside0.mk A1740
          clear A1740
          by_cases c175 : t402 = true
          ·
           subst c175
           have H1 : (if t406 = true then ((laws_gSame.f kj124 t405 l2).bind fun t409 => (if t409 = true then (j5 kj124 a3 a4 l5) else (some false))) else (some false)) = some r := by rw [if_pos rfl] at H; exact H
           clear H
           have H := H1
           clear H1
           by_cases c176 : t406 = true
           ·
            subst c176
            have H1 : ((laws_gSame.f kj124 t405 l2).bind fun t409 => (if t409 = true then (j5 kj124 a3 a4 l5) else (some false))) = some r := by rw [if_pos rfl] at H; exact H
            clear H
            have H := H1
            clear H1
            replace H := Option.bind_eq_some_iff.mp H
            obtain ⟨t409, A1770, H⟩ := H
            replace H : (if t409 = true then (j5 kj124 a3 a4 l5) else (some false)) = some r := H
            have A177 := Aside0.mk A1770
            clear A1770
            by_cases c178 : t409 = true
            ·
             subst c178
             have H1 : (j5 kj124 a3 a4 l5) = some r := by rw [if_pos rfl] at H; exact H
             clear H
             have H := H1
             clear H1
             have H' := Aside0.mk H
             clear H
             go_wp2_with (first | ((with_reducible refine gate_callee (f := 102) rfl ?_); refine goesL_ (some 270) rfl rfl Try.func102 (by kernel_rfl) rfl #[.int .i64 5, .int .i64 (l2.length : Int)] rfl (by (try simp only [List.map_toArray, List.map_cons, List.map_nil]); first | done | rfl | (simp only [List.length_drop, List.length_take]; rfl)) ?_; (with_reducible refine (impl_TableOf.calls kj124 5 (l2.length : Int) t401 true _ A173.out).mono ?_); rintro e w179 ⟨v403, rfl, ho0, hb⟩; refine ⟨_, rfl, ?_⟩; have n0_ := Aside0.mk (Kd.R_elder' (by (with_reducible repeat (first | apply Kd.R_alloc | apply Kd.R_drewN | apply Kd.R_drew)); exact HO_31.out) (Kd.R_base ho0) hb); have n1_ := Aside0.mk (Kd.R_lower (Kd.R_new' ho0 (Kd.R_lt (by (with_reducible repeat (first | apply Kd.R_alloc | apply Kd.R_drewN | apply Kd.R_drew)); exact HO_31.out))) (below_size (by repeat (first | (with_reducible first | exact HB.out | apply below_alloc | apply pw_below_drewN | apply below_drew1))))); have n2_ := Aside0.mk (below_step (by repeat (first | (with_reducible first | exact HB.out | apply below_alloc | apply pw_below_drewN | apply below_drew1))) hb); clear HO_31; clear HB; have HO_31 := n0_; have HO404 := n1_; have HB := n2_; clear n0_ n1_ n2_; (try clear hb); (try clear ho0); obtain ⟨Ao180, co180, eo180⟩ := Kd.R_slice HO_31.out; subst eo180; obtain ⟨Ao181, co181, eo181⟩ := Kd.R_slice HO404.out; subst eo181) | ((with_reducible refine gate_callee (f := 94) rfl ?_); refine goesL_ (some 276) rfl rfl Try.func94 (by kernel_rfl) rfl #[.slice Ao180 t377.length co180, .slice Ao181 t401.length co181] rfl (by (try simp only [List.map_toArray, List.map_cons, List.map_nil]); first | done | rfl | (simp only [List.length_drop, List.length_take]; rfl)) ?_; (with_reducible refine (impl_OverDivisors.calls kj124 _ _ t377 _ _ t401 t405 true _ ?side1 ?side2 ?side3 ?side4 A174.out).mono ?_); (case side1 => repeat (first | exact (Kd.R_reads' HO_31.out).2.2 | (with_reducible refine Kd.C_alloc ?_ _) | (with_reducible refine Kd.C_drewN ?_ _) | (with_reducible refine Kd.C_drew ?_))); (case side2 => exact (Kd.R_reads' HO_31.out).2.1); (case side3 => repeat (first | exact (Kd.R_reads' HO404.out).2.2 | (with_reducible refine Kd.C_alloc ?_ _) | (with_reducible refine Kd.C_drewN ?_ _) | (with_reducible refine Kd.C_drew ?_))); (case side4 => exact (Kd.R_reads' HO404.out).2.1); rintro e w182 ⟨v407, rfl, ho0, hb⟩; refine ⟨_, rfl, ?_⟩; have n0_ := Aside0.mk (Kd.R_elder' (by (with_reducible repeat (first | apply Kd.R_alloc | apply Kd.R_drewN | apply Kd.R_drew)); exact HO_31.out) (Kd.R_base ho0) hb); have n1_ := Aside0.mk (Kd.R_elder' (by (with_reducible repeat (first | apply Kd.R_alloc | apply Kd.R_drewN | apply Kd.R_drew)); exact HO404.out) (Kd.R_base ho0) hb); have n2_ := Aside0.mk (Kd.R_lower (Kd.R_new' (Kd.R_new' ho0 (Kd.R_lt (by (with_reducible repeat (first | apply Kd.R_alloc | apply Kd.R_drewN | apply Kd.R_drew)); exact HO_31.out))) (Kd.R_lt (by (with_reducible repeat (first | apply Kd.R_alloc | apply Kd.R_drewN | apply Kd.R_drew)); exact HO404.out))) (below_size (by repeat (first | (with_reducible first | exact HB.out | apply below_alloc | apply pw_below_drewN | apply below_drew1))))); have n3_ := Aside0.mk (below_step (by repeat (first | (with_reducible first | exact HB.out | apply below_alloc | apply pw_below_drewN | apply below_drew1))) hb); clear HO_31; clear HO404; clear HB; have HO_31 := n0_; have HO404 := n1_; have HO408 := n2_; have HB := n3_; clear n0_ n1_ n2_ n3_; (try clear hb); (try clear ho0); obtain ⟨Ao183, co183, eo183⟩ := Kd.R_slice HO408.out; subst eo183) | (go_at_call 75; (with_reducible refine (laws_gSame.calls kj124 _ _ t405 _ _ l2 true _ ?side1 ?side2 ?side3 ?side4 A177.out).mono ?_); (case side1 => repeat (first | exact (Kd.R_reads' HO408.out).2.2 | (with_reducible refine Kd.C_alloc ?_ _) | (with_reducible refine Kd.C_drewN ?_ _) | (with_reducible refine Kd.C_drew ?_))); (case side2 => exact (Kd.R_reads' HO408.out).2.1); (case side3 => repeat (first | exact (Kd.C_below HR2.out HB.out) | (with_reducible refine Kd.C_alloc ?_ _) | (with_reducible refine Kd.C_drewN ?_ _) | (with_reducible refine Kd.C_drew ?_))); (case side4 => exact HC2.out); rintro e w' ⟨rfl, ⟨nd, rfl⟩⟩))
             refine cutMeet hJ_ ?_ (by kernel_rfl)
             exact ⟨_, H', ⟨by have := HJ6.out; have := HJ15.out; have := HJ29.out; have := HJ105.out; have := HJ124.out; first | omega | exact Nat.le_refl _⟩, ⟨by repeat (first | (with_reducible first | exact HB.out | apply below_alloc | apply pw_below_drewN | apply below_drew1))⟩⟩
            replace c178 := Bool.eq_false_iff.mpr c178
            subst c178
            have H1 : (some false) = some r := by rw [if_neg (show ¬ (false = true) by decide)] at H; exact H
            clear H
            have H := H1
            clear H1
            exact absurd (Option.some.inj (H.trans (congrArg some HRT.out))) Bool.false_ne_true
           replace c176 := Bool.eq_false_iff.mpr c176
           subst c176
           have H1 : (some false) = some r := by rw [if_neg (show ¬ (false = true) by decide)] at H; exact H
           clear H
           have H := H1
           clear H1
           exact absurd (Option.some.inj (H.trans (congrArg some HRT.out))) Bool.false_ne_true
          replace c175 := Bool.eq_false_iff.mpr c175
          subst c175
          have H1 : (some false) = some r := by rw [if_neg (show ¬ (false = true) by decide)] at H; exact H
          clear H
          have H := H1
          clear H1
          exact absurd (Option.some.inj (H.trans (congrArg some HRT.out))) Bool.false_ne_true
         replace c172 := Bool.eq_false_iff.mpr c172
         subst c172
         have H1 : (j5 kj124 a3 a4 l5) = some r := by rw [if_neg (show ¬ (false = true) by decide)] at H; exact H
         clear H
         have H := H1
         clear H1
         have H' := Aside0.mk H
         clear H
         go_wp2
         refine cutMeet hJ_ ?_ (by kernel_rfl)
         exact ⟨_, H', ⟨by have := HJ6.out; have := HJ15.out; have := HJ29.out; have := HJ105.out; have := HJ124.out; first | omega | exact Nat.le_refl _⟩, ⟨by repeat (first | (with_reducible first | exact HB.out | apply below_alloc | apply pw_below_drewN | apply below_drew1))⟩⟩
       intro u_ wc hcut
       clear HC171
       obtain ⟨kq, HA, HJ170, HB⟩ := hcut
       dsimp only [cutFgt, mk0]
       cases kq with
       | zero => exact absurd HA.out (by simp [j5])
       | succ kj170 =>
        have H := HA.out
        clear HA
        simp only [j5] at H
        replace H := Option.bind_eq_some_iff.mp H
        obtain ⟨⟨t410, t411⟩, A1970, H⟩ := H
        replace H : ((spec_TableOf.f kj170 a3 a4).bind fun bt414 => (if (t411 != bt414.2) = true then (j6 kj170 a4 l5 t410 t411 true) else ((laws_gSame.f kj170 t410 bt414.1).bind fun t418 => (j6 kj170 a4 l5 t410 t411 (!t418))))) = some r := H
        have A197 := Aside0.mk A1970
        clear A1970
        replace H := Option.bind_eq_some_iff.mp H
        obtain ⟨⟨t414, t415⟩, A1980, H⟩ := H
        replace H : (if (t411 != t415) = true then (j6 kj170 a4 l5 t410 t411 true) else ((laws_gSame.f kj170 t410 t414).bind fun t418 => (j6 kj170 a4 l5 t410 t411 (!t418)))) = some r := H
        have A198 := Aside0.mk A1980
        clear A1980
        have HC199 := Aside0.mk H
        clear H
        go_upto_region 34 with (first | ((with_reducible refine gate_callee (f := 102) rfl ?_); refine goesL_ (some 294) rfl rfl Try.func102 (by kernel_rfl) rfl #[.int .i64 a3, .int .i64 a4] rfl (by (try simp only [List.map_toArray, List.map_cons, List.map_nil]); first | done | rfl | (simp only [List.length_drop, List.length_take]; rfl)) ?_; (with_reducible refine (impl_TableOf.calls kj170 a3 a4 t410 t411 _ A197.out).mono ?_); rintro e w200 ⟨v412, rfl, ho0, hb⟩; refine ⟨_, rfl, ?_⟩; have n0_ := Aside0.mk (Kd.R_lower ho0 (below_size (by repeat (first | (with_reducible first | exact HB.out | apply below_alloc | apply pw_below_drewN | apply below_drew1))))); have n1_ := Aside0.mk (below_step (by repeat (first | (with_reducible first | exact HB.out | apply below_alloc | apply pw_below_drewN | apply below_drew1))) hb); clear HB; have HO413 := n0_; have HB := n1_; clear n0_ n1_; (try clear hb); (try clear ho0)) | ((with_reducible refine gate_callee (f := 103) rfl ?_); refine goesL_ (some 300) rfl rfl Try.func103 (by kernel_rfl) rfl #[.int .i64 a3, .int .i64 a4] rfl (by (try simp only [List.map_toArray, List.map_cons, List.map_nil]); first | done | rfl | (simp only [List.length_drop, List.length_take]; rfl)) ?_; (with_reducible refine (spec_TableOf.calls kj170 a3 a4 t414 t415 _ A198.out).mono ?_); rintro e w201 ⟨v416, rfl, ho0, hb⟩; refine ⟨_, rfl, ?_⟩; have n0_ := Aside0.mk (Kd.R_elder' (by (with_reducible repeat (first | apply Kd.R_alloc | apply Kd.R_drewN | apply Kd.R_drew)); exact HO413.out) (Kd.R_base ho0) hb); have n1_ := Aside0.mk (Kd.R_lower (Kd.R_new' ho0 (Kd.R_lt (by (with_reducible repeat (first | apply Kd.R_alloc | apply Kd.R_drewN | apply Kd.R_drew)); exact HO413.out))) (below_size (by repeat (first | (with_reducible first | exact HB.out | apply below_alloc | apply pw_below_drewN | apply below_drew1))))); have n2_ := Aside0.mk (below_step (by repeat (first | (with_reducible first | exact HB.out | apply below_alloc | apply pw_below_drewN | apply below_drew1))) hb); clear HO413; clear HB; have HO413 := n0_; have HO417 := n1_; have HB := n2_; clear n0_ n1_ n2_; (try clear hb); (try clear ho0)))
        (try simp only [Act.put, List.setIfInBounds_toArray, List.set_cons_zero, List.set_cons_succ])
        refine cutF mk0 [] (fun u_ wc => ∃ (kq : Nat) (x311_198 : Bool), (u_ 311) = .bool x311_198 ∧ Aside0 (j6 kq a4 l5 t410 t411 x311_198 = some r) ∧ Aside0 (kq ≤ kj170) ∧ Aside0 (Kd.R (Kd.int .i64) 3 wc w.heap.size (fun _ => True) v412 t410) ∧ Aside0 (Below w.heap.size w wc)) ?_ ?_
        ·
         as_aux_lemma =>
          intro J_ K_ hJ_ hK_
          have H := HC199.out
          clear HC199
          by_cases c202 : (t411 != t415) = true
          ·
           rw [if_pos c202] at H
           exact (laws_FnTablesMultipliedOfAll.j6_no _ _ _ _ _ (H.trans (congrArg some HRT.out))).elim
          rw [if_neg c202] at H
          have c202b0 : (t411 != t415) = false := by simpa using c202
          (try (have c202b1 : decide (t411 = t415) = true := by simpa using c202))
          (try (have c202b2 : (t411 == t415) = true := by simpa using c202))
          clear c202
          (first | rw [c202b0] | (simp only [i64_w, i32_w]; rw [c202b0]) | skip)
          replace H := Option.bind_eq_some_iff.mp H
          obtain ⟨t418, A2030, H⟩ := H
          replace H : (j6 kj170 a4 l5 t410 t411 (!t418)) = some r := H
          have A203 := Aside0.mk A2030
          clear A2030
          have H' := Aside0.mk H
          clear H
          obtain ⟨Ao204, co204, eo204⟩ := Kd.R_slice HO413.out
          subst eo204
          obtain ⟨Ao205, co205, eo205⟩ := Kd.R_slice HO417.out
          subst eo205
          go_wp2_with (first | (go_at_call 75; (with_reducible refine (laws_gSame.calls kj170 _ _ t410 _ _ t414 t418 _ ?side1 ?side2 ?side3 ?side4 A203.out).mono ?_); (case side1 => repeat (first | exact (Kd.R_reads' HO413.out).2.2 | (with_reducible refine Kd.C_alloc ?_ _) | (with_reducible refine Kd.C_drewN ?_ _) | (with_reducible refine Kd.C_drew ?_))); (case side2 => exact (Kd.R_reads' HO413.out).2.1); (case side3 => repeat (first | exact (Kd.R_reads' HO417.out).2.2 | (with_reducible refine Kd.C_alloc ?_ _) | (with_reducible refine Kd.C_drewN ?_ _) | (with_reducible refine Kd.C_drew ?_))); (case side4 => exact (Kd.R_reads' HO417.out).2.1); rintro e w' ⟨rfl, ⟨nd, rfl⟩⟩))
          refine cutMeet hJ_ ?_ (by kernel_rfl)
          exact ⟨_, (!t418), (by first | rfl | (simp; done) | (simp [*]; done)), H', ⟨by have := HJ6.out; have := HJ15.out; have := HJ29.out; have := HJ105.out; have := HJ124.out; have := HJ170.out; first | omega | exact Nat.le_refl _⟩, ⟨by (with_reducible repeat (first | apply Kd.R_alloc | apply Kd.R_drewN | apply Kd.R_drew)); exact Kd.R_mono HO413.out (fun _ hk => trivial)⟩, ⟨by repeat (first | (with_reducible first | exact HB.out | apply below_alloc | apply pw_below_drewN | apply below_drew1))⟩⟩
        intro u_ wc hcut
        clear HC199
        obtain ⟨kq, x311_198, e_311, HA, HJ198, HO_45, HB⟩ := hcut
        dsimp only [cutFgt, mk0]
        rw [e_311]
        cases kq with
        | zero => exact absurd HA.out (by simp [j6])
        | succ kj198 =>
         have H := HA.out
         clear HA
         simp only [j6] at H
         by_cases c206 : x311_198 = true
         ·
          subst c206
          have H1 : (some false) = some r := by rw [if_pos rfl] at H; exact H
          clear H
          have H := H1
          clear H1
          exact absurd (Option.some.inj (H.trans (congrArg some HRT.out))) Bool.false_ne_true
         replace c206 := Bool.eq_false_iff.mpr c206
         subst c206
         have H1 : (if t411 = true then ((impl_IsSpread.f kj198 t410).bind fun bt419 => (if bt419.2 = true then (if bt419.1 = true then (j7 kj198 a4 l5 ((t410.length : Int) != a4)) else (j7 kj198 a4 l5 true)) else (j7 kj198 a4 l5 true))) else ((impl_IsSpread.f kj198 l5).bind fun bt451 => ((spec_IsSpread.f kj198 l5).bind fun bt453 => (if (bt451.2 == bt453.2) = true then (some (bt451.1 == bt453.1)) else (some false))))) = some r := by rw [if_neg (show ¬ (false = true) by decide)] at H; exact H
         clear H
         have H := H1
         clear H1
         by_cases c207 : t411 = true
         ·
          subst c207
          have H1 : ((impl_IsSpread.f kj198 t410).bind fun bt419 => (if bt419.2 = true then (if bt419.1 = true then (j7 kj198 a4 l5 ((t410.length : Int) != a4)) else (j7 kj198 a4 l5 true)) else (j7 kj198 a4 l5 true))) = some r := by rw [if_pos rfl] at H; exact H
          clear H
          have H := H1
          clear H1
          replace H := Option.bind_eq_some_iff.mp H
          obtain ⟨⟨t419, t420⟩, A2080, H⟩ := H
          replace H : (if t420 = true then (if t419 = true then (j7 kj198 a4 l5 ((t410.length : Int) != a4)) else (j7 kj198 a4 l5 true)) else (j7 kj198 a4 l5 true)) = some r := H
          have A208 := Aside0.mk A2080
          clear A2080
          have HC209 := Aside0.mk H
          clear H
          obtain ⟨Ao210, co210, eo210⟩ := Kd.R_slice HO_45.out
          subst eo210
          go_upto_region 38 with (first | ((with_reducible refine gate_callee (f := 96) rfl ?_); refine goesL_ (some 315) rfl rfl Try.func96 (by kernel_rfl) rfl #[.slice Ao210 t410.length co210] rfl (by (try simp only [List.map_toArray, List.map_cons, List.map_nil]); first | done | rfl | (simp only [List.length_drop, List.length_take]; rfl)) ?_; (with_reducible refine (impl_IsSpread.calls kj198 _ _ t410 t419 t420 _ ?side1 ?side2 A208.out).mono ?_); (case side1 => repeat (first | exact (Kd.R_reads' HO_45.out).2.2 | (with_reducible refine Kd.C_alloc ?_ _) | (with_reducible refine Kd.C_drewN ?_ _) | (with_reducible refine Kd.C_drew ?_))); (case side2 => exact (Kd.R_reads' HO_45.out).2.1); rintro e w' ⟨rfl, ⟨nd, rfl⟩⟩; refine ⟨_, rfl, ?_⟩))
          (try simp only [Act.put, List.setIfInBounds_toArray, List.set_cons_zero, List.set_cons_succ])
          refine cutF mk0 [] (fun u_ wc => ∃ (kq : Nat) (x329_208 : Bool), (u_ 329) = .bool x329_208 ∧ Aside0 (j7 kq a4 l5 x329_208 = some r) ∧ Aside0 (kq ≤ kj198) ∧ Aside0 (Below w.heap.size w wc)) ?_ ?_
          ·
           as_aux_lemma =>
            intro J_ K_ hJ_ hK_
            have H := HC209.out
            clear HC209
            by_cases c211 : t420 = true
            ·
             subst c211
             have H1 : (if t419 = true then (j7 kj198 a4 l5 ((t410.length : Int) != a4)) else (j7 kj198 a4 l5 true)) = some r := by rw [if_pos rfl] at H; exact H
             clear H
             have H := H1
             clear H1
             by_cases c212 : t419 = true
             ·
              subst c212
              have H1 : (j7 kj198 a4 l5 ((t410.length : Int) != a4)) = some r := by rw [if_pos rfl] at H; exact H
              clear H
              have H := H1
              clear H1
              have H' := Aside0.mk H
              clear H
              go_wp2
              refine cutMeet hJ_ ?_ (by kernel_rfl)
              exact ⟨_, (((t410.length : Int) != a4)), (by first | rfl | (simp; done) | (simp [*]; done)), H', ⟨by have := HJ6.out; have := HJ15.out; have := HJ29.out; have := HJ105.out; have := HJ124.out; have := HJ170.out; have := HJ198.out; first | omega | exact Nat.le_refl _⟩, ⟨by repeat (first | (with_reducible first | exact HB.out | apply below_alloc | apply pw_below_drewN | apply below_drew1))⟩⟩
             replace c212 := Bool.eq_false_iff.mpr c212
             subst c212
             have H1 : (j7 kj198 a4 l5 true) = some r := by rw [if_neg (show ¬ (false = true) by decide)] at H; exact H
             clear H
             have H := H1
             clear H1
             exact (laws_FnTablesMultipliedOfAll.j7_no _ _ _ (H.trans (congrArg some HRT.out))).elim
            replace c211 := Bool.eq_false_iff.mpr c211
            subst c211
            have H1 : (j7 kj198 a4 l5 true) = some r := by rw [if_neg (show ¬ (false = true) by decide)] at H; exact H
            clear H
            have H := H1
            clear H1
            exact (laws_FnTablesMultipliedOfAll.j7_no _ _ _ (H.trans (congrArg some HRT.out))).elim
          intro u_ wc hcut
          clear HC209
          obtain ⟨kq, x329_208, e_329, HA, HJ208, HB⟩ := hcut
          dsimp only [cutFgt, mk0]
          rw [e_329]
          cases kq with
          | zero => exact absurd HA.out (by simp [j7])
          | succ kj208 =>
           have H := HA.out
           clear HA
           simp only [j7] at H
           by_cases c213 : x329_208 = true
           ·
            subst c213
            have H1 : (some false) = some r := by rw [if_pos rfl] at H; exact H
            clear H
            have H := H1
            clear H1
            exact absurd (Option.some.inj (H.trans (congrArg some HRT.out))) Bool.false_ne_true
           replace c213 := Bool.eq_false_iff.mpr c213
           subst c213
           have H1 : ((impl_TableOf.f kj208 0 a4).bind fun bt421 => ((impl_TableOf.f kj208 2 a4).bind fun bt425 => ((impl_TableOf.f kj208 1 a4).bind fun bt429 => ((impl_TableOf.f kj208 4 a4).bind fun bt433 => ((impl_OverDivisors.f kj208 bt421.1 bt421.1).bind fun bt437 => ((impl_SumOverDivisors.f kj208 bt433.1).bind fun bt441 => (if bt421.2 = true then (if bt425.2 = true then (if bt429.2 = true then (if bt433.2 = true then (if bt437.2 = true then ((laws_gSame.f kj208 bt437.1 bt425.1).bind fun t445 => (if t445 = true then (if bt441.2 = true then ((laws_gSame.f kj208 bt441.1 bt429.1).bind fun t446 => (j8 kj208 l5 (!t446))) else (j8 kj208 l5 true)) else (j8 kj208 l5 true))) else (j8 kj208 l5 true)) else (j8 kj208 l5 true)) else (j8 kj208 l5 true)) else (j8 kj208 l5 true)) else (j8 kj208 l5 true)))))))) = some r := by rw [if_neg (show ¬ (false = true) by decide)] at H; exact H
           clear H
           have H := H1
           clear H1
           replace H := Option.bind_eq_some_iff.mp H
           obtain ⟨⟨t421, t422⟩, A2140, H⟩ := H
           try dsimp only at H
           have A214 := Aside0.mk A2140
           clear A2140
           replace H := Option.bind_eq_some_iff.mp H
           obtain ⟨⟨t425, t426⟩, A2150, H⟩ := H
           try dsimp only at H
           have A215 := Aside0.mk A2150
           clear A2150
           replace H := Option.bind_eq_some_iff.mp H
           obtain ⟨⟨t429, t430⟩, A2160, H⟩ := H
           try dsimp only at H
           have A216 := Aside0.mk A2160
           clear A2160
           replace H := Option.bind_eq_some_iff.mp H
           obtain ⟨⟨t433, t434⟩, A2170, H⟩ := H
           try dsimp only at H
           have A217 := Aside0.mk A2170
           clear A2170
           replace H := Option.bind_eq_some_iff.mp H
           obtain ⟨⟨t437, t438⟩, A2180, H⟩ := H
           replace H : ((impl_SumOverDivisors.f kj208 t433).bind fun bt441 => (if t422 = true then (if t426 = true then (if t430 = true then (if t434 = true then (if t438 = true then ((laws_gSame.f kj208 t437 t425).bind fun t445 => (if t445 = true then (if bt441.2 = true then ((laws_gSame.f kj208 bt441.1 t429).bind fun t446 => (j8 kj208 l5 (!t446))) else (j8 kj208 l5 true)) else (j8 kj208 l5 true))) else (j8 kj208 l5 true)) else (j8 kj208 l5 true)) else (j8 kj208 l5 true)) else (j8 kj208 l5 true)) else (j8 kj208 l5 true))) = some r := H
           have A218 := Aside0.mk A2180
           clear A2180
           replace H := Option.bind_eq_some_iff.mp H
           obtain ⟨⟨t441, t442⟩, A2190, H⟩ := H
           replace H : (if t422 = true then (if t426 = true then (if t430 = true then (if t434 = true then (if t438 = true then ((laws_gSame.f kj208 t437 t425).bind fun t445 => (if t445 = true then (if t442 = true then ((laws_gSame.f kj208 t441 t429).bind fun t446 => (j8 kj208 l5 (!t446))) else (j8 kj208 l5 true)) else (j8 kj208 l5 true))) else (j8 kj208 l5 true)) else (j8 kj208 l5 true)) else (j8 kj208 l5 true)) else (j8 kj208 l5 true)) else (j8 kj208 l5 true)) = some r := H
           have A219 := Aside0.mk A2190
           clear A2190
           have HC220 := Aside0.mk H
           clear H
           go_upto_region 46 with (first | ((with_reducible refine gate_callee (f := 102) rfl ?_); refine goesL_ (some 332) rfl rfl Try.func102 (by kernel_rfl) rfl #[.int .i64 0, .int .i64 a4] rfl (by (try simp only [List.map_toArray, List.map_cons, List.map_nil]); first | done | rfl | (simp only [List.length_drop, List.length_take]; rfl)) ?_; (with_reducible refine (impl_TableOf.calls kj208 0 a4 t421 t422 _ A214.out).mono ?_); rintro e w221 ⟨v423, rfl, ho0, hb⟩; refine ⟨_, rfl, ?_⟩; have n0_ := Aside0.mk (Kd.R_lower ho0 (below_size (by repeat (first | (with_reducible first | exact HB.out | apply below_alloc | apply pw_below_drewN | apply below_drew1))))); have n1_ := Aside0.mk (below_step (by repeat (first | (with_reducible first | exact HB.out | apply below_alloc | apply pw_below_drewN | apply below_drew1))) hb); clear HB; have HO424 := n0_; have HB := n1_; clear n0_ n1_; (try clear hb); (try clear ho0)) | ((with_reducible refine gate_callee (f := 102) rfl ?_); refine goesL_ (some 337) rfl rfl Try.func102 (by kernel_rfl) rfl #[.int .i64 2, .int .i64 a4] rfl (by (try simp only [List.map_toArray, List.map_cons, List.map_nil]); first | done | rfl | (simp only [List.length_drop, List.length_take]; rfl)) ?_; (with_reducible refine (impl_TableOf.calls kj208 2 a4 t425 t426 _ A215.out).mono ?_); rintro e w222 ⟨v427, rfl, ho0, hb⟩; refine ⟨_, rfl, ?_⟩; have n0_ := Aside0.mk (Kd.R_elder' (by (with_reducible repeat (first | apply Kd.R_alloc | apply Kd.R_drewN | apply Kd.R_drew)); exact HO424.out) (Kd.R_base ho0) hb); have n1_ := Aside0.mk (Kd.R_lower (Kd.R_new' ho0 (Kd.R_lt (by (with_reducible repeat (first | apply Kd.R_alloc | apply Kd.R_drewN | apply Kd.R_drew)); exact HO424.out))) (below_size (by repeat (first | (with_reducible first | exact HB.out | apply below_alloc | apply pw_below_drewN | apply below_drew1))))); have n2_ := Aside0.mk (below_step (by repeat (first | (with_reducible first | exact HB.out | apply below_alloc | apply pw_below_drewN | apply below_drew1))) hb); clear HO424; clear HB; have HO424 := n0_; have HO428 := n1_; have HB := n2_; clear n0_ n1_ n2_; (try clear hb); (try clear ho0)) | ((with_reducible refine gate_callee (f := 102) rfl ?_); refine goesL_ (some 342) rfl rfl Try.func102 (by kernel_rfl) rfl #[.int .i64 1, .int .i64 a4] rfl (by (try simp only [List.map_toArray, List.map_cons, List.map_nil]); first | done | rfl | (simp only [List.length_drop, List.length_take]; rfl)) ?_; (with_reducible refine (impl_TableOf.calls kj208 1 a4 t429 t430 _ A216.out).mono ?_); rintro e w223 ⟨v431, rfl, ho0, hb⟩; refine ⟨_, rfl, ?_⟩; have n0_ := Aside0.mk (Kd.R_elder' (by (with_reducible repeat (first | apply Kd.R_alloc | apply Kd.R_drewN | apply Kd.R_drew)); exact HO424.out) (Kd.R_base ho0) hb); have n1_ := Aside0.mk (Kd.R_elder' (by (with_reducible repeat (first | apply Kd.R_alloc | apply Kd.R_drewN | apply Kd.R_drew)); exact HO428.out) (Kd.R_base ho0) hb); have n2_ := Aside0.mk (Kd.R_lower (Kd.R_new' (Kd.R_new' ho0 (Kd.R_lt (by (with_reducible repeat (first | apply Kd.R_alloc | apply Kd.R_drewN | apply Kd.R_drew)); exact HO424.out))) (Kd.R_lt (by (with_reducible repeat (first | apply Kd.R_alloc | apply Kd.R_drewN | apply Kd.R_drew)); exact HO428.out))) (below_size (by repeat (first | (with_reducible first | exact HB.out | apply below_alloc | apply pw_below_drewN | apply below_drew1))))); have n3_ := Aside0.mk (below_step (by repeat (first | (with_reducible first | exact HB.out | apply below_alloc | apply pw_below_drewN | apply below_drew1))) hb); clear HO424; clear HO428; clear HB; have HO424 := n0_; have HO428 := n1_; have HO432 := n2_; have HB := n3_; clear n0_ n1_ n2_ n3_; (try clear hb); (try clear ho0)) | ((with_reducible refine gate_callee (f := 102) rfl ?_); refine goesL_ (some 347) rfl rfl Try.func102 (by kernel_rfl) rfl #[.int .i64 4, .int .i64 a4] rfl (by (try simp only [List.map_toArray, List.map_cons, List.map_nil]); first | done | rfl | (simp only [List.length_drop, List.length_take]; rfl)) ?_; (with_reducible refine (impl_TableOf.calls kj208 4 a4 t433 t434 _ A217.out).mono ?_); rintro e w224 ⟨v435, rfl, ho0, hb⟩; refine ⟨_, rfl, ?_⟩; have n0_ := Aside0.mk (Kd.R_elder' (by (with_reducible repeat (first | apply Kd.R_alloc | apply Kd.R_drewN | apply Kd.R_drew)); exact HO424.out) (Kd.R_base ho0) hb); have n1_ := Aside0.mk (Kd.R_elder' (by (with_reducible repeat (first | apply Kd.R_alloc | apply Kd.R_drewN | apply Kd.R_drew)); exact HO428.out) (Kd.R_base ho0) hb); have n2_ := Aside0.mk (Kd.R_elder' (by (with_reducible repeat (first | apply Kd.R_alloc | apply Kd.R_drewN | apply Kd.R_drew)); exact HO432.out) (Kd.R_base ho0) hb); have n3_ := Aside0.mk (Kd.R_lower (Kd.R_new' (Kd.R_new' (Kd.R_new' ho0 (Kd.R_lt (by (with_reducible repeat (first | apply Kd.R_alloc | apply Kd.R_drewN | apply Kd.R_drew)); exact HO424.out))) (Kd.R_lt (by (with_reducible repeat (first | apply Kd.R_alloc | apply Kd.R_drewN | apply Kd.R_drew)); exact HO428.out))) (Kd.R_lt (by (with_reducible repeat (first | apply Kd.R_alloc | apply Kd.R_drewN | apply Kd.R_drew)); exact HO432.out))) (below_size (by repeat (first | (with_reducible first | exact HB.out | apply below_alloc | apply pw_below_drewN | apply below_drew1))))); have n4_ := Aside0.mk (below_step (by repeat (first | (with_reducible first | exact HB.out | apply below_alloc | apply pw_below_drewN | apply below_drew1))) hb); clear HO424; clear HO428; clear HO432; clear HB; have HO424 := n0_; have HO428 := n1_; have HO432 := n2_; have HO436 := n3_; have HB := n4_; clear n0_ n1_ n2_ n3_ n4_; (try clear hb); (try clear ho0); obtain ⟨Ao225, co225, eo225⟩ := Kd.R_slice HO424.out; subst eo225) | ((with_reducible refine gate_callee (f := 94) rfl ?_); refine goesL_ (some 353) rfl rfl Try.func94 (by kernel_rfl) rfl #[.slice Ao225 t421.length co225, .slice Ao225 t421.length co225] rfl (by (try simp only [List.map_toArray, List.map_cons, List.map_nil]); first | done | rfl | (simp only [List.length_drop, List.length_take]; rfl)) ?_; (with_reducible refine (impl_OverDivisors.calls kj208 _ _ t421 _ _ t421 t437 t438 _ ?side1 ?side2 ?side3 ?side4 A218.out).mono ?_); (case side1 => repeat (first | exact (Kd.R_reads' HO424.out).2.2 | (with_reducible refine Kd.C_alloc ?_ _) | (with_reducible refine Kd.C_drewN ?_ _) | (with_reducible refine Kd.C_drew ?_))); (case side2 => exact (Kd.R_reads' HO424.out).2.1); (case side3 => repeat (first | exact (Kd.R_reads' HO424.out).2.2 | (with_reducible refine Kd.C_alloc ?_ _) | (with_reducible refine Kd.C_drewN ?_ _) | (with_reducible refine Kd.C_drew ?_))); (case side4 => exact (Kd.R_reads' HO424.out).2.1); rintro e w226 ⟨v439, rfl, ho0, hb⟩; refine ⟨_, rfl, ?_⟩; have n0_ := Aside0.mk (Kd.R_elder' (by (with_reducible repeat (first | apply Kd.R_alloc | apply Kd.R_drewN | apply Kd.R_drew)); exact HO424.out) (Kd.R_base ho0) hb); have n1_ := Aside0.mk (Kd.R_elder' (by (with_reducible repeat (first | apply Kd.R_alloc | apply Kd.R_drewN | apply Kd.R_drew)); exact HO428.out) (Kd.R_base ho0) hb); have n2_ := Aside0.mk (Kd.R_elder' (by (with_reducible repeat (first | apply Kd.R_alloc | apply Kd.R_drewN | apply Kd.R_drew)); exact HO432.out) (Kd.R_base ho0) hb); have n3_ := Aside0.mk (Kd.R_elder' (by (with_reducible repeat (first | apply Kd.R_alloc | apply Kd.R_drewN | apply Kd.R_drew)); exact HO436.out) (Kd.R_base ho0) hb); have n4_ := Aside0.mk (Kd.R_lower (Kd.R_new' (Kd.R_new' (Kd.R_new' (Kd.R_new' ho0 (Kd.R_lt (by (with_reducible repeat (first | apply Kd.R_alloc | apply Kd.R_drewN | apply Kd.R_drew)); exact HO424.out))) (Kd.R_lt (by (with_reducible repeat (first | apply Kd.R_alloc | apply Kd.R_drewN | apply Kd.R_drew)); exact HO428.out))) (Kd.R_lt (by (with_reducible repeat (first | apply Kd.R_alloc | apply Kd.R_drewN | apply Kd.R_drew)); exact HO432.out))) (Kd.R_lt (by (with_reducible repeat (first | apply Kd.R_alloc | apply Kd.R_drewN | apply Kd.R_drew)); exact HO436.out))) (below_size (by repeat (first | (with_reducible first | exact HB.out | apply below_alloc | apply pw_below_drewN | apply below_drew1))))); have n5_ := Aside0.mk (below_step (by repeat (first | (with_reducible first | exact HB.out | apply below_alloc | apply pw_below_drewN | apply below_drew1))) hb); clear HO424; clear HO428; clear HO432; clear HO436; clear HB; have HO424 := n0_; have HO428 := n1_; have HO432 := n2_; have HO436 := n3_; have HO440 := n4_; have HB := n5_; clear n0_ n1_ n2_ n3_ n4_ n5_; (try clear hb); (try clear ho0); obtain ⟨Ao227, co227, eo227⟩ := Kd.R_slice HO436.out; subst eo227) | ((with_reducible refine gate_callee (f := 100) rfl ?_); refine goesL_ (some 358) rfl rfl Try.func100 (by kernel_rfl) rfl #[.slice Ao227 t433.length co227] rfl (by (try simp only [List.map_toArray, List.map_cons, List.map_nil]); first | done | rfl | (simp only [List.length_drop, List.length_take]; rfl)) ?_; (with_reducible refine (impl_SumOverDivisors.calls kj208 _ _ t433 t441 t442 _ ?side1 ?side2 A219.out).mono ?_); (case side1 => repeat (first | exact (Kd.R_reads' HO436.out).2.2 | (with_reducible refine Kd.C_alloc ?_ _) | (with_reducible refine Kd.C_drewN ?_ _) | (with_reducible refine Kd.C_drew ?_))); (case side2 => exact (Kd.R_reads' HO436.out).2.1); rintro e w228 ⟨v443, rfl, ho0, hb⟩; refine ⟨_, rfl, ?_⟩; have n0_ := Aside0.mk (Kd.R_elder' (by (with_reducible repeat (first | apply Kd.R_alloc | apply Kd.R_drewN | apply Kd.R_drew)); exact HO424.out) (Kd.R_base ho0) hb); have n1_ := Aside0.mk (Kd.R_elder' (by (with_reducible repeat (first | apply Kd.R_alloc | apply Kd.R_drewN | apply Kd.R_drew)); exact HO428.out) (Kd.R_base ho0) hb); have n2_ := Aside0.mk (Kd.R_elder' (by (with_reducible repeat (first | apply Kd.R_alloc | apply Kd.R_drewN | apply Kd.R_drew)); exact HO432.out) (Kd.R_base ho0) hb); have n3_ := Aside0.mk (Kd.R_elder' (by (with_reducible repeat (first | apply Kd.R_alloc | apply Kd.R_drewN | apply Kd.R_drew)); exact HO436.out) (Kd.R_base ho0) hb); have n4_ := Aside0.mk (Kd.R_elder' (by (with_reducible repeat (first | apply Kd.R_alloc | apply Kd.R_drewN | apply Kd.R_drew)); exact HO440.out) (Kd.R_base ho0) hb); have n5_ := Aside0.mk (Kd.R_lower (Kd.R_new' (Kd.R_new' (Kd.R_new' (Kd.R_new' (Kd.R_new' ho0 (Kd.R_lt (by (with_reducible repeat (first | apply Kd.R_alloc | apply Kd.R_drewN | apply Kd.R_drew)); exact HO424.out))) (Kd.R_lt (by (with_reducible repeat (first | apply Kd.R_alloc | apply Kd.R_drewN | apply Kd.R_drew)); exact HO428.out))) (Kd.R_lt (by (with_reducible repeat (first | apply Kd.R_alloc | apply Kd.R_drewN | apply Kd.R_drew)); exact HO432.out))) (Kd.R_lt (by (with_reducible repeat (first | apply Kd.R_alloc | apply Kd.R_drewN | apply Kd.R_drew)); exact HO436.out))) (Kd.R_lt (by (with_reducible repeat (first | apply Kd.R_alloc | apply Kd.R_drewN | apply Kd.R_drew)); exact HO440.out))) (below_size (by repeat (first | (with_reducible first | exact HB.out | apply below_alloc | apply pw_below_drewN | apply below_drew1))))); have n6_ := Aside0.mk (below_step (by repeat (first | (with_reducible first | exact HB.out | apply below_alloc | apply pw_below_drewN | apply below_drew1))) hb); clear HO424; clear HO428; clear HO432; clear HO436; clear HO440; clear HB; have HO424 := n0_; have HO428 := n1_; have HO432 := n2_; have HO436 := n3_; have HO440 := n4_; have HO444 := n5_; have HB := n6_; clear n0_ n1_ n2_ n3_ n4_ n5_ n6_; (try clear hb); (try clear ho0)))
           (try simp only [Act.put, List.setIfInBounds_toArray, List.set_cons_zero, List.set_cons_succ])
           refine cutF mk0 [] (fun u_ wc => ∃ (kq : Nat) (x394_219 : Bool), (u_ 394) = .bool x394_219 ∧ Aside0 (j8 kq l5 x394_219 = some r) ∧ Aside0 (kq ≤ kj208) ∧ Aside0 (Below w.heap.size w wc)) ?_ ?_
           ·
            as_aux_lemma =>
             intro J_ K_ hJ_ hK_
             have H := HC220.out
             clear HC220
             by_cases c229 : t422 = true
             ·
              subst c229
              have H1 : (if t426 = true then (if t430 = true then (if t434 = true then (if t438 = true then ((laws_gSame.f kj208 t437 t425).bind fun t445 => (if t445 = true then (if t442 = true then ((laws_gSame.f kj208 t441 t429).bind fun t446 => (j8 kj208 l5 (!t446))) else (j8 kj208 l5 true)) else (j8 kj208 l5 true))) else (j8 kj208 l5 true)) else (j8 kj208 l5 true)) else (j8 kj208 l5 true)) else (j8 kj208 l5 true)) = some r := by rw [if_pos rfl] at H; exact H
              clear H
              have H := H1
              clear H1
              by_cases c230 : t426 = true
              ·
               subst c230
               have H1 : (if t430 = true then (if t434 = true then (if t438 = true then ((laws_gSame.f kj208 t437 t425).bind fun t445 => (if t445 = true then (if t442 = true then ((laws_gSame.f kj208 t441 t429).bind fun t446 => (j8 kj208 l5 (!t446))) else (j8 kj208 l5 true)) else (j8 kj208 l5 true))) else (j8 kj208 l5 true)) else (j8 kj208 l5 true)) else (j8 kj208 l5 true)) = some r := by rw [if_pos rfl] at H; exact H
               clear H
               have H := H1
               clear H1
               by_cases c231 : t430 = true
               ·
                subst c231
                have H1 : (if t434 = true then (if t438 = true then ((laws_gSame.f kj208 t437 t425).bind fun t445 => (if t445 = true then (if t442 = true then ((laws_gSame.f kj208 t441 t429).bind fun t446 => (j8 kj208 l5 (!t446))) else (j8 kj208 l5 true)) else (j8 kj208 l5 true))) else (j8 kj208 l5 true)) else (j8 kj208 l5 true)) = some r := by rw [if_pos rfl] at H; exact H
                clear H
                have H := H1
                clear H1
                by_cases c232 : t434 = true
                ·
                 subst c232
                 have H1 : (if t438 = true then ((laws_gSame.f kj208 t437 t425).bind fun t445 => (if t445 = true then (if t442 = true then ((laws_gSame.f kj208 t441 t429).bind fun t446 => (j8 kj208 l5 (!t446))) else (j8 kj208 l5 true)) else (j8 kj208 l5 true))) else (j8 kj208 l5 true)) = some r := by rw [if_pos rfl] at H; exact H
                 clear H
                 have H := H1
                 clear H1
                 by_cases c233 : t438 = true
                 ·
                  subst c233
                  have H1 : ((laws_gSame.f kj208 t437 t425).bind fun t445 => (if t445 = true then (if t442 = true then ((laws_gSame.f kj208 t441 t429).bind fun t446 => (j8 kj208 l5 (!t446))) else (j8 kj208 l5 true)) else (j8 kj208 l5 true))) = some r := by rw [if_pos rfl] at H; exact H
                  clear H
                  have H := H1
                  clear H1
                  replace H := Option.bind_eq_some_iff.mp H
                  obtain ⟨t445, A2340, H⟩ := H
                  replace H : (if t445 = true then (if t442 = true then ((laws_gSame.f kj208 t441 t429).bind fun t446 => (j8 kj208 l5 (!t446))) else (j8 kj208 l5 true)) else (j8 kj208 l5 true)) = some r := H
                  have A234 := Aside0.mk A2340
                  clear A2340
                  by_cases c235 : t445 = true
                  ·
                   subst c235
                   have H1 : (if t442 = true then ((laws_gSame.f kj208 t441 t429).bind fun t446 => (j8 kj208 l5 (!t446))) else (j8 kj208 l5 true)) = some r := by rw [if_pos rfl] at H; exact H
                   clear H
                   have H := H1
                   clear H1
                   by_cases c236 : t442 = true
                   ·
                    subst c236
                    have H1 : ((laws_gSame.f kj208 t441 t429).bind fun t446 => (j8 kj208 l5 (!t446))) = some r := by rw [if_pos rfl] at H; exact H
                    clear H
                    have H := H1
                    clear H1
                    replace H := Option.bind_eq_some_iff.mp H
                    obtain ⟨t446, A2370, H⟩ := H
                    replace H : (j8 kj208 l5 (!t446)) = some r := H
                    have A237 := Aside0.mk A2370
                    clear A2370
                    have H' := Aside0.mk H
                    clear H
                    obtain ⟨Ao238, co238, eo238⟩ := Kd.R_slice HO440.out
                    subst eo238
                    obtain ⟨Ao239, co239, eo239⟩ := Kd.R_slice HO428.out
                    subst eo239
                    go_wp2_with (first | (go_at_call 75; (with_reducible refine (laws_gSame.calls kj208 _ _ t437 _ _ t425 true _ ?side1 ?side2 ?side3 ?side4 A234.out).mono ?_); (case side1 => repeat (first | exact (Kd.R_reads' HO440.out).2.2 | (with_reducible refine Kd.C_alloc ?_ _) | (with_reducible refine Kd.C_drewN ?_ _) | (with_reducible refine Kd.C_drew ?_))); (case side2 => exact (Kd.R_reads' HO440.out).2.1); (case side3 => repeat (first | exact (Kd.R_reads' HO428.out).2.2 | (with_reducible refine Kd.C_alloc ?_ _) | (with_reducible refine Kd.C_drewN ?_ _) | (with_reducible refine Kd.C_drew ?_))); (case side4 => exact (Kd.R_reads' HO428.out).2.1); rintro e w' ⟨rfl, ⟨nd, rfl⟩⟩; obtain ⟨Ao240, co240, eo240⟩ := Kd.R_slice HO444.out; subst eo240; obtain ⟨Ao241, co241, eo241⟩ := Kd.R_slice HO432.out; subst eo241) | (go_at_call 75; (with_reducible refine (laws_gSame.calls kj208 _ _ t441 _ _ t429 t446 _ ?side1 ?side2 ?side3 ?side4 A237.out).mono ?_); (case side1 => repeat (first | exact (Kd.R_reads' HO444.out).2.2 | (with_reducible refine Kd.C_alloc ?_ _) | (with_reducible refine Kd.C_drewN ?_ _) | (with_reducible refine Kd.C_drew ?_))); (case side2 => exact (Kd.R_reads' HO444.out).2.1); (case side3 => repeat (first | exact (Kd.R_reads' HO432.out).2.2 | (with_reducible refine Kd.C_alloc ?_ _) | (with_reducible refine Kd.C_drewN ?_ _) | (with_reducible refine Kd.C_drew ?_))); (case side4 => exact (Kd.R_reads' HO432.out).2.1); rintro e w' ⟨rfl, ⟨nd, rfl⟩⟩))
                    refine cutMeet hJ_ ?_ (by kernel_rfl)
                    exact ⟨_, (!t446), (by first | rfl | (simp; done) | (simp [*]; done)), H', ⟨by have := HJ6.out; have := HJ15.out; have := HJ29.out; have := HJ105.out; have := HJ124.out; have := HJ170.out; have := HJ198.out; have := HJ208.out; first | omega | exact Nat.le_refl _⟩, ⟨by repeat (first | (with_reducible first | exact HB.out | apply below_alloc | apply pw_below_drewN | apply below_drew1))⟩⟩
                   replace c236 := Bool.eq_false_iff.mpr c236
                   subst c236
                   have H1 : (j8 kj208 l5 true) = some r := by rw [if_neg (show ¬ (false = true) by decide)] at H; exact H
                   clear H
                   have H := H1
                   clear H1
                   exact (laws_FnTablesMultipliedOfAll.j8_no _ _ (H.trans (congrArg some HRT.out))).elim
                  replace c235 := Bool.eq_false_iff.mpr c235
                  subst c235
                  have H1 : (j8 kj208 l5 true) = some r := by rw [if_neg (show ¬ (false = true) by decide)] at H; exact H
                  clear H
                  have H := H1
                  clear H1
                  exact (laws_FnTablesMultipliedOfAll.j8_no _ _ (H.trans (congrArg some HRT.out))).elim
                 replace c233 := Bool.eq_false_iff.mpr c233
                 subst c233
                 have H1 : (j8 kj208 l5 true) = some r := by rw [if_neg (show ¬ (false = true) by decide)] at H; exact H
                 clear H
                 have H := H1
                 clear H1
                 exact (laws_FnTablesMultipliedOfAll.j8_no _ _ (H.trans (congrArg some HRT.out))).elim
                replace c232 := Bool.eq_false_iff.mpr c232
                subst c232
                have H1 : (j8 kj208 l5 true) = some r := by rw [if_neg (show ¬ (false = true) by decide)] at H; exact H
                clear H
                have H := H1
                clear H1
                exact (laws_FnTablesMultipliedOfAll.j8_no _ _ (H.trans (congrArg some HRT.out))).elim
               replace c231 := Bool.eq_false_iff.mpr c231
               subst c231
               have H1 : (j8 kj208 l5 true) = some r := by rw [if_neg (show ¬ (false = true) by decide)] at H; exact H
               clear H
               have H := H1
               clear H1
               exact (laws_FnTablesMultipliedOfAll.j8_no _ _ (H.trans (congrArg some HRT.out))).elim
              replace c230 := Bool.eq_false_iff.mpr c230
              subst c230
              have H1 : (j8 kj208 l5 true) = some r := by rw [if_neg (show ¬ (false = true) by decide)] at H; exact H
              clear H
              have H := H1
              clear H1
              exact (laws_FnTablesMultipliedOfAll.j8_no _ _ (H.trans (congrArg some HRT.out))).elim
             replace c229 := Bool.eq_false_iff.mpr c229
             subst c229
             have H1 : (j8 kj208 l5 true) = some r := by rw [if_neg (show ¬ (false = true) by decide)] at H; exact H
             clear H
             have H := H1
             clear H1
             exact (laws_FnTablesMultipliedOfAll.j8_no _ _ (H.trans (congrArg some HRT.out))).elim
           intro u_ wc hcut
           clear HC220
           obtain ⟨kq, x394_219, e_394, HA, HJ219, HB⟩ := hcut
           dsimp only [cutFgt, mk0]
           rw [e_394]
           cases kq with
           | zero => exact absurd HA.out (by simp [j8])
           | succ kj219 =>
            have H := HA.out
            clear HA
            simp only [j8] at H
            by_cases c246 : x394_219 = true
            ·
             subst c246
             have H1 : (some false) = some r := by rw [if_pos rfl] at H; exact H
             clear H
             have H := H1
             clear H1
             exact absurd (Option.some.inj (H.trans (congrArg some HRT.out))) Bool.false_ne_true
            replace c246 := Bool.eq_false_iff.mpr c246
            subst c246
            have H1 : ((impl_IsSpread.f kj219 l5).bind fun bt447 => ((spec_IsSpread.f kj219 l5).bind fun bt449 => (if (bt447.2 == bt449.2) = true then (some (bt447.1 == bt449.1)) else (some false)))) = some r := by rw [if_neg (show ¬ (false = true) by decide)] at H; exact H
            clear H
            have H := H1
            clear H1
            replace H := Option.bind_eq_some_iff.mp H
            obtain ⟨⟨t447, t448⟩, A2470, H⟩ := H
            replace H : ((spec_IsSpread.f kj219 l5).bind fun bt449 => (if (t448 == bt449.2) = true then (some (t447 == bt449.1)) else (some false))) = some r := H
            have A247 := Aside0.mk A2470
            clear A2470
            replace H := Option.bind_eq_some_iff.mp H
            obtain ⟨⟨t449, t450⟩, A2480, H⟩ := H
            replace H : (if (t448 == t450) = true then (some (t447 == t449)) else (some false)) = some r := H
            have A248 := Aside0.mk A2480
            clear A2480
            by_cases c249 : (t448 == t450) = true
            ·
             rw [if_pos c249] at H
             have c249b0 : (t448 == t450) = true := c249
             (try (have c249b1 : decide (t448 = t450) = true := by simpa using c249))
             (try (have c249b2 : (t448 == t450) = true := by simpa using c249))
             clear c249
             first
             | exact absurd (Option.some.inj (H.trans (congrArg some HRT.out))) Bool.false_ne_true
             |
              obtain rfl := Option.some.inj H
              go_wp2_with (first | ((with_reducible refine gate_callee (f := 96) rfl ?_); refine goesL_ (some 397) rfl rfl Try.func96 (by kernel_rfl) rfl #[.slice A5 l5.length c5] rfl (by (try simp only [List.map_toArray, List.map_cons, List.map_nil]); first | done | rfl | (simp only [List.length_drop, List.length_take]; rfl)) ?_; (with_reducible refine (impl_IsSpread.calls kj219 _ _ l5 t447 t448 _ ?side1 ?side2 A247.out).mono ?_); (case side1 => repeat (first | exact (Kd.C_below HR5.out HB.out) | (with_reducible refine Kd.C_alloc ?_ _) | (with_reducible refine Kd.C_drewN ?_ _) | (with_reducible refine Kd.C_drew ?_))); (case side2 => exact HC5.out); rintro e w' ⟨rfl, ⟨nd, rfl⟩⟩; refine ⟨_, rfl, ?_⟩) | ((with_reducible refine gate_callee (f := 97) rfl ?_); refine goesL_ (some 402) rfl rfl Try.func97 (by kernel_rfl) rfl #[.slice A5 l5.length c5] rfl (by (try simp only [List.map_toArray, List.map_cons, List.map_nil]); first | done | rfl | (simp only [List.length_drop, List.length_take]; rfl)) ?_; (with_reducible refine (spec_IsSpread.calls kj219 _ _ l5 t449 t450 _ ?side1 ?side2 A248.out).mono ?_); (case side1 => repeat (first | exact (Kd.C_below HR5.out (by repeat (first | (with_reducible first | exact HB.out | apply below_alloc | apply pw_below_drewN | apply below_drew1)))) | (with_reducible refine Kd.C_alloc ?_ _) | (with_reducible refine Kd.C_drewN ?_ _) | (with_reducible refine Kd.C_drew ?_))); (case side2 => exact HC5.out); rintro e w' ⟨rfl, ⟨nd, rfl⟩⟩; refine ⟨_, rfl, ?_⟩))
              go_ret
              exact ⟨by first | rfl | (simp [errW_none, errW_some] <;> rfl) | (simp [*, errW_none, errW_some] <;> rfl), by repeat (first | (with_reducible first | exact HB.out | apply below_alloc | apply pw_below_drewN | apply below_drew1))⟩
            rw [if_neg c249] at H
            have c249b0 : (t448 == t450) = false := by simpa using c249
            (try (have c249b1 : decide (t448 = t450) = false := by simpa using c249))
            (try (have c249b2 : (t448 == t450) = false := by simpa using c249))
            (try (have c249b3 : ¬ (t448 = t450) := by simpa using c249))
            clear c249
            exact absurd (Option.some.inj (H.trans (congrArg some HRT.out))) Bool.false_ne_true
         replace c207 := Bool.eq_false_iff.mpr c207
         subst c207
         have H1 : ((impl_IsSpread.f kj198 l5).bind fun bt451 => ((spec_IsSpread.f kj198 l5).bind fun bt453 => (if (bt451.2 == bt453.2) = true then (some (bt451.1 == bt453.1)) else (some false)))) = some r := by rw [if_neg (show ¬ (false = true) by decide)] at H; exact H
         clear H
         have H := H1
         clear H1
         replace H := Option.bind_eq_some_iff.mp H
         obtain ⟨⟨t451, t452⟩, A2500, H⟩ := H
         replace H : ((spec_IsSpread.f kj198 l5).bind fun bt453 => (if (t452 == bt453.2) = true then (some (t451 == bt453.1)) else (some false))) = some r := H
         have A250 := Aside0.mk A2500
         clear A2500
         replace H := Option.bind_eq_some_iff.mp H
         obtain ⟨⟨t453, t454⟩, A2510, H⟩ := H
         replace H : (if (t452 == t454) = true then (some (t451 == t453)) else (some false)) = some r := H
         have A251 := Aside0.mk A2510
         clear A2510
         by_cases c252 : (t452 == t454) = true
         ·
          rw [if_pos c252] at H
          have c252b0 : (t452 == t454) = true := c252
          (try (have c252b1 : decide (t452 = t454) = true := by simpa using c252))
          (try (have c252b2 : (t452 == t454) = true := by simpa using c252))
          clear c252
          first
          | exact absurd (Option.some.inj (H.trans (congrArg some HRT.out))) Bool.false_ne_true
          |
           obtain rfl := Option.some.inj H
           go_wp2_with (first | ((with_reducible refine gate_callee (f := 96) rfl ?_); refine goesL_ (some 397) rfl rfl Try.func96 (by kernel_rfl) rfl #[.slice A5 l5.length c5] rfl (by (try simp only [List.map_toArray, List.map_cons, List.map_nil]); first | done | rfl | (simp only [List.length_drop, List.length_take]; rfl)) ?_; (with_reducible refine (impl_IsSpread.calls kj198 _ _ l5 t451 t452 _ ?side1 ?side2 A250.out).mono ?_); (case side1 => repeat (first | exact (Kd.C_below HR5.out HB.out) | (with_reducible refine Kd.C_alloc ?_ _) | (with_reducible refine Kd.C_drewN ?_ _) | (with_reducible refine Kd.C_drew ?_))); (case side2 => exact HC5.out); rintro e w' ⟨rfl, ⟨nd, rfl⟩⟩; refine ⟨_, rfl, ?_⟩) | ((with_reducible refine gate_callee (f := 97) rfl ?_); refine goesL_ (some 402) rfl rfl Try.func97 (by kernel_rfl) rfl #[.slice A5 l5.length c5] rfl (by (try simp only [List.map_toArray, List.map_cons, List.map_nil]); first | done | rfl | (simp only [List.length_drop, List.length_take]; rfl)) ?_; (with_reducible refine (spec_IsSpread.calls kj198 _ _ l5 t453 t454 _ ?side1 ?side2 A251.out).mono ?_); (case side1 => repeat (first | exact (Kd.C_below HR5.out (by repeat (first | (with_reducible first | exact HB.out | apply below_alloc | apply pw_below_drewN | apply below_drew1)))) | (with_reducible refine Kd.C_alloc ?_ _) | (with_reducible refine Kd.C_drewN ?_ _) | (with_reducible refine Kd.C_drew ?_))); (case side2 => exact HC5.out); rintro e w' ⟨rfl, ⟨nd, rfl⟩⟩; refine ⟨_, rfl, ?_⟩))
           go_ret
           exact ⟨by first | rfl | (simp [errW_none, errW_some] <;> rfl) | (simp [*, errW_none, errW_some] <;> rfl), by repeat (first | (with_reducible first | exact HB.out | apply below_alloc | apply pw_below_drewN | apply below_drew1))⟩
         rw [if_neg c252] at H
         have c252b0 : (t452 == t454) = false := by simpa using c252
         (try (have c252b1 : decide (t452 = t454) = false := by simpa using c252))
         (try (have c252b2 : (t452 == t454) = false := by simpa using c252))
         (try (have c252b3 : ¬ (t452 = t454) := by simpa using c252))
         clear c252
         exact absurd (Option.some.inj (H.trans (congrArg some HRT.out))) Bool.false_ne_true
/-- THE ONE PURE STATEMENT of laws_FnTablesMultipliedOfAll: yours. -/
def laws_FnTablesMultipliedOfAll.Pure : Prop := ∀ (l0 : List Int) (l1 : List Int) (l2 : List Int) (a3 : Int) (a4 : Int) (l5 : List Int), l0.length ≤ maxLen → l0.length * 8 ≤ 140737488351232 → (∀ x ∈ l0, (Lit.int .i64 x).wf = true) → l1.length ≤ maxLen → l1.length * 8 ≤ 140737488351232 → (∀ x ∈ l1, (Lit.int .i64 x).wf = true) → l2.length ≤ maxLen → l2.length * 8 ≤ 140737488351232 → (∀ x ∈ l2, (Lit.int .i64 x).wf = true) → (Lit.int .i64 a3).wf = true → (Lit.int .i64 a4).wf = true → l5.length ≤ maxLen → l5.length * 8 ≤ 140737488351232 → (∀ x ∈ l5, (Lit.int .i64 x).wf = true) → ∃ k, laws_FnTablesMultipliedOfAll.f k l0 l1 l2 a3 a4 l5 = some true
theorem laws_FnTablesMultipliedOfAll.walk (P : laws_FnTablesMultipliedOfAll.Pure) (a0 : Option Addr) (len0 cap0 : Nat) (z0 : List Int) (a1 : Option Addr) (len1 cap1 : Nat) (z1 : List Int) (a2 : Option Addr) (len2 cap2 : Nat) (z2 : List Int) (a3 : Int) (a4 : Int) (a5 : Option Addr) (len5 cap5 : Nat) (z5 : List Int) (w : World) (w0 : (a0 = none ∧ len0 = 0 ∧ cap0 = 0 ∧ z0 = []) ∨ ∃ x, a0 = some x ∧ len0 ≤ cap0 ∧ cap0 ≤ maxLen ∧ z0.length = cap0 ∧ (∀ i, i < z0.length → w.cell? (x.add i) = some (.int .i64 (z0.getD i 0))) ∧ ∀ n ∈ z0, (Lit.int .i64 n).wf = true) (y0 : len0 * 8 ≤ 140737488351232) (w1 : (a1 = none ∧ len1 = 0 ∧ cap1 = 0 ∧ z1 = []) ∨ ∃ x, a1 = some x ∧ len1 ≤ cap1 ∧ cap1 ≤ maxLen ∧ z1.length = cap1 ∧ (∀ i, i < z1.length → w.cell? (x.add i) = some (.int .i64 (z1.getD i 0))) ∧ ∀ n ∈ z1, (Lit.int .i64 n).wf = true) (y1 : len1 * 8 ≤ 140737488351232) (w2 : (a2 = none ∧ len2 = 0 ∧ cap2 = 0 ∧ z2 = []) ∨ ∃ x, a2 = some x ∧ len2 ≤ cap2 ∧ cap2 ≤ maxLen ∧ z2.length = cap2 ∧ (∀ i, i < z2.length → w.cell? (x.add i) = some (.int .i64 (z2.getD i 0))) ∧ ∀ n ∈ z2, (Lit.int .i64 n).wf = true) (y2 : len2 * 8 ≤ 140737488351232) (w3 : (Lit.int .i64 a3).wf = true) (w4 : (Lit.int .i64 a4).wf = true) (w5 : (a5 = none ∧ len5 = 0 ∧ cap5 = 0 ∧ z5 = []) ∨ ∃ x, a5 = some x ∧ len5 ≤ cap5 ∧ cap5 ≤ maxLen ∧ z5.length = cap5 ∧ (∀ i, i < z5.length → w.cell? (x.add i) = some (.int .i64 (z5.getD i 0))) ∧ ∀ n ∈ z5, (Lit.int .i64 n).wf = true) (y5 : len5 * 8 ≤ 140737488351232) :
  Calls Try.prog 8 #[.slice a0 len0 cap0, .slice a1 len1 cap1, .slice a2 len2 cap2, .int .i64 a3, .int .i64 a4, .slice a5 len5 cap5] w fun e w' => e = .returned (.bool true) ∧ Below w.heap.size w w' := by
 obtain ⟨l0, rfl, hr0, hm0, hw0, hc0⟩ := ReadsInt.ofRowC w0
 obtain ⟨l1, rfl, hr1, hm1, hw1, hc1⟩ := ReadsInt.ofRowC w1
 obtain ⟨l2, rfl, hr2, hm2, hw2, hc2⟩ := ReadsInt.ofRowC w2
 obtain ⟨l5, rfl, hr5, hm5, hw5, hc5⟩ := ReadsInt.ofRowC w5
 obtain ⟨k, h⟩ := P l0 l1 l2 a3 a4 l5 hm0 y0 hw0 hm1 y1 hw1 hm2 y2 hw2 w3 w4 hm5 y5 hw5
 refine (laws_FnTablesMultipliedOfAll.calls k _ _ l0 _ _ l1 _ _ l2 a3 a4 _ _ l5 true w (Kd.C_of_reads (d := (0 : Int)) (h1 := fun _ => rfl) hr0) hc0 (Kd.C_of_reads (d := (0 : Int)) (h1 := fun _ => rfl) hr1) hc1 (Kd.C_of_reads (d := (0 : Int)) (h1 := fun _ => rfl) hr2) hc2 (Kd.C_of_reads (d := (0 : Int)) (h1 := fun _ => rfl) hr5) hc5 h rfl).mono ?_
 rintro e w' ⟨rfl, hd⟩
 exact ⟨rfl, hd⟩

end Go.Proofs.Ytfhfbicejddoiaa.PFnTablesMultipliedOfAll
