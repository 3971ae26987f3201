-- Written for this claim by a program of this session, out of the translation and given contracts.
import Derived.Test.YtbdapgjgjllojaaPFnPatternsOpenOfAllx0
import Derived.Test.YtbdapgjgjllojaaPFnPatternsOpenOfAllx1
import Derived.Test.YtbdapgjgjllojaaPFnPatternsOpenOfAllx2
import Derived.Test.YtbdapgjgjllojaaPFnPatternsOpenOfAllx3
import Derived.Test.YtbdapgjgjllojaaPFnPatternsOpenOfAllx4
import Derived.Test.YtbdapgjgjllojaaPFnPatternsOpenOfAllx5
import Derived.Test.YtbdapgjgjllojaaPFnPatternsOpenOfAllx6
import Derived.Test.YtbdapgjgjllojaaPFnPatternsOpenOfAllx7
import Derived.Test.YtbdapgjgjllojaaPFnPatternsOpenOfAllx8
import Derived.Test.YtbdapgjgjllojaaPFnPatternsOpenOfAllx9
namespace Go.Proofs.Ytbdapgjgjllojaa.PFnPatternsOpenOfAll
open Go.RowKit Go.Proofs.YtbdapgjgjllojaaW.PrintWords Go.Proofs.YtbdapgjgjllojaaW.PrintLast Go.Proofs.YtbdapgjgjllojaaW.PrintMore
attribute [local go_sem] max2_int min2_int max_two min_two max_three min_three max_four min_four   -- for this text's walks alone
set_option linter.unusedVariables false
set_option linter.unusedSimpArgs false

/-! ### laws_FnPatternsOpenOfAll: function 3 -/
mutual
def laws_FnPatternsOpenOfAll.j0 : Nat → List Int → Int → Int → Int → List Int → Int → List Int → Int → Bool → Option (Bool)
 | 0, _, _, _, _, _, _, _, _, _ => none
 | k + 1, x0, x1, x2, x3, x4, x5, x6, x7, x89 => if x89 = true then (some true) else ((impl_IsOpen.f k x0).bind fun bt278 => ((spec_IsOpen.f k x0).bind fun bt280 => ((impl_FirstClosing.f k x0).bind fun bt282 => ((spec_FirstClosing.f k x0).bind fun bt284 => ((impl_BackPattern.f k x0).bind fun bt286 => ((spec_BackPattern.f k x0).bind fun bt290 => (if (bt278.2 != bt280.2) = true then (laws_FnPatternsOpenOfAll.j1 k x0 x1 x2 x3 x4 x5 x6 x7 bt278.1 bt278.2 bt282.1 bt282.2 bt286.1 true) else (if (bt278.1 != bt280.1) = true then (laws_FnPatternsOpenOfAll.j1 k x0 x1 x2 x3 x4 x5 x6 x7 bt278.1 bt278.2 bt282.1 bt282.2 bt286.1 true) else (if (bt282.2 != bt284.2) = true then (laws_FnPatternsOpenOfAll.j1 k x0 x1 x2 x3 x4 x5 x6 x7 bt278.1 bt278.2 bt282.1 bt282.2 bt286.1 true) else (if bt282.1 = bt284.1 then (if (bt286.2 != bt290.2) = true then (laws_FnPatternsOpenOfAll.j1 k x0 x1 x2 x3 x4 x5 x6 x7 bt278.1 bt278.2 bt282.1 bt282.2 bt286.1 true) else ((laws_tSame.f k bt286.1 bt290.1).bind fun t294 => (if t294 = true then ((impl_IsPattern.f k x0).bind fun t295 => (if (bt278.2 != t295) = true then (laws_FnPatternsOpenOfAll.j1 k x0 x1 x2 x3 x4 x5 x6 x7 bt278.1 bt278.2 bt282.1 bt282.2 bt286.1 true) else ((impl_IsPattern.f k x0).bind fun t296 => ((spec_IsPattern.f k x0).bind fun t297 => (if (t296 != t297) = true then (laws_FnPatternsOpenOfAll.j1 k x0 x1 x2 x3 x4 x5 x6 x7 bt278.1 bt278.2 bt282.1 bt282.2 bt286.1 true) else (if bt278.2 = true then (if (bt282.2 != (!bt278.1)) = true then (laws_FnPatternsOpenOfAll.j1 k x0 x1 x2 x3 x4 x5 x6 x7 bt278.1 bt278.2 bt282.1 bt282.2 bt286.1 true) else (laws_FnPatternsOpenOfAll.j1 k x0 x1 x2 x3 x4 x5 x6 x7 bt278.1 bt278.2 bt282.1 bt282.2 bt286.1 (bt286.2 != bt278.2))) else (if (bt282.2 != false) = true then (laws_FnPatternsOpenOfAll.j1 k x0 x1 x2 x3 x4 x5 x6 x7 bt278.1 bt278.2 bt282.1 bt282.2 bt286.1 true) else (laws_FnPatternsOpenOfAll.j1 k x0 x1 x2 x3 x4 x5 x6 x7 bt278.1 bt278.2 bt282.1 bt282.2 bt286.1 (bt286.2 != bt278.2))))))))) else (laws_FnPatternsOpenOfAll.j1 k x0 x1 x2 x3 x4 x5 x6 x7 bt278.1 bt278.2 bt282.1 bt282.2 bt286.1 true)))) else (laws_FnPatternsOpenOfAll.j1 k x0 x1 x2 x3 x4 x5 x6 x7 bt278.1 bt278.2 bt282.1 bt282.2 bt286.1 true)))))))))))
def laws_FnPatternsOpenOfAll.j1 : Nat → List Int → Int → Int → Int → List Int → Int → List Int → Int → Bool → Bool → Int → Bool → List Int → Bool → Option (Bool)
 | 0, _, _, _, _, _, _, _, _, _, _, _, _, _, _ => none
 | k + 1, x0, x1, x2, x3, x4, x5, x6, x7, x17, x18, x21, x22, x25, x175 => if x175 = true then (some false) else (if x18 = true then ((impl_IsOpen.f k x25).bind fun bt298 => ((impl_BackPattern.f k x25).bind fun bt300 => (if bt298.2 = true then (if (bt298.1 != x17) = true then (laws_FnPatternsOpenOfAll.j2 k x0 x1 x2 x3 x4 x5 x6 x7 x17 x21 x22 true) else (if bt300.2 = true then ((laws_tSame.f k bt300.1 x0).bind fun t304 => (laws_FnPatternsOpenOfAll.j2 k x0 x1 x2 x3 x4 x5 x6 x7 x17 x21 x22 (!t304))) else (laws_FnPatternsOpenOfAll.j2 k x0 x1 x2 x3 x4 x5 x6 x7 x17 x21 x22 true))) else (laws_FnPatternsOpenOfAll.j2 k x0 x1 x2 x3 x4 x5 x6 x7 x17 x21 x22 true)))) else (laws_FnPatternsOpenOfAll.j7 k x1 x2 x3 x4 x5 x6 x7))
def laws_FnPatternsOpenOfAll.j7 : Nat → Int → Int → Int → List Int → Int → List Int → Int → Option (Bool)
 | 0, _, _, _, _, _, _, _ => none
 | k + 1, x1, x2, x3, x4, x5, x6, x7 => (impl_NarrowestOpen.f k x1).bind fun bt316 => ((spec_NarrowestOpen.f k x1).bind fun bt320 => (if (bt316.2 != bt320.2) = true then (laws_FnPatternsOpenOfAll.j8 k x1 x2 x3 x4 x5 x6 x7 bt316.1 bt316.2 true) else ((laws_tSame.f k bt316.1 bt320.1).bind fun t324 => (laws_FnPatternsOpenOfAll.j8 k x1 x2 x3 x4 x5 x6 x7 bt316.1 bt316.2 (!t324)))))
def laws_FnPatternsOpenOfAll.j8 : Nat → Int → Int → Int → List Int → Int → List Int → Int → List Int → Bool → Bool → Option (Bool)
 | 0, _, _, _, _, _, _, _, _, _, _ => none
 | k + 1, x1, x2, x3, x4, x5, x6, x7, x40, x41, x293 => if x293 = true then (some false) else (if x41 = true then ((impl_IsOpen.f k x40).bind fun bt325 => (if 0 ≤ (wrap64 (x1 - 1)) then (if (wrap64 (x1 - 1)) < (x40.length : Int) then (if bt325.2 = true then (if bt325.1 = true then (laws_FnPatternsOpenOfAll.j9 k x1 x2 x3 x4 x5 x6 x7 x40 (rd x40 (wrap64 (x1 - 1))) ((x40.length : Int) != x1)) else (laws_FnPatternsOpenOfAll.j9 k x1 x2 x3 x4 x5 x6 x7 x40 (rd x40 (wrap64 (x1 - 1))) true)) else (laws_FnPatternsOpenOfAll.j9 k x1 x2 x3 x4 x5 x6 x7 x40 (rd x40 (wrap64 (x1 - 1))) true)) else (none)) else (none))) else (laws_FnPatternsOpenOfAll.j11 k x2 x3 x4 x5 x6 x7))
def laws_FnPatternsOpenOfAll.j11 : Nat → Int → Int → List Int → Int → List Int → Int → Option (Bool)
 | 0, _, _, _, _, _, _ => none
 | k + 1, x2, x3, x4, x5, x6, x7 => (impl_AllOpen.f k x2 x3).bind fun bt336 => ((spec_AllOpen.f k x2 x3).bind fun bt340 => ((impl_CountOpen.f k x2 x3).bind fun bt344 => ((spec_CountOpen.f k x2 x3).bind fun bt346 => (if (bt336.2 != bt340.2) = true then (laws_FnPatternsOpenOfAll.j12 k x2 x3 x4 x5 x6 x7 bt336.1 bt336.2 bt344.1 true) else ((laws_tRows.f k bt336.1 bt340.1).bind fun t348 => (if t348 = true then (if (bt344.2 != bt346.2) = true then (laws_FnPatternsOpenOfAll.j12 k x2 x3 x4 x5 x6 x7 bt336.1 bt336.2 bt344.1 true) else (if bt344.1 = bt346.1 then (if bt344.2 = true then (laws_FnPatternsOpenOfAll.j12 k x2 x3 x4 x5 x6 x7 bt336.1 bt336.2 bt344.1 (bt336.2 != (decide (bt344.1 ≤ 300)))) else (laws_FnPatternsOpenOfAll.j12 k x2 x3 x4 x5 x6 x7 bt336.1 bt336.2 bt344.1 (bt336.2 != false))) else (laws_FnPatternsOpenOfAll.j12 k x2 x3 x4 x5 x6 x7 bt336.1 bt336.2 bt344.1 true))) else (laws_FnPatternsOpenOfAll.j12 k x2 x3 x4 x5 x6 x7 bt336.1 bt336.2 bt344.1 true)))))))
def laws_FnPatternsOpenOfAll.j12 : Nat → Int → Int → List Int → Int → List Int → Int → List (List Int) → Bool → Int → Bool → Option (Bool)
 | 0, _, _, _, _, _, _, _, _, _, _ => none
 | k + 1, x2, x3, x4, x5, x6, x7, x52, x53, x56, x406 => if x406 = true then (some false) else (if x53 = true then (laws_FnPatternsOpenOfAll.l3 k x2 x3 x4 x5 x6 x7 x52 x56 x52 (x52.length : Int) 0) else (laws_FnPatternsOpenOfAll.j15 k x4 x5 x6 x7))
def laws_FnPatternsOpenOfAll.j15 : Nat → List Int → Int → List Int → Int → Option (Bool)
 | 0, _, _, _, _ => none
 | k + 1, x4, x5, x6, x7 => (impl_AddOffsets.f k x4 x5).bind fun bt359 => ((spec_AddOffsets.f k x4 x5).bind fun bt363 => ((impl_RestsOf.f k x6 x7).bind fun bt367 => ((spec_RestsOf.f k x6 x7).bind fun bt371 => (if (bt359.2 == bt363.2) = true then ((laws_tSame.f k bt359.1 bt363.1).bind fun t375 => (if t375 = true then (if (bt367.2 == bt371.2) = true then ((laws_tSame.f k bt367.1 bt371.1).bind fun t376 => (if t376 = true then (if bt359.2 = true then ((laws_tRises.f k bt359.1 1 x5).bind fun t377 => (some t377)) else (some true)) else (some false))) else (some false)) else (some false))) else (some false)))))
def laws_FnPatternsOpenOfAll.l3 : Nat → Int → Int → List Int → Int → List Int → Int → List (List Int) → Int → List (List Int) → Int → Int → Option (Bool)
 | 0, _, _, _, _, _, _, _, _, _, _, _ => none
 | k + 1, x2, x3, x4, x5, x6, x7, x52, x56, x408, x409, x410 => if x410 < x409 then (if 0 ≤ x410 then (if x410 < (x408.length : Int) then ((impl_IsOpen.f k (rd_L1 x408 x410)).bind fun bt350 => ((impl_BackPattern.f k (rd_L1 x408 x410)).bind fun bt352 => (laws_FnPatternsOpenOfAll.l4 k x2 x3 x4 x5 x6 x7 x52 x56 (rd_L1 x408 x410) bt350.1 bt350.2 bt352.1 bt352.2 false x408 x409 x410 x52 (x52.length : Int) 0))) else (none)) else (none)) else (if (x52.length : Int) = x56 then (laws_FnPatternsOpenOfAll.j15 k x4 x5 x6 x7) else (some false))
def laws_FnPatternsOpenOfAll.l4 : Nat → Int → Int → List Int → Int → List Int → Int → List (List Int) → Int → List Int → Bool → Bool → List Int → Bool → Bool → List (List Int) → Int → Int → List (List Int) → Int → Int → Option (Bool)
 | 0, _, _, _, _, _, _, _, _, _, _, _, _, _, _, _, _, _, _, _, _ => none
 | k + 1, x2, x3, x4, x5, x6, x7, x52, x56, x61, x62, x63, x64, x65, x66, x408, x409, x410, x424, x425, x426 => if x426 < x425 then (if 0 ≤ x426 then (if x426 < (x424.length : Int) then (if x66 = true then (laws_FnPatternsOpenOfAll.l4 k x2 x3 x4 x5 x6 x7 x52 x56 x61 x62 x63 x64 x65 true x408 x409 x410 x424 x425 (wrap64 (x426 + 1))) else ((laws_tSame.f k (rd_L1 x424 x426) x64).bind fun t357 => (laws_FnPatternsOpenOfAll.l4 k x2 x3 x4 x5 x6 x7 x52 x56 x61 x62 x63 x64 x65 t357 x408 x409 x410 x424 x425 (wrap64 (x426 + 1))))) else (none)) else (none)) else (if x63 = true then (if x62 = true then (if (x61.length : Int) = x2 then (if 0 ≤ (wrap64 (x2 - 1)) then (if (wrap64 (x2 - 1)) < (x61.length : Int) then (if (rd x61 (wrap64 (x2 - 1))) = x3 then (if x65 = true then (if x66 = true then (laws_FnPatternsOpenOfAll.l3 k x2 x3 x4 x5 x6 x7 x52 x56 x408 x409 (wrap64 (x410 + 1))) else (some false)) else (some false)) else (some false)) else (none)) else (none)) else (some false)) else (some false)) else (some false))
def laws_FnPatternsOpenOfAll.j9 : Nat → Int → Int → Int → List Int → Int → List Int → Int → List Int → Int → Bool → Option (Bool)
 | 0, _, _, _, _, _, _, _, _, _, _ => none
 | k + 1, x1, x2, x3, x4, x5, x6, x7, x40, x46, x316 => if x316 = true then (some false) else (laws_FnPatternsOpenOfAll.l2 k x1 x2 x3 x4 x5 x6 x7 x40 x46 0)
def laws_FnPatternsOpenOfAll.l2 : Nat → Int → Int → Int → List Int → Int → List Int → Int → List Int → Int → Int → Option (Bool)
 | 0, _, _, _, _, _, _, _, _, _, _ => none
 | k + 1, x1, x2, x3, x4, x5, x6, x7, x40, x46, x47 => if x47 < x46 then ((impl_CountOpen.f k x1 x47).bind fun bt328 => (if bt328.2 = true then (if bt328.1 = 0 then (laws_FnPatternsOpenOfAll.l2 k x1 x2 x3 x4 x5 x6 x7 x40 x46 (wrap64 (x47 + 1))) else (some false)) else (some false))) else ((impl_AllOpen.f k x1 x46).bind fun bt330 => (if bt330.2 = true then (if (bt330.1.length : Int) < 1 then (some false) else (if 0 < (bt330.1.length : Int) then ((laws_tSame.f k (rd_L1 bt330.1 0) x40).bind fun t335 => (if t335 = true then (laws_FnPatternsOpenOfAll.j11 k x2 x3 x4 x5 x6 x7) else (some false))) else (none))) else (some false)))
def laws_FnPatternsOpenOfAll.j2 : Nat → List Int → Int → Int → Int → List Int → Int → List Int → Int → Bool → Int → Bool → Bool → Option (Bool)
 | 0, _, _, _, _, _, _, _, _, _, _, _, _ => none
 | k + 1, x0, x1, x2, x3, x4, x5, x6, x7, x17, x21, x22, x203 => if x203 = true then (some false) else ((some (([2, 3, 5, 7, 11, 13] : List Int) : List Int)).bind fun y305 => (laws_FnPatternsOpenOfAll.l0 k x0 x1 x2 x3 x4 x5 x6 x7 x17 x21 x22 false y305 (y305.length : Int) 0))
def laws_FnPatternsOpenOfAll.l0 : Nat → List Int → Int → Int → Int → List Int → Int → List Int → Int → Bool → Int → Bool → Bool → List Int → Int → Int → Option (Bool)
 | 0, _, _, _, _, _, _, _, _, _, _, _, _, _, _, _ => none
 | k + 1, x0, x1, x2, x3, x4, x5, x6, x7, x17, x21, x22, x33, x204, x205, x206 => if x206 < x205 then (if 0 ≤ x206 then (if x206 < (x204.length : Int) then ((impl_RestsOf.f k x0 (rd x204 x206)).bind fun bt309 => (if bt309.2 = true then ((laws_tRises.f k bt309.1 0 (wrap64 ((rd x204 x206) - 1))).bind fun t313 => (if t313 = true then (if (bt309.1.length : Int) > (x0.length : Int) then (laws_FnPatternsOpenOfAll.j4 k x0 x1 x2 x3 x4 x5 x6 x7 x17 x21 x22 x33 (rd x204 x206) bt309.1 x204 x205 x206 true) else (if (bt309.1.length : Int) = (rd x204 x206) then (if x33 = true then (laws_FnPatternsOpenOfAll.j4 k x0 x1 x2 x3 x4 x5 x6 x7 x17 x21 x22 x33 (rd x204 x206) bt309.1 x204 x205 x206 false) else (if x22 = true then (laws_FnPatternsOpenOfAll.j4 k x0 x1 x2 x3 x4 x5 x6 x7 x17 x21 x22 x33 (rd x204 x206) bt309.1 x204 x205 x206 (x21 != (rd x204 x206))) else (laws_FnPatternsOpenOfAll.j4 k x0 x1 x2 x3 x4 x5 x6 x7 x17 x21 x22 x33 (rd x204 x206) bt309.1 x204 x205 x206 true))) else (laws_FnPatternsOpenOfAll.j4 k x0 x1 x2 x3 x4 x5 x6 x7 x17 x21 x22 x33 (rd x204 x206) bt309.1 x204 x205 x206 false))) else (laws_FnPatternsOpenOfAll.j4 k x0 x1 x2 x3 x4 x5 x6 x7 x17 x21 x22 x33 (rd x204 x206) bt309.1 x204 x205 x206 true))) else (laws_FnPatternsOpenOfAll.j4 k x0 x1 x2 x3 x4 x5 x6 x7 x17 x21 x22 x33 (rd x204 x206) bt309.1 x204 x205 x206 true))) else (none)) else (none)) else (if (x33 == x17) = true then (some false) else (laws_FnPatternsOpenOfAll.j7 k x1 x2 x3 x4 x5 x6 x7))
def laws_FnPatternsOpenOfAll.j4 : Nat → List Int → Int → Int → Int → List Int → Int → List Int → Int → Bool → Int → Bool → Bool → Int → List Int → List Int → Int → Int → Bool → Option (Bool)
 | 0, _, _, _, _, _, _, _, _, _, _, _, _, _, _, _, _, _, _ => none
 | k + 1, x0, x1, x2, x3, x4, x5, x6, x7, x17, x21, x22, x33, x35, x36, x204, x205, x206, x250 => if x250 = true then (some false) else (if x33 = true then (laws_FnPatternsOpenOfAll.j5 k x0 x1 x2 x3 x4 x5 x6 x7 x17 x21 x22 true x35 x36 x204 x205 x206) else (laws_FnPatternsOpenOfAll.j5 k x0 x1 x2 x3 x4 x5 x6 x7 x17 x21 x22 ((x36.length : Int) == x35) x35 x36 x204 x205 x206))
def laws_FnPatternsOpenOfAll.j5 : Nat → List Int → Int → Int → Int → List Int → Int → List Int → Int → Bool → Int → Bool → Bool → Int → List Int → List Int → Int → Int → Option (Bool)
 | 0, _, _, _, _, _, _, _, _, _, _, _, _, _, _, _, _, _ => none
 | k + 1, x0, x1, x2, x3, x4, x5, x6, x7, x17, x21, x22, x33, x35, x36, x204, x205, x206 => laws_FnPatternsOpenOfAll.l1 k x0 x1 x2 x3 x4 x5 x6 x7 x17 x21 x22 x33 x35 x36 x204 x205 x206 x0 (x0.length : Int) 0
def laws_FnPatternsOpenOfAll.l1 : Nat → List Int → Int → Int → Int → List Int → Int → List Int → Int → Bool → Int → Bool → Bool → Int → List Int → List Int → Int → Int → List Int → Int → Int → Option (Bool)
 | 0, _, _, _, _, _, _, _, _, _, _, _, _, _, _, _, _, _, _, _, _ => none
 | k + 1, x0, x1, x2, x3, x4, x5, x6, x7, x17, x21, x22, x33, x35, x36, x204, x205, x206, x258, x259, x260 => if x260 < x259 then (if 0 ≤ x260 then (if x260 < (x258.length : Int) then (if x35 = 0 then (none) else ((laws_tHas.f k x36 (Int.tmod (rd x258 x260) x35)).bind fun t315 => (if t315 = true then (laws_FnPatternsOpenOfAll.l1 k x0 x1 x2 x3 x4 x5 x6 x7 x17 x21 x22 x33 x35 x36 x204 x205 x206 x258 x259 (wrap64 (x260 + 1))) else (some false)))) else (none)) else (none)) else (laws_FnPatternsOpenOfAll.l0 k x0 x1 x2 x3 x4 x5 x6 x7 x17 x21 x22 x33 x204 x205 (wrap64 (x206 + 1)))
end
def laws_FnPatternsOpenOfAll.f (k : Nat) (l0 : List Int) (a1 : Int) (a2 : Int) (a3 : Int) (l4 : List Int) (a5 : Int) (l6 : List Int) (a7 : Int) : Option (Bool) := if (l0.length : Int) > 10000 then (laws_FnPatternsOpenOfAll.j0 k l0 a1 a2 a3 l4 a5 l6 a7 true) else (if (l4.length : Int) > 10000 then (laws_FnPatternsOpenOfAll.j0 k l0 a1 a2 a3 l4 a5 l6 a7 true) else (laws_FnPatternsOpenOfAll.j0 k l0 a1 a2 a3 l4 a5 l6 a7 (decide ((l6.length : Int) > 10000))))
theorem laws_FnPatternsOpenOfAll.mono_l : ∀ k, (∀ y0 y1 y2 y3 y4 y5 y6 y7 y8, LeO (laws_FnPatternsOpenOfAll.j0 k y0 y1 y2 y3 y4 y5 y6 y7 y8) (laws_FnPatternsOpenOfAll.j0 (k + 1) y0 y1 y2 y3 y4 y5 y6 y7 y8)) ∧ (∀ y0 y1 y2 y3 y4 y5 y6 y7 y8 y9 y10 y11 y12 y13, LeO (laws_FnPatternsOpenOfAll.j1 k y0 y1 y2 y3 y4 y5 y6 y7 y8 y9 y10 y11 y12 y13) (laws_FnPatternsOpenOfAll.j1 (k + 1) y0 y1 y2 y3 y4 y5 y6 y7 y8 y9 y10 y11 y12 y13)) ∧ (∀ y0 y1 y2 y3 y4 y5 y6, LeO (laws_FnPatternsOpenOfAll.j7 k y0 y1 y2 y3 y4 y5 y6) (laws_FnPatternsOpenOfAll.j7 (k + 1) y0 y1 y2 y3 y4 y5 y6)) ∧ (∀ y0 y1 y2 y3 y4 y5 y6 y7 y8 y9, LeO (laws_FnPatternsOpenOfAll.j8 k y0 y1 y2 y3 y4 y5 y6 y7 y8 y9) (laws_FnPatternsOpenOfAll.j8 (k + 1) y0 y1 y2 y3 y4 y5 y6 y7 y8 y9)) ∧ (∀ y0 y1 y2 y3 y4 y5, LeO (laws_FnPatternsOpenOfAll.j11 k y0 y1 y2 y3 y4 y5) (laws_FnPatternsOpenOfAll.j11 (k + 1) y0 y1 y2 y3 y4 y5)) ∧ (∀ y0 y1 y2 y3 y4 y5 y6 y7 y8 y9, LeO (laws_FnPatternsOpenOfAll.j12 k y0 y1 y2 y3 y4 y5 y6 y7 y8 y9) (laws_FnPatternsOpenOfAll.j12 (k + 1) y0 y1 y2 y3 y4 y5 y6 y7 y8 y9)) ∧ (∀ y0 y1 y2 y3, LeO (laws_FnPatternsOpenOfAll.j15 k y0 y1 y2 y3) (laws_FnPatternsOpenOfAll.j15 (k + 1) y0 y1 y2 y3)) ∧ (∀ y0 y1 y2 y3 y4 y5 y6 y7 y8 y9 y10, LeO (laws_FnPatternsOpenOfAll.l3 k y0 y1 y2 y3 y4 y5 y6 y7 y8 y9 y10) (laws_FnPatternsOpenOfAll.l3 (k + 1) y0 y1 y2 y3 y4 y5 y6 y7 y8 y9 y10)) ∧ (∀ y0 y1 y2 y3 y4 y5 y6 y7 y8 y9 y10 y11 y12 y13 y14 y15 y16 y17 y18 y19, LeO (laws_FnPatternsOpenOfAll.l4 k y0 y1 y2 y3 y4 y5 y6 y7 y8 y9 y10 y11 y12 y13 y14 y15 y16 y17 y18 y19) (laws_FnPatternsOpenOfAll.l4 (k + 1) y0 y1 y2 y3 y4 y5 y6 y7 y8 y9 y10 y11 y12 y13 y14 y15 y16 y17 y18 y19)) ∧ (∀ y0 y1 y2 y3 y4 y5 y6 y7 y8 y9, LeO (laws_FnPatternsOpenOfAll.j9 k y0 y1 y2 y3 y4 y5 y6 y7 y8 y9) (laws_FnPatternsOpenOfAll.j9 (k + 1) y0 y1 y2 y3 y4 y5 y6 y7 y8 y9)) ∧ (∀ y0 y1 y2 y3 y4 y5 y6 y7 y8 y9, LeO (laws_FnPatternsOpenOfAll.l2 k y0 y1 y2 y3 y4 y5 y6 y7 y8 y9) (laws_FnPatternsOpenOfAll.l2 (k + 1) y0 y1 y2 y3 y4 y5 y6 y7 y8 y9)) ∧ (∀ y0 y1 y2 y3 y4 y5 y6 y7 y8 y9 y10 y11, LeO (laws_FnPatternsOpenOfAll.j2 k y0 y1 y2 y3 y4 y5 y6 y7 y8 y9 y10 y11) (laws_FnPatternsOpenOfAll.j2 (k + 1) y0 y1 y2 y3 y4 y5 y6 y7 y8 y9 y10 y11)) ∧ (∀ y0 y1 y2 y3 y4 y5 y6 y7 y8 y9 y10 y11 y12 y13 y14, LeO (laws_FnPatternsOpenOfAll.l0 k y0 y1 y2 y3 y4 y5 y6 y7 y8 y9 y10 y11 y12 y13 y14) (laws_FnPatternsOpenOfAll.l0 (k + 1) y0 y1 y2 y3 y4 y5 y6 y7 y8 y9 y10 y11 y12 y13 y14)) ∧ (∀ y0 y1 y2 y3 y4 y5 y6 y7 y8 y9 y10 y11 y12 y13 y14 y15 y16 y17, LeO (laws_FnPatternsOpenOfAll.j4 k y0 y1 y2 y3 y4 y5 y6 y7 y8 y9 y10 y11 y12 y13 y14 y15 y16 y17) (laws_FnPatternsOpenOfAll.j4 (k + 1) y0 y1 y2 y3 y4 y5 y6 y7 y8 y9 y10 y11 y12 y13 y14 y15 y16 y17)) ∧ (∀ y0 y1 y2 y3 y4 y5 y6 y7 y8 y9 y10 y11 y12 y13 y14 y15 y16, LeO (laws_FnPatternsOpenOfAll.j5 k y0 y1 y2 y3 y4 y5 y6 y7 y8 y9 y10 y11 y12 y13 y14 y15 y16) (laws_FnPatternsOpenOfAll.j5 (k + 1) y0 y1 y2 y3 y4 y5 y6 y7 y8 y9 y10 y11 y12 y13 y14 y15 y16)) ∧ (∀ y0 y1 y2 y3 y4 y5 y6 y7 y8 y9 y10 y11 y12 y13 y14 y15 y16 y17 y18 y19, LeO (laws_FnPatternsOpenOfAll.l1 k y0 y1 y2 y3 y4 y5 y6 y7 y8 y9 y10 y11 y12 y13 y14 y15 y16 y17 y18 y19) (laws_FnPatternsOpenOfAll.l1 (k + 1) y0 y1 y2 y3 y4 y5 y6 y7 y8 y9 y10 y11 y12 y13 y14 y15 y16 y17 y18 y19))
 | 0 => ⟨fun _ _ _ _ _ _ _ _ _ r h => by simp [laws_FnPatternsOpenOfAll.j0] at h, fun _ _ _ _ _ _ _ _ _ _ _ _ _ _ r h => by simp [laws_FnPatternsOpenOfAll.j1] at h, fun _ _ _ _ _ _ _ r h => by simp [laws_FnPatternsOpenOfAll.j7] at h, fun _ _ _ _ _ _ _ _ _ _ r h => by simp [laws_FnPatternsOpenOfAll.j8] at h, fun _ _ _ _ _ _ r h => by simp [laws_FnPatternsOpenOfAll.j11] at h, fun _ _ _ _ _ _ _ _ _ _ r h => by simp [laws_FnPatternsOpenOfAll.j12] at h, fun _ _ _ _ r h => by simp [laws_FnPatternsOpenOfAll.j15] at h, fun _ _ _ _ _ _ _ _ _ _ _ r h => by simp [laws_FnPatternsOpenOfAll.l3] at h, fun _ _ _ _ _ _ _ _ _ _ _ _ _ _ _ _ _ _ _ _ r h => by simp [laws_FnPatternsOpenOfAll.l4] at h, fun _ _ _ _ _ _ _ _ _ _ r h => by simp [laws_FnPatternsOpenOfAll.j9] at h, fun _ _ _ _ _ _ _ _ _ _ r h => by simp [laws_FnPatternsOpenOfAll.l2] at h, fun _ _ _ _ _ _ _ _ _ _ _ _ r h => by simp [laws_FnPatternsOpenOfAll.j2] at h, fun _ _ _ _ _ _ _ _ _ _ _ _ _ _ _ r h => by simp [laws_FnPatternsOpenOfAll.l0] at h, fun _ _ _ _ _ _ _ _ _ _ _ _ _ _ _ _ _ _ r h => by simp [laws_FnPatternsOpenOfAll.j4] at h, fun _ _ _ _ _ _ _ _ _ _ _ _ _ _ _ _ _ r h => by simp [laws_FnPatternsOpenOfAll.j5] at h, fun _ _ _ _ _ _ _ _ _ _ _ _ _ _ _ _ _ _ _ _ r h => by simp [laws_FnPatternsOpenOfAll.l1] at h⟩
 | k + 1 => by
  obtain ⟨ih0, ih1, ih2, ih3, ih4, ih5, ih6, ih7, ih8, ih9, ih10, ih11, ih12, ih13, ih14, ih15⟩ := laws_FnPatternsOpenOfAll.mono_l k
  refine ⟨?_, ?_, ?_, ?_, ?_, ?_, ?_, ?_, ?_, ?_, ?_, ?_, ?_, ?_, ?_, ?_⟩
  ·
   intro y0 y1 y2 y3 y4 y5 y6 y7 y8
   unfold laws_FnPatternsOpenOfAll.j0
   repeat' first
   | (with_reducible first | exact ih0 _ _ _ _ _ _ _ _ _ | exact ih1 _ _ _ _ _ _ _ _ _ _ _ _ _ _ | exact ih2 _ _ _ _ _ _ _ | exact ih3 _ _ _ _ _ _ _ _ _ _ | exact ih4 _ _ _ _ _ _ | exact ih5 _ _ _ _ _ _ _ _ _ _ | exact ih6 _ _ _ _ | exact ih7 _ _ _ _ _ _ _ _ _ _ _ | exact ih8 _ _ _ _ _ _ _ _ _ _ _ _ _ _ _ _ _ _ _ _ | exact ih9 _ _ _ _ _ _ _ _ _ _ | exact ih10 _ _ _ _ _ _ _ _ _ _ | exact ih11 _ _ _ _ _ _ _ _ _ _ _ _ | exact ih12 _ _ _ _ _ _ _ _ _ _ _ _ _ _ _ | exact ih13 _ _ _ _ _ _ _ _ _ _ _ _ _ _ _ _ _ _ | exact ih14 _ _ _ _ _ _ _ _ _ _ _ _ _ _ _ _ _ | exact ih15 _ _ _ _ _ _ _ _ _ _ _ _ _ _ _ _ _ _ _ _ | exact impl_AddOffsets.mono _ _ _ | exact impl_AllOpen.mono _ _ _ | exact impl_BackPattern.mono _ _ | exact impl_CountOpen.mono _ _ _ | exact impl_FirstClosing.mono _ _ | exact impl_IsOpen.mono _ _ | exact impl_IsPattern.mono _ _ | exact impl_NarrowestOpen.mono _ _ | exact impl_RestsOf.mono _ _ _ | exact laws_tHas.mono _ _ _ | exact laws_tRises.mono _ _ _ _ | exact laws_tRows.mono _ _ _ | exact laws_tSame.mono _ _ _ | exact spec_AddOffsets.mono _ _ _ | exact spec_AllOpen.mono _ _ _ | exact spec_BackPattern.mono _ _ | exact spec_CountOpen.mono _ _ _ | exact spec_FirstClosing.mono _ _ | exact spec_IsOpen.mono _ _ | exact spec_IsPattern.mono _ _ | exact spec_NarrowestOpen.mono _ _ | exact spec_RestsOf.mono _ _ _ | exact LeO.refl _ | exact LeO.none _ | refine LeO.ite ?_ ?_ | refine LeO.bind ?_ (fun _ => ?_))
  ·
   intro y0 y1 y2 y3 y4 y5 y6 y7 y8 y9 y10 y11 y12 y13
   unfold laws_FnPatternsOpenOfAll.j1
   repeat' first
   | (with_reducible first | exact ih0 _ _ _ _ _ _ _ _ _ | exact ih1 _ _ _ _ _ _ _ _ _ _ _ _ _ _ | exact ih2 _ _ _ _ _ _ _ | exact ih3 _ _ _ _ _ _ _ _ _ _ | exact ih4 _ _ _ _ _ _ | exact ih5 _ _ _ _ _ _ _ _ _ _ | exact ih6 _ _ _ _ | exact ih7 _ _ _ _ _ _ _ _ _ _ _ | exact ih8 _ _ _ _ _ _ _ _ _ _ _ _ _ _ _ _ _ _ _ _ | exact ih9 _ _ _ _ _ _ _ _ _ _ | exact ih10 _ _ _ _ _ _ _ _ _ _ | exact ih11 _ _ _ _ _ _ _ _ _ _ _ _ | exact ih12 _ _ _ _ _ _ _ _ _ _ _ _ _ _ _ | exact ih13 _ _ _ _ _ _ _ _ _ _ _ _ _ _ _ _ _ _ | exact ih14 _ _ _ _ _ _ _ _ _ _ _ _ _ _ _ _ _ | exact ih15 _ _ _ _ _ _ _ _ _ _ _ _ _ _ _ _ _ _ _ _ | exact impl_AddOffsets.mono _ _ _ | exact impl_AllOpen.mono _ _ _ | exact impl_BackPattern.mono _ _ | exact impl_CountOpen.mono _ _ _ | exact impl_FirstClosing.mono _ _ | exact impl_IsOpen.mono _ _ | exact impl_IsPattern.mono _ _ | exact impl_NarrowestOpen.mono _ _ | exact impl_RestsOf.mono _ _ _ | exact laws_tHas.mono _ _ _ | exact laws_tRises.mono _ _ _ _ | exact laws_tRows.mono _ _ _ | exact laws_tSame.mono _ _ _ | exact spec_AddOffsets.mono _ _ _ | exact spec_AllOpen.mono _ _ _ | exact spec_BackPattern.mono _ _ | exact spec_CountOpen.mono _ _ _ | exact spec_FirstClosing.mono _ _ | exact spec_IsOpen.mono _ _ | exact spec_IsPattern.mono _ _ | exact spec_NarrowestOpen.mono _ _ | exact spec_RestsOf.mono _ _ _ | exact LeO.refl _ | exact LeO.none _ | refine LeO.ite ?_ ?_ | refine LeO.bind ?_ (fun _ => ?_))
  ·
   intro y0 y1 y2 y3 y4 y5 y6
   unfold laws_FnPatternsOpenOfAll.j7
   repeat' first
   | (with_reducible first | exact ih0 _ _ _ _ _ _ _ _ _ | exact ih1 _ _ _ _ _ _ _ _ _ _ _ _ _ _ | exact ih2 _ _ _ _ _ _ _ | exact ih3 _ _ _ _ _ _ _ _ _ _ | exact ih4 _ _ _ _ _ _ | exact ih5 _ _ _ _ _ _ _ _ _ _ | exact ih6 _ _ _ _ | exact ih7 _ _ _ _ _ _ _ _ _ _ _ | exact ih8 _ _ _ _ _ _ _ _ _ _ _ _ _ _ _ _ _ _ _ _ | exact ih9 _ _ _ _ _ _ _ _ _ _ | exact ih10 _ _ _ _ _ _ _ _ _ _ | exact ih11 _ _ _ _ _ _ _ _ _ _ _ _ | exact ih12 _ _ _ _ _ _ _ _ _ _ _ _ _ _ _ | exact ih13 _ _ _ _ _ _ _ _ _ _ _ _ _ _ _ _ _ _ | exact ih14 _ _ _ _ _ _ _ _ _ _ _ _ _ _ _ _ _ | exact ih15 _ _ _ _ _ _ _ _ _ _ _ _ _ _ _ _ _ _ _ _ | exact impl_AddOffsets.mono _ _ _ | exact impl_AllOpen.mono _ _ _ | exact impl_BackPattern.mono _ _ | exact impl_CountOpen.mono _ _ _ | exact impl_FirstClosing.mono _ _ | exact impl_IsOpen.mono _ _ | exact impl_IsPattern.mono _ _ | exact impl_NarrowestOpen.mono _ _ | exact impl_RestsOf.mono _ _ _ | exact laws_tHas.mono _ _ _ | exact laws_tRises.mono _ _ _ _ | exact laws_tRows.mono _ _ _ | exact laws_tSame.mono _ _ _ | exact spec_AddOffsets.mono _ _ _ | exact spec_AllOpen.mono _ _ _ | exact spec_BackPattern.mono _ _ | exact spec_CountOpen.mono _ _ _ | exact spec_FirstClosing.mono _ _ | exact spec_IsOpen.mono _ _ | exact spec_IsPattern.mono _ _ | exact spec_NarrowestOpen.mono _ _ | exact spec_RestsOf.mono _ _ _ | exact LeO.refl _ | exact LeO.none _ | refine LeO.ite ?_ ?_ | refine LeO.bind ?_ (fun _ => ?_))
  ·
   intro y0 y1 y2 y3 y4 y5 y6 y7 y8 y9
   unfold laws_FnPatternsOpenOfAll.j8
   repeat' first
   | (with_reducible first | exact ih0 _ _ _ _ _ _ _ _ _ | exact ih1 _ _ _ _ _ _ _ _ _ _ _ _ _ _ | exact ih2 _ _ _ _ _ _ _ | exact ih3 _ _ _ _ _ _ _ _ _ _ | exact ih4 _ _ _ _ _ _ | exact ih5 _ _ _ _ _ _ _ _ _ _ | exact ih6 _ _ _ _ | exact ih7 _ _ _ _ _ _ _ _ _ _ _ | exact ih8 _ _ _ _ _ _ _ _ _ _ _ _ _ _ _ _ _ _ _ _ | exact ih9 _ _ _ _ _ _ _ _ _ _ | exact ih10 _ _ _ _ _ _ _ _ _ _ | exact ih11 _ _ _ _ _ _ _ _ _ _ _ _ | exact ih12 _ _ _ _ _ _ _ _ _ _ _ _ _ _ _ | exact ih13 _ _ _ _ _ _ _ _ _ _ _ _ _ _ _ _ _ _ | exact ih14 _ _ _ _ _ _ _ _ _ _ _ _ _ _ _ _ _ | exact ih15 _ _ _ _ _ _ _ _ _ _ _ _ _ _ _ _ _ _ _ _ | exact impl_AddOffsets.mono _ _ _ | exact impl_AllOpen.mono _ _ _ | exact impl_BackPattern.mono _ _ | exact impl_CountOpen.mono _ _ _ | exact impl_FirstClosing.mono _ _ | exact impl_IsOpen.mono _ _ | exact impl_IsPattern.mono _ _ | exact impl_NarrowestOpen.mono _ _ | exact impl_RestsOf.mono _ _ _ | exact laws_tHas.mono _ _ _ | exact laws_tRises.mono _ _ _ _ | exact laws_tRows.mono _ _ _ | exact laws_tSame.mono _ _ _ | exact spec_AddOffsets.mono _ _ _ | exact spec_AllOpen.mono _ _ _ | exact spec_BackPattern.mono _ _ | exact spec_CountOpen.mono _ _ _ | exact spec_FirstClosing.mono _ _ | exact spec_IsOpen.mono _ _ | exact spec_IsPattern.mono _ _ | exact spec_NarrowestOpen.mono _ _ | exact spec_RestsOf.mono _ _ _ | exact LeO.refl _ | exact LeO.none _ | refine LeO.ite ?_ ?_ | refine LeO.bind ?_ (fun _ => ?_))
  ·
   intro y0 y1 y2 y3 y4 y5
   unfold laws_FnPatternsOpenOfAll.j11
   repeat' first
   | (with_reducible first | exact ih0 _ _ _ _ _ _ _ _ _ | exact ih1 _ _ _ _ _ _ _ _ _ _ _ _ _ _ | exact ih2 _ _ _ _ _ _ _ | exact ih3 _ _ _ _ _ _ _ _ _ _ | exact ih4 _ _ _ _ _ _ | exact ih5 _ _ _ _ _ _ _ _ _ _ | exact ih6 _ _ _ _ | exact ih7 _ _ _ _ _ _ _ _ _ _ _ | exact ih8 _ _ _ _ _ _ _ _ _ _ _ _ _ _ _ _ _ _ _ _ | exact ih9 _ _ _ _ _ _ _ _ _ _ | exact ih10 _ _ _ _ _ _ _ _ _ _ | exact ih11 _ _ _ _ _ _ _ _ _ _ _ _ | exact ih12 _ _ _ _ _ _ _ _ _ _ _ _ _ _ _ | exact ih13 _ _ _ _ _ _ _ _ _ _ _ _ _ _ _ _ _ _ | exact ih14 _ _ _ _ _ _ _ _ _ _ _ _ _ _ _ _ _ | exact ih15 _ _ _ _ _ _ _ _ _ _ _ _ _ _ _ _ _ _ _ _ | exact impl_AddOffsets.mono _ _ _ | exact impl_AllOpen.mono _ _ _ | exact impl_BackPattern.mono _ _ | exact impl_CountOpen.mono _ _ _ | exact impl_FirstClosing.mono _ _ | exact impl_IsOpen.mono _ _ | exact impl_IsPattern.mono _ _ | exact impl_NarrowestOpen.mono _ _ | exact impl_RestsOf.mono _ _ _ | exact laws_tHas.mono _ _ _ | exact laws_tRises.mono _ _ _ _ | exact laws_tRows.mono _ _ _ | exact laws_tSame.mono _ _ _ | exact spec_AddOffsets.mono _ _ _ | exact spec_AllOpen.mono _ _ _ | exact spec_BackPattern.mono _ _ | exact spec_CountOpen.mono _ _ _ | exact spec_FirstClosing.mono _ _ | exact spec_IsOpen.mono _ _ | exact spec_IsPattern.mono _ _ | exact spec_NarrowestOpen.mono _ _ | exact spec_RestsOf.mono _ _ _ | exact LeO.refl _ | exact LeO.none _ | refine LeO.ite ?_ ?_ | refine LeO.bind ?_ (fun _ => ?_))
  ·
   intro y0 y1 y2 y3 y4 y5 y6 y7 y8 y9
   unfold laws_FnPatternsOpenOfAll.j12
   repeat' first
   | (with_reducible first | exact ih0 _ _ _ _ _ _ _ _ _ | exact ih1 _ _ _ _ _ _ _ _ _ _ _ _ _ _ | exact ih2 _ _ _ _ _ _ _ | exact ih3 _ _ _ _ _ _ _ _ _ _ | exact ih4 _ _ _ _ _ _ | exact ih5 _ _ _ _ _ _ _ _ _ _ | exact ih6 _ _ _ _ | exact ih7 _ _ _ _ _ _ _ _ _ _ _ | exact ih8 _ _ _ _ _ _ _ _ _ _ _ _ _ _ _ _ _ _ _ _ | exact ih9 _ _ _ _ _ _ _ _ _ _ | exact ih10 _ _ _ _ _ _ _ _ _ _ | exact ih11 _ _ _ _ _ _ _ _ _ _ _ _ | exact ih12 _ _ _ _ _ _ _ _ _ _ _ _ _ _ _ | exact ih13 _ _ _ _ _ _ _ _ _ _ _ _ _ _ _ _ _ _ | exact ih14 _ _ _ _ _ _ _ _ _ _ _ _ _ _ _ _ _ | exact ih15 _ _ _ _ _ _ _ _ _ _ _ _ _ _ _ _ _ _ _ _ | exact impl_AddOffsets.mono _ _ _ | exact impl_AllOpen.mono _ _ _ | exact impl_BackPattern.mono _ _ | exact impl_CountOpen.mono _ _ _ | exact impl_FirstClosing.mono _ _ | exact impl_IsOpen.mono _ _ | exact impl_IsPattern.mono _ _ | exact impl_NarrowestOpen.mono _ _ | exact impl_RestsOf.mono _ _ _ | exact laws_tHas.mono _ _ _ | exact laws_tRises.mono _ _ _ _ | exact laws_tRows.mono _ _ _ | exact laws_tSame.mono _ _ _ | exact spec_AddOffsets.mono _ _ _ | exact spec_AllOpen.mono _ _ _ | exact spec_BackPattern.mono _ _ | exact spec_CountOpen.mono _ _ _ | exact spec_FirstClosing.mono _ _ | exact spec_IsOpen.mono _ _ | exact spec_IsPattern.mono _ _ | exact spec_NarrowestOpen.mono _ _ | exact spec_RestsOf.mono _ _ _ | exact LeO.refl _ | exact LeO.none _ | refine LeO.ite ?_ ?_ | refine LeO.bind ?_ (fun _ => ?_))
  ·
   intro y0 y1 y2 y3
   unfold laws_FnPatternsOpenOfAll.j15
   repeat' first
   | (with_reducible first | exact ih0 _ _ _ _ _ _ _ _ _ | exact ih1 _ _ _ _ _ _ _ _ _ _ _ _ _ _ | exact ih2 _ _ _ _ _ _ _ | exact ih3 _ _ _ _ _ _ _ _ _ _ | exact ih4 _ _ _ _ _ _ | exact ih5 _ _ _ _ _ _ _ _ _ _ | exact ih6 _ _ _ _ | exact ih7 _ _ _ _ _ _ _ _ _ _ _ | exact ih8 _ _ _ _ _ _ _ _ _ _ _ _ _ _ _ _ _ _ _ _ | exact ih9 _ _ _ _ _ _ _ _ _ _ | exact ih10 _ _ _ _ _ _ _ _ _ _ | exact ih11 _ _ _ _ _ _ _ _ _ _ _ _ | exact ih12 _ _ _ _ _ _ _ _ _ _ _ _ _ _ _ | exact ih13 _ _ _ _ _ _ _ _ _ _ _ _ _ _ _ _ _ _ | exact ih14 _ _ _ _ _ _ _ _ _ _ _ _ _ _ _ _ _ | exact ih15 _ _ _ _ _ _ _ _ _ _ _ _ _ _ _ _ _ _ _ _ | exact impl_AddOffsets.mono _ _ _ | exact impl_AllOpen.mono _ _ _ | exact impl_BackPattern.mono _ _ | exact impl_CountOpen.mono _ _ _ | exact impl_FirstClosing.mono _ _ | exact impl_IsOpen.mono _ _ | exact impl_IsPattern.mono _ _ | exact impl_NarrowestOpen.mono _ _ | exact impl_RestsOf.mono _ _ _ | exact laws_tHas.mono _ _ _ | exact laws_tRises.mono _ _ _ _ | exact laws_tRows.mono _ _ _ | exact laws_tSame.mono _ _ _ | exact spec_AddOffsets.mono _ _ _ | exact spec_AllOpen.mono _ _ _ | exact spec_BackPattern.mono _ _ | exact spec_CountOpen.mono _ _ _ | exact spec_FirstClosing.mono _ _ | exact spec_IsOpen.mono _ _ | exact spec_IsPattern.mono _ _ | exact spec_NarrowestOpen.mono _ _ | exact spec_RestsOf.mono _ _ _ | exact LeO.refl _ | exact LeO.none _ | refine LeO.ite ?_ ?_ | refine LeO.bind ?_ (fun _ => ?_))
  ·
   intro y0 y1 y2 y3 y4 y5 y6 y7 y8 y9 y10
   unfold laws_FnPatternsOpenOfAll.l3
   repeat' first
   | (with_reducible first | exact ih0 _ _ _ _ _ _ _ _ _ | exact ih1 _ _ _ _ _ _ _ _ _ _ _ _ _ _ | exact ih2 _ _ _ _ _ _ _ | exact ih3 _ _ _ _ _ _ _ _ _ _ | exact ih4 _ _ _ _ _ _ | exact ih5 _ _ _ _ _ _ _ _ _ _ | exact ih6 _ _ _ _ | exact ih7 _ _ _ _ _ _ _ _ _ _ _ | exact ih8 _ _ _ _ _ _ _ _ _ _ _ _ _ _ _ _ _ _ _ _ | exact ih9 _ _ _ _ _ _ _ _ _ _ | exact ih10 _ _ _ _ _ _ _ _ _ _ | exact ih11 _ _ _ _ _ _ _ _ _ _ _ _ | exact ih12 _ _ _ _ _ _ _ _ _ _ _ _ _ _ _ | exact ih13 _ _ _ _ _ _ _ _ _ _ _ _ _ _ _ _ _ _ | exact ih14 _ _ _ _ _ _ _ _ _ _ _ _ _ _ _ _ _ | exact ih15 _ _ _ _ _ _ _ _ _ _ _ _ _ _ _ _ _ _ _ _ | exact impl_AddOffsets.mono _ _ _ | exact impl_AllOpen.mono _ _ _ | exact impl_BackPattern.mono _ _ | exact impl_CountOpen.mono _ _ _ | exact impl_FirstClosing.mono _ _ | exact impl_IsOpen.mono _ _ | exact impl_IsPattern.mono _ _ | exact impl_NarrowestOpen.mono _ _ | exact impl_RestsOf.mono _ _ _ | exact laws_tHas.mono _ _ _ | exact laws_tRises.mono _ _ _ _ | exact laws_tRows.mono _ _ _ | exact laws_tSame.mono _ _ _ | exact spec_AddOffsets.mono _ _ _ | exact spec_AllOpen.mono _ _ _ | exact spec_BackPattern.mono _ _ | exact spec_CountOpen.mono _ _ _ | exact spec_FirstClosing.mono _ _ | exact spec_IsOpen.mono _ _ | exact spec_IsPattern.mono _ _ | exact spec_NarrowestOpen.mono _ _ | exact spec_RestsOf.mono _ _ _ | exact LeO.refl _ | exact LeO.none _ | refine LeO.ite ?_ ?_ | refine LeO.bind ?_ (fun _ => ?_))
  ·
   intro y0 y1 y2 y3 y4 y5 y6 y7 y8 y9 y10 y11 y12 y13 y14 y15 y16 y17 y18 y19
   unfold laws_FnPatternsOpenOfAll.l4
   repeat' first
   | (with_reducible first | exact ih0 _ _ _ _ _ _ _ _ _ | exact ih1 _ _ _ _ _ _ _ _ _ _ _ _ _ _ | exact ih2 _ _ _ _ _ _ _ | exact ih3 _ _ _ _ _ _ _ _ _ _ | exact ih4 _ _ _ _ _ _ | exact ih5 _ _ _ _ _ _ _ _ _ _ | exact ih6 _ _ _ _ | exact ih7 _ _ _ _ _ _ _ _ _ _ _ | exact ih8 _ _ _ _ _ _ _ _ _ _ _ _ _ _ _ _ _ _ _ _ | exact ih9 _ _ _ _ _ _ _ _ _ _ | exact ih10 _ _ _ _ _ _ _ _ _ _ | exact ih11 _ _ _ _ _ _ _ _ _ _ _ _ | exact ih12 _ _ _ _ _ _ _ _ _ _ _ _ _ _ _ | exact ih13 _ _ _ _ _ _ _ _ _ _ _ _ _ _ _ _ _ _ | exact ih14 _ _ _ _ _ _ _ _ _ _ _ _ _ _ _ _ _ | exact ih15 _ _ _ _ _ _ _ _ _ _ _ _ _ _ _ _ _ _ _ _ | exact impl_AddOffsets.mono _ _ _ | exact impl_AllOpen.mono _ _ _ | exact impl_BackPattern.mono _ _ | exact impl_CountOpen.mono _ _ _ | exact impl_FirstClosing.mono _ _ | exact impl_IsOpen.mono _ _ | exact impl_IsPattern.mono _ _ | exact impl_NarrowestOpen.mono _ _ | exact impl_RestsOf.mono _ _ _ | exact laws_tHas.mono _ _ _ | exact laws_tRises.mono _ _ _ _ | exact laws_tRows.mono _ _ _ | exact laws_tSame.mono _ _ _ | exact spec_AddOffsets.mono _ _ _ | exact spec_AllOpen.mono _ _ _ | exact spec_BackPattern.mono _ _ | exact spec_CountOpen.mono _ _ _ | exact spec_FirstClosing.mono _ _ | exact spec_IsOpen.mono _ _ | exact spec_IsPattern.mono _ _ | exact spec_NarrowestOpen.mono _ _ | exact spec_RestsOf.mono _ _ _ | exact LeO.refl _ | exact LeO.none _ | refine LeO.ite ?_ ?_ | refine LeO.bind ?_ (fun _ => ?_))
  ·
   intro y0 y1 y2 y3 y4 y5 y6 y7 y8 y9
   unfold laws_FnPatternsOpenOfAll.j9
   repeat' first
   | (with_reducible first | exact ih0 _ _ _ _ _ _ _ _ _ | exact ih1 _ _ _ _ _ _ _ _ _ _ _ _ _ _ | exact ih2 _ _ _ _ _ _ _ | exact ih3 _ _ _ _ _ _ _ _ _ _ | exact ih4 _ _ _ _ _ _ | exact ih5 _ _ _ _ _ _ _ _ _ _ | exact ih6 _ _ _ _ | exact ih7 _ _ _ _ _ _ _ _ _ _ _ | exact ih8 _ _ _ _ _ _ _ _ _ _ _ _ _ _ _ _ _ _ _ _ | exact ih9 _ _ _ _ _ _ _ _ _ _ | exact ih10 _ _ _ _ _ _ _ _ _ _ | exact ih11 _ _ _ _ _ _ _ _ _ _ _ _ | exact ih12 _ _ _ _ _ _ _ _ _ _ _ _ _ _ _ | exact ih13 _ _ _ _ _ _ _ _ _ _ _ _ _ _ _ _ _ _ | exact ih14 _ _ _ _ _ _ _ _ _ _ _ _ _ _ _ _ _ | exact ih15 _ _ _ _ _ _ _ _ _ _ _ _ _ _ _ _ _ _ _ _ | exact impl_AddOffsets.mono _ _ _ | exact impl_AllOpen.mono _ _ _ | exact impl_BackPattern.mono _ _ | exact impl_CountOpen.mono _ _ _ | exact impl_FirstClosing.mono _ _ | exact impl_IsOpen.mono _ _ | exact impl_IsPattern.mono _ _ | exact impl_NarrowestOpen.mono _ _ | exact impl_RestsOf.mono _ _ _ | exact laws_tHas.mono _ _ _ | exact laws_tRises.mono _ _ _ _ | exact laws_tRows.mono _ _ _ | exact laws_tSame.mono _ _ _ | exact spec_AddOffsets.mono _ _ _ | exact spec_AllOpen.mono _ _ _ | exact spec_BackPattern.mono _ _ | exact spec_CountOpen.mono _ _ _ | exact spec_FirstClosing.mono _ _ | exact spec_IsOpen.mono _ _ | exact spec_IsPattern.mono _ _ | exact spec_NarrowestOpen.mono _ _ | exact spec_RestsOf.mono _ _ _ | exact LeO.refl _ | exact LeO.none _ | refine LeO.ite ?_ ?_ | refine LeO.bind ?_ (fun _ => ?_))
  ·
   intro y0 y1 y2 y3 y4 y5 y6 y7 y8 y9
   unfold laws_FnPatternsOpenOfAll.l2
   repeat' first
   | (with_reducible first | exact ih0 _ _ _ _ _ _ _ _ _ | exact ih1 _ _ _ _ _ _ _ _ _ _ _ _ _ _ | exact ih2 _ _ _ _ _ _ _ | exact ih3 _ _ _ _ _ _ _ _ _ _ | exact ih4 _ _ _ _ _ _ | exact ih5 _ _ _ _ _ _ _ _ _ _ | exact ih6 _ _ _ _ | exact ih7 _ _ _ _ _ _ _ _ _ _ _ | exact ih8 _ _ _ _ _ _ _ _ _ _ _ _ _ _ _ _ _ _ _ _ | exact ih9 _ _ _ _ _ _ _ _ _ _ | exact ih10 _ _ _ _ _ _ _ _ _ _ | exact ih11 _ _ _ _ _ _ _ _ _ _ _ _ | exact ih12 _ _ _ _ _ _ _ _ _ _ _ _ _ _ _ | exact ih13 _ _ _ _ _ _ _ _ _ _ _ _ _ _ _ _ _ _ | exact ih14 _ _ _ _ _ _ _ _ _ _ _ _ _ _ _ _ _ | exact ih15 _ _ _ _ _ _ _ _ _ _ _ _ _ _ _ _ _ _ _ _ | exact impl_AddOffsets.mono _ _ _ | exact impl_AllOpen.mono _ _ _ | exact impl_BackPattern.mono _ _ | exact impl_CountOpen.mono _ _ _ | exact impl_FirstClosing.mono _ _ | exact impl_IsOpen.mono _ _ | exact impl_IsPattern.mono _ _ | exact impl_NarrowestOpen.mono _ _ | exact impl_RestsOf.mono _ _ _ | exact laws_tHas.mono _ _ _ | exact laws_tRises.mono _ _ _ _ | exact laws_tRows.mono _ _ _ | exact laws_tSame.mono _ _ _ | exact spec_AddOffsets.mono _ _ _ | exact spec_AllOpen.mono _ _ _ | exact spec_BackPattern.mono _ _ | exact spec_CountOpen.mono _ _ _ | exact spec_FirstClosing.mono _ _ | exact spec_IsOpen.mono _ _ | exact spec_IsPattern.mono _ _ | exact spec_NarrowestOpen.mono _ _ | exact spec_RestsOf.mono _ _ _ | exact LeO.refl _ | exact LeO.none _ | refine LeO.ite ?_ ?_ | refine LeO.bind ?_ (fun _ => ?_))
  ·
   intro y0 y1 y2 y3 y4 y5 y6 y7 y8 y9 y10 y11
   unfold laws_FnPatternsOpenOfAll.j2
   repeat' first
   | (with_reducible first | exact ih0 _ _ _ _ _ _ _ _ _ | exact ih1 _ _ _ _ _ _ _ _ _ _ _ _ _ _ | exact ih2 _ _ _ _ _ _ _ | exact ih3 _ _ _ _ _ _ _ _ _ _ | exact ih4 _ _ _ _ _ _ | exact ih5 _ _ _ _ _ _ _ _ _ _ | exact ih6 _ _ _ _ | exact ih7 _ _ _ _ _ _ _ _ _ _ _ | exact ih8 _ _ _ _ _ _ _ _ _ _ _ _ _ _ _ _ _ _ _ _ | exact ih9 _ _ _ _ _ _ _ _ _ _ | exact ih10 _ _ _ _ _ _ _ _ _ _ | exact ih11 _ _ _ _ _ _ _ _ _ _ _ _ | exact ih12 _ _ _ _ _ _ _ _ _ _ _ _ _ _ _ | exact ih13 _ _ _ _ _ _ _ _ _ _ _ _ _ _ _ _ _ _ | exact ih14 _ _ _ _ _ _ _ _ _ _ _ _ _ _ _ _ _ | exact ih15 _ _ _ _ _ _ _ _ _ _ _ _ _ _ _ _ _ _ _ _ | exact impl_AddOffsets.mono _ _ _ | exact impl_AllOpen.mono _ _ _ | exact impl_BackPattern.mono _ _ | exact impl_CountOpen.mono _ _ _ | exact impl_FirstClosing.mono _ _ | exact impl_IsOpen.mono _ _ | exact impl_IsPattern.mono _ _ | exact impl_NarrowestOpen.mono _ _ | exact impl_RestsOf.mono _ _ _ | exact laws_tHas.mono _ _ _ | exact laws_tRises.mono _ _ _ _ | exact laws_tRows.mono _ _ _ | exact laws_tSame.mono _ _ _ | exact spec_AddOffsets.mono _ _ _ | exact spec_AllOpen.mono _ _ _ | exact spec_BackPattern.mono _ _ | exact spec_CountOpen.mono _ _ _ | exact spec_FirstClosing.mono _ _ | exact spec_IsOpen.mono _ _ | exact spec_IsPattern.mono _ _ | exact spec_NarrowestOpen.mono _ _ | exact spec_RestsOf.mono _ _ _ | exact LeO.refl _ | exact LeO.none _ | refine LeO.ite ?_ ?_ | refine LeO.bind ?_ (fun _ => ?_))
  ·
   intro y0 y1 y2 y3 y4 y5 y6 y7 y8 y9 y10 y11 y12 y13 y14
   unfold laws_FnPatternsOpenOfAll.l0
   repeat' first
   | (with_reducible first | exact ih0 _ _ _ _ _ _ _ _ _ | exact ih1 _ _ _ _ _ _ _ _ _ _ _ _ _ _ | exact ih2 _ _ _ _ _ _ _ | exact ih3 _ _ _ _ _ _ _ _ _ _ | exact ih4 _ _ _ _ _ _ | exact ih5 _ _ _ _ _ _ _ _ _ _ | exact ih6 _ _ _ _ | exact ih7 _ _ _ _ _ _ _ _ _ _ _ | exact ih8 _ _ _ _ _ _ _ _ _ _ _ _ _ _ _ _ _ _ _ _ | exact ih9 _ _ _ _ _ _ _ _ _ _ | exact ih10 _ _ _ _ _ _ _ _ _ _ | exact ih11 _ _ _ _ _ _ _ _ _ _ _ _ | exact ih12 _ _ _ _ _ _ _ _ _ _ _ _ _ _ _ | exact ih13 _ _ _ _ _ _ _ _ _ _ _ _ _ _ _ _ _ _ | exact ih14 _ _ _ _ _ _ _ _ _ _ _ _ _ _ _ _ _ | exact ih15 _ _ _ _ _ _ _ _ _ _ _ _ _ _ _ _ _ _ _ _ | exact impl_AddOffsets.mono _ _ _ | exact impl_AllOpen.mono _ _ _ | exact impl_BackPattern.mono _ _ | exact impl_CountOpen.mono _ _ _ | exact impl_FirstClosing.mono _ _ | exact impl_IsOpen.mono _ _ | exact impl_IsPattern.mono _ _ | exact impl_NarrowestOpen.mono _ _ | exact impl_RestsOf.mono _ _ _ | exact laws_tHas.mono _ _ _ | exact laws_tRises.mono _ _ _ _ | exact laws_tRows.mono _ _ _ | exact laws_tSame.mono _ _ _ | exact spec_AddOffsets.mono _ _ _ | exact spec_AllOpen.mono _ _ _ | exact spec_BackPattern.mono _ _ | exact spec_CountOpen.mono _ _ _ | exact spec_FirstClosing.mono _ _ | exact spec_IsOpen.mono _ _ | exact spec_IsPattern.mono _ _ | exact spec_NarrowestOpen.mono _ _ | exact spec_RestsOf.mono _ _ _ | exact LeO.refl _ | exact LeO.none _ | refine LeO.ite ?_ ?_ | refine LeO.bind ?_ (fun _ => ?_))
  ·
   intro y0 y1 y2 y3 y4 y5 y6 y7 y8 y9 y10 y11 y12 y13 y14 y15 y16 y17
   unfold laws_FnPatternsOpenOfAll.j4
   repeat' first
   | (with_reducible first | exact ih0 _ _ _ _ _ _ _ _ _ | exact ih1 _ _ _ _ _ _ _ _ _ _ _ _ _ _ | exact ih2 _ _ _ _ _ _ _ | exact ih3 _ _ _ _ _ _ _ _ _ _ | exact ih4 _ _ _ _ _ _ | exact ih5 _ _ _ _ _ _ _ _ _ _ | exact ih6 _ _ _ _ | exact ih7 _ _ _ _ _ _ _ _ _ _ _ | exact ih8 _ _ _ _ _ _ _ _ _ _ _ _ _ _ _ _ _ _ _ _ | exact ih9 _ _ _ _ _ _ _ _ _ _ | exact ih10 _ _ _ _ _ _ _ _ _ _ | exact ih11 _ _ _ _ _ _ _ _ _ _ _ _ | exact ih12 _ _ _ _ _ _ _ _ _ _ _ _ _ _ _ | exact ih13 _ _ _ _ _ _ _ _ _ _ _ _ _ _ _ _ _ _ | exact ih14 _ _ _ _ _ _ _ _ _ _ _ _ _ _ _ _ _ | exact ih15 _ _ _ _ _ _ _ _ _ _ _ _ _ _ _ _ _ _ _ _ | exact impl_AddOffsets.mono _ _ _ | exact impl_AllOpen.mono _ _ _ | exact impl_BackPattern.mono _ _ | exact impl_CountOpen.mono _ _ _ | exact impl_FirstClosing.mono _ _ | exact impl_IsOpen.mono _ _ | exact impl_IsPattern.mono _ _ | exact impl_NarrowestOpen.mono _ _ | exact impl_RestsOf.mono _ _ _ | exact laws_tHas.mono _ _ _ | exact laws_tRises.mono _ _ _ _ | exact laws_tRows.mono _ _ _ | exact laws_tSame.mono _ _ _ | exact spec_AddOffsets.mono _ _ _ | exact spec_AllOpen.mono _ _ _ | exact spec_BackPattern.mono _ _ | exact spec_CountOpen.mono _ _ _ | exact spec_FirstClosing.mono _ _ | exact spec_IsOpen.mono _ _ | exact spec_IsPattern.mono _ _ | exact spec_NarrowestOpen.mono _ _ | exact spec_RestsOf.mono _ _ _ | exact LeO.refl _ | exact LeO.none _ | refine LeO.ite ?_ ?_ | refine LeO.bind ?_ (fun _ => ?_))
  ·
   intro y0 y1 y2 y3 y4 y5 y6 y7 y8 y9 y10 y11 y12 y13 y14 y15 y16
   unfold laws_FnPatternsOpenOfAll.j5
   repeat' first
   | (with_reducible first | exact ih0 _ _ _ _ _ _ _ _ _ | exact ih1 _ _ _ _ _ _ _ _ _ _ _ _ _ _ | exact ih2 _ _ _ _ _ _ _ | exact ih3 _ _ _ _ _ _ _ _ _ _ | exact ih4 _ _ _ _ _ _ | exact ih5 _ _ _ _ _ _ _ _ _ _ | exact ih6 _ _ _ _ | exact ih7 _ _ _ _ _ _ _ _ _ _ _ | exact ih8 _ _ _ _ _ _ _ _ _ _ _ _ _ _ _ _ _ _ _ _ | exact ih9 _ _ _ _ _ _ _ _ _ _ | exact ih10 _ _ _ _ _ _ _ _ _ _ | exact ih11 _ _ _ _ _ _ _ _ _ _ _ _ | exact ih12 _ _ _ _ _ _ _ _ _ _ _ _ _ _ _ | exact ih13 _ _ _ _ _ _ _ _ _ _ _ _ _ _ _ _ _ _ | exact ih14 _ _ _ _ _ _ _ _ _ _ _ _ _ _ _ _ _ | exact ih15 _ _ _ _ _ _ _ _ _ _ _ _ _ _ _ _ _ _ _ _ | exact impl_AddOffsets.mono _ _ _ | exact impl_AllOpen.mono _ _ _ | exact impl_BackPattern.mono _ _ | exact impl_CountOpen.mono _ _ _ | exact impl_FirstClosing.mono _ _ | exact impl_IsOpen.mono _ _ | exact impl_IsPattern.mono _ _ | exact impl_NarrowestOpen.mono _ _ | exact impl_RestsOf.mono _ _ _ | exact laws_tHas.mono _ _ _ | exact laws_tRises.mono _ _ _ _ | exact laws_tRows.mono _ _ _ | exact laws_tSame.mono _ _ _ | exact spec_AddOffsets.mono _ _ _ | exact spec_AllOpen.mono _ _ _ | exact spec_BackPattern.mono _ _ | exact spec_CountOpen.mono _ _ _ | exact spec_FirstClosing.mono _ _ | exact spec_IsOpen.mono _ _ | exact spec_IsPattern.mono _ _ | exact spec_NarrowestOpen.mono _ _ | exact spec_RestsOf.mono _ _ _ | exact LeO.refl _ | exact LeO.none _ | refine LeO.ite ?_ ?_ | refine LeO.bind ?_ (fun _ => ?_))
  ·
   intro y0 y1 y2 y3 y4 y5 y6 y7 y8 y9 y10 y11 y12 y13 y14 y15 y16 y17 y18 y19
   unfold laws_FnPatternsOpenOfAll.l1
   repeat' first
   | (with_reducible first | exact ih0 _ _ _ _ _ _ _ _ _ | exact ih1 _ _ _ _ _ _ _ _ _ _ _ _ _ _ | exact ih2 _ _ _ _ _ _ _ | exact ih3 _ _ _ _ _ _ _ _ _ _ | exact ih4 _ _ _ _ _ _ | exact ih5 _ _ _ _ _ _ _ _ _ _ | exact ih6 _ _ _ _ | exact ih7 _ _ _ _ _ _ _ _ _ _ _ | exact ih8 _ _ _ _ _ _ _ _ _ _ _ _ _ _ _ _ _ _ _ _ | exact ih9 _ _ _ _ _ _ _ _ _ _ | exact ih10 _ _ _ _ _ _ _ _ _ _ | exact ih11 _ _ _ _ _ _ _ _ _ _ _ _ | exact ih12 _ _ _ _ _ _ _ _ _ _ _ _ _ _ _ | exact ih13 _ _ _ _ _ _ _ _ _ _ _ _ _ _ _ _ _ _ | exact ih14 _ _ _ _ _ _ _ _ _ _ _ _ _ _ _ _ _ | exact ih15 _ _ _ _ _ _ _ _ _ _ _ _ _ _ _ _ _ _ _ _ | exact impl_AddOffsets.mono _ _ _ | exact impl_AllOpen.mono _ _ _ | exact impl_BackPattern.mono _ _ | exact impl_CountOpen.mono _ _ _ | exact impl_FirstClosing.mono _ _ | exact impl_IsOpen.mono _ _ | exact impl_IsPattern.mono _ _ | exact impl_NarrowestOpen.mono _ _ | exact impl_RestsOf.mono _ _ _ | exact laws_tHas.mono _ _ _ | exact laws_tRises.mono _ _ _ _ | exact laws_tRows.mono _ _ _ | exact laws_tSame.mono _ _ _ | exact spec_AddOffsets.mono _ _ _ | exact spec_AllOpen.mono _ _ _ | exact spec_BackPattern.mono _ _ | exact spec_CountOpen.mono _ _ _ | exact spec_FirstClosing.mono _ _ | exact spec_IsOpen.mono _ _ | exact spec_IsPattern.mono _ _ | exact spec_NarrowestOpen.mono _ _ | exact spec_RestsOf.mono _ _ _ | exact LeO.refl _ | exact LeO.none _ | refine LeO.ite ?_ ?_ | refine LeO.bind ?_ (fun _ => ?_))
theorem laws_FnPatternsOpenOfAll.mono : ∀ a0 a1 a2 a3 a4 a5 a6 a7 k, LeO (laws_FnPatternsOpenOfAll.f k a0 a1 a2 a3 a4 a5 a6 a7) (laws_FnPatternsOpenOfAll.f (k + 1) a0 a1 a2 a3 a4 a5 a6 a7) := by
 intro a0 a1 a2 a3 a4 a5 a6 a7 k
 obtain ⟨ih0, ih1, ih2, ih3, ih4, ih5, ih6, ih7, ih8, ih9, ih10, ih11, ih12, ih13, ih14, ih15⟩ := laws_FnPatternsOpenOfAll.mono_l k
 unfold laws_FnPatternsOpenOfAll.f
 repeat' first
   | (with_reducible first | exact ih0 _ _ _ _ _ _ _ _ _ | exact ih1 _ _ _ _ _ _ _ _ _ _ _ _ _ _ | exact ih2 _ _ _ _ _ _ _ | exact ih3 _ _ _ _ _ _ _ _ _ _ | exact ih4 _ _ _ _ _ _ | exact ih5 _ _ _ _ _ _ _ _ _ _ | exact ih6 _ _ _ _ | exact ih7 _ _ _ _ _ _ _ _ _ _ _ | exact ih8 _ _ _ _ _ _ _ _ _ _ _ _ _ _ _ _ _ _ _ _ | exact ih9 _ _ _ _ _ _ _ _ _ _ | exact ih10 _ _ _ _ _ _ _ _ _ _ | exact ih11 _ _ _ _ _ _ _ _ _ _ _ _ | exact ih12 _ _ _ _ _ _ _ _ _ _ _ _ _ _ _ | exact ih13 _ _ _ _ _ _ _ _ _ _ _ _ _ _ _ _ _ _ | exact ih14 _ _ _ _ _ _ _ _ _ _ _ _ _ _ _ _ _ | exact ih15 _ _ _ _ _ _ _ _ _ _ _ _ _ _ _ _ _ _ _ _ | exact impl_AddOffsets.mono _ _ _ | exact impl_AllOpen.mono _ _ _ | exact impl_BackPattern.mono _ _ | exact impl_CountOpen.mono _ _ _ | exact impl_FirstClosing.mono _ _ | exact impl_IsOpen.mono _ _ | exact impl_IsPattern.mono _ _ | exact impl_NarrowestOpen.mono _ _ | exact impl_RestsOf.mono _ _ _ | exact laws_tHas.mono _ _ _ | exact laws_tRises.mono _ _ _ _ | exact laws_tRows.mono _ _ _ | exact laws_tSame.mono _ _ _ | exact spec_AddOffsets.mono _ _ _ | exact spec_AllOpen.mono _ _ _ | exact spec_BackPattern.mono _ _ | exact spec_CountOpen.mono _ _ _ | exact spec_FirstClosing.mono _ _ | exact spec_IsOpen.mono _ _ | exact spec_IsPattern.mono _ _ | exact spec_NarrowestOpen.mono _ _ | exact spec_RestsOf.mono _ _ _ | exact LeO.refl _ | exact LeO.none _ | refine LeO.ite ?_ ?_ | refine LeO.bind ?_ (fun _ => ?_))
theorem laws_FnPatternsOpenOfAll.j1_no : ∀ k y0 y1 y2 y3 y4 y5 y6 y7 y8 y9 y10 y11 y12, laws_FnPatternsOpenOfAll.j1 k y0 y1 y2 y3 y4 y5 y6 y7 y8 y9 y10 y11 y12 true = some true → False := by
 intro k y0 y1 y2 y3 y4 y5 y6 y7 y8 y9 y10 y11 y12 h
 cases k with
 | zero => simp [laws_FnPatternsOpenOfAll.j1] at h
 | succ k => simp [laws_FnPatternsOpenOfAll.j1] at h
theorem laws_FnPatternsOpenOfAll.j8_no : ∀ k y0 y1 y2 y3 y4 y5 y6 y7 y8, laws_FnPatternsOpenOfAll.j8 k y0 y1 y2 y3 y4 y5 y6 y7 y8 true = some true → False := by
 intro k y0 y1 y2 y3 y4 y5 y6 y7 y8 h
 cases k with
 | zero => simp [laws_FnPatternsOpenOfAll.j8] at h
 | succ k => simp [laws_FnPatternsOpenOfAll.j8] at h
theorem laws_FnPatternsOpenOfAll.j12_no : ∀ k y0 y1 y2 y3 y4 y5 y6 y7 y8, laws_FnPatternsOpenOfAll.j12 k y0 y1 y2 y3 y4 y5 y6 y7 y8 true = some true → False := by
 intro k y0 y1 y2 y3 y4 y5 y6 y7 y8 h
 cases k with
 | zero => simp [laws_FnPatternsOpenOfAll.j12] at h
 | succ k => simp [laws_FnPatternsOpenOfAll.j12] at h
theorem laws_FnPatternsOpenOfAll.j9_no : ∀ k y0 y1 y2 y3 y4 y5 y6 y7 y8, laws_FnPatternsOpenOfAll.j9 k y0 y1 y2 y3 y4 y5 y6 y7 y8 true = some true → False := by
 intro k y0 y1 y2 y3 y4 y5 y6 y7 y8 h
 cases k with
 | zero => simp [laws_FnPatternsOpenOfAll.j9] at h
 | succ k => simp [laws_FnPatternsOpenOfAll.j9] at h
theorem laws_FnPatternsOpenOfAll.j2_no : ∀ k y0 y1 y2 y3 y4 y5 y6 y7 y8 y9 y10, laws_FnPatternsOpenOfAll.j2 k y0 y1 y2 y3 y4 y5 y6 y7 y8 y9 y10 true = some true → False := by
 intro k y0 y1 y2 y3 y4 y5 y6 y7 y8 y9 y10 h
 cases k with
 | zero => simp [laws_FnPatternsOpenOfAll.j2] at h
 | succ k => simp [laws_FnPatternsOpenOfAll.j2] at h
theorem laws_FnPatternsOpenOfAll.j4_no : ∀ k y0 y1 y2 y3 y4 y5 y6 y7 y8 y9 y10 y11 y12 y13 y14 y15 y16, laws_FnPatternsOpenOfAll.j4 k y0 y1 y2 y3 y4 y5 y6 y7 y8 y9 y10 y11 y12 y13 y14 y15 y16 true = some true → False := by
 intro k y0 y1 y2 y3 y4 y5 y6 y7 y8 y9 y10 y11 y12 y13 y14 y15 y16 h
 cases k with
 | zero => simp [laws_FnPatternsOpenOfAll.j4] at h
 | succ k => simp [laws_FnPatternsOpenOfAll.j4] at h
/-- A frame of which some slots (by two masks) hold whatever u says. -/
def cutFgt (u : Nat → Value) : List (Option Nat) → List Value → List Value
 | some n :: m, _ :: l => u n :: cutFgt u m l
 | none :: m, v :: l => v :: cutFgt u m l
 | _, l => l
theorem cutF {P : Program} {s : Code} {K : Act → World → Prop} {Q' : Exit → Act → World → Prop} {w : World} {L : List Value} {fr} (m m2 : List (Option Nat)) (R : (Nat → Value) → World → Prop)
  (first : ∀ (J K' : Act → World → Prop), (∀ u w', R u w' → J ⟨(cutFgt u m2 (cutFgt u m L)).toArray, fr⟩ w') → (∀ a' w', Met J a' w' → K' a' w') → s.wp P (Exit.then K' Q') ⟨L.toArray, fr⟩ w)
  (rest : ∀ u w', R u w' → K ⟨(cutFgt u m2 (cutFgt u m L)).toArray, fr⟩ w') : s.wp P (Exit.then K Q') ⟨L.toArray, fr⟩ w := by
 refine wp_cut (fun a' w' => ∃ u, R u w' ∧ a' = ⟨(cutFgt u m2 (cutFgt u m L)).toArray, fr⟩) ?_ ?_
 ·
  rintro _ w' ⟨u, h, rfl⟩
  exact rest u w' h
 ·
  intro J K' h1 h2
  exact first J K' (fun u w' h => h1 _ _ ⟨u, h, rfl⟩) h2
theorem cutMeet {J : Act → World → Prop} {R : (Nat → Value) → World → Prop} {m m2 : List (Option Nat)} {L0 L : List Value} {fr} {w' : World} (h : ∀ u w', R u w' → J ⟨(cutFgt u m2 (cutFgt u m L0)).toArray, fr⟩ w') (hr : R (fun n => L.getD n (.bool false)) w') (he : cutFgt (fun n => L.getD n (.bool false)) m2 (cutFgt (fun n => L.getD n (.bool false)) m L0) = L) : Met J ⟨L.toArray, fr⟩ w' := by
 have := h _ _ hr
 rw [he] at this
 exact this
def mk0 : List (Option Nat) := [none, none, none, none, none, none, none, none, none, none, none, none, none, none, none, none, none, none, none, none, none, none, none, none, none, none, none, none, none, none, none, none, none, none, none, none, none, none, none, none, none, none, none, none, none, none, none, none, none, none, none, none, none, none, none, none, none, none, none, none, none, none, none, none, none, none, none, none, none, none, none, none, none, none, none, none, none, some 77, some 78, some 79, some 80, some 81, some 82, some 83, some 84, some 85, some 86, some 87, some 88, some 89, some 90, some 91, some 92, some 93, some 94, some 95, some 96, some 97, some 98, some 99, some 100, some 101, some 102, some 103, some 104, some 105, some 106, some 107, some 108, some 109, some 110, some 111, some 112, some 113, some 114, some 115, some 116, some 117, some 118, some 119, some 120, some 121, some 122, some 123, some 124, some 125, some 126, some 127, some 128, some 129, some 130, some 131, some 132, some 133, some 134, some 135, some 136, some 137, some 138, some 139, some 140, some 141, some 142, some 143, some 144, some 145, some 146, some 147, some 148, some 149, some 150, some 151, some 152, some 153, some 154, some 155, some 156, some 157, some 158, some 159, some 160, some 161, some 162, some 163, some 164, some 165, some 166, some 167, some 168, some 169, some 170, some 171, some 172, some 173, some 174, some 175, some 176, some 177, some 178, some 179, some 180, some 181, some 182, some 183, some 184, some 185, some 186, some 187, some 188, some 189, some 190, some 191, some 192, some 193, some 194, some 195, some 196, some 197, some 198, some 199, some 200, some 201, some 202, some 203, none, none, none, some 207, some 208, some 209, some 210, some 211, some 212, some 213, some 214, some 215, some 216, some 217, some 218, some 219, some 220, some 221, some 222, some 223, some 224, some 225, some 226, some 227, some 228, some 229, some 230, some 231, some 232, some 233, some 234, some 235, some 236, some 237, some 238, some 239, some 240, some 241, some 242, some 243, some 244, some 245, some 246, some 247, some 248, some 249, some 250, some 251, some 252, some 253, some 254, some 255, some 256, some 257, none, none, none, some 261, some 262, some 263, some 264, some 265, some 266, some 267, some 268, some 269, some 270, some 271, some 272, some 273, some 274, some 275, some 276, some 277, some 278, some 279, some 280, some 281, some 282, some 283, some 284, some 285, some 286, some 287, some 288, some 289, some 290, some 291, some 292, some 293, some 294, some 295, some 296, some 297, some 298, some 299, some 300, some 301, some 302, some 303, some 304, some 305, some 306, some 307, some 308, some 309, some 310, some 311, some 312, some 313, some 314, some 315, some 316, some 317, some 318, some 319, some 320, some 321, some 322, some 323, some 324, some 325, some 326, some 327, some 328, some 329, some 330, some 331, some 332, some 333, some 334, some 335, some 336, some 337, some 338, some 339, some 340, some 341, some 342, some 343, some 344, some 345, some 346, some 347, some 348, some 349, some 350, some 351, some 352, some 353, some 354, some 355, some 356, some 357, some 358, some 359, some 360, some 361, some 362, some 363, some 364, some 365, some 366, some 367, some 368, some 369, some 370, some 371, some 372, some 373, some 374, some 375, some 376, some 377, some 378, some 379, some 380, some 381, some 382, some 383, some 384, some 385, some 386, some 387, some 388, some 389, some 390, some 391, some 392, some 393, some 394, some 395, some 396, some 397, some 398, some 399, some 400, some 401, some 402, some 403, some 404, some 405, some 406, some 407, none, none, none, some 411, some 412, some 413, some 414, some 415, some 416, some 417, some 418, some 419, some 420, some 421, some 422, some 423, none, none, none, some 427, some 428, some 429, some 430, some 431, some 432, some 433, some 434, some 435, some 436, some 437, some 438, some 439, some 440, some 441, some 442, some 443, some 444, some 445, some 446, some 447, some 448, some 449, some 450, some 451, some 452, some 453, some 454, some 455, some 456, some 457, some 458, some 459, some 460, some 461, some 462, some 463, some 464, some 465, some 466, some 467, some 468, some 469, some 470, some 471, some 472, some 473, some 474, some 475, some 476, some 477, some 478, some 479, some 480, some 481, some 482, some 483, some 484, some 485, some 486, some 487, some 488, some 489, some 490, some 491, some 492, some 493, some 494, some 495, some 496, some 497, some 498, some 499, some 500, some 501, some 502, some 503, some 504, some 505, some 506, some 507, some 508, some 509, some 510, some 511, some 512, some 513, some 514, some 515, some 516, some 517, some 518, some 519, some 520, some 521]
def mk1 : List (Option Nat) := [none, none, none, none, none, none, none, none, none, none, none, none, none, none, none, none, none, none, none, none, none, none, none, none, none, none, none, none, none, none, none, none, none, none, none, none, none, none, none, none, none, none, none, none, none, none, none, none, none, none, none, none, none, none, none, none, none, none, none, none, none, none, none, none, none, none, none, none, none, none, none, none, none, none, none, none, none, none, none, none, none, none, none, none, none, none, none, none, none, none, none, none, none, none, none, none, none, none, none, none, none, none, none, none, none, none, none, none, none, none, none, none, none, none, none, none, none, none, none, none, none, none, none, none, none, none, none, none, none, none, none, none, none, none, none, none, none, none, none, none, none, none, none, none, none, none, none, none, none, none, none, none, none, none, none, none, none, none, none, none, none, none, none, none, none, none, none, none, none, none, none, none, none, none, none, none, none, none, none, none, none, none, none, none, none, none, none, none, none, none, none, none, none, none, none, none, none, none, none, none, none, none, none, none, none, none, none, some 207, some 208, some 209, some 210, some 211, some 212, some 213, some 214, some 215, some 216, some 217, some 218, some 219, some 220, some 221, some 222, some 223, some 224, some 225, some 226, some 227, some 228, some 229, some 230, some 231, some 232, some 233, some 234, some 235, some 236, some 237, some 238, some 239, some 240, some 241, some 242, some 243, some 244, some 245, some 246, some 247, some 248, some 249, some 250, some 251, some 252, some 253, some 254, some 255, some 256, some 257, none, none, none, some 261, some 262, some 263, some 264, some 265, some 266, some 267, some 268, some 269, some 270, some 271, none, none, none, none, none, none, none, none, none, none, none, none, none, none, none, none, none, none, none, none, none, none, none, none, none, none, none, none, none, none, none, none, none, none, none, none, none, none, none, none, none, none, none, none, none, none, none, none, none, none, none, none, none, none, none, none, none, none, none, none, none, none, none, none, none, none, none, none, none, none, none, none, none, none, none, none, none, none, none, none, none, none, none, none, none, none, none, none, none, none, none, none, none, none, none, none, none, none, none, none, none, none, none, none, none, none, none, none, none, none, none, none, none, none, none, none, none, none, none, none, none, none, none, none, none, none, none, none, none, none, none, none, none, none, none, none, none, none, none, none, none, none, none, none, none, none, none, none, none, none, none, none, none, none, none, none, none, none, none, none, none, none, none, none, none, none, none, none, none, none, none, none, none, none, none, none, none, none, none, none, none, none, none, none, none, none, none, none, none, none, none, none, none, none, none, none, none, none, none, none, none, none, none, none, none, none, none, none, none, none, none, none, none, none, none, none, none, none, none, none, none, none, none, none, none, none, none, none, none, none, none, none, none, none, none, none, none, none, none, none, none, none, none, none, none, none, none, none, none, none]
set_option maxHeartbeats 200000000 in
set_option maxRecDepth 100000 in
theorem laws_FnPatternsOpenOfAll.calls (k : Nat) (A0 : Option Addr) (c0 : Nat) (l0 : List Int) (a1 : Int) (a2 : Int) (a3 : Int) (A4 : Option Addr) (c4 : Nat) (l4 : List Int) (a5 : Int) (A6 : Option Addr) (c6 : Nat) (l6 : List Int) (a7 : Int) (r : Bool) (w : World) (hr0 : Kd.C (Kd.int .i64) w A0 l0.length l0) (hc0 : l0.length ≤ c0) (hr4 : Kd.C (Kd.int .i64) w A4 l4.length l4) (hc4 : l4.length ≤ c4) (hr6 : Kd.C (Kd.int .i64) w A6 l6.length l6) (hc6 : l6.length ≤ c6) (h : laws_FnPatternsOpenOfAll.f k l0 a1 a2 a3 l4 a5 l6 a7 = some r) (hr_ : r = true) :
  Calls Try.prog 3 #[.slice A0 l0.length c0, .int .i64 a1, .int .i64 a2, .int .i64 a3, .slice A4 l4.length c4, .int .i64 a5, .slice A6 l6.length c6, .int .i64 a7] w fun e w' => e = .returned (.bool r) ∧ Below w.heap.size w w' := by
 have HRT := Aside0.mk hr_
 clear hr_
 have HR0 := Aside0.mk hr0
 have HC0 := Aside0.mk hc0
 clear hr0 hc0
 have HR4 := Aside0.mk hr4
 have HC4 := Aside0.mk hc4
 clear hr4 hc4
 have HR6 := Aside0.mk hr6
 have HC6 := Aside0.mk hc6
 clear hr6 hc6
 have HB := Aside0.mk (Below.refl w.heap.size w)
 have H : (if (l0.length : Int) > 10000 then (laws_FnPatternsOpenOfAll.j0 k l0 a1 a2 a3 l4 a5 l6 a7 true) else (if (l4.length : Int) > 10000 then (laws_FnPatternsOpenOfAll.j0 k l0 a1 a2 a3 l4 a5 l6 a7 true) else (laws_FnPatternsOpenOfAll.j0 k l0 a1 a2 a3 l4 a5 l6 a7 (decide ((l6.length : Int) > 10000))))) = some r := h
 clear h
 have HC9 := Aside0.mk H
 clear H
 go_enter Try.func3, Try.ntmps3
 go_upto_region 1 with (fail)
 refine cutF mk0 [] (fun u_ wc => ∃ (kq : Nat) (x89_8 : Bool), (u_ 89) = .bool x89_8 ∧ Aside0 (laws_FnPatternsOpenOfAll.j0 kq l0 a1 a2 a3 l4 a5 l6 a7 x89_8 = some r) ∧ Aside0 (kq ≤ k) ∧ Aside0 (Below w.heap.size w wc)) ?_ ?_
 ·
  as_aux_lemma =>
   intro J_ K_ hJ_ hK_
   have H := HC9.out
   clear HC9
   by_cases c10 : (l0.length : Int) > 10000
   ·
    rw [if_pos c10] at H
    have c10b0 : decide (10000 < (l0.length : Int)) = true := decide_eq_true c10
    have c10b1 : decide (10000 < l0.length) = true := decide_eq_true (by omega)
    clear c10
    (first | rw [c10b0] | (simp only [i64_w, i32_w]; rw [c10b0]) | skip)
    have H' := Aside0.mk H
    clear H
    go_wp2
    refine cutMeet hJ_ ?_ (by kernel_rfl)
    exact ⟨_, (true), (by first | rfl | (simp; done) | (simp [*]; done)), H', ⟨by first | omega | exact Nat.le_refl _⟩, ⟨by repeat (first | (with_reducible first | exact HB.out | apply below_alloc | apply pw_below_drewN | apply below_drew1))⟩⟩
   ·
    rw [if_neg c10] at H
    have c10b0 : decide (10000 < (l0.length : Int)) = false := decide_eq_false c10
    have c10b1 : decide (10000 < l0.length) = false := decide_eq_false (by omega)
    clear c10
    (first | rw [c10b0] | (simp only [i64_w, i32_w]; rw [c10b0]) | skip)
    by_cases c11 : (l4.length : Int) > 10000
    ·
     rw [if_pos c11] at H
     have c11b0 : decide (10000 < (l4.length : Int)) = true := decide_eq_true c11
     have c11b1 : decide (10000 < l4.length) = true := decide_eq_true (by omega)
     clear c11
     have H' := Aside0.mk H
     clear H
     go_wp2
     refine cutMeet hJ_ ?_ (by kernel_rfl)
     exact ⟨_, (true), (by first | rfl | (simp; done) | (simp [*]; done)), H', ⟨by first | omega | exact Nat.le_refl _⟩, ⟨by repeat (first | (with_reducible first | exact HB.out | apply below_alloc | apply pw_below_drewN | apply below_drew1))⟩⟩
    ·
     rw [if_neg c11] at H
     have c11b0 : decide (10000 < (l4.length : Int)) = false := decide_eq_false c11
     have c11b1 : decide (10000 < l4.length) = false := decide_eq_false (by omega)
     clear c11
     have H' := Aside0.mk H
     clear H
     go_wp2
     refine cutMeet hJ_ ?_ (by kernel_rfl)
     exact ⟨_, (decide ((l6.length : Int) > 10000)), (by first | rfl | (simp; done) | (simp [*]; done)), H', ⟨by first | omega | exact Nat.le_refl _⟩, ⟨by repeat (first | (with_reducible first | exact HB.out | apply below_alloc | apply pw_below_drewN | apply below_drew1))⟩⟩
 ·
  intro u_ wc hcut
  clear HC9
  obtain ⟨kq, x89_8, e_89, HA, HJ8, HB⟩ := hcut
  dsimp only [cutFgt, mk0]
  rw [e_89]
  cases kq with
  | zero => exact absurd HA.out (by simp [laws_FnPatternsOpenOfAll.j0])
  | succ kj8 =>
   have H := HA.out
   clear HA
   simp only [laws_FnPatternsOpenOfAll.j0] at H
   by_cases c12 : x89_8 = true
   ·
    as_aux_lemma =>
     subst c12
     have H1 : (some true) = some r := by rw [if_pos rfl] at H; exact H
     clear H
     have H := H1
     clear H1
     first
     | exact absurd (Option.some.inj (H.trans (congrArg some HRT.out))) Bool.false_ne_true
     |
      obtain rfl := Option.some.inj H
      go_wp2
      go_ret
      exact ⟨by first | rfl | (simp [errW_none, errW_some] <;> rfl) | (simp [*, errW_none, errW_some] <;> rfl), by repeat (first | (with_reducible first | exact HB.out | apply below_alloc | apply pw_below_drewN | apply below_drew1))⟩
   ·
    replace c12 := Bool.eq_false_iff.mpr c12
    subst c12
    have H1 : ((impl_IsOpen.f kj8 l0).bind fun bt278 => ((spec_IsOpen.f kj8 l0).bind fun bt280 => ((impl_FirstClosing.f kj8 l0).bind fun bt282 => ((spec_FirstClosing.f kj8 l0).bind fun bt284 => ((impl_BackPattern.f kj8 l0).bind fun bt286 => ((spec_BackPattern.f kj8 l0).bind fun bt290 => (if (bt278.2 != bt280.2) = true then (laws_FnPatternsOpenOfAll.j1 kj8 l0 a1 a2 a3 l4 a5 l6 a7 bt278.1 bt278.2 bt282.1 bt282.2 bt286.1 true) else (if (bt278.1 != bt280.1) = true then (laws_FnPatternsOpenOfAll.j1 kj8 l0 a1 a2 a3 l4 a5 l6 a7 bt278.1 bt278.2 bt282.1 bt282.2 bt286.1 true) else (if (bt282.2 != bt284.2) = true then (laws_FnPatternsOpenOfAll.j1 kj8 l0 a1 a2 a3 l4 a5 l6 a7 bt278.1 bt278.2 bt282.1 bt282.2 bt286.1 true) else (if bt282.1 = bt284.1 then (if (bt286.2 != bt290.2) = true then (laws_FnPatternsOpenOfAll.j1 kj8 l0 a1 a2 a3 l4 a5 l6 a7 bt278.1 bt278.2 bt282.1 bt282.2 bt286.1 true) else ((laws_tSame.f kj8 bt286.1 bt290.1).bind fun t294 => (if t294 = true then ((impl_IsPattern.f kj8 l0).bind fun t295 => (if (bt278.2 != t295) = true then (laws_FnPatternsOpenOfAll.j1 kj8 l0 a1 a2 a3 l4 a5 l6 a7 bt278.1 bt278.2 bt282.1 bt282.2 bt286.1 true) else ((impl_IsPattern.f kj8 l0).bind fun t296 => ((spec_IsPattern.f kj8 l0).bind fun t297 => (if (t296 != t297) = true then (laws_FnPatternsOpenOfAll.j1 kj8 l0 a1 a2 a3 l4 a5 l6 a7 bt278.1 bt278.2 bt282.1 bt282.2 bt286.1 true) else (if bt278.2 = true then (if (bt282.2 != (!bt278.1)) = true then (laws_FnPatternsOpenOfAll.j1 kj8 l0 a1 a2 a3 l4 a5 l6 a7 bt278.1 bt278.2 bt282.1 bt282.2 bt286.1 true) else (laws_FnPatternsOpenOfAll.j1 kj8 l0 a1 a2 a3 l4 a5 l6 a7 bt278.1 bt278.2 bt282.1 bt282.2 bt286.1 (bt286.2 != bt278.2))) else (if (bt282.2 != false) = true then (laws_FnPatternsOpenOfAll.j1 kj8 l0 a1 a2 a3 l4 a5 l6 a7 bt278.1 bt278.2 bt282.1 bt282.2 bt286.1 true) else (laws_FnPatternsOpenOfAll.j1 kj8 l0 a1 a2 a3 l4 a5 l6 a7 bt278.1 bt278.2 bt282.1 bt282.2 bt286.1 (bt286.2 != bt278.2))))))))) else (laws_FnPatternsOpenOfAll.j1 kj8 l0 a1 a2 a3 l4 a5 l6 a7 bt278.1 bt278.2 bt282.1 bt282.2 bt286.1 true)))) else (laws_FnPatternsOpenOfAll.j1 kj8 l0 a1 a2 a3 l4 a5 l6 a7 bt278.1 bt278.2 bt282.1 bt282.2 bt286.1 true))))))))))) = some r := by rw [if_neg (show ¬ (false = true) by decide)] at H; exact H
    clear H
    have H := H1
    clear H1
    replace H := Option.bind_eq_some_iff.mp H
    obtain ⟨⟨t278, t279⟩, A130, H⟩ := H
    replace H : ((spec_IsOpen.f kj8 l0).bind fun bt280 => ((impl_FirstClosing.f kj8 l0).bind fun bt282 => ((spec_FirstClosing.f kj8 l0).bind fun bt284 => ((impl_BackPattern.f kj8 l0).bind fun bt286 => ((spec_BackPattern.f kj8 l0).bind fun bt290 => (if (t279 != bt280.2) = true then (laws_FnPatternsOpenOfAll.j1 kj8 l0 a1 a2 a3 l4 a5 l6 a7 t278 t279 bt282.1 bt282.2 bt286.1 true) else (if (t278 != bt280.1) = true then (laws_FnPatternsOpenOfAll.j1 kj8 l0 a1 a2 a3 l4 a5 l6 a7 t278 t279 bt282.1 bt282.2 bt286.1 true) else (if (bt282.2 != bt284.2) = true then (laws_FnPatternsOpenOfAll.j1 kj8 l0 a1 a2 a3 l4 a5 l6 a7 t278 t279 bt282.1 bt282.2 bt286.1 true) else (if bt282.1 = bt284.1 then (if (bt286.2 != bt290.2) = true then (laws_FnPatternsOpenOfAll.j1 kj8 l0 a1 a2 a3 l4 a5 l6 a7 t278 t279 bt282.1 bt282.2 bt286.1 true) else ((laws_tSame.f kj8 bt286.1 bt290.1).bind fun t294 => (if t294 = true then ((impl_IsPattern.f kj8 l0).bind fun t295 => (if (t279 != t295) = true then (laws_FnPatternsOpenOfAll.j1 kj8 l0 a1 a2 a3 l4 a5 l6 a7 t278 t279 bt282.1 bt282.2 bt286.1 true) else ((impl_IsPattern.f kj8 l0).bind fun t296 => ((spec_IsPattern.f kj8 l0).bind fun t297 => (if (t296 != t297) = true then (laws_FnPatternsOpenOfAll.j1 kj8 l0 a1 a2 a3 l4 a5 l6 a7 t278 t279 bt282.1 bt282.2 bt286.1 true) else (if t279 = true then (if (bt282.2 != (!t278)) = true then (laws_FnPatternsOpenOfAll.j1 kj8 l0 a1 a2 a3 l4 a5 l6 a7 t278 t279 bt282.1 bt282.2 bt286.1 true) else (laws_FnPatternsOpenOfAll.j1 kj8 l0 a1 a2 a3 l4 a5 l6 a7 t278 t279 bt282.1 bt282.2 bt286.1 (bt286.2 != t279))) else (if (bt282.2 != false) = true then (laws_FnPatternsOpenOfAll.j1 kj8 l0 a1 a2 a3 l4 a5 l6 a7 t278 t279 bt282.1 bt282.2 bt286.1 true) else (laws_FnPatternsOpenOfAll.j1 kj8 l0 a1 a2 a3 l4 a5 l6 a7 t278 t279 bt282.1 bt282.2 bt286.1 (bt286.2 != t279))))))))) else (laws_FnPatternsOpenOfAll.j1 kj8 l0 a1 a2 a3 l4 a5 l6 a7 t278 t279 bt282.1 bt282.2 bt286.1 true)))) else (laws_FnPatternsOpenOfAll.j1 kj8 l0 a1 a2 a3 l4 a5 l6 a7 t278 t279 bt282.1 bt282.2 bt286.1 true)))))))))) = some r := H
    have A13 := Aside0.mk A130
    clear A130
    replace H := Option.bind_eq_some_iff.mp H
    obtain ⟨⟨t280, t281⟩, A140, H⟩ := H
    replace H : ((impl_FirstClosing.f kj8 l0).bind fun bt282 => ((spec_FirstClosing.f kj8 l0).bind fun bt284 => ((impl_BackPattern.f kj8 l0).bind fun bt286 => ((spec_BackPattern.f kj8 l0).bind fun bt290 => (if (t279 != t281) = true then (laws_FnPatternsOpenOfAll.j1 kj8 l0 a1 a2 a3 l4 a5 l6 a7 t278 t279 bt282.1 bt282.2 bt286.1 true) else (if (t278 != t280) = true then (laws_FnPatternsOpenOfAll.j1 kj8 l0 a1 a2 a3 l4 a5 l6 a7 t278 t279 bt282.1 bt282.2 bt286.1 true) else (if (bt282.2 != bt284.2) = true then (laws_FnPatternsOpenOfAll.j1 kj8 l0 a1 a2 a3 l4 a5 l6 a7 t278 t279 bt282.1 bt282.2 bt286.1 true) else (if bt282.1 = bt284.1 then (if (bt286.2 != bt290.2) = true then (laws_FnPatternsOpenOfAll.j1 kj8 l0 a1 a2 a3 l4 a5 l6 a7 t278 t279 bt282.1 bt282.2 bt286.1 true) else ((laws_tSame.f kj8 bt286.1 bt290.1).bind fun t294 => (if t294 = true then ((impl_IsPattern.f kj8 l0).bind fun t295 => (if (t279 != t295) = true then (laws_FnPatternsOpenOfAll.j1 kj8 l0 a1 a2 a3 l4 a5 l6 a7 t278 t279 bt282.1 bt282.2 bt286.1 true) else ((impl_IsPattern.f kj8 l0).bind fun t296 => ((spec_IsPattern.f kj8 l0).bind fun t297 => (if (t296 != t297) = true then (laws_FnPatternsOpenOfAll.j1 kj8 l0 a1 a2 a3 l4 a5 l6 a7 t278 t279 bt282.1 bt282.2 bt286.1 true) else (if t279 = true then (if (bt282.2 != (!t278)) = true then (laws_FnPatternsOpenOfAll.j1 kj8 l0 a1 a2 a3 l4 a5 l6 a7 t278 t279 bt282.1 bt282.2 bt286.1 true) else (laws_FnPatternsOpenOfAll.j1 kj8 l0 a1 a2 a3 l4 a5 l6 a7 t278 t279 bt282.1 bt282.2 bt286.1 (bt286.2 != t279))) else (if (bt282.2 != false) = true then (laws_FnPatternsOpenOfAll.j1 kj8 l0 a1 a2 a3 l4 a5 l6 a7 t278 t279 bt282.1 bt282.2 bt286.1 true) else (laws_FnPatternsOpenOfAll.j1 kj8 l0 a1 a2 a3 l4 a5 l6 a7 t278 t279 bt282.1 bt282.2 bt286.1 (bt286.2 != t279))))))))) else (laws_FnPatternsOpenOfAll.j1 kj8 l0 a1 a2 a3 l4 a5 l6 a7 t278 t279 bt282.1 bt282.2 bt286.1 true)))) else (laws_FnPatternsOpenOfAll.j1 kj8 l0 a1 a2 a3 l4 a5 l6 a7 t278 t279 bt282.1 bt282.2 bt286.1 true))))))))) = some r := H
    have A14 := Aside0.mk A140
    clear A140
    replace H := Option.bind_eq_some_iff.mp H
    obtain ⟨⟨t282, t283⟩, A150, H⟩ := H
    replace H : ((spec_FirstClosing.f kj8 l0).bind fun bt284 => ((impl_BackPattern.f kj8 l0).bind fun bt286 => ((spec_BackPattern.f kj8 l0).bind fun bt290 => (if (t279 != t281) = true then (laws_FnPatternsOpenOfAll.j1 kj8 l0 a1 a2 a3 l4 a5 l6 a7 t278 t279 t282 t283 bt286.1 true) else (if (t278 != t280) = true then (laws_FnPatternsOpenOfAll.j1 kj8 l0 a1 a2 a3 l4 a5 l6 a7 t278 t279 t282 t283 bt286.1 true) else (if (t283 != bt284.2) = true then (laws_FnPatternsOpenOfAll.j1 kj8 l0 a1 a2 a3 l4 a5 l6 a7 t278 t279 t282 t283 bt286.1 true) else (if t282 = bt284.1 then (if (bt286.2 != bt290.2) = true then (laws_FnPatternsOpenOfAll.j1 kj8 l0 a1 a2 a3 l4 a5 l6 a7 t278 t279 t282 t283 bt286.1 true) else ((laws_tSame.f kj8 bt286.1 bt290.1).bind fun t294 => (if t294 = true then ((impl_IsPattern.f kj8 l0).bind fun t295 => (if (t279 != t295) = true then (laws_FnPatternsOpenOfAll.j1 kj8 l0 a1 a2 a3 l4 a5 l6 a7 t278 t279 t282 t283 bt286.1 true) else ((impl_IsPattern.f kj8 l0).bind fun t296 => ((spec_IsPattern.f kj8 l0).bind fun t297 => (if (t296 != t297) = true then (laws_FnPatternsOpenOfAll.j1 kj8 l0 a1 a2 a3 l4 a5 l6 a7 t278 t279 t282 t283 bt286.1 true) else (if t279 = true then (if (t283 != (!t278)) = true then (laws_FnPatternsOpenOfAll.j1 kj8 l0 a1 a2 a3 l4 a5 l6 a7 t278 t279 t282 t283 bt286.1 true) else (laws_FnPatternsOpenOfAll.j1 kj8 l0 a1 a2 a3 l4 a5 l6 a7 t278 t279 t282 t283 bt286.1 (bt286.2 != t279))) else (if (t283 != false) = true then (laws_FnPatternsOpenOfAll.j1 kj8 l0 a1 a2 a3 l4 a5 l6 a7 t278 t279 t282 t283 bt286.1 true) else (laws_FnPatternsOpenOfAll.j1 kj8 l0 a1 a2 a3 l4 a5 l6 a7 t278 t279 t282 t283 bt286.1 (bt286.2 != t279))))))))) else (laws_FnPatternsOpenOfAll.j1 kj8 l0 a1 a2 a3 l4 a5 l6 a7 t278 t279 t282 t283 bt286.1 true)))) else (laws_FnPatternsOpenOfAll.j1 kj8 l0 a1 a2 a3 l4 a5 l6 a7 t278 t279 t282 t283 bt286.1 true)))))))) = some r := H
    have A15 := Aside0.mk A150
    clear A150
    replace H := Option.bind_eq_some_iff.mp H
    obtain ⟨⟨t284, t285⟩, A160, H⟩ := H
    replace H : ((impl_BackPattern.f kj8 l0).bind fun bt286 => ((spec_BackPattern.f kj8 l0).bind fun bt290 => (if (t279 != t281) = true then (laws_FnPatternsOpenOfAll.j1 kj8 l0 a1 a2 a3 l4 a5 l6 a7 t278 t279 t282 t283 bt286.1 true) else (if (t278 != t280) = true then (laws_FnPatternsOpenOfAll.j1 kj8 l0 a1 a2 a3 l4 a5 l6 a7 t278 t279 t282 t283 bt286.1 true) else (if (t283 != t285) = true then (laws_FnPatternsOpenOfAll.j1 kj8 l0 a1 a2 a3 l4 a5 l6 a7 t278 t279 t282 t283 bt286.1 true) else (if t282 = t284 then (if (bt286.2 != bt290.2) = true then (laws_FnPatternsOpenOfAll.j1 kj8 l0 a1 a2 a3 l4 a5 l6 a7 t278 t279 t282 t283 bt286.1 true) else ((laws_tSame.f kj8 bt286.1 bt290.1).bind fun t294 => (if t294 = true then ((impl_IsPattern.f kj8 l0).bind fun t295 => (if (t279 != t295) = true then (laws_FnPatternsOpenOfAll.j1 kj8 l0 a1 a2 a3 l4 a5 l6 a7 t278 t279 t282 t283 bt286.1 true) else ((impl_IsPattern.f kj8 l0).bind fun t296 => ((spec_IsPattern.f kj8 l0).bind fun t297 => (if (t296 != t297) = true then (laws_FnPatternsOpenOfAll.j1 kj8 l0 a1 a2 a3 l4 a5 l6 a7 t278 t279 t282 t283 bt286.1 true) else (if t279 = true then (if (t283 != (!t278)) = true then (laws_FnPatternsOpenOfAll.j1 kj8 l0 a1 a2 a3 l4 a5 l6 a7 t278 t279 t282 t283 bt286.1 true) else (laws_FnPatternsOpenOfAll.j1 kj8 l0 a1 a2 a3 l4 a5 l6 a7 t278 t279 t282 t283 bt286.1 (bt286.2 != t279))) else (if (t283 != false) = true then (laws_FnPatternsOpenOfAll.j1 kj8 l0 a1 a2 a3 l4 a5 l6 a7 t278 t279 t282 t283 bt286.1 true) else (laws_FnPatternsOpenOfAll.j1 kj8 l0 a1 a2 a3 l4 a5 l6 a7 t278 t279 t282 t283 bt286.1 (bt286.2 != t279))))))))) else (laws_FnPatternsOpenOfAll.j1 kj8 l0 a1 a2 a3 l4 a5 l6 a7 t278 t279 t282 t283 bt286.1 true)))) else (laws_FnPatternsOpenOfAll.j1 kj8 l0 a1 a2 a3 l4 a5 l6 a7 t278 t279 t282 t283 bt286.1 true))))))) = some r := H
    have A16 := Aside0.mk A160
    clear A160
    replace H := Option.bind_eq_some_iff.mp H
    obtain ⟨⟨t286, t287⟩, A170, H⟩ := H
    replace H : ((spec_BackPattern.f kj8 l0).bind fun bt290 => (if (t279 != t281) = true then (laws_FnPatternsOpenOfAll.j1 kj8 l0 a1 a2 a3 l4 a5 l6 a7 t278 t279 t282 t283 t286 true) else (if (t278 != t280) = true then (laws_FnPatternsOpenOfAll.j1 kj8 l0 a1 a2 a3 l4 a5 l6 a7 t278 t279 t282 t283 t286 true) else (if (t283 != t285) = true then (laws_FnPatternsOpenOfAll.j1 kj8 l0 a1 a2 a3 l4 a5 l6 a7 t278 t279 t282 t283 t286 true) else (if t282 = t284 then (if (t287 != bt290.2) = true then (laws_FnPatternsOpenOfAll.j1 kj8 l0 a1 a2 a3 l4 a5 l6 a7 t278 t279 t282 t283 t286 true) else ((laws_tSame.f kj8 t286 bt290.1).bind fun t294 => (if t294 = true then ((impl_IsPattern.f kj8 l0).bind fun t295 => (if (t279 != t295) = true then (laws_FnPatternsOpenOfAll.j1 kj8 l0 a1 a2 a3 l4 a5 l6 a7 t278 t279 t282 t283 t286 true) else ((impl_IsPattern.f kj8 l0).bind fun t296 => ((spec_IsPattern.f kj8 l0).bind fun t297 => (if (t296 != t297) = true then (laws_FnPatternsOpenOfAll.j1 kj8 l0 a1 a2 a3 l4 a5 l6 a7 t278 t279 t282 t283 t286 true) else (if t279 = true then (if (t283 != (!t278)) = true then (laws_FnPatternsOpenOfAll.j1 kj8 l0 a1 a2 a3 l4 a5 l6 a7 t278 t279 t282 t283 t286 true) else (laws_FnPatternsOpenOfAll.j1 kj8 l0 a1 a2 a3 l4 a5 l6 a7 t278 t279 t282 t283 t286 (t287 != t279))) else (if (t283 != false) = true then (laws_FnPatternsOpenOfAll.j1 kj8 l0 a1 a2 a3 l4 a5 l6 a7 t278 t279 t282 t283 t286 true) else (laws_FnPatternsOpenOfAll.j1 kj8 l0 a1 a2 a3 l4 a5 l6 a7 t278 t279 t282 t283 t286 (t287 != t279))))))))) else (laws_FnPatternsOpenOfAll.j1 kj8 l0 a1 a2 a3 l4 a5 l6 a7 t278 t279 t282 t283 t286 true)))) else (laws_FnPatternsOpenOfAll.j1 kj8 l0 a1 a2 a3 l4 a5 l6 a7 t278 t279 t282 t283 t286 true)))))) = some r := H
    have A17 := Aside0.mk A170
    clear A170
    replace H := Option.bind_eq_some_iff.mp H
    obtain ⟨⟨t290, t291⟩, A180, H⟩ := H
    replace H : (if (t279 != t281) = true then (laws_FnPatternsOpenOfAll.j1 kj8 l0 a1 a2 a3 l4 a5 l6 a7 t278 t279 t282 t283 t286 true) else (if (t278 != t280) = true then (laws_FnPatternsOpenOfAll.j1 kj8 l0 a1 a2 a3 l4 a5 l6 a7 t278 t279 t282 t283 t286 true) else (if (t283 != t285) = true then (laws_FnPatternsOpenOfAll.j1 kj8 l0 a1 a2 a3 l4 a5 l6 a7 t278 t279 t282 t283 t286 true) else (if t282 = t284 then (if (t287 != t291) = true then (laws_FnPatternsOpenOfAll.j1 kj8 l0 a1 a2 a3 l4 a5 l6 a7 t278 t279 t282 t283 t286 true) else ((laws_tSame.f kj8 t286 t290).bind fun t294 => (if t294 = true then ((impl_IsPattern.f kj8 l0).bind fun t295 => (if (t279 != t295) = true then (laws_FnPatternsOpenOfAll.j1 kj8 l0 a1 a2 a3 l4 a5 l6 a7 t278 t279 t282 t283 t286 true) else ((impl_IsPattern.f kj8 l0).bind fun t296 => ((spec_IsPattern.f kj8 l0).bind fun t297 => (if (t296 != t297) = true then (laws_FnPatternsOpenOfAll.j1 kj8 l0 a1 a2 a3 l4 a5 l6 a7 t278 t279 t282 t283 t286 true) else (if t279 = true then (if (t283 != (!t278)) = true then (laws_FnPatternsOpenOfAll.j1 kj8 l0 a1 a2 a3 l4 a5 l6 a7 t278 t279 t282 t283 t286 true) else (laws_FnPatternsOpenOfAll.j1 kj8 l0 a1 a2 a3 l4 a5 l6 a7 t278 t279 t282 t283 t286 (t287 != t279))) else (if (t283 != false) = true then (laws_FnPatternsOpenOfAll.j1 kj8 l0 a1 a2 a3 l4 a5 l6 a7 t278 t279 t282 t283 t286 true) else (laws_FnPatternsOpenOfAll.j1 kj8 l0 a1 a2 a3 l4 a5 l6 a7 t278 t279 t282 t283 t286 (t287 != t279))))))))) else (laws_FnPatternsOpenOfAll.j1 kj8 l0 a1 a2 a3 l4 a5 l6 a7 t278 t279 t282 t283 t286 true)))) else (laws_FnPatternsOpenOfAll.j1 kj8 l0 a1 a2 a3 l4 a5 l6 a7 t278 t279 t282 t283 t286 true))))) = some r := H
    have A18 := Aside0.mk A180
    clear A180
    have HC19 := Aside0.mk H
    clear H
    go_upto_region 9 with (first | ((with_reducible refine gate_callee (f := 5) rfl ?_); refine goesL_ (some 92) rfl rfl Try.func5 (by kernel_rfl) rfl #[.slice A0 l0.length c0] rfl (by (try simp only [List.map_toArray, List.map_cons, List.map_nil]); first | done | rfl | (simp only [List.length_drop, List.length_take]; rfl)) ?_; (with_reducible refine (impl_IsOpen.calls kj8 _ _ l0 t278 t279 _ ?side1 ?side2 A13.out).mono ?_); (case side1 => repeat (first | exact (Kd.C_below HR0.out HB.out) | (with_reducible refine Kd.C_alloc ?_ _) | (with_reducible refine Kd.C_drewN ?_ _) | (with_reducible refine Kd.C_drew ?_))); (case side2 => exact HC0.out); rintro e w20 ⟨rfl, hb⟩; refine ⟨_, rfl, ?_⟩; have n0_ := Aside0.mk (below_step (by repeat (first | (with_reducible first | exact HB.out | apply below_alloc | apply pw_below_drewN | apply below_drew1))) hb); clear HB; have HB := n0_; clear n0_; (try clear hb)) | ((with_reducible refine gate_callee (f := 6) rfl ?_); refine goesL_ (some 97) rfl rfl Try.func6 (by kernel_rfl) rfl #[.slice A0 l0.length c0] rfl (by (try simp only [List.map_toArray, List.map_cons, List.map_nil]); first | done | rfl | (simp only [List.length_drop, List.length_take]; rfl)) ?_; (with_reducible refine (spec_IsOpen.calls kj8 _ _ l0 t280 t281 _ ?side1 ?side2 A14.out).mono ?_); (case side1 => repeat (first | exact (Kd.C_below HR0.out HB.out) | (with_reducible refine Kd.C_alloc ?_ _) | (with_reducible refine Kd.C_drewN ?_ _) | (with_reducible refine Kd.C_drew ?_))); (case side2 => exact HC0.out); rintro e w21 ⟨rfl, hb⟩; refine ⟨_, rfl, ?_⟩; have n0_ := Aside0.mk (below_step (by repeat (first | (with_reducible first | exact HB.out | apply below_alloc | apply pw_below_drewN | apply below_drew1))) hb); clear HB; have HB := n0_; clear n0_; (try clear hb)) | ((with_reducible refine gate_callee (f := 7) rfl ?_); refine goesL_ (some 102) rfl rfl Try.func7 (by kernel_rfl) rfl #[.slice A0 l0.length c0] rfl (by (try simp only [List.map_toArray, List.map_cons, List.map_nil]); first | done | rfl | (simp only [List.length_drop, List.length_take]; rfl)) ?_; (with_reducible refine (impl_FirstClosing.calls kj8 _ _ l0 t282 t283 _ ?side1 ?side2 A15.out).mono ?_); (case side1 => repeat (first | exact (Kd.C_below HR0.out HB.out) | (with_reducible refine Kd.C_alloc ?_ _) | (with_reducible refine Kd.C_drewN ?_ _) | (with_reducible refine Kd.C_drew ?_))); (case side2 => exact HC0.out); rintro e w22 ⟨rfl, hb⟩; refine ⟨_, rfl, ?_⟩; have n0_ := Aside0.mk (below_step (by repeat (first | (with_reducible first | exact HB.out | apply below_alloc | apply pw_below_drewN | apply below_drew1))) hb); clear HB; have HB := n0_; clear n0_; (try clear hb)) | ((with_reducible refine gate_callee (f := 8) rfl ?_); refine goesL_ (some 107) rfl rfl Try.func8 (by kernel_rfl) rfl #[.slice A0 l0.length c0] rfl (by (try simp only [List.map_toArray, List.map_cons, List.map_nil]); first | done | rfl | (simp only [List.length_drop, List.length_take]; rfl)) ?_; (with_reducible refine (spec_FirstClosing.calls kj8 _ _ l0 t284 t285 _ ?side1 ?side2 A16.out).mono ?_); (case side1 => repeat (first | exact (Kd.C_below HR0.out HB.out) | (with_reducible refine Kd.C_alloc ?_ _) | (with_reducible refine Kd.C_drewN ?_ _) | (with_reducible refine Kd.C_drew ?_))); (case side2 => exact HC0.out); rintro e w23 ⟨rfl, hb⟩; refine ⟨_, rfl, ?_⟩; have n0_ := Aside0.mk (below_step (by repeat (first | (with_reducible first | exact HB.out | apply below_alloc | apply pw_below_drewN | apply below_drew1))) hb); clear HB; have HB := n0_; clear n0_; (try clear hb)) | ((with_reducible refine gate_callee (f := 9) rfl ?_); refine goesL_ (some 112) rfl rfl Try.func9 (by kernel_rfl) rfl #[.slice A0 l0.length c0] rfl (by (try simp only [List.map_toArray, List.map_cons, List.map_nil]); first | done | rfl | (simp only [List.length_drop, List.length_take]; rfl)) ?_; (with_reducible refine (impl_BackPattern.calls kj8 _ _ l0 t286 t287 _ ?side1 ?side2 A17.out).mono ?_); (case side1 => repeat (first | exact (Kd.C_below HR0.out HB.out) | (with_reducible refine Kd.C_alloc ?_ _) | (with_reducible refine Kd.C_drewN ?_ _) | (with_reducible refine Kd.C_drew ?_))); (case side2 => exact HC0.out); rintro e w24 ⟨v288, rfl, ho0, hb⟩; refine ⟨_, rfl, ?_⟩; have n0_ := Aside0.mk (Kd.R_lower ho0 (below_size (by repeat (first | (with_reducible first | exact HB.out | apply below_alloc | apply pw_below_drewN | apply below_drew1))))); have n1_ := Aside0.mk (below_step (by repeat (first | (with_reducible first | exact HB.out | apply below_alloc | apply pw_below_drewN | apply below_drew1))) hb); clear HB; have HO289 := n0_; have HB := n1_; clear n0_ n1_; (try clear hb); (try clear ho0)) | ((with_reducible refine gate_callee (f := 10) rfl ?_); refine goesL_ (some 117) rfl rfl Try.func10 (by kernel_rfl) rfl #[.slice A0 l0.length c0] rfl (by (try simp only [List.map_toArray, List.map_cons, List.map_nil]); first | done | rfl | (simp only [List.length_drop, List.length_take]; rfl)) ?_; (with_reducible refine (spec_BackPattern.calls kj8 _ _ l0 t290 t291 _ ?side1 ?side2 A18.out).mono ?_); (case side1 => repeat (first | exact (Kd.C_below HR0.out HB.out) | (with_reducible refine Kd.C_alloc ?_ _) | (with_reducible refine Kd.C_drewN ?_ _) | (with_reducible refine Kd.C_drew ?_))); (case side2 => exact HC0.out); rintro e w25 ⟨v292, rfl, ho0, hb⟩; refine ⟨_, rfl, ?_⟩; have n0_ := Aside0.mk (Kd.R_elder' (by (with_reducible repeat (first | apply Kd.R_alloc | apply Kd.R_drewN | apply Kd.R_drew)); exact HO289.out) (Kd.R_base ho0) hb); have n1_ := Aside0.mk (Kd.R_lower (Kd.R_new' ho0 (Kd.R_lt (by (with_reducible repeat (first | apply Kd.R_alloc | apply Kd.R_drewN | apply Kd.R_drew)); exact HO289.out))) (below_size (by repeat (first | (with_reducible first | exact HB.out | apply below_alloc | apply pw_below_drewN | apply below_drew1))))); have n2_ := Aside0.mk (below_step (by repeat (first | (with_reducible first | exact HB.out | apply below_alloc | apply pw_below_drewN | apply below_drew1))) hb); clear HO289; clear HB; have HO289 := n0_; have HO293 := n1_; have HB := n2_; clear n0_ n1_ n2_; (try clear hb); (try clear ho0)))
    (try simp only [Act.put, List.setIfInBounds_toArray, List.set_cons_zero, List.set_cons_succ])
    refine cutF mk0 [] (fun u_ wc => ∃ (kq : Nat) (x175_18 : Bool), (u_ 175) = .bool x175_18 ∧ Aside0 (laws_FnPatternsOpenOfAll.j1 kq l0 a1 a2 a3 l4 a5 l6 a7 t278 t279 t282 t283 t286 x175_18 = some r) ∧ Aside0 (kq ≤ kj8) ∧ Aside0 (Kd.R (Kd.int .i64) 3 wc w.heap.size (fun _ => True) v288 t286) ∧ Aside0 (Below w.heap.size w wc)) ?_ ?_
    ·
     as_aux_lemma =>
      intro J_ K_ hJ_ hK_
      have H := HC19.out
      clear HC19
      by_cases c26 : (t279 != t281) = true
      ·
       rw [if_pos c26] at H
       exact (laws_FnPatternsOpenOfAll.j1_no _ _ _ _ _ _ _ _ _ _ _ _ _ _ (H.trans (congrArg some HRT.out))).elim
      ·
       rw [if_neg c26] at H
       have c26b0 : (t279 != t281) = false := by simpa using c26
       have c26q := eq_true (bne_eq_false_iff_eq.1 c26b0)
       (try (have c26b1 : decide (t279 = t281) = true := by simpa using c26))
       (try (have c26b2 : (t279 == t281) = true := by simpa using c26))
       clear c26
       (first | rw [c26b0] | (simp only [i64_w, i32_w]; rw [c26b0]) | skip)
       by_cases c27 : (t278 != t280) = true
       ·
        rw [if_pos c27] at H
        exact (laws_FnPatternsOpenOfAll.j1_no _ _ _ _ _ _ _ _ _ _ _ _ _ _ (H.trans (congrArg some HRT.out))).elim
       ·
        rw [if_neg c27] at H
        have c27b0 : (t278 != t280) = false := by simpa using c27
        have c27q := eq_true (bne_eq_false_iff_eq.1 c27b0)
        (try (have c27b1 : decide (t278 = t280) = true := by simpa using c27))
        (try (have c27b2 : (t278 == t280) = true := by simpa using c27))
        clear c27
        by_cases c28 : (t283 != t285) = true
        ·
         rw [if_pos c28] at H
         exact (laws_FnPatternsOpenOfAll.j1_no _ _ _ _ _ _ _ _ _ _ _ _ _ _ (H.trans (congrArg some HRT.out))).elim
        ·
         rw [if_neg c28] at H
         have c28b0 : (t283 != t285) = false := by simpa using c28
         have c28q := eq_true (bne_eq_false_iff_eq.1 c28b0)
         (try (have c28b1 : decide (t283 = t285) = true := by simpa using c28))
         (try (have c28b2 : (t283 == t285) = true := by simpa using c28))
         clear c28
         by_cases c29 : t282 = t284
         ·
          rw [if_pos c29] at H
          have c29b0 : (t282 == t284) = true := beq_iff_eq.mpr c29
          have c29b1 : (t282 != t284) = false := bne_eq_false_iff_eq.mpr c29
          clear c29
          by_cases c30 : (t287 != t291) = true
          ·
           rw [if_pos c30] at H
           exact (laws_FnPatternsOpenOfAll.j1_no _ _ _ _ _ _ _ _ _ _ _ _ _ _ (H.trans (congrArg some HRT.out))).elim
          ·
           rw [if_neg c30] at H
           have c30b0 : (t287 != t291) = false := by simpa using c30
           have c30q := eq_true (bne_eq_false_iff_eq.1 c30b0)
           (try (have c30b1 : decide (t287 = t291) = true := by simpa using c30))
           (try (have c30b2 : (t287 == t291) = true := by simpa using c30))
           clear c30
           replace H := Option.bind_eq_some_iff.mp H
           obtain ⟨t294, A310, H⟩ := H
           replace H : (if t294 = true then ((impl_IsPattern.f kj8 l0).bind fun t295 => (if (t279 != t295) = true then (laws_FnPatternsOpenOfAll.j1 kj8 l0 a1 a2 a3 l4 a5 l6 a7 t278 t279 t282 t283 t286 true) else ((impl_IsPattern.f kj8 l0).bind fun t296 => ((spec_IsPattern.f kj8 l0).bind fun t297 => (if (t296 != t297) = true then (laws_FnPatternsOpenOfAll.j1 kj8 l0 a1 a2 a3 l4 a5 l6 a7 t278 t279 t282 t283 t286 true) else (if t279 = true then (if (t283 != (!t278)) = true then (laws_FnPatternsOpenOfAll.j1 kj8 l0 a1 a2 a3 l4 a5 l6 a7 t278 t279 t282 t283 t286 true) else (laws_FnPatternsOpenOfAll.j1 kj8 l0 a1 a2 a3 l4 a5 l6 a7 t278 t279 t282 t283 t286 (t287 != t279))) else (if (t283 != false) = true then (laws_FnPatternsOpenOfAll.j1 kj8 l0 a1 a2 a3 l4 a5 l6 a7 t278 t279 t282 t283 t286 true) else (laws_FnPatternsOpenOfAll.j1 kj8 l0 a1 a2 a3 l4 a5 l6 a7 t278 t279 t282 t283 t286 (t287 != t279))))))))) else (laws_FnPatternsOpenOfAll.j1 kj8 l0 a1 a2 a3 l4 a5 l6 a7 t278 t279 t282 t283 t286 true)) = some r := H
           have A31 := Aside0.mk A310
           clear A310
           by_cases c32 : t294 = true
           ·
            subst c32
            have H1 : ((impl_IsPattern.f kj8 l0).bind fun t295 => (if (t279 != t295) = true then (laws_FnPatternsOpenOfAll.j1 kj8 l0 a1 a2 a3 l4 a5 l6 a7 t278 t279 t282 t283 t286 true) else ((impl_IsPattern.f kj8 l0).bind fun t296 => ((spec_IsPattern.f kj8 l0).bind fun t297 => (if (t296 != t297) = true then (laws_FnPatternsOpenOfAll.j1 kj8 l0 a1 a2 a3 l4 a5 l6 a7 t278 t279 t282 t283 t286 true) else (if t279 = true then (if (t283 != (!t278)) = true then (laws_FnPatternsOpenOfAll.j1 kj8 l0 a1 a2 a3 l4 a5 l6 a7 t278 t279 t282 t283 t286 true) else (laws_FnPatternsOpenOfAll.j1 kj8 l0 a1 a2 a3 l4 a5 l6 a7 t278 t279 t282 t283 t286 (t287 != t279))) else (if (t283 != false) = true then (laws_FnPatternsOpenOfAll.j1 kj8 l0 a1 a2 a3 l4 a5 l6 a7 t278 t279 t282 t283 t286 true) else (laws_FnPatternsOpenOfAll.j1 kj8 l0 a1 a2 a3 l4 a5 l6 a7 t278 t279 t282 t283 t286 (t287 != t279))))))))) = some r := by rw [if_pos rfl] at H; exact H
            clear H
            have H := H1
            clear H1
            replace H := Option.bind_eq_some_iff.mp H
            obtain ⟨t295, A330, H⟩ := H
            replace H : (if (t279 != t295) = true then (laws_FnPatternsOpenOfAll.j1 kj8 l0 a1 a2 a3 l4 a5 l6 a7 t278 t279 t282 t283 t286 true) else ((impl_IsPattern.f kj8 l0).bind fun t296 => ((spec_IsPattern.f kj8 l0).bind fun t297 => (if (t296 != t297) = true then (laws_FnPatternsOpenOfAll.j1 kj8 l0 a1 a2 a3 l4 a5 l6 a7 t278 t279 t282 t283 t286 true) else (if t279 = true then (if (t283 != (!t278)) = true then (laws_FnPatternsOpenOfAll.j1 kj8 l0 a1 a2 a3 l4 a5 l6 a7 t278 t279 t282 t283 t286 true) else (laws_FnPatternsOpenOfAll.j1 kj8 l0 a1 a2 a3 l4 a5 l6 a7 t278 t279 t282 t283 t286 (t287 != t279))) else (if (t283 != false) = true then (laws_FnPatternsOpenOfAll.j1 kj8 l0 a1 a2 a3 l4 a5 l6 a7 t278 t279 t282 t283 t286 true) else (laws_FnPatternsOpenOfAll.j1 kj8 l0 a1 a2 a3 l4 a5 l6 a7 t278 t279 t282 t283 t286 (t287 != t279)))))))) = some r := H
            have A33 := Aside0.mk A330
            clear A330
            by_cases c34 : (t279 != t295) = true
            ·
             rw [if_pos c34] at H
             exact (laws_FnPatternsOpenOfAll.j1_no _ _ _ _ _ _ _ _ _ _ _ _ _ _ (H.trans (congrArg some HRT.out))).elim
            ·
             rw [if_neg c34] at H
             have c34b0 : (t279 != t295) = false := by simpa using c34
             have c34q := eq_true (bne_eq_false_iff_eq.1 c34b0)
             (try (have c34b1 : decide (t279 = t295) = true := by simpa using c34))
             (try (have c34b2 : (t279 == t295) = true := by simpa using c34))
             clear c34
             replace H := Option.bind_eq_some_iff.mp H
             obtain ⟨t296, A370, H⟩ := H
             replace H : ((spec_IsPattern.f kj8 l0).bind fun t297 => (if (t296 != t297) = true then (laws_FnPatternsOpenOfAll.j1 kj8 l0 a1 a2 a3 l4 a5 l6 a7 t278 t279 t282 t283 t286 true) else (if t279 = true then (if (t283 != (!t278)) = true then (laws_FnPatternsOpenOfAll.j1 kj8 l0 a1 a2 a3 l4 a5 l6 a7 t278 t279 t282 t283 t286 true) else (laws_FnPatternsOpenOfAll.j1 kj8 l0 a1 a2 a3 l4 a5 l6 a7 t278 t279 t282 t283 t286 (t287 != t279))) else (if (t283 != false) = true then (laws_FnPatternsOpenOfAll.j1 kj8 l0 a1 a2 a3 l4 a5 l6 a7 t278 t279 t282 t283 t286 true) else (laws_FnPatternsOpenOfAll.j1 kj8 l0 a1 a2 a3 l4 a5 l6 a7 t278 t279 t282 t283 t286 (t287 != t279)))))) = some r := H
             have A37 := Aside0.mk A370
             clear A370
             obtain rfl : t295 = t296 := Option.some.inj (A33.out.symm.trans A37.out)
             replace H := Option.bind_eq_some_iff.mp H
             obtain ⟨t297, A380, H⟩ := H
             replace H : (if (t295 != t297) = true then (laws_FnPatternsOpenOfAll.j1 kj8 l0 a1 a2 a3 l4 a5 l6 a7 t278 t279 t282 t283 t286 true) else (if t279 = true then (if (t283 != (!t278)) = true then (laws_FnPatternsOpenOfAll.j1 kj8 l0 a1 a2 a3 l4 a5 l6 a7 t278 t279 t282 t283 t286 true) else (laws_FnPatternsOpenOfAll.j1 kj8 l0 a1 a2 a3 l4 a5 l6 a7 t278 t279 t282 t283 t286 (t287 != t279))) else (if (t283 != false) = true then (laws_FnPatternsOpenOfAll.j1 kj8 l0 a1 a2 a3 l4 a5 l6 a7 t278 t279 t282 t283 t286 true) else (laws_FnPatternsOpenOfAll.j1 kj8 l0 a1 a2 a3 l4 a5 l6 a7 t278 t279 t282 t283 t286 (t287 != t279))))) = some r := H
             have A38 := Aside0.mk A380
             clear A380
             by_cases c39 : (t295 != t297) = true
             ·
              rw [if_pos c39] at H
              exact (laws_FnPatternsOpenOfAll.j1_no _ _ _ _ _ _ _ _ _ _ _ _ _ _ (H.trans (congrArg some HRT.out))).elim
             ·
              rw [if_neg c39] at H
              have c39b0 : (t295 != t297) = false := by simpa using c39
              have c39q := eq_true (bne_eq_false_iff_eq.1 c39b0)
              (try (have c39b1 : decide (t295 = t297) = true := by simpa using c39))
              (try (have c39b2 : (t295 == t297) = true := by simpa using c39))
              clear c39
              by_cases c42 : t279 = true
              ·
               subst c42
               have H1 : (if (t283 != (!t278)) = true then (laws_FnPatternsOpenOfAll.j1 kj8 l0 a1 a2 a3 l4 a5 l6 a7 t278 true t282 t283 t286 true) else (laws_FnPatternsOpenOfAll.j1 kj8 l0 a1 a2 a3 l4 a5 l6 a7 t278 true t282 t283 t286 (t287 != true))) = some r := by rw [if_pos rfl] at H; exact H
               clear H
               have H := H1
               clear H1
               by_cases c43 : (t283 != (!t278)) = true
               ·
                rw [if_pos c43] at H
                exact (laws_FnPatternsOpenOfAll.j1_no _ _ _ _ _ _ _ _ _ _ _ _ _ _ (H.trans (congrArg some HRT.out))).elim
               ·
                rw [if_neg c43] at H
                have c43b0 : (t283 != (!t278)) = false := by simpa using c43
                have c43q := eq_true (bne_eq_false_iff_eq.1 c43b0)
                (try (have c43b1 : decide (t283 = (!t278)) = true := by simpa using c43))
                (try (have c43b2 : (t283 == (!t278)) = true := by simpa using c43))
                clear c43
                have H' := Aside0.mk H
                clear H
                obtain ⟨Ao46, co46, eo46⟩ := Kd.R_slice HO289.out
                subst eo46
                obtain ⟨Ao47, co47, eo47⟩ := Kd.R_slice HO293.out
                subst eo47
                go_wp2_with (first | (go_at_call 11; (with_reducible refine (laws_tSame.calls kj8 _ _ t286 _ _ t290 true _ ?side1 ?side2 ?side3 ?side4 A31.out).mono ?_); (case side1 => repeat (first | exact (Kd.R_reads' HO289.out).2.2 | (with_reducible refine Kd.C_alloc ?_ _) | (with_reducible refine Kd.C_drewN ?_ _) | (with_reducible refine Kd.C_drew ?_))); (case side2 => exact (Kd.R_reads' HO289.out).2.1); (case side3 => repeat (first | exact (Kd.R_reads' HO293.out).2.2 | (with_reducible refine Kd.C_alloc ?_ _) | (with_reducible refine Kd.C_drewN ?_ _) | (with_reducible refine Kd.C_drew ?_))); (case side4 => exact (Kd.R_reads' HO293.out).2.1); rintro e w' ⟨rfl, ⟨nd, rfl⟩⟩) | (go_at_call 12; (with_reducible refine (impl_IsPattern.calls kj8 _ _ l0 t295 _ ?side1 ?side2 A33.out).mono ?_); (case side1 => repeat (first | exact (Kd.C_below HR0.out (by repeat (first | (with_reducible first | exact HB.out | apply below_alloc | apply pw_below_drewN | apply below_drew1)))) | (with_reducible refine Kd.C_alloc ?_ _) | (with_reducible refine Kd.C_drewN ?_ _) | (with_reducible refine Kd.C_drew ?_))); (case side2 => exact HC0.out); rintro e w' ⟨rfl, ⟨nd, rfl⟩⟩) | (go_at_call 12; (with_reducible refine (impl_IsPattern.calls kj8 _ _ l0 t295 _ ?side1 ?side2 A37.out).mono ?_); (case side1 => repeat (first | exact (Kd.C_below HR0.out (by repeat (first | (with_reducible first | exact HB.out | apply below_alloc | apply pw_below_drewN | apply below_drew1)))) | (with_reducible refine Kd.C_alloc ?_ _) | (with_reducible refine Kd.C_drewN ?_ _) | (with_reducible refine Kd.C_drew ?_))); (case side2 => exact HC0.out); rintro e w' ⟨rfl, ⟨nd, rfl⟩⟩) | (go_at_call 13; (with_reducible refine (spec_IsPattern.calls kj8 _ _ l0 t297 _ ?side1 ?side2 A38.out).mono ?_); (case side1 => repeat (first | exact (Kd.C_below HR0.out (by repeat (first | (with_reducible first | exact HB.out | apply below_alloc | apply pw_below_drewN | apply below_drew1)))) | (with_reducible refine Kd.C_alloc ?_ _) | (with_reducible refine Kd.C_drewN ?_ _) | (with_reducible refine Kd.C_drew ?_))); (case side2 => exact HC0.out); rintro e w' ⟨rfl, ⟨nd, rfl⟩⟩))
                refine cutMeet hJ_ ?_ (by kernel_rfl)
                exact ⟨_, ((t287 != true)), (by first | rfl | (simp; done) | (simp [*]; done)), H', ⟨by have := HJ8.out; first | omega | exact Nat.le_refl _⟩, ⟨by (with_reducible repeat (first | apply Kd.R_alloc | apply Kd.R_drewN | apply Kd.R_drew)); exact Kd.R_mono HO289.out (fun _ hk => trivial)⟩, ⟨by repeat (first | (with_reducible first | exact HB.out | apply below_alloc | apply pw_below_drewN | apply below_drew1))⟩⟩
              ·
               replace c42 := Bool.eq_false_iff.mpr c42
               subst c42
               have H1 : (if (t283 != false) = true then (laws_FnPatternsOpenOfAll.j1 kj8 l0 a1 a2 a3 l4 a5 l6 a7 t278 false t282 t283 t286 true) else (laws_FnPatternsOpenOfAll.j1 kj8 l0 a1 a2 a3 l4 a5 l6 a7 t278 false t282 t283 t286 (t287 != false))) = some r := by rw [if_neg (show ¬ (false = true) by decide)] at H; exact H
               clear H
               have H := H1
               clear H1
               by_cases c48 : (t283 != false) = true
               ·
                rw [if_pos c48] at H
                exact (laws_FnPatternsOpenOfAll.j1_no _ _ _ _ _ _ _ _ _ _ _ _ _ _ (H.trans (congrArg some HRT.out))).elim
               ·
                rw [if_neg c48] at H
                have c48b0 : (t283 != false) = false := by simpa using c48
                have c48q := eq_true (bne_eq_false_iff_eq.1 c48b0)
                (try (have c48b1 : decide (t283 = false) = true := by simpa using c48))
                (try (have c48b2 : (t283 == false) = true := by simpa using c48))
                clear c48
                have H' := Aside0.mk H
                clear H
                obtain ⟨Ao51, co51, eo51⟩ := Kd.R_slice HO289.out
                subst eo51
                obtain ⟨Ao52, co52, eo52⟩ := Kd.R_slice HO293.out
                subst eo52
                go_wp2_with (first | (go_at_call 11; (with_reducible refine (laws_tSame.calls kj8 _ _ t286 _ _ t290 true _ ?side1 ?side2 ?side3 ?side4 A31.out).mono ?_); (case side1 => repeat (first | exact (Kd.R_reads' HO289.out).2.2 | (with_reducible refine Kd.C_alloc ?_ _) | (with_reducible refine Kd.C_drewN ?_ _) | (with_reducible refine Kd.C_drew ?_))); (case side2 => exact (Kd.R_reads' HO289.out).2.1); (case side3 => repeat (first | exact (Kd.R_reads' HO293.out).2.2 | (with_reducible refine Kd.C_alloc ?_ _) | (with_reducible refine Kd.C_drewN ?_ _) | (with_reducible refine Kd.C_drew ?_))); (case side4 => exact (Kd.R_reads' HO293.out).2.1); rintro e w' ⟨rfl, ⟨nd, rfl⟩⟩) | (go_at_call 12; (with_reducible refine (impl_IsPattern.calls kj8 _ _ l0 t295 _ ?side1 ?side2 A33.out).mono ?_); (case side1 => repeat (first | exact (Kd.C_below HR0.out (by repeat (first | (with_reducible first | exact HB.out | apply below_alloc | apply pw_below_drewN | apply below_drew1)))) | (with_reducible refine Kd.C_alloc ?_ _) | (with_reducible refine Kd.C_drewN ?_ _) | (with_reducible refine Kd.C_drew ?_))); (case side2 => exact HC0.out); rintro e w' ⟨rfl, ⟨nd, rfl⟩⟩) | (go_at_call 12; (with_reducible refine (impl_IsPattern.calls kj8 _ _ l0 t295 _ ?side1 ?side2 A37.out).mono ?_); (case side1 => repeat (first | exact (Kd.C_below HR0.out (by repeat (first | (with_reducible first | exact HB.out | apply below_alloc | apply pw_below_drewN | apply below_drew1)))) | (with_reducible refine Kd.C_alloc ?_ _) | (with_reducible refine Kd.C_drewN ?_ _) | (with_reducible refine Kd.C_drew ?_))); (case side2 => exact HC0.out); rintro e w' ⟨rfl, ⟨nd, rfl⟩⟩) | (go_at_call 13; (with_reducible refine (spec_IsPattern.calls kj8 _ _ l0 t297 _ ?side1 ?side2 A38.out).mono ?_); (case side1 => repeat (first | exact (Kd.C_below HR0.out (by repeat (first | (with_reducible first | exact HB.out | apply below_alloc | apply pw_below_drewN | apply below_drew1)))) | (with_reducible refine Kd.C_alloc ?_ _) | (with_reducible refine Kd.C_drewN ?_ _) | (with_reducible refine Kd.C_drew ?_))); (case side2 => exact HC0.out); rintro e w' ⟨rfl, ⟨nd, rfl⟩⟩))
                refine cutMeet hJ_ ?_ (by kernel_rfl)
                exact ⟨_, ((t287 != false)), (by first | rfl | (simp; done) | (simp [*]; done)), H', ⟨by have := HJ8.out; first | omega | exact Nat.le_refl _⟩, ⟨by (with_reducible repeat (first | apply Kd.R_alloc | apply Kd.R_drewN | apply Kd.R_drew)); exact Kd.R_mono HO289.out (fun _ hk => trivial)⟩, ⟨by repeat (first | (with_reducible first | exact HB.out | apply below_alloc | apply pw_below_drewN | apply below_drew1))⟩⟩
           ·
            replace c32 := Bool.eq_false_iff.mpr c32
            subst c32
            have H1 : (laws_FnPatternsOpenOfAll.j1 kj8 l0 a1 a2 a3 l4 a5 l6 a7 t278 t279 t282 t283 t286 true) = some r := by rw [if_neg (show ¬ (false = true) by decide)] at H; exact H
            clear H
            have H := H1
            clear H1
            exact (laws_FnPatternsOpenOfAll.j1_no _ _ _ _ _ _ _ _ _ _ _ _ _ _ (H.trans (congrArg some HRT.out))).elim
         ·
          rw [if_neg c29] at H
          exact (laws_FnPatternsOpenOfAll.j1_no _ _ _ _ _ _ _ _ _ _ _ _ _ _ (H.trans (congrArg some HRT.out))).elim
    ·
     intro u_ wc hcut
     clear HC19
     obtain ⟨kq, x175_18, e_175, HA, HJ18, HO_25, HB⟩ := hcut
     dsimp only [cutFgt, mk0]
     rw [e_175]
     cases kq with
     | zero => exact absurd HA.out (by simp [laws_FnPatternsOpenOfAll.j1])
     | succ kj18 =>
      have H := HA.out
      clear HA
      simp only [laws_FnPatternsOpenOfAll.j1] at H
      by_cases c55 : x175_18 = true
      ·
       subst c55
       have H1 : (some false) = some r := by rw [if_pos rfl] at H; exact H
       clear H
       have H := H1
       clear H1
       exact absurd (Option.some.inj (H.trans (congrArg some HRT.out))) Bool.false_ne_true
      ·
       replace c55 := Bool.eq_false_iff.mpr c55
       subst c55
       have H1 : (if t279 = true then ((impl_IsOpen.f kj18 t286).bind fun bt298 => ((impl_BackPattern.f kj18 t286).bind fun bt300 => (if bt298.2 = true then (if (bt298.1 != t278) = true then (laws_FnPatternsOpenOfAll.j2 kj18 l0 a1 a2 a3 l4 a5 l6 a7 t278 t282 t283 true) else (if bt300.2 = true then ((laws_tSame.f kj18 bt300.1 l0).bind fun t304 => (laws_FnPatternsOpenOfAll.j2 kj18 l0 a1 a2 a3 l4 a5 l6 a7 t278 t282 t283 (!t304))) else (laws_FnPatternsOpenOfAll.j2 kj18 l0 a1 a2 a3 l4 a5 l6 a7 t278 t282 t283 true))) else (laws_FnPatternsOpenOfAll.j2 kj18 l0 a1 a2 a3 l4 a5 l6 a7 t278 t282 t283 true)))) else (laws_FnPatternsOpenOfAll.j7 kj18 a1 a2 a3 l4 a5 l6 a7)) = some r := by rw [if_neg (show ¬ (false = true) by decide)] at H; exact H
       clear H
       have H := H1
       clear H1
       have HC56 := Aside0.mk H
       clear H
       go_upto_if 176 with (fail)
       refine cutF mk0 [none, none, none, none, none, none, none, none, none, none, none, none, none, none, none, none, some 16, none, none, none, none, none, none, none, none, none, none, none, none, some 29, some 30, some 31, some 32, some 33, none, some 35, some 36, some 37, none, some 39, none, none, none, none, none, none, none, none, none, none, none, none, none, none, none, none, none, none, none, none, none, none, none, none, none, none, none, none, none, none, none, none, none, none, none, none, none, none, none, none, none, none, none, none, none, none, none, none, none, none, none, none, none, none, none, none, none, none, none, none, none, none, none, none, none, none, none, none, none, none, none, none, none, none, none, none, none, none, none, none, none, none, none, none, none, none, none, none, none, none, none, none, none, none, none, none, none, none, none, none, none, none, none, none, none, none, none, none, none, none, none, none, none, none, none, none, none, none, none, none, none, none, none, none, none, none, none, none, none, none, none, none, none, none, none, none, none, none, none, none, none, none, none, none, none, none, none, none, none, none, none, none, none, none, none, none, none, none, none, none, none, none, none, none, some 204, some 205, some 206, none, none, none, none, none, none, none, none, none, none, none, none, none, none, none, none, none, none, none, none, none, none, none, none, none, none, none, none, none, none, none, none, none, none, none, none, none, none, none, none, none, none, none, none, none, none, none, none, none, none, none, some 258, some 259, some 260] (fun u_ wc => ∃ (kq : Nat), Aside0 (laws_FnPatternsOpenOfAll.j7 kq a1 a2 a3 l4 a5 l6 a7 = some r) ∧ Aside0 (kq ≤ kj18) ∧ Aside0 (Below w.heap.size w wc)) ?_ ?_
       ·
         intro J_ K_ hJ_ hK_
         have H := HC56.out
         clear HC56
         by_cases c57 : t279 = true
         ·
          subst c57
          have H1 : ((impl_IsOpen.f kj18 t286).bind fun bt298 => ((impl_BackPattern.f kj18 t286).bind fun bt300 => (if bt298.2 = true then (if (bt298.1 != t278) = true then (laws_FnPatternsOpenOfAll.j2 kj18 l0 a1 a2 a3 l4 a5 l6 a7 t278 t282 t283 true) else (if bt300.2 = true then ((laws_tSame.f kj18 bt300.1 l0).bind fun t304 => (laws_FnPatternsOpenOfAll.j2 kj18 l0 a1 a2 a3 l4 a5 l6 a7 t278 t282 t283 (!t304))) else (laws_FnPatternsOpenOfAll.j2 kj18 l0 a1 a2 a3 l4 a5 l6 a7 t278 t282 t283 true))) else (laws_FnPatternsOpenOfAll.j2 kj18 l0 a1 a2 a3 l4 a5 l6 a7 t278 t282 t283 true)))) = some r := by rw [if_pos rfl] at H; exact H
          clear H
          have H := H1
          clear H1
          replace H := Option.bind_eq_some_iff.mp H
          obtain ⟨⟨t298, t299⟩, A580, H⟩ := H
          replace H : ((impl_BackPattern.f kj18 t286).bind fun bt300 => (if t299 = true then (if (t298 != t278) = true then (laws_FnPatternsOpenOfAll.j2 kj18 l0 a1 a2 a3 l4 a5 l6 a7 t278 t282 t283 true) else (if bt300.2 = true then ((laws_tSame.f kj18 bt300.1 l0).bind fun t304 => (laws_FnPatternsOpenOfAll.j2 kj18 l0 a1 a2 a3 l4 a5 l6 a7 t278 t282 t283 (!t304))) else (laws_FnPatternsOpenOfAll.j2 kj18 l0 a1 a2 a3 l4 a5 l6 a7 t278 t282 t283 true))) else (laws_FnPatternsOpenOfAll.j2 kj18 l0 a1 a2 a3 l4 a5 l6 a7 t278 t282 t283 true))) = some r := H
          have A58 := Aside0.mk A580
          clear A580
          replace H := Option.bind_eq_some_iff.mp H
          obtain ⟨⟨t300, t301⟩, A590, H⟩ := H
          replace H : (if t299 = true then (if (t298 != t278) = true then (laws_FnPatternsOpenOfAll.j2 kj18 l0 a1 a2 a3 l4 a5 l6 a7 t278 t282 t283 true) else (if t301 = true then ((laws_tSame.f kj18 t300 l0).bind fun t304 => (laws_FnPatternsOpenOfAll.j2 kj18 l0 a1 a2 a3 l4 a5 l6 a7 t278 t282 t283 (!t304))) else (laws_FnPatternsOpenOfAll.j2 kj18 l0 a1 a2 a3 l4 a5 l6 a7 t278 t282 t283 true))) else (laws_FnPatternsOpenOfAll.j2 kj18 l0 a1 a2 a3 l4 a5 l6 a7 t278 t282 t283 true)) = some r := H
          have A59 := Aside0.mk A590
          clear A590
          have HC60 := Aside0.mk H
          clear H
          obtain ⟨Ao61, co61, eo61⟩ := Kd.R_slice HO_25.out
          subst eo61
          go_upto_region 14 with (first | ((with_reducible refine gate_callee (f := 5) rfl ?_); refine goesL_ (some 179) rfl rfl Try.func5 (by kernel_rfl) rfl #[.slice Ao61 t286.length co61] rfl (by (try simp only [List.map_toArray, List.map_cons, List.map_nil]); first | done | rfl | (simp only [List.length_drop, List.length_take]; rfl)) ?_; (with_reducible refine (impl_IsOpen.calls kj18 _ _ t286 t298 t299 _ ?side1 ?side2 A58.out).mono ?_); (case side1 => repeat (first | exact (Kd.R_reads' HO_25.out).2.2 | (with_reducible refine Kd.C_alloc ?_ _) | (with_reducible refine Kd.C_drewN ?_ _) | (with_reducible refine Kd.C_drew ?_))); (case side2 => exact (Kd.R_reads' HO_25.out).2.1); rintro e w62 ⟨rfl, hb⟩; refine ⟨_, rfl, ?_⟩; have n0_ := Aside0.mk (Kd.R_below (by (with_reducible repeat (first | apply Kd.R_alloc | apply Kd.R_drewN | apply Kd.R_drew)); exact HO_25.out) hb); have n1_ := Aside0.mk (below_step (by repeat (first | (with_reducible first | exact HB.out | apply below_alloc | apply pw_below_drewN | apply below_drew1))) hb); clear HO_25; clear HB; have HO_25 := n0_; have HB := n1_; clear n0_ n1_; (try clear hb)) | ((with_reducible refine gate_callee (f := 9) rfl ?_); refine goesL_ (some 184) rfl rfl Try.func9 (by kernel_rfl) rfl #[.slice Ao61 t286.length co61] rfl (by (try simp only [List.map_toArray, List.map_cons, List.map_nil]); first | done | rfl | (simp only [List.length_drop, List.length_take]; rfl)) ?_; (with_reducible refine (impl_BackPattern.calls kj18 _ _ t286 t300 t301 _ ?side1 ?side2 A59.out).mono ?_); (case side1 => repeat (first | exact (Kd.R_reads' HO_25.out).2.2 | (with_reducible refine Kd.C_alloc ?_ _) | (with_reducible refine Kd.C_drewN ?_ _) | (with_reducible refine Kd.C_drew ?_))); (case side2 => exact (Kd.R_reads' HO_25.out).2.1); rintro e w63 ⟨v302, rfl, ho0, hb⟩; refine ⟨_, rfl, ?_⟩; have n0_ := Aside0.mk (Kd.R_elder' (by (with_reducible repeat (first | apply Kd.R_alloc | apply Kd.R_drewN | apply Kd.R_drew)); exact HO_25.out) (Kd.R_base ho0) hb); have n1_ := Aside0.mk (Kd.R_lower (Kd.R_new' ho0 (Kd.R_lt (by (with_reducible repeat (first | apply Kd.R_alloc | apply Kd.R_drewN | apply Kd.R_drew)); exact HO_25.out))) (below_size (by repeat (first | (with_reducible first | exact HB.out | apply below_alloc | apply pw_below_drewN | apply below_drew1))))); have n2_ := Aside0.mk (below_step (by repeat (first | (with_reducible first | exact HB.out | apply below_alloc | apply pw_below_drewN | apply below_drew1))) hb); clear HO_25; clear HB; have HO_25 := n0_; have HO303 := n1_; have HB := n2_; clear n0_ n1_ n2_; (try clear hb); (try clear ho0)))
          (try simp only [Act.put, List.setIfInBounds_toArray, List.set_cons_zero, List.set_cons_succ])
          refine cutF mk0 [] (fun u_ wc => ∃ (kq : Nat) (x203_59 : Bool), (u_ 203) = .bool x203_59 ∧ Aside0 (laws_FnPatternsOpenOfAll.j2 kq l0 a1 a2 a3 l4 a5 l6 a7 t278 t282 t283 x203_59 = some r) ∧ Aside0 (kq ≤ kj18) ∧ Aside0 (Below w.heap.size w wc)) ?_ ?_
          ·
           as_aux_lemma =>
            intro J_ K_ hJ_ hK_
            have H := HC60.out
            clear HC60
            by_cases c64 : t299 = true
            ·
             subst c64
             have H1 : (if (t298 != t278) = true then (laws_FnPatternsOpenOfAll.j2 kj18 l0 a1 a2 a3 l4 a5 l6 a7 t278 t282 t283 true) else (if t301 = true then ((laws_tSame.f kj18 t300 l0).bind fun t304 => (laws_FnPatternsOpenOfAll.j2 kj18 l0 a1 a2 a3 l4 a5 l6 a7 t278 t282 t283 (!t304))) else (laws_FnPatternsOpenOfAll.j2 kj18 l0 a1 a2 a3 l4 a5 l6 a7 t278 t282 t283 true))) = some r := by rw [if_pos rfl] at H; exact H
             clear H
             have H := H1
             clear H1
             by_cases c65 : (t298 != t278) = true
             ·
              rw [if_pos c65] at H
              exact (laws_FnPatternsOpenOfAll.j2_no _ _ _ _ _ _ _ _ _ _ _ _ (H.trans (congrArg some HRT.out))).elim
             ·
              rw [if_neg c65] at H
              have c65b0 : (t298 != t278) = false := by simpa using c65
              have c65q := eq_true (bne_eq_false_iff_eq.1 c65b0)
              (try (have c65b1 : decide (t298 = t278) = true := by simpa using c65))
              (try (have c65b2 : (t298 == t278) = true := by simpa using c65))
              clear c65
              (first | rw [c65b0] | (simp only [i64_w, i32_w]; rw [c65b0]) | skip)
              by_cases c66 : t301 = true
              ·
               subst c66
               have H1 : ((laws_tSame.f kj18 t300 l0).bind fun t304 => (laws_FnPatternsOpenOfAll.j2 kj18 l0 a1 a2 a3 l4 a5 l6 a7 t278 t282 t283 (!t304))) = some r := by rw [if_pos rfl] at H; exact H
               clear H
               have H := H1
               clear H1
               replace H := Option.bind_eq_some_iff.mp H
               obtain ⟨t304, A670, H⟩ := H
               replace H : (laws_FnPatternsOpenOfAll.j2 kj18 l0 a1 a2 a3 l4 a5 l6 a7 t278 t282 t283 (!t304)) = some r := H
               have A67 := Aside0.mk A670
               clear A670
               have H' := Aside0.mk H
               clear H
               obtain ⟨Ao68, co68, eo68⟩ := Kd.R_slice HO303.out
               subst eo68
               go_wp2_with (first | (go_at_call 11; (with_reducible refine (laws_tSame.calls kj18 _ _ t300 _ _ l0 t304 _ ?side1 ?side2 ?side3 ?side4 A67.out).mono ?_); (case side1 => repeat (first | exact (Kd.R_reads' HO303.out).2.2 | (with_reducible refine Kd.C_alloc ?_ _) | (with_reducible refine Kd.C_drewN ?_ _) | (with_reducible refine Kd.C_drew ?_))); (case side2 => exact (Kd.R_reads' HO303.out).2.1); (case side3 => repeat (first | exact (Kd.C_below HR0.out HB.out) | (with_reducible refine Kd.C_alloc ?_ _) | (with_reducible refine Kd.C_drewN ?_ _) | (with_reducible refine Kd.C_drew ?_))); (case side4 => exact HC0.out); rintro e w' ⟨rfl, ⟨nd, rfl⟩⟩))
               refine cutMeet hJ_ ?_ (by kernel_rfl)
               exact ⟨_, (!t304), (by first | rfl | (simp; done) | (simp [*]; done)), H', ⟨by have := HJ8.out; have := HJ18.out; first | omega | exact Nat.le_refl _⟩, ⟨by repeat (first | (with_reducible first | exact HB.out | apply below_alloc | apply pw_below_drewN | apply below_drew1))⟩⟩
              ·
               replace c66 := Bool.eq_false_iff.mpr c66
               subst c66
               have H1 : (laws_FnPatternsOpenOfAll.j2 kj18 l0 a1 a2 a3 l4 a5 l6 a7 t278 t282 t283 true) = some r := by rw [if_neg (show ¬ (false = true) by decide)] at H; exact H
               clear H
               have H := H1
               clear H1
               exact (laws_FnPatternsOpenOfAll.j2_no _ _ _ _ _ _ _ _ _ _ _ _ (H.trans (congrArg some HRT.out))).elim
            ·
             replace c64 := Bool.eq_false_iff.mpr c64
             subst c64
             have H1 : (laws_FnPatternsOpenOfAll.j2 kj18 l0 a1 a2 a3 l4 a5 l6 a7 t278 t282 t283 true) = some r := by rw [if_neg (show ¬ (false = true) by decide)] at H; exact H
             clear H
             have H := H1
             clear H1
             exact (laws_FnPatternsOpenOfAll.j2_no _ _ _ _ _ _ _ _ _ _ _ _ (H.trans (congrArg some HRT.out))).elim
          ·
           intro u_ wc hcut
           clear HC60
           obtain ⟨kq, x203_59, e_203, HA, HJ59, HB⟩ := hcut
           dsimp only [cutFgt, mk0]
           rw [e_203]
           cases kq with
           | zero => exact absurd HA.out (by simp [laws_FnPatternsOpenOfAll.j2])
           | succ kj59 =>
            have H := HA.out
            clear HA
            simp only [laws_FnPatternsOpenOfAll.j2] at H
            by_cases c69 : x203_59 = true
            ·
             subst c69
             have H1 : (some false) = some r := by rw [if_pos rfl] at H; exact H
             clear H
             have H := H1
             clear H1
             exact absurd (Option.some.inj (H.trans (congrArg some HRT.out))) Bool.false_ne_true
            ·
             replace c69 := Bool.eq_false_iff.mpr c69
             subst c69
             have H1 : ((some (([2, 3, 5, 7, 11, 13] : List Int) : List Int)).bind fun y305 => (laws_FnPatternsOpenOfAll.l0 kj59 l0 a1 a2 a3 l4 a5 l6 a7 t278 t282 t283 false y305 (y305.length : Int) 0)) = some r := by rw [if_neg (show ¬ (false = true) by decide)] at H; exact H
             clear H
             have H := H1
             clear H1
             obtain ⟨y305, hy305⟩ : ∃ y_ : List Int, y_ = (([2, 3, 5, 7, 11, 13] : List Int)) := ⟨_, rfl⟩
             replace H : (laws_FnPatternsOpenOfAll.l0 kj59 l0 a1 a2 a3 l4 a5 l6 a7 t278 t282 t283 false y305 (y305.length : Int) 0) = some r := by first | (rw [hy305]; with_reducible exact H) | (have H2_ := (Option.bind_some _ _).symm.trans H; rw [hy305]; with_reducible exact H2_) | (have H2_ := (Option.bind_some _ _).symm.trans H; with_reducible exact H2_) | with_reducible exact H | (rw [hy305]; exact H) | exact H
             have Ny305 := Aside0.mk hy305
             clear hy305
             have H' := Aside0.mk H
             clear H
             go_wp2_with (first | ((with_reducible refine gate_dst (N := 204) rfl ?_); (try (refine gate_guard (by rfl) ?_; dsimp only)); refine Kd.R_lit (Kd.int .i64) _ 3 ?hg (N := 204) ?hd (xs := ([2, 3, 5, 7, 11, 13] : List Int)) (inner := [.int .i64 2, .int .i64 3, .int .i64 5, .int .i64 7, .int .i64 11, .int .i64 13]) (ok := fun _ => True) (okp := fun _ => True) ?hr ?hp (fun _ hk => hk) trivial (Below.refl _ _) (Nat.le_refl _) (by simp) ?_; (case hd => rfl); (case hg => rfl); (case hr => first | (go_simp; done) | (go_simp; rfl)); (case hp => exact (Reps.one (show Kd.M (Kd.int .i64) _ _ _ 2 [.int .i64 2] from rfl) (Reps.one (show Kd.M (Kd.int .i64) _ _ _ 3 [.int .i64 3] from rfl) (Reps.one (show Kd.M (Kd.int .i64) _ _ _ 5 [.int .i64 5] from rfl) (Reps.one (show Kd.M (Kd.int .i64) _ _ _ 7 [.int .i64 7] from rfl) (Reps.one (show Kd.M (Kd.int .i64) _ _ _ 11 [.int .i64 11] from rfl) (Reps.one (show Kd.M (Kd.int .i64) _ _ _ 13 [.int .i64 13] from rfl) (Reps.none _ _)))))))); intro v306 w70 ho71 hb hg_ hnew_; clear hg_ hnew_; (first | rw [← Ny305.out] at ho71 | (simp only [Int.reduceToNat] at ho71; rw [← Ny305.out] at ho71)); have n0_ := Aside0.mk (Kd.R_lower ho71 (below_size (by repeat (first | (with_reducible first | exact HB.out | apply below_alloc | apply pw_below_drewN | apply below_drew1))))); have n1_ := Aside0.mk (below_step (by repeat (first | (with_reducible first | exact HB.out | apply below_alloc | apply pw_below_drewN | apply below_drew1))) hb); clear HB; have HO307 := n0_; have HB := n1_; clear n0_ n1_; clear hb ho71; obtain ⟨Ao72, co72, eo72⟩ := Kd.R_slice HO307.out; subst eo72))
             go_loopg [33, 206] kj59 (fun kq v33 v206 w' => ∃ (x33_4 : Bool) (x206_4 : Int), v33 = .bool x33_4 ∧ v206 = .int .i64 x206_4 ∧ Aside0 (laws_FnPatternsOpenOfAll.l0 kq l0 a1 a2 a3 l4 a5 l6 a7 t278 t282 t283 x33_4 y305 (y305.length : Int) x206_4 = some r) ∧ Aside0 (kq ≤ kj59) ∧ Aside0 (Kd.R (Kd.int .i64) 3 w' w.heap.size (fun _ => True) (.slice Ao72 y305.length co72) y305) ∧ Aside0 (Below w.heap.size w w'))
             case atStart => exact ⟨(false), (0), (by first | rfl | (simp; done) | (simp [*]; done)), (by first | rfl | (simp; done) | (simp [*]; done)), H', ⟨Nat.le_refl _⟩, ⟨by (with_reducible repeat (first | apply Kd.R_alloc | apply Kd.R_drewN | apply Kd.R_drew)); exact HO307.out⟩, ⟨by repeat (first | (with_reducible first | exact HB.out | apply below_alloc | apply pw_below_drewN | apply below_drew1))⟩⟩
             case round =>
              clear H'
              obtain ⟨x33_4, x206_4, rfl, rfl, HA, HK4, HO_204, HB⟩ := hrel
              cases gk with
              | zero => exact absurd HA.out (by simp [laws_FnPatternsOpenOfAll.l0])
              | succ k4 =>
               have H := HA.out
               clear HA
               simp only [laws_FnPatternsOpenOfAll.l0] at H
               by_cases c73 : x206_4 < (y305.length : Int)
               ·
                rw [if_pos c73] at H
                have c73b0 : decide (x206_4 < (y305.length : Int)) = true := decide_eq_true c73
                clear c73
                by_cases c74 : 0 ≤ x206_4
                ·
                 rw [if_pos c74] at H
                 have c74b0 : decide (0 ≤ x206_4) = true := decide_eq_true c74
                 clear c74
                 by_cases c75 : x206_4 < (y305.length : Int)
                 ·
                  rw [if_pos c75] at H
                  have c75b0 : decide (x206_4 < (y305.length : Int)) = true := decide_eq_true c75
                  clear c75
                  replace H := Option.bind_eq_some_iff.mp H
                  obtain ⟨⟨t309, t310⟩, A760, H⟩ := H
                  replace H : (if t310 = true then ((laws_tRises.f k4 t309 0 (wrap64 ((rd y305 x206_4) - 1))).bind fun t313 => (if t313 = true then (if (t309.length : Int) > (l0.length : Int) then (laws_FnPatternsOpenOfAll.j4 k4 l0 a1 a2 a3 l4 a5 l6 a7 t278 t282 t283 x33_4 (rd y305 x206_4) t309 y305 (y305.length : Int) x206_4 true) else (if (t309.length : Int) = (rd y305 x206_4) then (if x33_4 = true then (laws_FnPatternsOpenOfAll.j4 k4 l0 a1 a2 a3 l4 a5 l6 a7 t278 t282 t283 x33_4 (rd y305 x206_4) t309 y305 (y305.length : Int) x206_4 false) else (if t283 = true then (laws_FnPatternsOpenOfAll.j4 k4 l0 a1 a2 a3 l4 a5 l6 a7 t278 t282 t283 x33_4 (rd y305 x206_4) t309 y305 (y305.length : Int) x206_4 (t282 != (rd y305 x206_4))) else (laws_FnPatternsOpenOfAll.j4 k4 l0 a1 a2 a3 l4 a5 l6 a7 t278 t282 t283 x33_4 (rd y305 x206_4) t309 y305 (y305.length : Int) x206_4 true))) else (laws_FnPatternsOpenOfAll.j4 k4 l0 a1 a2 a3 l4 a5 l6 a7 t278 t282 t283 x33_4 (rd y305 x206_4) t309 y305 (y305.length : Int) x206_4 false))) else (laws_FnPatternsOpenOfAll.j4 k4 l0 a1 a2 a3 l4 a5 l6 a7 t278 t282 t283 x33_4 (rd y305 x206_4) t309 y305 (y305.length : Int) x206_4 true))) else (laws_FnPatternsOpenOfAll.j4 k4 l0 a1 a2 a3 l4 a5 l6 a7 t278 t282 t283 x33_4 (rd y305 x206_4) t309 y305 (y305.length : Int) x206_4 true)) = some r := H
                  have A76 := Aside0.mk A760
                  clear A760
                  have HC77 := Aside0.mk H
                  clear H
                  have p308 : 0 ≤ (x206_4 : Int) := of_decide_eq_true (by first | (with_reducible assumption) | assumption)
                  have q308 : x206_4 < (y305.length : Int) := of_decide_eq_true (by first | (with_reducible assumption) | assumption)
                  obtain ⟨ad308, e308, hx308_0⟩ := Kd.at_int (Kd.R_reads' HO_204.out).2.2 x206_4 p308 q308
                  cases e308
                  replace p308 := eq_true p308
                  replace q308 := eq_true q308
                  go_upto_region 21 with (first | ((with_reducible refine gate_callee (f := 14) rfl ?_); refine goesL_ (some 213) rfl rfl Try.func14 (by kernel_rfl) rfl #[.slice A0 l0.length c0, .int .i64 (rd y305 x206_4)] rfl (by (try simp only [List.map_toArray, List.map_cons, List.map_nil]); first | done | rfl | (simp only [List.length_drop, List.length_take]; rfl)) ?_; (with_reducible refine (impl_RestsOf.calls k4 _ _ l0 (rd y305 x206_4) t309 t310 _ ?side1 ?side2 A76.out).mono ?_); (case side1 => repeat (first | exact (Kd.C_below HR0.out HB.out) | (with_reducible refine Kd.C_alloc ?_ _) | (with_reducible refine Kd.C_drewN ?_ _) | (with_reducible refine Kd.C_drew ?_))); (case side2 => exact HC0.out); rintro e w78 ⟨v311, rfl, ho0, hb⟩; refine ⟨_, rfl, ?_⟩; have n0_ := Aside0.mk (Kd.R_elder' (by (with_reducible repeat (first | apply Kd.R_alloc | apply Kd.R_drewN | apply Kd.R_drew)); exact HO_204.out) (Kd.R_base ho0) hb); have n1_ := Aside0.mk (Kd.R_lower (Kd.R_new' ho0 (Kd.R_lt (by (with_reducible repeat (first | apply Kd.R_alloc | apply Kd.R_drewN | apply Kd.R_drew)); exact HO_204.out))) (below_size (by repeat (first | (with_reducible first | exact HB.out | apply below_alloc | apply pw_below_drewN | apply below_drew1))))); have n2_ := Aside0.mk (below_step (by repeat (first | (with_reducible first | exact HB.out | apply below_alloc | apply pw_below_drewN | apply below_drew1))) hb); clear HO_204; clear HB; have HO_204 := n0_; have HO312 := n1_; have HB := n2_; clear n0_ n1_ n2_; (try clear hb); (try clear ho0)))
                  (try simp only [Act.put, List.setIfInBounds_toArray, List.set_cons_zero, List.set_cons_succ])
                  refine cutF mk1 [] (fun u_ wc => ∃ (kq : Nat) (x250_76 : Bool), (u_ 250) = .bool x250_76 ∧ Aside0 (laws_FnPatternsOpenOfAll.j4 kq l0 a1 a2 a3 l4 a5 l6 a7 t278 t282 t283 x33_4 (rd y305 x206_4) t309 y305 (y305.length : Int) x206_4 x250_76 = some r) ∧ Aside0 (kq ≤ k4) ∧ Aside0 (Kd.R (Kd.int .i64) 3 wc w.heap.size (fun k_ => some k_ ≠ ((.slice (some ad308) y305.length co72) : Value).ownBlock) v311 t309) ∧ Aside0 (Kd.R (Kd.int .i64) 3 wc w.heap.size (fun k_ => some k_ ≠ (v311 : Value).ownBlock) (.slice (some ad308) y305.length co72) y305) ∧ Aside0 (Below w.heap.size w wc)) ?_ ?_
                  ·
                   as_aux_lemma =>
                    intro J_ K_ hJ_ hK_
                    have H := HC77.out
                    clear HC77
                    by_cases c79 : t310 = true
                    ·
                     subst c79
                     have H1 : ((laws_tRises.f k4 t309 0 (wrap64 ((rd y305 x206_4) - 1))).bind fun t313 => (if t313 = true then (if (t309.length : Int) > (l0.length : Int) then (laws_FnPatternsOpenOfAll.j4 k4 l0 a1 a2 a3 l4 a5 l6 a7 t278 t282 t283 x33_4 (rd y305 x206_4) t309 y305 (y305.length : Int) x206_4 true) else (if (t309.length : Int) = (rd y305 x206_4) then (if x33_4 = true then (laws_FnPatternsOpenOfAll.j4 k4 l0 a1 a2 a3 l4 a5 l6 a7 t278 t282 t283 x33_4 (rd y305 x206_4) t309 y305 (y305.length : Int) x206_4 false) else (if t283 = true then (laws_FnPatternsOpenOfAll.j4 k4 l0 a1 a2 a3 l4 a5 l6 a7 t278 t282 t283 x33_4 (rd y305 x206_4) t309 y305 (y305.length : Int) x206_4 (t282 != (rd y305 x206_4))) else (laws_FnPatternsOpenOfAll.j4 k4 l0 a1 a2 a3 l4 a5 l6 a7 t278 t282 t283 x33_4 (rd y305 x206_4) t309 y305 (y305.length : Int) x206_4 true))) else (laws_FnPatternsOpenOfAll.j4 k4 l0 a1 a2 a3 l4 a5 l6 a7 t278 t282 t283 x33_4 (rd y305 x206_4) t309 y305 (y305.length : Int) x206_4 false))) else (laws_FnPatternsOpenOfAll.j4 k4 l0 a1 a2 a3 l4 a5 l6 a7 t278 t282 t283 x33_4 (rd y305 x206_4) t309 y305 (y305.length : Int) x206_4 true))) = some r := by rw [if_pos rfl] at H; exact H
                     clear H
                     have H := H1
                     clear H1
                     replace H := Option.bind_eq_some_iff.mp H
                     obtain ⟨t313, A800, H⟩ := H
                     replace H : (if t313 = true then (if (t309.length : Int) > (l0.length : Int) then (laws_FnPatternsOpenOfAll.j4 k4 l0 a1 a2 a3 l4 a5 l6 a7 t278 t282 t283 x33_4 (rd y305 x206_4) t309 y305 (y305.length : Int) x206_4 true) else (if (t309.length : Int) = (rd y305 x206_4) then (if x33_4 = true then (laws_FnPatternsOpenOfAll.j4 k4 l0 a1 a2 a3 l4 a5 l6 a7 t278 t282 t283 x33_4 (rd y305 x206_4) t309 y305 (y305.length : Int) x206_4 false) else (if t283 = true then (laws_FnPatternsOpenOfAll.j4 k4 l0 a1 a2 a3 l4 a5 l6 a7 t278 t282 t283 x33_4 (rd y305 x206_4) t309 y305 (y305.length : Int) x206_4 (t282 != (rd y305 x206_4))) else (laws_FnPatternsOpenOfAll.j4 k4 l0 a1 a2 a3 l4 a5 l6 a7 t278 t282 t283 x33_4 (rd y305 x206_4) t309 y305 (y305.length : Int) x206_4 true))) else (laws_FnPatternsOpenOfAll.j4 k4 l0 a1 a2 a3 l4 a5 l6 a7 t278 t282 t283 x33_4 (rd y305 x206_4) t309 y305 (y305.length : Int) x206_4 false))) else (laws_FnPatternsOpenOfAll.j4 k4 l0 a1 a2 a3 l4 a5 l6 a7 t278 t282 t283 x33_4 (rd y305 x206_4) t309 y305 (y305.length : Int) x206_4 true)) = some r := H
                     have A80 := Aside0.mk A800
                     clear A800
                     by_cases c81 : t313 = true
                     ·
                      subst c81
                      have H1 : (if (t309.length : Int) > (l0.length : Int) then (laws_FnPatternsOpenOfAll.j4 k4 l0 a1 a2 a3 l4 a5 l6 a7 t278 t282 t283 x33_4 (rd y305 x206_4) t309 y305 (y305.length : Int) x206_4 true) else (if (t309.length : Int) = (rd y305 x206_4) then (if x33_4 = true then (laws_FnPatternsOpenOfAll.j4 k4 l0 a1 a2 a3 l4 a5 l6 a7 t278 t282 t283 x33_4 (rd y305 x206_4) t309 y305 (y305.length : Int) x206_4 false) else (if t283 = true then (laws_FnPatternsOpenOfAll.j4 k4 l0 a1 a2 a3 l4 a5 l6 a7 t278 t282 t283 x33_4 (rd y305 x206_4) t309 y305 (y305.length : Int) x206_4 (t282 != (rd y305 x206_4))) else (laws_FnPatternsOpenOfAll.j4 k4 l0 a1 a2 a3 l4 a5 l6 a7 t278 t282 t283 x33_4 (rd y305 x206_4) t309 y305 (y305.length : Int) x206_4 true))) else (laws_FnPatternsOpenOfAll.j4 k4 l0 a1 a2 a3 l4 a5 l6 a7 t278 t282 t283 x33_4 (rd y305 x206_4) t309 y305 (y305.length : Int) x206_4 false))) = some r := by rw [if_pos rfl] at H; exact H
                      clear H
                      have H := H1
                      clear H1
                      by_cases c82 : (t309.length : Int) > (l0.length : Int)
                      ·
                       rw [if_pos c82] at H
                       exact (laws_FnPatternsOpenOfAll.j4_no _ _ _ _ _ _ _ _ _ _ _ _ _ _ _ _ _ _ (H.trans (congrArg some HRT.out))).elim
                      ·
                       rw [if_neg c82] at H
                       have c82b0 : decide ((l0.length : Int) < (t309.length : Int)) = false := decide_eq_false c82
                       have c82b1 : decide (l0.length < t309.length) = false := decide_eq_false (fun h => c82 (Int.ofNat_lt.mpr h))
                       clear c82
                       (first | rw [c82b0] | (simp only [i64_w, i32_w]; rw [c82b0]) | skip)
                       by_cases c84 : (t309.length : Int) = (rd y305 x206_4)
                       ·
                        rw [if_pos c84] at H
                        have c84b0 : ((t309.length : Int) == (rd y305 x206_4)) = true := beq_iff_eq.mpr c84
                        have c84b1 : ((t309.length : Int) != (rd y305 x206_4)) = false := bne_eq_false_iff_eq.mpr c84
                        clear c84
                        by_cases c85 : x33_4 = true
                        ·
                         subst c85
                         have H1 : (laws_FnPatternsOpenOfAll.j4 k4 l0 a1 a2 a3 l4 a5 l6 a7 t278 t282 t283 true (rd y305 x206_4) t309 y305 (y305.length : Int) x206_4 false) = some r := by rw [if_pos rfl] at H; exact H
                         clear H
                         have H := H1
                         clear H1
                         have H' := Aside0.mk H
                         clear H
                         obtain ⟨Ao86, co86, eo86⟩ := Kd.R_slice HO312.out
                         subst eo86
                         go_wp2_with (first | (go_at_call 15; (with_reducible refine (laws_tRises.calls k4 _ _ t309 0 (wrap64 ((rd y305 x206_4) - 1)) true _ ?side1 ?side2 A80.out).mono ?_); (case side1 => repeat (first | exact (Kd.R_reads' HO312.out).2.2 | (with_reducible refine Kd.C_alloc ?_ _) | (with_reducible refine Kd.C_drewN ?_ _) | (with_reducible refine Kd.C_drew ?_))); (case side2 => exact (Kd.R_reads' HO312.out).2.1); rintro e w' ⟨rfl, ⟨nd, rfl⟩⟩))
                         refine cutMeet hJ_ ?_ (by kernel_rfl)
                         exact ⟨_, (false), (by first | rfl | (simp; done) | (simp [*]; done)), H', ⟨by have := HJ8.out; have := HJ18.out; have := HJ59.out; have := HK4.out; first | omega | exact Nat.le_refl _⟩, ⟨by (with_reducible repeat (first | apply Kd.R_alloc | apply Kd.R_drewN | apply Kd.R_drew)); exact Kd.R_mono HO312.out (fun _ hk => hk.2)⟩, ⟨by (with_reducible repeat (first | apply Kd.R_alloc | apply Kd.R_drewN | apply Kd.R_drew)); exact Kd.R_mono HO_204.out (fun _ hk => hk.2)⟩, ⟨by repeat (first | (with_reducible first | exact HB.out | apply below_alloc | apply pw_below_drewN | apply below_drew1))⟩⟩
                        ·
                         replace c85 := Bool.eq_false_iff.mpr c85
                         subst c85
                         have H1 : (if t283 = true then (laws_FnPatternsOpenOfAll.j4 k4 l0 a1 a2 a3 l4 a5 l6 a7 t278 t282 t283 false (rd y305 x206_4) t309 y305 (y305.length : Int) x206_4 (t282 != (rd y305 x206_4))) else (laws_FnPatternsOpenOfAll.j4 k4 l0 a1 a2 a3 l4 a5 l6 a7 t278 t282 t283 false (rd y305 x206_4) t309 y305 (y305.length : Int) x206_4 true)) = some r := by rw [if_neg (show ¬ (false = true) by decide)] at H; exact H
                         clear H
                         have H := H1
                         clear H1
                         by_cases c87 : t283 = true
                         ·
                          subst c87
                          have H1 : (laws_FnPatternsOpenOfAll.j4 k4 l0 a1 a2 a3 l4 a5 l6 a7 t278 t282 true false (rd y305 x206_4) t309 y305 (y305.length : Int) x206_4 (t282 != (rd y305 x206_4))) = some r := by rw [if_pos rfl] at H; exact H
                          clear H
                          have H := H1
                          clear H1
                          have H' := Aside0.mk H
                          clear H
                          obtain ⟨Ao88, co88, eo88⟩ := Kd.R_slice HO312.out
                          subst eo88
                          go_wp2_with (first | (go_at_call 15; (with_reducible refine (laws_tRises.calls k4 _ _ t309 0 (wrap64 ((rd y305 x206_4) - 1)) true _ ?side1 ?side2 A80.out).mono ?_); (case side1 => repeat (first | exact (Kd.R_reads' HO312.out).2.2 | (with_reducible refine Kd.C_alloc ?_ _) | (with_reducible refine Kd.C_drewN ?_ _) | (with_reducible refine Kd.C_drew ?_))); (case side2 => exact (Kd.R_reads' HO312.out).2.1); rintro e w' ⟨rfl, ⟨nd, rfl⟩⟩))
                          refine cutMeet hJ_ ?_ (by kernel_rfl)
                          exact ⟨_, ((t282 != (rd y305 x206_4))), (by first | rfl | (simp; done) | (simp [*]; done)), H', ⟨by have := HJ8.out; have := HJ18.out; have := HJ59.out; have := HK4.out; first | omega | exact Nat.le_refl _⟩, ⟨by (with_reducible repeat (first | apply Kd.R_alloc | apply Kd.R_drewN | apply Kd.R_drew)); exact Kd.R_mono HO312.out (fun _ hk => hk.2)⟩, ⟨by (with_reducible repeat (first | apply Kd.R_alloc | apply Kd.R_drewN | apply Kd.R_drew)); exact Kd.R_mono HO_204.out (fun _ hk => hk.2)⟩, ⟨by repeat (first | (with_reducible first | exact HB.out | apply below_alloc | apply pw_below_drewN | apply below_drew1))⟩⟩
                         ·
                          replace c87 := Bool.eq_false_iff.mpr c87
                          subst c87
                          have H1 : (laws_FnPatternsOpenOfAll.j4 k4 l0 a1 a2 a3 l4 a5 l6 a7 t278 t282 false false (rd y305 x206_4) t309 y305 (y305.length : Int) x206_4 true) = some r := by rw [if_neg (show ¬ (false = true) by decide)] at H; exact H
                          clear H
                          have H := H1
                          clear H1
                          exact (laws_FnPatternsOpenOfAll.j4_no _ _ _ _ _ _ _ _ _ _ _ _ _ _ _ _ _ _ (H.trans (congrArg some HRT.out))).elim
                       ·
                        rw [if_neg c84] at H
                        have c84b0 : ((t309.length : Int) == (rd y305 x206_4)) = false := beq_eq_false_iff_ne.mpr c84
                        have c84b1 : ((t309.length : Int) != (rd y305 x206_4)) = true := bne_iff_ne.mpr c84
                        have H' := Aside0.mk H
                        clear H
                        obtain ⟨Ao90, co90, eo90⟩ := Kd.R_slice HO312.out
                        subst eo90
                        go_wp2_with (first | (go_at_call 15; (with_reducible refine (laws_tRises.calls k4 _ _ t309 0 (wrap64 ((rd y305 x206_4) - 1)) true _ ?side1 ?side2 A80.out).mono ?_); (case side1 => repeat (first | exact (Kd.R_reads' HO312.out).2.2 | (with_reducible refine Kd.C_alloc ?_ _) | (with_reducible refine Kd.C_drewN ?_ _) | (with_reducible refine Kd.C_drew ?_))); (case side2 => exact (Kd.R_reads' HO312.out).2.1); rintro e w' ⟨rfl, ⟨nd, rfl⟩⟩))
                        refine cutMeet hJ_ ?_ (by kernel_rfl)
                        exact ⟨_, (false), (by first | rfl | (simp; done) | (simp [*]; done)), H', ⟨by have := HJ8.out; have := HJ18.out; have := HJ59.out; have := HK4.out; first | omega | exact Nat.le_refl _⟩, ⟨by (with_reducible repeat (first | apply Kd.R_alloc | apply Kd.R_drewN | apply Kd.R_drew)); exact Kd.R_mono HO312.out (fun _ hk => hk.2)⟩, ⟨by (with_reducible repeat (first | apply Kd.R_alloc | apply Kd.R_drewN | apply Kd.R_drew)); exact Kd.R_mono HO_204.out (fun _ hk => hk.2)⟩, ⟨by repeat (first | (with_reducible first | exact HB.out | apply below_alloc | apply pw_below_drewN | apply below_drew1))⟩⟩
                     ·
                      replace c81 := Bool.eq_false_iff.mpr c81
                      subst c81
                      have H1 : (laws_FnPatternsOpenOfAll.j4 k4 l0 a1 a2 a3 l4 a5 l6 a7 t278 t282 t283 x33_4 (rd y305 x206_4) t309 y305 (y305.length : Int) x206_4 true) = some r := by rw [if_neg (show ¬ (false = true) by decide)] at H; exact H
                      clear H
                      have H := H1
                      clear H1
                      exact (laws_FnPatternsOpenOfAll.j4_no _ _ _ _ _ _ _ _ _ _ _ _ _ _ _ _ _ _ (H.trans (congrArg some HRT.out))).elim
                    ·
                     replace c79 := Bool.eq_false_iff.mpr c79
                     subst c79
                     have H1 : (laws_FnPatternsOpenOfAll.j4 k4 l0 a1 a2 a3 l4 a5 l6 a7 t278 t282 t283 x33_4 (rd y305 x206_4) t309 y305 (y305.length : Int) x206_4 true) = some r := by rw [if_neg (show ¬ (false = true) by decide)] at H; exact H
                     clear H
                     have H := H1
                     clear H1
                     exact (laws_FnPatternsOpenOfAll.j4_no _ _ _ _ _ _ _ _ _ _ _ _ _ _ _ _ _ _ (H.trans (congrArg some HRT.out))).elim
                  ·
                   intro u_ wc hcut
                   clear HC77
                   obtain ⟨kq, x250_76, e_250, HA, HJ76, HO_36, HO_204, HB⟩ := hcut
                   dsimp only [cutFgt, mk1]
                   rw [e_250]
                   cases kq with
                   | zero => exact absurd HA.out (by simp [laws_FnPatternsOpenOfAll.j4])
                   | succ kj76 =>
                    have H := HA.out
                    clear HA
                    simp only [laws_FnPatternsOpenOfAll.j4] at H
                    by_cases c92 : x250_76 = true
                    ·
                     subst c92
                     have H1 : (some false) = some r := by rw [if_pos rfl] at H; exact H
                     clear H
                     have H := H1
                     clear H1
                     exact absurd (Option.some.inj (H.trans (congrArg some HRT.out))) Bool.false_ne_true
                    ·
                     replace c92 := Bool.eq_false_iff.mpr c92
                     subst c92
                     have H1 : (if x33_4 = true then (laws_FnPatternsOpenOfAll.j5 kj76 l0 a1 a2 a3 l4 a5 l6 a7 t278 t282 t283 true (rd y305 x206_4) t309 y305 (y305.length : Int) x206_4) else (laws_FnPatternsOpenOfAll.j5 kj76 l0 a1 a2 a3 l4 a5 l6 a7 t278 t282 t283 ((t309.length : Int) == (rd y305 x206_4)) (rd y305 x206_4) t309 y305 (y305.length : Int) x206_4)) = some r := by rw [if_neg (show ¬ (false = true) by decide)] at H; exact H
                     clear H
                     have H := H1
                     clear H1
                     have HC93 := Aside0.mk H
                     clear H
                     go_upto_region 23 with (fail)
                     refine cutF mk1 [none, none, none, none, none, none, none, none, none, none, none, none, none, none, none, none, none, none, none, none, none, none, none, none, none, none, none, none, none, none, none, none, none, some 33] (fun u_ wc => ∃ (kq : Nat) (x33_92 : Bool), (u_ 33) = .bool x33_92 ∧ Aside0 (laws_FnPatternsOpenOfAll.j5 kq l0 a1 a2 a3 l4 a5 l6 a7 t278 t282 t283 x33_92 (rd y305 x206_4) t309 y305 (y305.length : Int) x206_4 = some r) ∧ Aside0 (kq ≤ kj76) ∧ Aside0 (Kd.R (Kd.int .i64) 3 wc w.heap.size (fun k_ => some k_ ≠ ((.slice (some ad308) y305.length co72) : Value).ownBlock) v311 t309) ∧ Aside0 (Kd.R (Kd.int .i64) 3 wc w.heap.size (fun k_ => some k_ ≠ (v311 : Value).ownBlock) (.slice (some ad308) y305.length co72) y305) ∧ Aside0 (Below w.heap.size w wc)) ?_ ?_
                     ·
                      as_aux_lemma =>
                       intro J_ K_ hJ_ hK_
                       have H := HC93.out
                       clear HC93
                       by_cases c94 : x33_4 = true
                       ·
                        subst c94
                        have H1 : (laws_FnPatternsOpenOfAll.j5 kj76 l0 a1 a2 a3 l4 a5 l6 a7 t278 t282 t283 true (rd y305 x206_4) t309 y305 (y305.length : Int) x206_4) = some r := by rw [if_pos rfl] at H; exact H
                        clear H
                        have H := H1
                        clear H1
                        have H' := Aside0.mk H
                        clear H
                        go_wp2
                        refine cutMeet hJ_ ?_ (by kernel_rfl)
                        exact ⟨_, (true), (by first | rfl | (simp; done) | (simp [*]; done)), H', ⟨by have := HJ8.out; have := HJ18.out; have := HJ59.out; have := HK4.out; have := HJ76.out; first | omega | exact Nat.le_refl _⟩, ⟨by (with_reducible repeat (first | apply Kd.R_alloc | apply Kd.R_drewN | apply Kd.R_drew)); exact HO_36.out⟩, ⟨by (with_reducible repeat (first | apply Kd.R_alloc | apply Kd.R_drewN | apply Kd.R_drew)); exact HO_204.out⟩, ⟨by repeat (first | (with_reducible first | exact HB.out | apply below_alloc | apply pw_below_drewN | apply below_drew1))⟩⟩
                       ·
                        replace c94 := Bool.eq_false_iff.mpr c94
                        subst c94
                        have H1 : (laws_FnPatternsOpenOfAll.j5 kj76 l0 a1 a2 a3 l4 a5 l6 a7 t278 t282 t283 ((t309.length : Int) == (rd y305 x206_4)) (rd y305 x206_4) t309 y305 (y305.length : Int) x206_4) = some r := by rw [if_neg (show ¬ (false = true) by decide)] at H; exact H
                        clear H
                        have H := H1
                        clear H1
                        have H' := Aside0.mk H
                        clear H
                        obtain ⟨Ao95, co95, eo95⟩ := Kd.R_slice HO_36.out
                        subst eo95
                        go_wp2
                        refine cutMeet hJ_ ?_ (by kernel_rfl)
                        exact ⟨_, (((t309.length : Int) == (rd y305 x206_4))), (by first | rfl | (simp; done) | (simp [*]; done)), H', ⟨by have := HJ8.out; have := HJ18.out; have := HJ59.out; have := HK4.out; have := HJ76.out; first | omega | exact Nat.le_refl _⟩, ⟨by (with_reducible repeat (first | apply Kd.R_alloc | apply Kd.R_drewN | apply Kd.R_drew)); exact HO_36.out⟩, ⟨by (with_reducible repeat (first | apply Kd.R_alloc | apply Kd.R_drewN | apply Kd.R_drew)); exact HO_204.out⟩, ⟨by repeat (first | (with_reducible first | exact HB.out | apply below_alloc | apply pw_below_drewN | apply below_drew1))⟩⟩
                     ·
                      as_aux_lemma =>
                       intro u_ wc hcut
                       clear HC93
                       obtain ⟨kq, x33_92, e_33, HA, HJ92, HO_36, HO_204, HB⟩ := hcut
                       dsimp only [cutFgt, mk1]
                       rw [e_33]
                       cases kq with
                       | zero => exact absurd HA.out (by simp [laws_FnPatternsOpenOfAll.j5])
                       | succ kj92 =>
                        have H := HA.out
                        clear HA
                        simp only [laws_FnPatternsOpenOfAll.j5] at H
                        have H' := Aside0.mk H
                        clear H
                        go_wp2
                        go_loopg [260] kj92 (fun kq v260 w' => ∃ (x260_7 : Int), v260 = .int .i64 x260_7 ∧ Aside0 (laws_FnPatternsOpenOfAll.l1 kq l0 a1 a2 a3 l4 a5 l6 a7 t278 t282 t283 x33_92 (rd y305 x206_4) t309 y305 (y305.length : Int) x206_4 l0 (l0.length : Int) x260_7 = some r) ∧ Aside0 (kq ≤ kj92) ∧ Aside0 (Kd.R (Kd.int .i64) 3 w' w.heap.size (fun k_ => some k_ ≠ ((.slice (some ad308) y305.length co72) : Value).ownBlock) v311 t309) ∧ Aside0 (Kd.R (Kd.int .i64) 3 w' w.heap.size (fun k_ => some k_ ≠ (v311 : Value).ownBlock) (.slice (some ad308) y305.length co72) y305) ∧ Aside0 (Below w.heap.size w w'))
                        case atStart => exact ⟨(0), (by first | rfl | (simp; done) | (simp [*]; done)), H', ⟨Nat.le_refl _⟩, ⟨by (with_reducible repeat (first | apply Kd.R_alloc | apply Kd.R_drewN | apply Kd.R_drew)); exact HO_36.out⟩, ⟨by (with_reducible repeat (first | apply Kd.R_alloc | apply Kd.R_drewN | apply Kd.R_drew)); exact HO_204.out⟩, ⟨by repeat (first | (with_reducible first | exact HB.out | apply below_alloc | apply pw_below_drewN | apply below_drew1))⟩⟩
                        case round =>
                         clear H'
                         obtain ⟨x260_7, rfl, HA, HK7, HO_36, HO_204, HB⟩ := hrel
                         cases gk with
                         | zero => exact absurd HA.out (by simp [laws_FnPatternsOpenOfAll.l1])
                         | succ k7 =>
                          have H := HA.out
                          clear HA
                          simp only [laws_FnPatternsOpenOfAll.l1] at H
                          by_cases c96 : x260_7 < (l0.length : Int)
                          ·
                           rw [if_pos c96] at H
                           have c96b0 : decide (x260_7 < (l0.length : Int)) = true := decide_eq_true c96
                           clear c96
                           by_cases c97 : 0 ≤ x260_7
                           ·
                            rw [if_pos c97] at H
                            have c97b0 : decide (0 ≤ x260_7) = true := decide_eq_true c97
                            clear c97
                            by_cases c98 : x260_7 < (l0.length : Int)
                            ·
                             rw [if_pos c98] at H
                             have c98b0 : decide (x260_7 < (l0.length : Int)) = true := decide_eq_true c98
                             clear c98
                             by_cases c99 : (rd y305 x206_4) = 0
                             ·
                              rw [if_pos c99] at H
                              exact absurd H (by simp)
                             ·
                              rw [if_neg c99] at H
                              have c99b0 : ((rd y305 x206_4) == 0) = false := beq_eq_false_iff_ne.mpr c99
                              have c99b1 : ((rd y305 x206_4) != 0) = true := bne_iff_ne.mpr c99
                              replace H := Option.bind_eq_some_iff.mp H
                              obtain ⟨t315, A1000, H⟩ := H
                              replace H : (if t315 = true then (laws_FnPatternsOpenOfAll.l1 k7 l0 a1 a2 a3 l4 a5 l6 a7 t278 t282 t283 x33_92 (rd y305 x206_4) t309 y305 (y305.length : Int) x206_4 l0 (l0.length : Int) (wrap64 (x260_7 + 1))) else (some false)) = some r := H
                              have A100 := Aside0.mk A1000
                              clear A1000
                              by_cases c101 : t315 = true
                              ·
                               subst c101
                               have H1 : (laws_FnPatternsOpenOfAll.l1 k7 l0 a1 a2 a3 l4 a5 l6 a7 t278 t282 t283 x33_92 (rd y305 x206_4) t309 y305 (y305.length : Int) x206_4 l0 (l0.length : Int) (wrap64 (x260_7 + 1))) = some r := by rw [if_pos rfl] at H; exact H
                               clear H
                               have H := H1
                               clear H1
                               have H' := Aside0.mk H
                               clear H
                               have p314 : 0 ≤ (x260_7 : Int) := of_decide_eq_true (by first | (with_reducible assumption) | assumption)
                               have q314 : x260_7 < (l0.length : Int) := of_decide_eq_true (by first | (with_reducible assumption) | assumption)
                               obtain ⟨ad314, e314, hx314_0⟩ := Kd.at_int HR0.out x260_7 p314 q314
                               cases e314
                               (try replace hx314_0 := (HB.out.cell (World.block_lt_of_cell? w _ hx314_0)).trans hx314_0)
                               replace p314 := eq_true p314
                               replace q314 := eq_true q314
                               obtain ⟨Ao102, co102, eo102⟩ := Kd.R_slice HO_36.out
                               subst eo102
                               go_wp2_with (first | ((with_reducible refine gate_callee (f := 16) rfl ?_); refine goesL_ (some 268) rfl rfl Try.func16 (by kernel_rfl) rfl #[.slice Ao102 t309.length co102, .int .i64 (Int.tmod (rd l0 x260_7) (rd y305 x206_4))] rfl (by (try simp only [List.map_toArray, List.map_cons, List.map_nil]); first | done | rfl | (simp only [List.length_drop, List.length_take]; rfl)) ?_; (with_reducible refine (laws_tHas.calls k7 _ _ t309 (Int.tmod (rd l0 x260_7) (rd y305 x206_4)) true _ ?side1 ?side2 A100.out).mono ?_); (case side1 => repeat (first | exact (Kd.R_reads' HO_36.out).2.2 | (with_reducible refine Kd.C_alloc ?_ _) | (with_reducible refine Kd.C_drewN ?_ _) | (with_reducible refine Kd.C_drew ?_))); (case side2 => exact (Kd.R_reads' HO_36.out).2.1); rintro e w' ⟨rfl, ⟨nd, rfl⟩⟩; refine ⟨_, rfl, ?_⟩))
                               go_roundg k7
                               case measure => have := HJ8.out; have := HJ18.out; have := HJ59.out; have := HK4.out; have := HJ76.out; have := HJ92.out; have := HK7.out; omega
                               case rel => exact ⟨(wrap64 (x260_7 + 1)), (by first | rfl | (simp; done) | (simp [*]; done)), H', ⟨by have := HJ8.out; have := HJ18.out; have := HJ59.out; have := HK4.out; have := HJ76.out; have := HJ92.out; have := HK7.out; omega⟩, ⟨by (with_reducible repeat (first | apply Kd.R_alloc | apply Kd.R_drewN | apply Kd.R_drew)); exact HO_36.out⟩, ⟨by (with_reducible repeat (first | apply Kd.R_alloc | apply Kd.R_drewN | apply Kd.R_drew)); exact HO_204.out⟩, ⟨by repeat (first | (with_reducible first | exact HB.out | apply below_alloc | apply pw_below_drewN | apply below_drew1))⟩⟩
                              ·
                               replace c101 := Bool.eq_false_iff.mpr c101
                               subst c101
                               have H1 : (some false) = some r := by rw [if_neg (show ¬ (false = true) by decide)] at H; exact H
                               clear H
                               have H := H1
                               clear H1
                               exact absurd (Option.some.inj (H.trans (congrArg some HRT.out))) Bool.false_ne_true
                            ·
                             rw [if_neg c98] at H
                             exact absurd H (by simp)
                           ·
                            rw [if_neg c97] at H
                            exact absurd H (by simp)
                          ·
                           rw [if_neg c96] at H
                           have c96b0 : decide (x260_7 < (l0.length : Int)) = false := decide_eq_false c96
                           clear c96
                           have H' := Aside0.mk H
                           clear H
                           go_wp2
                           go_roundg k7
                           case measure => have := HJ8.out; have := HJ18.out; have := HJ59.out; have := HK4.out; have := HJ76.out; have := HJ92.out; have := HK7.out; omega
                           case rel => exact ⟨(x33_92), (wrap64 (x206_4 + 1)), (by first | rfl | (simp; done) | (simp [*]; done)), (by first | rfl | (simp; done) | (simp [*]; done)), H', ⟨by have := HJ8.out; have := HJ18.out; have := HJ59.out; have := HK4.out; have := HJ76.out; have := HJ92.out; have := HK7.out; omega⟩, ⟨by (with_reducible repeat (first | apply Kd.R_alloc | apply Kd.R_drewN | apply Kd.R_drew)); exact Kd.R_mono HO_204.out (fun _ hk => trivial)⟩, ⟨by repeat (first | (with_reducible first | exact HB.out | apply below_alloc | apply pw_below_drewN | apply below_drew1))⟩⟩
                 ·
                  rw [if_neg c75] at H
                  exact absurd H (by simp)
                ·
                 rw [if_neg c74] at H
                 exact absurd H (by simp)
               ·
                as_aux_lemma =>
                 rw [if_neg c73] at H
                 have c73b0 : decide (x206_4 < (y305.length : Int)) = false := decide_eq_false c73
                 clear c73
                 by_cases c104 : (x33_4 == t278) = true
                 ·
                  rw [if_pos c104] at H
                  have c104b0 : (x33_4 == t278) = true := c104
                  (try (have c104b1 : decide (x33_4 = t278) = true := by simpa using c104))
                  (try (have c104b2 : (x33_4 == t278) = true := by simpa using c104))
                  clear c104
                  first
                  | exact absurd (Option.some.inj (H.trans (congrArg some HRT.out))) Bool.false_ne_true
                  |
                   obtain rfl := Option.some.inj H
                   go_wp2
                   go_ret
                   exact ⟨by first | rfl | (simp [errW_none, errW_some] <;> rfl) | (simp [*, errW_none, errW_some] <;> rfl), by repeat (first | (with_reducible first | exact HB.out | apply below_alloc | apply pw_below_drewN | apply below_drew1))⟩
                 ·
                  rw [if_neg c104] at H
                  have c104b0 : (x33_4 == t278) = false := by simpa using c104
                  (try (have c104b1 : decide (x33_4 = t278) = false := by simpa using c104))
                  (try (have c104b2 : (x33_4 == t278) = false := by simpa using c104))
                  (try (have c104b3 : ¬ (x33_4 = t278) := by simpa using c104))
                  clear c104
                  have H' := Aside0.mk H
                  clear H
                  go_wp2
                  refine cutMeet hJ_ ?_ (by kernel_rfl)
                  exact ⟨_, H', ⟨by have := HJ8.out; have := HJ18.out; have := HJ59.out; have := HK4.out; first | omega | exact Nat.le_refl _⟩, ⟨by repeat (first | (with_reducible first | exact HB.out | apply below_alloc | apply pw_below_drewN | apply below_drew1))⟩⟩
         ·
          replace c57 := Bool.eq_false_iff.mpr c57
          subst c57
          have H1 : (laws_FnPatternsOpenOfAll.j7 kj18 a1 a2 a3 l4 a5 l6 a7) = some r := by rw [if_neg (show ¬ (false = true) by decide)] at H; exact H
          clear H
          have H := H1
          clear H1
          have H' := Aside0.mk H
          clear H
          go_wp2
          refine cutMeet hJ_ ?_ (by kernel_rfl)
          exact ⟨_, H', ⟨by have := HJ8.out; have := HJ18.out; first | omega | exact Nat.le_refl _⟩, ⟨by repeat (first | (with_reducible first | exact HB.out | apply below_alloc | apply pw_below_drewN | apply below_drew1))⟩⟩
       ·
        intro u_ wc hcut
        clear HC56
        obtain ⟨kq, HA, HJ55, HB⟩ := hcut
        dsimp only [cutFgt, mk0]
        cases kq with
        | zero => exact absurd HA.out (by simp [laws_FnPatternsOpenOfAll.j7])
        | succ kj55 =>
         have H := HA.out
         clear HA
         simp only [laws_FnPatternsOpenOfAll.j7] at H
         replace H := Option.bind_eq_some_iff.mp H
         obtain ⟨⟨t316, t317⟩, A1050, H⟩ := H
         replace H : ((spec_NarrowestOpen.f kj55 a1).bind fun bt320 => (if (t317 != bt320.2) = true then (laws_FnPatternsOpenOfAll.j8 kj55 a1 a2 a3 l4 a5 l6 a7 t316 t317 true) else ((laws_tSame.f kj55 t316 bt320.1).bind fun t324 => (laws_FnPatternsOpenOfAll.j8 kj55 a1 a2 a3 l4 a5 l6 a7 t316 t317 (!t324))))) = some r := H
         have A105 := Aside0.mk A1050
         clear A1050
         replace H := Option.bind_eq_some_iff.mp H
         obtain ⟨⟨t320, t321⟩, A1060, H⟩ := H
         replace H : (if (t317 != t321) = true then (laws_FnPatternsOpenOfAll.j8 kj55 a1 a2 a3 l4 a5 l6 a7 t316 t317 true) else ((laws_tSame.f kj55 t316 t320).bind fun t324 => (laws_FnPatternsOpenOfAll.j8 kj55 a1 a2 a3 l4 a5 l6 a7 t316 t317 (!t324)))) = some r := H
         have A106 := Aside0.mk A1060
         clear A1060
         have HC107 := Aside0.mk H
         clear H
         go_upto_region 35 with (first | ((with_reducible refine gate_callee (f := 17) rfl ?_); refine goesL_ (some 277) rfl rfl Try.func17 (by kernel_rfl) rfl #[.int .i64 a1] rfl (by (try simp only [List.map_toArray, List.map_cons, List.map_nil]); first | done | rfl | (simp only [List.length_drop, List.length_take]; rfl)) ?_; (with_reducible refine (impl_NarrowestOpen.calls kj55 a1 t316 t317 _ A105.out).mono ?_); rintro e w108 ⟨v318, rfl, ho0, hb⟩; refine ⟨_, rfl, ?_⟩; have n0_ := Aside0.mk (Kd.R_lower ho0 (below_size (by repeat (first | (with_reducible first | exact HB.out | apply below_alloc | apply pw_below_drewN | apply below_drew1))))); have n1_ := Aside0.mk (below_step (by repeat (first | (with_reducible first | exact HB.out | apply below_alloc | apply pw_below_drewN | apply below_drew1))) hb); clear HB; have HO319 := n0_; have HB := n1_; clear n0_ n1_; (try clear hb); (try clear ho0)) | ((with_reducible refine gate_callee (f := 18) rfl ?_); refine goesL_ (some 282) rfl rfl Try.func18 (by kernel_rfl) rfl #[.int .i64 a1] rfl (by (try simp only [List.map_toArray, List.map_cons, List.map_nil]); first | done | rfl | (simp only [List.length_drop, List.length_take]; rfl)) ?_; (with_reducible refine (spec_NarrowestOpen.calls kj55 a1 t320 t321 _ A106.out).mono ?_); rintro e w109 ⟨v322, rfl, ho0, hb⟩; refine ⟨_, rfl, ?_⟩; have n0_ := Aside0.mk (Kd.R_elder' (by (with_reducible repeat (first | apply Kd.R_alloc | apply Kd.R_drewN | apply Kd.R_drew)); exact HO319.out) (Kd.R_base ho0) hb); have n1_ := Aside0.mk (Kd.R_lower (Kd.R_new' ho0 (Kd.R_lt (by (with_reducible repeat (first | apply Kd.R_alloc | apply Kd.R_drewN | apply Kd.R_drew)); exact HO319.out))) (below_size (by repeat (first | (with_reducible first | exact HB.out | apply below_alloc | apply pw_below_drewN | apply below_drew1))))); have n2_ := Aside0.mk (below_step (by repeat (first | (with_reducible first | exact HB.out | apply below_alloc | apply pw_below_drewN | apply below_drew1))) hb); clear HO319; clear HB; have HO319 := n0_; have HO323 := n1_; have HB := n2_; clear n0_ n1_ n2_; (try clear hb); (try clear ho0)))
         (try simp only [Act.put, List.setIfInBounds_toArray, List.set_cons_zero, List.set_cons_succ])
         refine cutF mk0 [] (fun u_ wc => ∃ (kq : Nat) (x293_106 : Bool), (u_ 293) = .bool x293_106 ∧ Aside0 (laws_FnPatternsOpenOfAll.j8 kq a1 a2 a3 l4 a5 l6 a7 t316 t317 x293_106 = some r) ∧ Aside0 (kq ≤ kj55) ∧ Aside0 (Kd.R (Kd.int .i64) 3 wc w.heap.size (fun _ => True) v318 t316) ∧ Aside0 (Below w.heap.size w wc)) ?_ ?_
         ·
          as_aux_lemma =>
           intro J_ K_ hJ_ hK_
           have H := HC107.out
           clear HC107
           by_cases c110 : (t317 != t321) = true
           ·
            rw [if_pos c110] at H
            exact (laws_FnPatternsOpenOfAll.j8_no _ _ _ _ _ _ _ _ _ _ (H.trans (congrArg some HRT.out))).elim
           ·
            rw [if_neg c110] at H
            have c110b0 : (t317 != t321) = false := by simpa using c110
            have c110q := eq_true (bne_eq_false_iff_eq.1 c110b0)
            (try (have c110b1 : decide (t317 = t321) = true := by simpa using c110))
            (try (have c110b2 : (t317 == t321) = true := by simpa using c110))
            clear c110
            (first | rw [c110b0] | (simp only [i64_w, i32_w]; rw [c110b0]) | skip)
            replace H := Option.bind_eq_some_iff.mp H
            obtain ⟨t324, A1110, H⟩ := H
            replace H : (laws_FnPatternsOpenOfAll.j8 kj55 a1 a2 a3 l4 a5 l6 a7 t316 t317 (!t324)) = some r := H
            have A111 := Aside0.mk A1110
            clear A1110
            have H' := Aside0.mk H
            clear H
            obtain ⟨Ao112, co112, eo112⟩ := Kd.R_slice HO319.out
            subst eo112
            obtain ⟨Ao113, co113, eo113⟩ := Kd.R_slice HO323.out
            subst eo113
            go_wp2_with (first | (go_at_call 11; (with_reducible refine (laws_tSame.calls kj55 _ _ t316 _ _ t320 t324 _ ?side1 ?side2 ?side3 ?side4 A111.out).mono ?_); (case side1 => repeat (first | exact (Kd.R_reads' HO319.out).2.2 | (with_reducible refine Kd.C_alloc ?_ _) | (with_reducible refine Kd.C_drewN ?_ _) | (with_reducible refine Kd.C_drew ?_))); (case side2 => exact (Kd.R_reads' HO319.out).2.1); (case side3 => repeat (first | exact (Kd.R_reads' HO323.out).2.2 | (with_reducible refine Kd.C_alloc ?_ _) | (with_reducible refine Kd.C_drewN ?_ _) | (with_reducible refine Kd.C_drew ?_))); (case side4 => exact (Kd.R_reads' HO323.out).2.1); rintro e w' ⟨rfl, ⟨nd, rfl⟩⟩))
            refine cutMeet hJ_ ?_ (by kernel_rfl)
            exact ⟨_, (!t324), (by first | rfl | (simp; done) | (simp [*]; done)), H', ⟨by have := HJ8.out; have := HJ18.out; have := HJ55.out; first | omega | exact Nat.le_refl _⟩, ⟨by (with_reducible repeat (first | apply Kd.R_alloc | apply Kd.R_drewN | apply Kd.R_drew)); exact Kd.R_mono HO319.out (fun _ hk => trivial)⟩, ⟨by repeat (first | (with_reducible first | exact HB.out | apply below_alloc | apply pw_below_drewN | apply below_drew1))⟩⟩
         ·
          intro u_ wc hcut
          clear HC107
          obtain ⟨kq, x293_106, e_293, HA, HJ106, HO_40, HB⟩ := hcut
          dsimp only [cutFgt, mk0]
          rw [e_293]
          cases kq with
          | zero => exact absurd HA.out (by simp [laws_FnPatternsOpenOfAll.j8])
          | succ kj106 =>
           have H := HA.out
           clear HA
           simp only [laws_FnPatternsOpenOfAll.j8] at H
           by_cases c114 : x293_106 = true
           ·
            subst c114
            have H1 : (some false) = some r := by rw [if_pos rfl] at H; exact H
            clear H
            have H := H1
            clear H1
            exact absurd (Option.some.inj (H.trans (congrArg some HRT.out))) Bool.false_ne_true
           ·
            replace c114 := Bool.eq_false_iff.mpr c114
            subst c114
            have H1 : (if t317 = true then ((impl_IsOpen.f kj106 t316).bind fun bt325 => (if 0 ≤ (wrap64 (a1 - 1)) then (if (wrap64 (a1 - 1)) < (t316.length : Int) then (if bt325.2 = true then (if bt325.1 = true then (laws_FnPatternsOpenOfAll.j9 kj106 a1 a2 a3 l4 a5 l6 a7 t316 (rd t316 (wrap64 (a1 - 1))) ((t316.length : Int) != a1)) else (laws_FnPatternsOpenOfAll.j9 kj106 a1 a2 a3 l4 a5 l6 a7 t316 (rd t316 (wrap64 (a1 - 1))) true)) else (laws_FnPatternsOpenOfAll.j9 kj106 a1 a2 a3 l4 a5 l6 a7 t316 (rd t316 (wrap64 (a1 - 1))) true)) else (none)) else (none))) else (laws_FnPatternsOpenOfAll.j11 kj106 a2 a3 l4 a5 l6 a7)) = some r := by rw [if_neg (show ¬ (false = true) by decide)] at H; exact H
            clear H
            have H := H1
            clear H1
            have HC115 := Aside0.mk H
            clear H
            go_upto_if 294 with (fail)
            refine cutF mk0 [none, none, none, none, none, none, none, none, none, none, none, none, none, none, none, none, some 16, none, none, none, none, none, none, none, none, none, none, none, none, none, none, none, none, none, none, none, none, none, none, none, none, none, none, none, some 44, some 45, some 46, some 47, some 48, some 49, some 50, some 51] (fun u_ wc => ∃ (kq : Nat), Aside0 (laws_FnPatternsOpenOfAll.j11 kq a2 a3 l4 a5 l6 a7 = some r) ∧ Aside0 (kq ≤ kj106) ∧ Aside0 (Below w.heap.size w wc)) ?_ ?_
            ·
              intro J_ K_ hJ_ hK_
              have H := HC115.out
              clear HC115
              by_cases c116 : t317 = true
              ·
               subst c116
               have H1 : ((impl_IsOpen.f kj106 t316).bind fun bt325 => (if 0 ≤ (wrap64 (a1 - 1)) then (if (wrap64 (a1 - 1)) < (t316.length : Int) then (if bt325.2 = true then (if bt325.1 = true then (laws_FnPatternsOpenOfAll.j9 kj106 a1 a2 a3 l4 a5 l6 a7 t316 (rd t316 (wrap64 (a1 - 1))) ((t316.length : Int) != a1)) else (laws_FnPatternsOpenOfAll.j9 kj106 a1 a2 a3 l4 a5 l6 a7 t316 (rd t316 (wrap64 (a1 - 1))) true)) else (laws_FnPatternsOpenOfAll.j9 kj106 a1 a2 a3 l4 a5 l6 a7 t316 (rd t316 (wrap64 (a1 - 1))) true)) else (none)) else (none))) = some r := by rw [if_pos rfl] at H; exact H
               clear H
               have H := H1
               clear H1
               replace H := Option.bind_eq_some_iff.mp H
               obtain ⟨⟨t325, t326⟩, A1170, H⟩ := H
               replace H : (if 0 ≤ (wrap64 (a1 - 1)) then (if (wrap64 (a1 - 1)) < (t316.length : Int) then (if t326 = true then (if t325 = true then (laws_FnPatternsOpenOfAll.j9 kj106 a1 a2 a3 l4 a5 l6 a7 t316 (rd t316 (wrap64 (a1 - 1))) ((t316.length : Int) != a1)) else (laws_FnPatternsOpenOfAll.j9 kj106 a1 a2 a3 l4 a5 l6 a7 t316 (rd t316 (wrap64 (a1 - 1))) true)) else (laws_FnPatternsOpenOfAll.j9 kj106 a1 a2 a3 l4 a5 l6 a7 t316 (rd t316 (wrap64 (a1 - 1))) true)) else (none)) else (none)) = some r := H
               have A117 := Aside0.mk A1170
               clear A1170
               obtain ⟨ji118, hji118⟩ : ∃ j_ : Int, (wrap64 (a1 - 1)) = j_ := ⟨_, rfl⟩
               replace H : (if 0 ≤ (ji118) then (if (ji118) < (t316.length : Int) then (if t326 = true then (if t325 = true then (laws_FnPatternsOpenOfAll.j9 kj106 a1 a2 a3 l4 a5 l6 a7 t316 (rd t316 (ji118)) ((t316.length : Int) != a1)) else (laws_FnPatternsOpenOfAll.j9 kj106 a1 a2 a3 l4 a5 l6 a7 t316 (rd t316 (ji118)) true)) else (laws_FnPatternsOpenOfAll.j9 kj106 a1 a2 a3 l4 a5 l6 a7 t316 (rd t316 (ji118)) true)) else (none)) else (none)) = some r := by first | (rw [hji118] at H; exact H) | (simp only [hji118] at H ⊢; exact H)
               (try rw [hji118] at A117)
               have hji118w : (IntKind.i64.wrap (a1 - 1)) = ji118 := (i64_w _).trans hji118
               by_cases c119 : 0 ≤ (ji118)
               ·
                rw [if_pos c119] at H
                have c119b0 : decide (0 ≤ (ji118)) = true := decide_eq_true c119
                clear c119
                (first | rw [c119b0] | (simp only [i64_w, i32_w]; rw [c119b0]) | skip)
                by_cases c120 : (ji118) < (t316.length : Int)
                ·
                 rw [if_pos c120] at H
                 have c120b0 : decide ((ji118) < (t316.length : Int)) = true := decide_eq_true c120
                 clear c120
                 have HC121 := Aside0.mk H
                 clear H
                 obtain ⟨Ao122, co122, eo122⟩ := Kd.R_slice HO_40.out
                 subst eo122
                 go_upto_region 40 with (first | ((with_reducible refine gate_callee (f := 5) rfl ?_); refine goesL_ (some 297) rfl rfl Try.func5 (by kernel_rfl) rfl #[.slice Ao122 t316.length co122] rfl (by (try simp only [List.map_toArray, List.map_cons, List.map_nil]); first | done | rfl | (simp only [List.length_drop, List.length_take]; rfl)) ?_; (with_reducible refine (impl_IsOpen.calls kj106 _ _ t316 t325 t326 _ ?side1 ?side2 A117.out).mono ?_); (case side1 => repeat (first | exact (Kd.R_reads' HO_40.out).2.2 | (with_reducible refine Kd.C_alloc ?_ _) | (with_reducible refine Kd.C_drewN ?_ _) | (with_reducible refine Kd.C_drew ?_))); (case side2 => exact (Kd.R_reads' HO_40.out).2.1); rintro e w123 ⟨rfl, hb⟩; refine ⟨_, rfl, ?_⟩; have n0_ := Aside0.mk (Kd.R_below (by (with_reducible repeat (first | apply Kd.R_alloc | apply Kd.R_drewN | apply Kd.R_drew)); exact HO_40.out) hb); have n1_ := Aside0.mk (below_step (by repeat (first | (with_reducible first | exact HB.out | apply below_alloc | apply pw_below_drewN | apply below_drew1))) hb); clear HO_40; clear HB; have HO_40 := n0_; have HB := n1_; clear n0_ n1_; (try clear hb); have p327 : 0 ≤ ((ji118) : Int) := of_decide_eq_true (by first | (with_reducible assumption) | assumption); have q327 : (ji118) < (t316.length : Int) := of_decide_eq_true (by first | (with_reducible assumption) | assumption); obtain ⟨ad327, e327, hx327_0⟩ := Kd.at_int (Kd.R_reads' HO_40.out).2.2 (ji118) p327 q327; cases e327; replace p327 := eq_true p327; replace q327 := eq_true q327))
                 (try simp only [Act.put, List.setIfInBounds_toArray, List.set_cons_zero, List.set_cons_succ])
                 refine cutF mk0 [] (fun u_ wc => ∃ (kq : Nat) (x316_120 : Bool), (u_ 316) = .bool x316_120 ∧ Aside0 (laws_FnPatternsOpenOfAll.j9 kq a1 a2 a3 l4 a5 l6 a7 t316 (rd t316 (ji118)) x316_120 = some r) ∧ Aside0 (kq ≤ kj106) ∧ Aside0 (Kd.R (Kd.int .i64) 3 wc w.heap.size (fun _ => True) (.slice (some ad327) t316.length co122) t316) ∧ Aside0 (Below w.heap.size w wc)) ?_ ?_
                 ·
                  as_aux_lemma =>
                   intro J_ K_ hJ_ hK_
                   have H := HC121.out
                   clear HC121
                   by_cases c124 : t326 = true
                   ·
                    subst c124
                    have H1 : (if t325 = true then (laws_FnPatternsOpenOfAll.j9 kj106 a1 a2 a3 l4 a5 l6 a7 t316 (rd t316 (ji118)) ((t316.length : Int) != a1)) else (laws_FnPatternsOpenOfAll.j9 kj106 a1 a2 a3 l4 a5 l6 a7 t316 (rd t316 (ji118)) true)) = some r := by rw [if_pos rfl] at H; exact H
                    clear H
                    have H := H1
                    clear H1
                    by_cases c125 : t325 = true
                    ·
                     subst c125
                     have H1 : (laws_FnPatternsOpenOfAll.j9 kj106 a1 a2 a3 l4 a5 l6 a7 t316 (rd t316 (ji118)) ((t316.length : Int) != a1)) = some r := by rw [if_pos rfl] at H; exact H
                     clear H
                     have H := H1
                     clear H1
                     have H' := Aside0.mk H
                     clear H
                     go_wp2
                     refine cutMeet hJ_ ?_ (by kernel_rfl)
                     exact ⟨_, (((t316.length : Int) != a1)), (by first | rfl | (simp; done) | (simp [*]; done)), H', ⟨by have := HJ8.out; have := HJ18.out; have := HJ55.out; have := HJ106.out; first | omega | exact Nat.le_refl _⟩, ⟨by (with_reducible repeat (first | apply Kd.R_alloc | apply Kd.R_drewN | apply Kd.R_drew)); exact HO_40.out⟩, ⟨by repeat (first | (with_reducible first | exact HB.out | apply below_alloc | apply pw_below_drewN | apply below_drew1))⟩⟩
                    ·
                     replace c125 := Bool.eq_false_iff.mpr c125
                     subst c125
                     have H1 : (laws_FnPatternsOpenOfAll.j9 kj106 a1 a2 a3 l4 a5 l6 a7 t316 (rd t316 (ji118)) true) = some r := by rw [if_neg (show ¬ (false = true) by decide)] at H; exact H
                     clear H
                     have H := H1
                     clear H1
                     exact (laws_FnPatternsOpenOfAll.j9_no _ _ _ _ _ _ _ _ _ _ (H.trans (congrArg some HRT.out))).elim
                   ·
                    replace c124 := Bool.eq_false_iff.mpr c124
                    subst c124
                    have H1 : (laws_FnPatternsOpenOfAll.j9 kj106 a1 a2 a3 l4 a5 l6 a7 t316 (rd t316 (ji118)) true) = some r := by rw [if_neg (show ¬ (false = true) by decide)] at H; exact H
                    clear H
                    have H := H1
                    clear H1
                    exact (laws_FnPatternsOpenOfAll.j9_no _ _ _ _ _ _ _ _ _ _ (H.trans (congrArg some HRT.out))).elim
                 ·
                  as_aux_lemma =>
                   intro u_ wc hcut
                   clear HC121
                   obtain ⟨kq, x316_120, e_316, HA, HJ120, HO_40, HB⟩ := hcut
                   dsimp only [cutFgt, mk0]
                   rw [e_316]
                   cases kq with
                   | zero => exact absurd HA.out (by simp [laws_FnPatternsOpenOfAll.j9])
                   | succ kj120 =>
                    have H := HA.out
                    clear HA
                    simp only [laws_FnPatternsOpenOfAll.j9] at H
                    by_cases c126 : x316_120 = true
                    ·
                     subst c126
                     have H1 : (some false) = some r := by rw [if_pos rfl] at H; exact H
                     clear H
                     have H := H1
                     clear H1
                     exact absurd (Option.some.inj (H.trans (congrArg some HRT.out))) Bool.false_ne_true
                    ·
                     replace c126 := Bool.eq_false_iff.mpr c126
                     subst c126
                     have H1 : (laws_FnPatternsOpenOfAll.l2 kj120 a1 a2 a3 l4 a5 l6 a7 t316 (rd t316 (ji118)) 0) = some r := by rw [if_neg (show ¬ (false = true) by decide)] at H; exact H
                     clear H
                     have H := H1
                     clear H1
                     have H' := Aside0.mk H
                     clear H
                     go_wp2
                     go_loopg [47] kj120 (fun kq v47 w' => ∃ (x47_6 : Int), v47 = .int .i64 x47_6 ∧ Aside0 (laws_FnPatternsOpenOfAll.l2 kq a1 a2 a3 l4 a5 l6 a7 t316 (rd t316 (ji118)) x47_6 = some r) ∧ Aside0 (kq ≤ kj120) ∧ Aside0 (Kd.R (Kd.int .i64) 3 w' w.heap.size (fun _ => True) (.slice (some ad327) t316.length co122) t316) ∧ Aside0 (Below w.heap.size w w'))
                     case atStart => exact ⟨(0), (by first | rfl | (simp; done) | (simp [*]; done)), H', ⟨Nat.le_refl _⟩, ⟨by (with_reducible repeat (first | apply Kd.R_alloc | apply Kd.R_drewN | apply Kd.R_drew)); exact HO_40.out⟩, ⟨by repeat (first | (with_reducible first | exact HB.out | apply below_alloc | apply pw_below_drewN | apply below_drew1))⟩⟩
                     case round =>
                      clear H'
                      obtain ⟨x47_6, rfl, HA, HK6, HO_40, HB⟩ := hrel
                      cases gk with
                      | zero => exact absurd HA.out (by simp [laws_FnPatternsOpenOfAll.l2])
                      | succ k6 =>
                       have H := HA.out
                       clear HA
                       simp only [laws_FnPatternsOpenOfAll.l2] at H
                       by_cases c127 : x47_6 < (rd t316 (ji118))
                       ·
                        rw [if_pos c127] at H
                        have c127b0 : decide (x47_6 < (rd t316 (ji118))) = true := decide_eq_true c127
                        clear c127
                        replace H := Option.bind_eq_some_iff.mp H
                        obtain ⟨⟨t328, t329⟩, A1280, H⟩ := H
                        replace H : (if t329 = true then (if t328 = 0 then (laws_FnPatternsOpenOfAll.l2 k6 a1 a2 a3 l4 a5 l6 a7 t316 (rd t316 (ji118)) (wrap64 (x47_6 + 1))) else (some false)) else (some false)) = some r := H
                        have A128 := Aside0.mk A1280
                        clear A1280
                        by_cases c129 : t329 = true
                        ·
                         subst c129
                         have H1 : (if t328 = 0 then (laws_FnPatternsOpenOfAll.l2 k6 a1 a2 a3 l4 a5 l6 a7 t316 (rd t316 (ji118)) (wrap64 (x47_6 + 1))) else (some false)) = some r := by rw [if_pos rfl] at H; exact H
                         clear H
                         have H := H1
                         clear H1
                         by_cases c130 : t328 = 0
                         ·
                          rw [if_pos c130] at H
                          have c130b0 : (t328 == 0) = true := beq_iff_eq.mpr c130
                          have c130b1 : (t328 != 0) = false := bne_eq_false_iff_eq.mpr c130
                          clear c130
                          have H' := Aside0.mk H
                          clear H
                          go_wp2_with (first | ((with_reducible refine gate_callee (f := 19) rfl ?_); refine goesL_ (some 325) rfl rfl Try.func19 (by kernel_rfl) rfl #[.int .i64 a1, .int .i64 x47_6] rfl (by (try simp only [List.map_toArray, List.map_cons, List.map_nil]); first | done | rfl | (simp only [List.length_drop, List.length_take]; rfl)) ?_; (with_reducible refine (impl_CountOpen.calls k6 a1 x47_6 t328 true _ A128.out).mono ?_); rintro e w131 ⟨rfl, hb⟩; refine ⟨_, rfl, ?_⟩; have n0_ := Aside0.mk (Kd.R_below (by (with_reducible repeat (first | apply Kd.R_alloc | apply Kd.R_drewN | apply Kd.R_drew)); exact HO_40.out) hb); have n1_ := Aside0.mk (below_step (by repeat (first | (with_reducible first | exact HB.out | apply below_alloc | apply pw_below_drewN | apply below_drew1))) hb); clear HO_40; clear HB; have HO_40 := n0_; have HB := n1_; clear n0_ n1_; (try clear hb)))
                          go_roundg k6
                          case measure => have := HJ8.out; have := HJ18.out; have := HJ55.out; have := HJ106.out; have := HJ120.out; have := HK6.out; omega
                          case rel => exact ⟨(wrap64 (x47_6 + 1)), (by first | rfl | (simp; done) | (simp [*]; done)), H', ⟨by have := HJ8.out; have := HJ18.out; have := HJ55.out; have := HJ106.out; have := HJ120.out; have := HK6.out; omega⟩, ⟨by (with_reducible repeat (first | apply Kd.R_alloc | apply Kd.R_drewN | apply Kd.R_drew)); exact HO_40.out⟩, ⟨by repeat (first | (with_reducible first | exact HB.out | apply below_alloc | apply pw_below_drewN | apply below_drew1))⟩⟩
                         ·
                          rw [if_neg c130] at H
                          have c130b0 : (t328 == 0) = false := beq_eq_false_iff_ne.mpr c130
                          have c130b1 : (t328 != 0) = true := bne_iff_ne.mpr c130
                          exact absurd (Option.some.inj (H.trans (congrArg some HRT.out))) Bool.false_ne_true
                        ·
                         replace c129 := Bool.eq_false_iff.mpr c129
                         subst c129
                         have H1 : (some false) = some r := by rw [if_neg (show ¬ (false = true) by decide)] at H; exact H
                         clear H
                         have H := H1
                         clear H1
                         exact absurd (Option.some.inj (H.trans (congrArg some HRT.out))) Bool.false_ne_true
                       ·
                        rw [if_neg c127] at H
                        have c127b0 : decide (x47_6 < (rd t316 (ji118))) = false := decide_eq_false c127
                        clear c127
                        replace H := Option.bind_eq_some_iff.mp H
                        obtain ⟨⟨t330, t331⟩, A1340, H⟩ := H
                        replace H : (if t331 = true then (if (t330.length : Int) < 1 then (some false) else (if 0 < (t330.length : Int) then ((laws_tSame.f k6 (rd_L1 t330 0) t316).bind fun t335 => (if t335 = true then (laws_FnPatternsOpenOfAll.j11 k6 a2 a3 l4 a5 l6 a7) else (some false))) else (none))) else (some false)) = some r := H
                        have A134 := Aside0.mk A1340
                        clear A1340
                        by_cases c135 : t331 = true
                        ·
                         subst c135
                         have H1 : (if (t330.length : Int) < 1 then (some false) else (if 0 < (t330.length : Int) then ((laws_tSame.f k6 (rd_L1 t330 0) t316).bind fun t335 => (if t335 = true then (laws_FnPatternsOpenOfAll.j11 k6 a2 a3 l4 a5 l6 a7) else (some false))) else (none))) = some r := by rw [if_pos rfl] at H; exact H
                         clear H
                         have H := H1
                         clear H1
                         by_cases c136 : (t330.length : Int) < 1
                         ·
                          rw [if_pos c136] at H
                          have c136b0 : decide ((t330.length : Int) < 1) = true := decide_eq_true c136
                          have c136b1 : decide (t330.length < 1) = true := decide_eq_true (by omega)
                          clear c136
                          exact absurd (Option.some.inj (H.trans (congrArg some HRT.out))) Bool.false_ne_true
                         ·
                          rw [if_neg c136] at H
                          have c136b0 : decide ((t330.length : Int) < 1) = false := decide_eq_false c136
                          have c136b1 : decide (t330.length < 1) = false := decide_eq_false (by omega)
                          clear c136
                          by_cases c139 : 0 < (t330.length : Int)
                          ·
                           rw [if_pos c139] at H
                           have c139b0 : decide (0 < (t330.length : Int)) = true := decide_eq_true c139
                           have c139b1 : decide (0 < t330.length) = true := decide_eq_true (by omega)
                           clear c139
                           replace H := Option.bind_eq_some_iff.mp H
                           obtain ⟨t335, A1400, H⟩ := H
                           replace H : (if t335 = true then (laws_FnPatternsOpenOfAll.j11 k6 a2 a3 l4 a5 l6 a7) else (some false)) = some r := H
                           have A140 := Aside0.mk A1400
                           clear A1400
                           by_cases c141 : t335 = true
                           ·
                            subst c141
                            have H1 : (laws_FnPatternsOpenOfAll.j11 k6 a2 a3 l4 a5 l6 a7) = some r := by rw [if_pos rfl] at H; exact H
                            clear H
                            have H := H1
                            clear H1
                            have H' := Aside0.mk H
                            clear H
                            go_wp2_with (first | ((with_reducible refine gate_callee (f := 20) rfl ?_); refine goesL_ (some 337) rfl rfl Try.func20 (by kernel_rfl) rfl #[.int .i64 a1, .int .i64 (rd t316 (ji118))] rfl (by (try simp only [List.map_toArray, List.map_cons, List.map_nil]); first | done | (simp only [hji118]; rfl) | rfl | (simp only [List.length_drop, List.length_take]; rfl)) ?_; (with_reducible refine (impl_AllOpen.calls k6 a1 (rd t316 (ji118)) t330 true _ A134.out).mono ?_); rintro e w142 ⟨v332, rfl, ho0, hb⟩; refine ⟨_, rfl, ?_⟩; have n0_ := Aside0.mk (Kd.R_below (by (with_reducible repeat (first | apply Kd.R_alloc | apply Kd.R_drewN | apply Kd.R_drew)); exact HO_40.out) hb); have n1_ := Aside0.mk (Kd.S_lower (Kd.S_new' ho0 (Kd.R_lt (by (with_reducible repeat (first | apply Kd.R_alloc | apply Kd.R_drewN | apply Kd.R_drew)); exact HO_40.out))) (below_size (by repeat (first | (with_reducible first | exact HB.out | apply below_alloc | apply pw_below_drewN | apply below_drew1))))); have n2_ := Aside0.mk (below_step (by repeat (first | (with_reducible first | exact HB.out | apply below_alloc | apply pw_below_drewN | apply below_drew1))) hb); clear HO_40; clear HB; have HO_40 := n0_; have HO333 := n1_; have HB := n2_; clear n0_ n1_ n2_; (try clear hb); (try clear ho0); obtain ⟨Ao143, co143, eo143⟩ := Kd.S_slice HO333.out; subst eo143; have p334 : 0 ≤ (0 : Int) := (by omega); have q334 : 0 < (t330.length : Int) := of_decide_eq_true (by first | (with_reducible assumption) | assumption); obtain ⟨ad334, A334_0, c334_0, e334, hx334_0, hl334_0, hi334_0⟩ := at_L1 (Kd.S_reads' HO333.out).2.2 0 p334 q334; cases e334; obtain ⟨ce334, hce334, hMe334, hcc334⟩ := Kd.S_get HO333.out [] 0 p334 (by first | exact q334 | exact of_decide_eq_true (by first | (with_reducible assumption) | assumption) | (have e_ := (Kd.S_reads' HO333.out).1; omega)); obtain ⟨ve334_0, rfl, ge334_0⟩ := hMe334; have hv334_0 := hcc334 0 _ rfl; rw [Nat.add_zero, show ((Kd.slice 3 (Kd.int .i64))).sz = 1 from rfl, Nat.mul_one] at hv334_0; replace hv334_0 := Option.some.inj (hv334_0.symm.trans hx334_0); rw [hv334_0] at ge334_0; have HL334_0 := Aside0.mk (show Kd.R (Kd.int .i64) 3 _ _ _ _ (rd_L1 t330 0) from ge334_0); clear hv334_0 ge334_0; clear hcc334 hce334; have qi334 : (0 < t330.length) = True := eq_true (by omega); (try rw [show ((0 : Int)).toNat = 0 from rfl] at hx334_0); (try rw [Addr.add_zero'] at hx334_0); have HR334_0 := Aside0.mk hi334_0; have HC334_0 := Aside0.mk hl334_0; clear hi334_0 hl334_0; replace p334 := eq_true p334; replace q334 := eq_true q334) | (go_at_call 11; (with_reducible refine (laws_tSame.calls k6 _ _ (rd_L1 t330 0) _ _ t316 true _ ?side1 ?side2 ?side3 ?side4 A140.out).mono ?_); (case side1 => repeat (first | exact (by repeat (first | (with_reducible exact HR334_0.out) | (with_reducible refine Kd.C_alloc ?_ _) | (with_reducible refine Kd.C_drewN ?_ _) | (with_reducible refine Kd.C_drew ?_) | exact HR334_0.out)) | (with_reducible refine Kd.C_alloc ?_ _) | (with_reducible refine Kd.C_drewN ?_ _) | (with_reducible refine Kd.C_drew ?_))); (case side2 => exact HC334_0.out); (case side3 => repeat (first | exact (Kd.R_reads' HO_40.out).2.2 | (with_reducible refine Kd.C_alloc ?_ _) | (with_reducible refine Kd.C_drewN ?_ _) | (with_reducible refine Kd.C_drew ?_))); (case side4 => exact (Kd.R_reads' HO_40.out).2.1); rintro e w' ⟨rfl, ⟨nd, rfl⟩⟩))
                            refine cutMeet hJ_ ?_ (by kernel_rfl)
                            exact ⟨_, H', ⟨by have := HJ8.out; have := HJ18.out; have := HJ55.out; have := HJ106.out; have := HJ120.out; have := HK6.out; first | omega | exact Nat.le_refl _⟩, ⟨by repeat (first | (with_reducible first | exact HB.out | apply below_alloc | apply pw_below_drewN | apply below_drew1))⟩⟩
                           ·
                            replace c141 := Bool.eq_false_iff.mpr c141
                            subst c141
                            have H1 : (some false) = some r := by rw [if_neg (show ¬ (false = true) by decide)] at H; exact H
                            clear H
                            have H := H1
                            clear H1
                            exact absurd (Option.some.inj (H.trans (congrArg some HRT.out))) Bool.false_ne_true
                          ·
                           rw [if_neg c139] at H
                           exact absurd H (by simp)
                        ·
                         replace c135 := Bool.eq_false_iff.mpr c135
                         subst c135
                         have H1 : (some false) = some r := by rw [if_neg (show ¬ (false = true) by decide)] at H; exact H
                         clear H
                         have H := H1
                         clear H1
                         exact absurd (Option.some.inj (H.trans (congrArg some HRT.out))) Bool.false_ne_true
                ·
                 rw [if_neg c120] at H
                 exact absurd H (by simp)
               ·
                rw [if_neg c119] at H
                exact absurd H (by simp)
              ·
               replace c116 := Bool.eq_false_iff.mpr c116
               subst c116
               have H1 : (laws_FnPatternsOpenOfAll.j11 kj106 a2 a3 l4 a5 l6 a7) = some r := by rw [if_neg (show ¬ (false = true) by decide)] at H; exact H
               clear H
               have H := H1
               clear H1
               have H' := Aside0.mk H
               clear H
               go_wp2
               refine cutMeet hJ_ ?_ (by kernel_rfl)
               exact ⟨_, H', ⟨by have := HJ8.out; have := HJ18.out; have := HJ55.out; have := HJ106.out; first | omega | exact Nat.le_refl _⟩, ⟨by repeat (first | (with_reducible first | exact HB.out | apply below_alloc | apply pw_below_drewN | apply below_drew1))⟩⟩
            ·
             intro u_ wc hcut
             clear HC115
             obtain ⟨kq, HA, HJ114, HB⟩ := hcut
             dsimp only [cutFgt, mk0]
             cases kq with
             | zero => exact absurd HA.out (by simp [laws_FnPatternsOpenOfAll.j11])
             | succ kj114 =>
              have H := HA.out
              clear HA
              simp only [laws_FnPatternsOpenOfAll.j11] at H
              replace H := Option.bind_eq_some_iff.mp H
              obtain ⟨⟨t336, t337⟩, A1470, H⟩ := H
              replace H : ((spec_AllOpen.f kj114 a2 a3).bind fun bt340 => ((impl_CountOpen.f kj114 a2 a3).bind fun bt344 => ((spec_CountOpen.f kj114 a2 a3).bind fun bt346 => (if (t337 != bt340.2) = true then (laws_FnPatternsOpenOfAll.j12 kj114 a2 a3 l4 a5 l6 a7 t336 t337 bt344.1 true) else ((laws_tRows.f kj114 t336 bt340.1).bind fun t348 => (if t348 = true then (if (bt344.2 != bt346.2) = true then (laws_FnPatternsOpenOfAll.j12 kj114 a2 a3 l4 a5 l6 a7 t336 t337 bt344.1 true) else (if bt344.1 = bt346.1 then (if bt344.2 = true then (laws_FnPatternsOpenOfAll.j12 kj114 a2 a3 l4 a5 l6 a7 t336 t337 bt344.1 (t337 != (decide (bt344.1 ≤ 300)))) else (laws_FnPatternsOpenOfAll.j12 kj114 a2 a3 l4 a5 l6 a7 t336 t337 bt344.1 (t337 != false))) else (laws_FnPatternsOpenOfAll.j12 kj114 a2 a3 l4 a5 l6 a7 t336 t337 bt344.1 true))) else (laws_FnPatternsOpenOfAll.j12 kj114 a2 a3 l4 a5 l6 a7 t336 t337 bt344.1 true))))))) = some r := H
              have A147 := Aside0.mk A1470
              clear A1470
              replace H := Option.bind_eq_some_iff.mp H
              obtain ⟨⟨t340, t341⟩, A1480, H⟩ := H
              replace H : ((impl_CountOpen.f kj114 a2 a3).bind fun bt344 => ((spec_CountOpen.f kj114 a2 a3).bind fun bt346 => (if (t337 != t341) = true then (laws_FnPatternsOpenOfAll.j12 kj114 a2 a3 l4 a5 l6 a7 t336 t337 bt344.1 true) else ((laws_tRows.f kj114 t336 t340).bind fun t348 => (if t348 = true then (if (bt344.2 != bt346.2) = true then (laws_FnPatternsOpenOfAll.j12 kj114 a2 a3 l4 a5 l6 a7 t336 t337 bt344.1 true) else (if bt344.1 = bt346.1 then (if bt344.2 = true then (laws_FnPatternsOpenOfAll.j12 kj114 a2 a3 l4 a5 l6 a7 t336 t337 bt344.1 (t337 != (decide (bt344.1 ≤ 300)))) else (laws_FnPatternsOpenOfAll.j12 kj114 a2 a3 l4 a5 l6 a7 t336 t337 bt344.1 (t337 != false))) else (laws_FnPatternsOpenOfAll.j12 kj114 a2 a3 l4 a5 l6 a7 t336 t337 bt344.1 true))) else (laws_FnPatternsOpenOfAll.j12 kj114 a2 a3 l4 a5 l6 a7 t336 t337 bt344.1 true)))))) = some r := H
              have A148 := Aside0.mk A1480
              clear A1480
              replace H := Option.bind_eq_some_iff.mp H
              obtain ⟨⟨t344, t345⟩, A1490, H⟩ := H
              replace H : ((spec_CountOpen.f kj114 a2 a3).bind fun bt346 => (if (t337 != t341) = true then (laws_FnPatternsOpenOfAll.j12 kj114 a2 a3 l4 a5 l6 a7 t336 t337 t344 true) else ((laws_tRows.f kj114 t336 t340).bind fun t348 => (if t348 = true then (if (t345 != bt346.2) = true then (laws_FnPatternsOpenOfAll.j12 kj114 a2 a3 l4 a5 l6 a7 t336 t337 t344 true) else (if t344 = bt346.1 then (if t345 = true then (laws_FnPatternsOpenOfAll.j12 kj114 a2 a3 l4 a5 l6 a7 t336 t337 t344 (t337 != (decide (t344 ≤ 300)))) else (laws_FnPatternsOpenOfAll.j12 kj114 a2 a3 l4 a5 l6 a7 t336 t337 t344 (t337 != false))) else (laws_FnPatternsOpenOfAll.j12 kj114 a2 a3 l4 a5 l6 a7 t336 t337 t344 true))) else (laws_FnPatternsOpenOfAll.j12 kj114 a2 a3 l4 a5 l6 a7 t336 t337 t344 true))))) = some r := H
              have A149 := Aside0.mk A1490
              clear A1490
              replace H := Option.bind_eq_some_iff.mp H
              obtain ⟨⟨t346, t347⟩, A1500, H⟩ := H
              replace H : (if (t337 != t341) = true then (laws_FnPatternsOpenOfAll.j12 kj114 a2 a3 l4 a5 l6 a7 t336 t337 t344 true) else ((laws_tRows.f kj114 t336 t340).bind fun t348 => (if t348 = true then (if (t345 != t347) = true then (laws_FnPatternsOpenOfAll.j12 kj114 a2 a3 l4 a5 l6 a7 t336 t337 t344 true) else (if t344 = t346 then (if t345 = true then (laws_FnPatternsOpenOfAll.j12 kj114 a2 a3 l4 a5 l6 a7 t336 t337 t344 (t337 != (decide (t344 ≤ 300)))) else (laws_FnPatternsOpenOfAll.j12 kj114 a2 a3 l4 a5 l6 a7 t336 t337 t344 (t337 != false))) else (laws_FnPatternsOpenOfAll.j12 kj114 a2 a3 l4 a5 l6 a7 t336 t337 t344 true))) else (laws_FnPatternsOpenOfAll.j12 kj114 a2 a3 l4 a5 l6 a7 t336 t337 t344 true)))) = some r := H
              have A150 := Aside0.mk A1500
              clear A1500
              have HC151 := Aside0.mk H
              clear H
              go_upto_region 55 with (first | ((with_reducible refine gate_callee (f := 20) rfl ?_); refine goesL_ (some 358) rfl rfl Try.func20 (by kernel_rfl) rfl #[.int .i64 a2, .int .i64 a3] rfl (by (try simp only [List.map_toArray, List.map_cons, List.map_nil]); first | done | rfl | (simp only [List.length_drop, List.length_take]; rfl)) ?_; (with_reducible refine (impl_AllOpen.calls kj114 a2 a3 t336 t337 _ A147.out).mono ?_); rintro e w152 ⟨v338, rfl, ho0, hb⟩; refine ⟨_, rfl, ?_⟩; have n0_ := Aside0.mk (Kd.S_lower ho0 (below_size (by repeat (first | (with_reducible first | exact HB.out | apply below_alloc | apply pw_below_drewN | apply below_drew1))))); have n1_ := Aside0.mk (below_step (by repeat (first | (with_reducible first | exact HB.out | apply below_alloc | apply pw_below_drewN | apply below_drew1))) hb); clear HB; have HO339 := n0_; have HB := n1_; clear n0_ n1_; (try clear hb); (try clear ho0)) | ((with_reducible refine gate_callee (f := 21) rfl ?_); refine goesL_ (some 364) rfl rfl Try.func21 (by kernel_rfl) rfl #[.int .i64 a2, .int .i64 a3] rfl (by (try simp only [List.map_toArray, List.map_cons, List.map_nil]); first | done | rfl | (simp only [List.length_drop, List.length_take]; rfl)) ?_; (with_reducible refine (spec_AllOpen.calls kj114 a2 a3 t340 t341 _ A148.out).mono ?_); rintro e w153 ⟨v342, rfl, ho0, hb⟩; refine ⟨_, rfl, ?_⟩; have n0_ := Aside0.mk (Kd.S_elder' (by (with_reducible repeat (first | apply Kd.S_alloc | apply Kd.S_drewN | apply Kd.S_drew)); exact HO339.out) (Kd.S_base ho0) hb); have n1_ := Aside0.mk (Kd.S_lower (Kd.S_new' ho0 (Kd.S_lt (by (with_reducible repeat (first | apply Kd.S_alloc | apply Kd.S_drewN | apply Kd.S_drew)); exact HO339.out))) (below_size (by repeat (first | (with_reducible first | exact HB.out | apply below_alloc | apply pw_below_drewN | apply below_drew1))))); have n2_ := Aside0.mk (below_step (by repeat (first | (with_reducible first | exact HB.out | apply below_alloc | apply pw_below_drewN | apply below_drew1))) hb); clear HO339; clear HB; have HO339 := n0_; have HO343 := n1_; have HB := n2_; clear n0_ n1_ n2_; (try clear hb); (try clear ho0)) | ((with_reducible refine gate_callee (f := 19) rfl ?_); refine goesL_ (some 370) rfl rfl Try.func19 (by kernel_rfl) rfl #[.int .i64 a2, .int .i64 a3] rfl (by (try simp only [List.map_toArray, List.map_cons, List.map_nil]); first | done | rfl | (simp only [List.length_drop, List.length_take]; rfl)) ?_; (with_reducible refine (impl_CountOpen.calls kj114 a2 a3 t344 t345 _ A149.out).mono ?_); rintro e w154 ⟨rfl, hb⟩; refine ⟨_, rfl, ?_⟩; have n0_ := Aside0.mk (Kd.S_below (by (with_reducible repeat (first | apply Kd.S_alloc | apply Kd.S_drewN | apply Kd.S_drew)); exact HO339.out) hb); have n1_ := Aside0.mk (Kd.S_below (by (with_reducible repeat (first | apply Kd.S_alloc | apply Kd.S_drewN | apply Kd.S_drew)); exact HO343.out) hb); have n2_ := Aside0.mk (below_step (by repeat (first | (with_reducible first | exact HB.out | apply below_alloc | apply pw_below_drewN | apply below_drew1))) hb); clear HO339; clear HO343; clear HB; have HO339 := n0_; have HO343 := n1_; have HB := n2_; clear n0_ n1_ n2_; (try clear hb)) | ((with_reducible refine gate_callee (f := 22) rfl ?_); refine goesL_ (some 376) rfl rfl Try.func22 (by kernel_rfl) rfl #[.int .i64 a2, .int .i64 a3] rfl (by (try simp only [List.map_toArray, List.map_cons, List.map_nil]); first | done | rfl | (simp only [List.length_drop, List.length_take]; rfl)) ?_; (with_reducible refine (spec_CountOpen.calls kj114 a2 a3 t346 t347 _ A150.out).mono ?_); rintro e w155 ⟨rfl, hb⟩; refine ⟨_, rfl, ?_⟩; have n0_ := Aside0.mk (Kd.S_below (by (with_reducible repeat (first | apply Kd.S_alloc | apply Kd.S_drewN | apply Kd.S_drew)); exact HO339.out) hb); have n1_ := Aside0.mk (Kd.S_below (by (with_reducible repeat (first | apply Kd.S_alloc | apply Kd.S_drewN | apply Kd.S_drew)); exact HO343.out) hb); have n2_ := Aside0.mk (below_step (by repeat (first | (with_reducible first | exact HB.out | apply below_alloc | apply pw_below_drewN | apply below_drew1))) hb); clear HO339; clear HO343; clear HB; have HO339 := n0_; have HO343 := n1_; have HB := n2_; clear n0_ n1_ n2_; (try clear hb)))
              (try simp only [Act.put, List.setIfInBounds_toArray, List.set_cons_zero, List.set_cons_succ])
              refine cutF mk0 [] (fun u_ wc => ∃ (kq : Nat) (x406_150 : Bool), (u_ 406) = .bool x406_150 ∧ Aside0 (laws_FnPatternsOpenOfAll.j12 kq a2 a3 l4 a5 l6 a7 t336 t337 t344 x406_150 = some r) ∧ Aside0 (kq ≤ kj114) ∧ Aside0 (Kd.S (Kd.slice 3 (Kd.int .i64)) 22 wc w.heap.size (fun _ => True) v338 t336) ∧ Aside0 (Below w.heap.size w wc)) ?_ ?_
              ·
               as_aux_lemma =>
                intro J_ K_ hJ_ hK_
                have H := HC151.out
                clear HC151
                by_cases c156 : (t337 != t341) = true
                ·
                 rw [if_pos c156] at H
                 exact (laws_FnPatternsOpenOfAll.j12_no _ _ _ _ _ _ _ _ _ _ (H.trans (congrArg some HRT.out))).elim
                ·
                 rw [if_neg c156] at H
                 have c156b0 : (t337 != t341) = false := by simpa using c156
                 have c156q := eq_true (bne_eq_false_iff_eq.1 c156b0)
                 (try (have c156b1 : decide (t337 = t341) = true := by simpa using c156))
                 (try (have c156b2 : (t337 == t341) = true := by simpa using c156))
                 clear c156
                 (first | rw [c156b0] | (simp only [i64_w, i32_w]; rw [c156b0]) | skip)
                 replace H := Option.bind_eq_some_iff.mp H
                 obtain ⟨t348, A1570, H⟩ := H
                 replace H : (if t348 = true then (if (t345 != t347) = true then (laws_FnPatternsOpenOfAll.j12 kj114 a2 a3 l4 a5 l6 a7 t336 t337 t344 true) else (if t344 = t346 then (if t345 = true then (laws_FnPatternsOpenOfAll.j12 kj114 a2 a3 l4 a5 l6 a7 t336 t337 t344 (t337 != (decide (t344 ≤ 300)))) else (laws_FnPatternsOpenOfAll.j12 kj114 a2 a3 l4 a5 l6 a7 t336 t337 t344 (t337 != false))) else (laws_FnPatternsOpenOfAll.j12 kj114 a2 a3 l4 a5 l6 a7 t336 t337 t344 true))) else (laws_FnPatternsOpenOfAll.j12 kj114 a2 a3 l4 a5 l6 a7 t336 t337 t344 true)) = some r := H
                 have A157 := Aside0.mk A1570
                 clear A1570
                 by_cases c158 : t348 = true
                 ·
                  subst c158
                  have H1 : (if (t345 != t347) = true then (laws_FnPatternsOpenOfAll.j12 kj114 a2 a3 l4 a5 l6 a7 t336 t337 t344 true) else (if t344 = t346 then (if t345 = true then (laws_FnPatternsOpenOfAll.j12 kj114 a2 a3 l4 a5 l6 a7 t336 t337 t344 (t337 != (decide (t344 ≤ 300)))) else (laws_FnPatternsOpenOfAll.j12 kj114 a2 a3 l4 a5 l6 a7 t336 t337 t344 (t337 != false))) else (laws_FnPatternsOpenOfAll.j12 kj114 a2 a3 l4 a5 l6 a7 t336 t337 t344 true))) = some r := by rw [if_pos rfl] at H; exact H
                  clear H
                  have H := H1
                  clear H1
                  by_cases c159 : (t345 != t347) = true
                  ·
                   rw [if_pos c159] at H
                   exact (laws_FnPatternsOpenOfAll.j12_no _ _ _ _ _ _ _ _ _ _ (H.trans (congrArg some HRT.out))).elim
                  ·
                   rw [if_neg c159] at H
                   have c159b0 : (t345 != t347) = false := by simpa using c159
                   have c159q := eq_true (bne_eq_false_iff_eq.1 c159b0)
                   (try (have c159b1 : decide (t345 = t347) = true := by simpa using c159))
                   (try (have c159b2 : (t345 == t347) = true := by simpa using c159))
                   clear c159
                   by_cases c162 : t344 = t346
                   ·
                    rw [if_pos c162] at H
                    have c162b0 : (t344 == t346) = true := beq_iff_eq.mpr c162
                    have c162b1 : (t344 != t346) = false := bne_eq_false_iff_eq.mpr c162
                    clear c162
                    by_cases c163 : t345 = true
                    ·
                     subst c163
                     have H1 : (laws_FnPatternsOpenOfAll.j12 kj114 a2 a3 l4 a5 l6 a7 t336 t337 t344 (t337 != (decide (t344 ≤ 300)))) = some r := by rw [if_pos rfl] at H; exact H
                     clear H
                     have H := H1
                     clear H1
                     have H' := Aside0.mk H
                     clear H
                     obtain ⟨Ao164, co164, eo164⟩ := Kd.S_slice HO339.out
                     subst eo164
                     obtain ⟨Ao165, co165, eo165⟩ := Kd.S_slice HO343.out
                     subst eo165
                     go_wp2_with (first | (go_at_call 23; (with_reducible refine (laws_tRows.calls kj114 _ _ t336 _ _ t340 true _ ?side1 ?side2 ?side3 ?side4 A157.out).mono ?_); (case side1 => repeat (first | exact (Kd.S_reads' HO339.out).2.2 | (with_reducible refine Kd.C_alloc ?_ _) | (with_reducible refine Kd.C_drewN ?_ _) | (with_reducible refine Kd.C_drew ?_))); (case side2 => exact (Kd.S_reads' HO339.out).2.1); (case side3 => repeat (first | exact (Kd.S_reads' HO343.out).2.2 | (with_reducible refine Kd.C_alloc ?_ _) | (with_reducible refine Kd.C_drewN ?_ _) | (with_reducible refine Kd.C_drew ?_))); (case side4 => exact (Kd.S_reads' HO343.out).2.1); rintro e w' ⟨rfl, ⟨nd, rfl⟩⟩))
                     refine cutMeet hJ_ ?_ (by kernel_rfl)
                     exact ⟨_, ((t337 != (decide (t344 ≤ 300)))), (by first | rfl | (simp; done) | (simp [*]; done)), H', ⟨by have := HJ8.out; have := HJ18.out; have := HJ55.out; have := HJ106.out; have := HJ114.out; first | omega | exact Nat.le_refl _⟩, ⟨by (with_reducible repeat (first | apply Kd.S_alloc | apply Kd.S_drewN | apply Kd.S_drew)); exact Kd.S_mono HO339.out (fun _ hk => trivial)⟩, ⟨by repeat (first | (with_reducible first | exact HB.out | apply below_alloc | apply pw_below_drewN | apply below_drew1))⟩⟩
                    ·
                     replace c163 := Bool.eq_false_iff.mpr c163
                     subst c163
                     have H1 : (laws_FnPatternsOpenOfAll.j12 kj114 a2 a3 l4 a5 l6 a7 t336 t337 t344 (t337 != false)) = some r := by rw [if_neg (show ¬ (false = true) by decide)] at H; exact H
                     clear H
                     have H := H1
                     clear H1
                     have H' := Aside0.mk H
                     clear H
                     obtain ⟨Ao166, co166, eo166⟩ := Kd.S_slice HO339.out
                     subst eo166
                     obtain ⟨Ao167, co167, eo167⟩ := Kd.S_slice HO343.out
                     subst eo167
                     go_wp2_with (first | (go_at_call 23; (with_reducible refine (laws_tRows.calls kj114 _ _ t336 _ _ t340 true _ ?side1 ?side2 ?side3 ?side4 A157.out).mono ?_); (case side1 => repeat (first | exact (Kd.S_reads' HO339.out).2.2 | (with_reducible refine Kd.C_alloc ?_ _) | (with_reducible refine Kd.C_drewN ?_ _) | (with_reducible refine Kd.C_drew ?_))); (case side2 => exact (Kd.S_reads' HO339.out).2.1); (case side3 => repeat (first | exact (Kd.S_reads' HO343.out).2.2 | (with_reducible refine Kd.C_alloc ?_ _) | (with_reducible refine Kd.C_drewN ?_ _) | (with_reducible refine Kd.C_drew ?_))); (case side4 => exact (Kd.S_reads' HO343.out).2.1); rintro e w' ⟨rfl, ⟨nd, rfl⟩⟩))
                     refine cutMeet hJ_ ?_ (by kernel_rfl)
                     exact ⟨_, ((t337 != false)), (by first | rfl | (simp; done) | (simp [*]; done)), H', ⟨by have := HJ8.out; have := HJ18.out; have := HJ55.out; have := HJ106.out; have := HJ114.out; first | omega | exact Nat.le_refl _⟩, ⟨by (with_reducible repeat (first | apply Kd.S_alloc | apply Kd.S_drewN | apply Kd.S_drew)); exact Kd.S_mono HO339.out (fun _ hk => trivial)⟩, ⟨by repeat (first | (with_reducible first | exact HB.out | apply below_alloc | apply pw_below_drewN | apply below_drew1))⟩⟩
                   ·
                    rw [if_neg c162] at H
                    exact (laws_FnPatternsOpenOfAll.j12_no _ _ _ _ _ _ _ _ _ _ (H.trans (congrArg some HRT.out))).elim
                 ·
                  replace c158 := Bool.eq_false_iff.mpr c158
                  subst c158
                  have H1 : (laws_FnPatternsOpenOfAll.j12 kj114 a2 a3 l4 a5 l6 a7 t336 t337 t344 true) = some r := by rw [if_neg (show ¬ (false = true) by decide)] at H; exact H
                  clear H
                  have H := H1
                  clear H1
                  exact (laws_FnPatternsOpenOfAll.j12_no _ _ _ _ _ _ _ _ _ _ (H.trans (congrArg some HRT.out))).elim
              ·
               intro u_ wc hcut
               clear HC151
               obtain ⟨kq, x406_150, e_406, HA, HJ150, HO_52, HB⟩ := hcut
               dsimp only [cutFgt, mk0]
               rw [e_406]
               cases kq with
               | zero => exact absurd HA.out (by simp [laws_FnPatternsOpenOfAll.j12])
               | succ kj150 =>
                have H := HA.out
                clear HA
                simp only [laws_FnPatternsOpenOfAll.j12] at H
                by_cases c172 : x406_150 = true
                ·
                 subst c172
                 have H1 : (some false) = some r := by rw [if_pos rfl] at H; exact H
                 clear H
                 have H := H1
                 clear H1
                 exact absurd (Option.some.inj (H.trans (congrArg some HRT.out))) Bool.false_ne_true
                ·
                 replace c172 := Bool.eq_false_iff.mpr c172
                 subst c172
                 have H1 : (if t337 = true then (laws_FnPatternsOpenOfAll.l3 kj150 a2 a3 l4 a5 l6 a7 t336 t344 t336 (t336.length : Int) 0) else (laws_FnPatternsOpenOfAll.j15 kj150 l4 a5 l6 a7)) = some r := by rw [if_neg (show ¬ (false = true) by decide)] at H; exact H
                 clear H
                 have H := H1
                 clear H1
                 have HC173 := Aside0.mk H
                 clear H
                 go_upto_if 407 with (fail)
                 refine cutF mk0 [none, none, none, none, none, none, none, none, none, none, none, none, none, none, none, none, some 16, none, none, none, none, none, none, none, none, none, none, none, none, none, none, none, none, none, none, none, none, none, none, none, none, none, none, none, none, none, none, none, none, none, none, none, none, none, none, none, none, none, none, none, none, some 61, some 62, some 63, some 64, some 65, some 66, none, some 68, none, none, none, none, none, none, none, none, none, none, none, none, none, none, none, none, none, none, none, none, none, none, none, none, none, none, none, none, none, none, none, none, none, none, none, none, none, none, none, none, none, none, none, none, none, none, none, none, none, none, none, none, none, none, none, none, none, none, none, none, none, none, none, none, none, none, none, none, none, none, none, none, none, none, none, none, none, none, none, none, none, none, none, none, none, none, none, none, none, none, none, none, none, none, none, none, none, none, none, none, none, none, none, none, none, none, none, none, none, none, none, none, none, none, none, none, none, none, none, none, none, none, none, none, none, none, none, none, none, none, none, none, none, none, none, none, none, none, none, none, none, none, none, none, none, none, none, none, none, none, none, none, none, none, none, none, none, none, none, none, none, none, none, none, none, none, none, none, none, none, none, none, none, none, none, none, none, none, none, none, none, none, none, none, none, none, none, none, none, none, none, none, none, none, none, none, none, none, none, none, none, none, none, none, none, none, none, none, none, none, none, none, none, none, none, none, none, none, none, none, none, none, none, none, none, none, none, none, none, none, none, none, none, none, none, none, none, none, none, none, none, none, none, none, none, none, none, none, none, none, none, none, none, none, none, none, none, none, none, none, none, none, none, none, none, none, none, none, none, none, none, none, none, none, none, none, none, none, none, none, none, none, none, none, none, none, none, none, none, none, none, none, none, none, none, none, none, none, none, none, none, none, none, none, none, none, none, none, none, none, none, none, none, none, none, none, none, none, none, none, none, none, none, none, none, none, none, none, none, none, none, none, none, none, none, none, none, none, none, some 408, some 409, some 410, none, none, none, none, none, none, none, none, none, none, none, none, none, some 424, some 425, some 426] (fun u_ wc => ∃ (kq : Nat), Aside0 (laws_FnPatternsOpenOfAll.j15 kq l4 a5 l6 a7 = some r) ∧ Aside0 (kq ≤ kj150) ∧ Aside0 (Below w.heap.size w wc)) ?_ ?_
                 ·
                  as_aux_lemma =>
                   intro J_ K_ hJ_ hK_
                   have H := HC173.out
                   clear HC173
                   by_cases c174 : t337 = true
                   ·
                    subst c174
                    have H1 : (laws_FnPatternsOpenOfAll.l3 kj150 a2 a3 l4 a5 l6 a7 t336 t344 t336 (t336.length : Int) 0) = some r := by rw [if_pos rfl] at H; exact H
                    clear H
                    have H := H1
                    clear H1
                    have H' := Aside0.mk H
                    clear H
                    obtain ⟨Ao175, co175, eo175⟩ := Kd.S_slice HO_52.out
                    subst eo175
                    go_wp2
                    go_loopg [410] kj150 (fun kq v410 w' => ∃ (x410_7 : Int), v410 = .int .i64 x410_7 ∧ Aside0 (laws_FnPatternsOpenOfAll.l3 kq a2 a3 l4 a5 l6 a7 t336 t344 t336 (t336.length : Int) x410_7 = some r) ∧ Aside0 (kq ≤ kj150) ∧ Aside0 (Kd.S (Kd.slice 3 (Kd.int .i64)) 22 w' w.heap.size (fun _ => True) (.slice Ao175 t336.length co175) t336) ∧ Aside0 (Kd.S (Kd.slice 3 (Kd.int .i64)) 22 w' w.heap.size (fun _ => True) (.slice Ao175 t336.length co175) t336) ∧ Aside0 (Below w.heap.size w w'))
                    case atStart => exact ⟨(0), (by first | rfl | (simp; done) | (simp [*]; done)), H', ⟨Nat.le_refl _⟩, ⟨by (with_reducible repeat (first | apply Kd.S_alloc | apply Kd.S_drewN | apply Kd.S_drew)); exact HO_52.out⟩, ⟨by (with_reducible repeat (first | apply Kd.S_alloc | apply Kd.S_drewN | apply Kd.S_drew)); exact HO_52.out⟩, ⟨by repeat (first | (with_reducible first | exact HB.out | apply below_alloc | apply pw_below_drewN | apply below_drew1))⟩⟩
                    case round =>
                     clear H'
                     obtain ⟨x410_7, rfl, HA, HK7, HO_52, HO_408, HB⟩ := hrel
                     cases gk with
                     | zero => exact absurd HA.out (by simp [laws_FnPatternsOpenOfAll.l3])
                     | succ k7 =>
                      have H := HA.out
                      clear HA
                      simp only [laws_FnPatternsOpenOfAll.l3] at H
                      by_cases c176 : x410_7 < (t336.length : Int)
                      ·
                       rw [if_pos c176] at H
                       have c176b0 : decide (x410_7 < (t336.length : Int)) = true := decide_eq_true c176
                       clear c176
                       (first | rw [c176b0] | (simp only [i64_w, i32_w]; rw [c176b0]) | skip)
                       by_cases c177 : 0 ≤ x410_7
                       ·
                        rw [if_pos c177] at H
                        have c177b0 : decide (0 ≤ x410_7) = true := decide_eq_true c177
                        clear c177
                        by_cases c178 : x410_7 < (t336.length : Int)
                        ·
                         rw [if_pos c178] at H
                         have c178b0 : decide (x410_7 < (t336.length : Int)) = true := decide_eq_true c178
                         clear c178
                         replace H := Option.bind_eq_some_iff.mp H
                         obtain ⟨⟨t350, t351⟩, A1790, H⟩ := H
                         replace H : ((impl_BackPattern.f k7 (rd_L1 t336 x410_7)).bind fun bt352 => (laws_FnPatternsOpenOfAll.l4 k7 a2 a3 l4 a5 l6 a7 t336 t344 (rd_L1 t336 x410_7) t350 t351 bt352.1 bt352.2 false t336 (t336.length : Int) x410_7 t336 (t336.length : Int) 0)) = some r := H
                         have A179 := Aside0.mk A1790
                         clear A1790
                         replace H := Option.bind_eq_some_iff.mp H
                         obtain ⟨⟨t352, t353⟩, A1800, H⟩ := H
                         replace H : (laws_FnPatternsOpenOfAll.l4 k7 a2 a3 l4 a5 l6 a7 t336 t344 (rd_L1 t336 x410_7) t350 t351 t352 t353 false t336 (t336.length : Int) x410_7 t336 (t336.length : Int) 0) = some r := H
                         have A180 := Aside0.mk A1800
                         clear A1800
                         have H' := Aside0.mk H
                         clear H
                         have p349 : 0 ≤ (x410_7 : Int) := of_decide_eq_true (by first | (with_reducible assumption) | assumption)
                         have q349 : x410_7 < (t336.length : Int) := of_decide_eq_true (by first | (with_reducible assumption) | assumption)
                         obtain ⟨ad349, A349_0, c349_0, e349, hx349_0, hl349_0, hi349_0⟩ := at_L1 (Kd.S_reads' HO_408.out).2.2 x410_7 p349 q349
                         cases e349
                         obtain ⟨ce349, hce349, hMe349, hcc349⟩ := Kd.S_get HO_408.out [] x410_7 p349 (by first | exact q349 | exact of_decide_eq_true (by first | (with_reducible assumption) | assumption) | (have e_ := (Kd.S_reads' HO_408.out).1; omega))
                         obtain ⟨ve349_0, rfl, ge349_0⟩ := hMe349
                         have hv349_0 := hcc349 0 _ rfl
                         rw [Nat.add_zero, show ((Kd.slice 3 (Kd.int .i64))).sz = 1 from rfl, Nat.mul_one] at hv349_0
                         replace hv349_0 := Option.some.inj (hv349_0.symm.trans hx349_0)
                         rw [hv349_0] at ge349_0
                         have HL349_0 := Aside0.mk (show Kd.R (Kd.int .i64) 3 _ _ _ _ (rd_L1 t336 x410_7) from ge349_0)
                         clear hv349_0 ge349_0
                         clear hcc349 hce349
                         have HR349_0 := Aside0.mk hi349_0
                         have HC349_0 := Aside0.mk hl349_0
                         clear hi349_0 hl349_0
                         replace p349 := eq_true p349
                         replace q349 := eq_true q349
                         go_wp2_with (first | ((with_reducible refine gate_callee (f := 5) rfl ?_); refine goesL_ (some 416) rfl rfl Try.func5 (by kernel_rfl) rfl #[.slice A349_0 (rd_L1 t336 x410_7).length c349_0] rfl (by (try simp only [List.map_toArray, List.map_cons, List.map_nil]); first | done | rfl | (simp only [List.length_drop, List.length_take]; rfl)) ?_; (with_reducible refine (impl_IsOpen.calls k7 _ _ (rd_L1 t336 x410_7) t350 t351 _ ?side1 ?side2 A179.out).mono ?_); (case side1 => repeat (first | exact (by repeat (first | (with_reducible exact HR349_0.out) | (with_reducible refine Kd.C_alloc ?_ _) | (with_reducible refine Kd.C_drewN ?_ _) | (with_reducible refine Kd.C_drew ?_) | exact HR349_0.out)) | (with_reducible refine Kd.C_alloc ?_ _) | (with_reducible refine Kd.C_drewN ?_ _) | (with_reducible refine Kd.C_drew ?_))); (case side2 => exact HC349_0.out); rintro e w181 ⟨rfl, hb⟩; refine ⟨_, rfl, ?_⟩; have n0_ := Aside0.mk (Kd.S_below (by (with_reducible repeat (first | apply Kd.S_alloc | apply Kd.S_drewN | apply Kd.S_drew)); exact HO_52.out) hb); have n1_ := Aside0.mk (Kd.S_below (by (with_reducible repeat (first | apply Kd.S_alloc | apply Kd.S_drewN | apply Kd.S_drew)); exact HO_408.out) hb); have n2_ := Aside0.mk (Kd.R_below (by (with_reducible repeat (first | apply Kd.R_alloc | apply Kd.R_drewN | apply Kd.R_drew)); exact HL349_0.out) hb); have n3_ := Aside0.mk (Kd.C_below (by repeat (first | (with_reducible exact HR349_0.out) | (with_reducible refine Kd.C_alloc ?_ _) | (with_reducible refine Kd.C_drewN ?_ _) | (with_reducible refine Kd.C_drew ?_) | exact HR349_0.out)) hb); have n4_ := Aside0.mk (below_step (by repeat (first | (with_reducible first | exact HB.out | apply below_alloc | apply pw_below_drewN | apply below_drew1))) hb); clear HO_52; clear HO_408; clear HL349_0; clear HR349_0; clear HB; have HO_52 := n0_; have HO_408 := n1_; have HL349_0 := n2_; have HR349_0 := n3_; have HB := n4_; clear n0_ n1_ n2_ n3_ n4_; (try clear hb)) | ((with_reducible refine gate_callee (f := 9) rfl ?_); refine goesL_ (some 421) rfl rfl Try.func9 (by kernel_rfl) rfl #[.slice A349_0 (rd_L1 t336 x410_7).length c349_0] rfl (by (try simp only [List.map_toArray, List.map_cons, List.map_nil]); first | done | rfl | (simp only [List.length_drop, List.length_take]; rfl)) ?_; (with_reducible refine (impl_BackPattern.calls k7 _ _ (rd_L1 t336 x410_7) t352 t353 _ ?side1 ?side2 A180.out).mono ?_); (case side1 => repeat (first | exact (by repeat (first | (with_reducible exact HR349_0.out) | (with_reducible refine Kd.C_alloc ?_ _) | (with_reducible refine Kd.C_drewN ?_ _) | (with_reducible refine Kd.C_drew ?_) | exact HR349_0.out)) | (with_reducible refine Kd.C_alloc ?_ _) | (with_reducible refine Kd.C_drewN ?_ _) | (with_reducible refine Kd.C_drew ?_))); (case side2 => exact HC349_0.out); rintro e w182 ⟨v354, rfl, ho0, hb⟩; refine ⟨_, rfl, ?_⟩; have n0_ := Aside0.mk (Kd.S_elder' (by (with_reducible repeat (first | apply Kd.S_alloc | apply Kd.S_drewN | apply Kd.S_drew)); exact HO_52.out) (Kd.R_base ho0) hb); have n1_ := Aside0.mk (Kd.S_elder' (by (with_reducible repeat (first | apply Kd.S_alloc | apply Kd.S_drewN | apply Kd.S_drew)); exact HO_408.out) (Kd.R_base ho0) hb); have n2_ := Aside0.mk (Kd.R_elder' (by (with_reducible repeat (first | apply Kd.R_alloc | apply Kd.R_drewN | apply Kd.R_drew)); exact HL349_0.out) (Kd.R_base ho0) hb); have n3_ := Aside0.mk (Kd.R_lower (Kd.R_new' ho0 (Kd.R_lt (by (with_reducible repeat (first | apply Kd.R_alloc | apply Kd.R_drewN | apply Kd.R_drew)); exact HL349_0.out))) (below_size (by repeat (first | (with_reducible first | exact HB.out | apply below_alloc | apply pw_below_drewN | apply below_drew1))))); have n4_ := Aside0.mk (Kd.C_below (by repeat (first | (with_reducible exact HR349_0.out) | (with_reducible refine Kd.C_alloc ?_ _) | (with_reducible refine Kd.C_drewN ?_ _) | (with_reducible refine Kd.C_drew ?_) | exact HR349_0.out)) hb); have n5_ := Aside0.mk (below_step (by repeat (first | (with_reducible first | exact HB.out | apply below_alloc | apply pw_below_drewN | apply below_drew1))) hb); clear HO_52; clear HO_408; clear HL349_0; clear HR349_0; clear HB; have HO_52 := n0_; have HO_408 := n1_; have HL349_0 := n2_; have HO355 := n3_; have HR349_0 := n4_; have HB := n5_; clear n0_ n1_ n2_ n3_ n4_ n5_; (try clear hb); (try clear ho0)))
                         go_loopg [66, 426] k7 (fun kq v66 v426 w' => ∃ (x66_8 : Bool) (x426_8 : Int), v66 = .bool x66_8 ∧ v426 = .int .i64 x426_8 ∧ Aside0 (laws_FnPatternsOpenOfAll.l4 kq a2 a3 l4 a5 l6 a7 t336 t344 (rd_L1 t336 x410_7) t350 t351 t352 t353 x66_8 t336 (t336.length : Int) x410_7 t336 (t336.length : Int) x426_8 = some r) ∧ Aside0 (kq ≤ k7) ∧ Aside0 (Kd.S (Kd.slice 3 (Kd.int .i64)) 22 w' w.heap.size (fun k_ => some k_ ≠ (v354 : Value).ownBlock) (.slice (some ad349) t336.length co175) t336) ∧ Aside0 (Kd.R (Kd.int .i64) 3 w' w.heap.size (fun _ => True) v354 t352) ∧ Aside0 (Kd.S (Kd.slice 3 (Kd.int .i64)) 22 w' w.heap.size (fun k_ => some k_ ≠ (v354 : Value).ownBlock) (.slice (some ad349) t336.length co175) t336) ∧ Aside0 (Kd.S (Kd.slice 3 (Kd.int .i64)) 22 w' w.heap.size (fun k_ => some k_ ≠ (v354 : Value).ownBlock) (.slice (some ad349) t336.length co175) t336) ∧ Aside0 (Kd.C (Kd.int .i64) w' A349_0 (rd_L1 t336 x410_7).length (rd_L1 t336 x410_7)) ∧ Aside0 (Below w.heap.size w w'))
                         case atStart => exact ⟨(false), (0), (by first | rfl | (simp; done) | (simp [*]; done)), (by first | rfl | (simp; done) | (simp [*]; done)), H', ⟨Nat.le_refl _⟩, ⟨by (with_reducible repeat (first | apply Kd.S_alloc | apply Kd.S_drewN | apply Kd.S_drew)); exact Kd.S_mono HO_52.out (fun _ hk => hk.2)⟩, ⟨by (with_reducible repeat (first | apply Kd.R_alloc | apply Kd.R_drewN | apply Kd.R_drew)); exact Kd.R_mono HO355.out (fun _ hk => trivial)⟩, ⟨by (with_reducible repeat (first | apply Kd.S_alloc | apply Kd.S_drewN | apply Kd.S_drew)); exact Kd.S_mono HO_408.out (fun _ hk => hk.2)⟩, ⟨by (with_reducible repeat (first | apply Kd.S_alloc | apply Kd.S_drewN | apply Kd.S_drew)); exact Kd.S_mono HO_52.out (fun _ hk => hk.2)⟩, ⟨by repeat (first | (with_reducible exact HR349_0.out) | (with_reducible refine Kd.C_alloc ?_ _) | (with_reducible refine Kd.C_drewN ?_ _) | (with_reducible refine Kd.C_drew ?_) | exact HR349_0.out)⟩, ⟨by repeat (first | (with_reducible first | exact HB.out | apply below_alloc | apply pw_below_drewN | apply below_drew1))⟩⟩
                         case round =>
                          clear H'
                          obtain ⟨x66_8, x426_8, rfl, rfl, HA, HK8, HO_52, HO_64, HO_408, HO_424, HR349_0, HB⟩ := hrel
                          cases gk with
                          | zero => exact absurd HA.out (by simp [laws_FnPatternsOpenOfAll.l4])
                          | succ k8 =>
                           have H := HA.out
                           clear HA
                           simp only [laws_FnPatternsOpenOfAll.l4] at H
                           by_cases c183 : x426_8 < (t336.length : Int)
                           ·
                            rw [if_pos c183] at H
                            have c183b0 : decide (x426_8 < (t336.length : Int)) = true := decide_eq_true c183
                            clear c183
                            by_cases c184 : 0 ≤ x426_8
                            ·
                             rw [if_pos c184] at H
                             have c184b0 : decide (0 ≤ x426_8) = true := decide_eq_true c184
                             clear c184
                             by_cases c185 : x426_8 < (t336.length : Int)
                             ·
                              rw [if_pos c185] at H
                              have c185b0 : decide (x426_8 < (t336.length : Int)) = true := decide_eq_true c185
                              clear c185
                              by_cases c186 : x66_8 = true
                              ·
                               subst c186
                               have H1 : (laws_FnPatternsOpenOfAll.l4 k8 a2 a3 l4 a5 l6 a7 t336 t344 (rd_L1 t336 x410_7) t350 t351 t352 t353 true t336 (t336.length : Int) x410_7 t336 (t336.length : Int) (wrap64 (x426_8 + 1))) = some r := by rw [if_pos rfl] at H; exact H
                               clear H
                               have H := H1
                               clear H1
                               have H' := Aside0.mk H
                               clear H
                               have p356 : 0 ≤ (x426_8 : Int) := of_decide_eq_true (by first | (with_reducible assumption) | assumption)
                               have q356 : x426_8 < (t336.length : Int) := of_decide_eq_true (by first | (with_reducible assumption) | assumption)
                               obtain ⟨ad356, A356_0, c356_0, e356, hx356_0, hl356_0, hi356_0⟩ := at_L1 (Kd.S_reads' HO_424.out).2.2 x426_8 p356 q356
                               obtain rfl : ad349 = ad356 := (by injection e356)
                               obtain ⟨ce356, hce356, hMe356, hcc356⟩ := Kd.S_get HO_424.out [] x426_8 p356 (by first | exact q356 | exact of_decide_eq_true (by first | (with_reducible assumption) | assumption) | (have e_ := (Kd.S_reads' HO_424.out).1; omega))
                               obtain ⟨ve356_0, rfl, ge356_0⟩ := hMe356
                               have hv356_0 := hcc356 0 _ rfl
                               rw [Nat.add_zero, show ((Kd.slice 3 (Kd.int .i64))).sz = 1 from rfl, Nat.mul_one] at hv356_0
                               replace hv356_0 := Option.some.inj (hv356_0.symm.trans hx356_0)
                               rw [hv356_0] at ge356_0
                               have HL356_0 := Aside0.mk (show Kd.R (Kd.int .i64) 3 _ _ _ _ (rd_L1 t336 x426_8) from ge356_0)
                               clear hv356_0 ge356_0
                               clear hcc356 hce356
                               have HR356_0 := Aside0.mk hi356_0
                               have HC356_0 := Aside0.mk hl356_0
                               clear hi356_0 hl356_0
                               replace p356 := eq_true p356
                               replace q356 := eq_true q356
                               go_wp2
                               go_roundg k8
                               case measure => have := HJ8.out; have := HJ18.out; have := HJ55.out; have := HJ106.out; have := HJ114.out; have := HJ150.out; have := HK7.out; have := HK8.out; omega
                               case rel => exact ⟨(true), (wrap64 (x426_8 + 1)), (by first | rfl | (simp; done) | (simp [*]; done)), (by first | rfl | (simp; done) | (simp [*]; done)), H', ⟨by have := HJ8.out; have := HJ18.out; have := HJ55.out; have := HJ106.out; have := HJ114.out; have := HJ150.out; have := HK7.out; have := HK8.out; omega⟩, ⟨by (with_reducible repeat (first | apply Kd.S_alloc | apply Kd.S_drewN | apply Kd.S_drew)); exact HO_52.out⟩, ⟨by (with_reducible repeat (first | apply Kd.R_alloc | apply Kd.R_drewN | apply Kd.R_drew)); exact HO_64.out⟩, ⟨by (with_reducible repeat (first | apply Kd.S_alloc | apply Kd.S_drewN | apply Kd.S_drew)); exact HO_408.out⟩, ⟨by (with_reducible repeat (first | apply Kd.S_alloc | apply Kd.S_drewN | apply Kd.S_drew)); exact HO_424.out⟩, ⟨by repeat (first | (with_reducible exact HR349_0.out) | (with_reducible refine Kd.C_alloc ?_ _) | (with_reducible refine Kd.C_drewN ?_ _) | (with_reducible refine Kd.C_drew ?_) | exact HR349_0.out)⟩, ⟨by repeat (first | (with_reducible first | exact HB.out | apply below_alloc | apply pw_below_drewN | apply below_drew1))⟩⟩
                              ·
                               replace c186 := Bool.eq_false_iff.mpr c186
                               subst c186
                               have H1 : ((laws_tSame.f k8 (rd_L1 t336 x426_8) t352).bind fun t357 => (laws_FnPatternsOpenOfAll.l4 k8 a2 a3 l4 a5 l6 a7 t336 t344 (rd_L1 t336 x410_7) t350 t351 t352 t353 t357 t336 (t336.length : Int) x410_7 t336 (t336.length : Int) (wrap64 (x426_8 + 1)))) = some r := by rw [if_neg (show ¬ (false = true) by decide)] at H; exact H
                               clear H
                               have H := H1
                               clear H1
                               replace H := Option.bind_eq_some_iff.mp H
                               obtain ⟨t357, A1870, H⟩ := H
                               replace H : (laws_FnPatternsOpenOfAll.l4 k8 a2 a3 l4 a5 l6 a7 t336 t344 (rd_L1 t336 x410_7) t350 t351 t352 t353 t357 t336 (t336.length : Int) x410_7 t336 (t336.length : Int) (wrap64 (x426_8 + 1))) = some r := H
                               have A187 := Aside0.mk A1870
                               clear A1870
                               have H' := Aside0.mk H
                               clear H
                               have p356 : 0 ≤ (x426_8 : Int) := of_decide_eq_true (by first | (with_reducible assumption) | assumption)
                               have q356 : x426_8 < (t336.length : Int) := of_decide_eq_true (by first | (with_reducible assumption) | assumption)
                               obtain ⟨ad356, A356_0, c356_0, e356, hx356_0, hl356_0, hi356_0⟩ := at_L1 (Kd.S_reads' HO_424.out).2.2 x426_8 p356 q356
                               obtain rfl : ad349 = ad356 := (by injection e356)
                               obtain ⟨ce356, hce356, hMe356, hcc356⟩ := Kd.S_get HO_424.out [] x426_8 p356 (by first | exact q356 | exact of_decide_eq_true (by first | (with_reducible assumption) | assumption) | (have e_ := (Kd.S_reads' HO_424.out).1; omega))
                               obtain ⟨ve356_0, rfl, ge356_0⟩ := hMe356
                               have hv356_0 := hcc356 0 _ rfl
                               rw [Nat.add_zero, show ((Kd.slice 3 (Kd.int .i64))).sz = 1 from rfl, Nat.mul_one] at hv356_0
                               replace hv356_0 := Option.some.inj (hv356_0.symm.trans hx356_0)
                               rw [hv356_0] at ge356_0
                               have HL356_0 := Aside0.mk (show Kd.R (Kd.int .i64) 3 _ _ _ _ (rd_L1 t336 x426_8) from ge356_0)
                               clear hv356_0 ge356_0
                               clear hcc356 hce356
                               have HR356_0 := Aside0.mk hi356_0
                               have HC356_0 := Aside0.mk hl356_0
                               clear hi356_0 hl356_0
                               replace p356 := eq_true p356
                               replace q356 := eq_true q356
                               obtain ⟨Ao188, co188, eo188⟩ := Kd.R_slice HO_64.out
                               subst eo188
                               go_wp2_with (first | (go_at_call 11; (with_reducible refine (laws_tSame.calls k8 _ _ (rd_L1 t336 x426_8) _ _ t352 t357 _ ?side1 ?side2 ?side3 ?side4 A187.out).mono ?_); (case side1 => repeat (first | exact (by repeat (first | (with_reducible exact HR356_0.out) | (with_reducible refine Kd.C_alloc ?_ _) | (with_reducible refine Kd.C_drewN ?_ _) | (with_reducible refine Kd.C_drew ?_) | exact HR356_0.out)) | (with_reducible refine Kd.C_alloc ?_ _) | (with_reducible refine Kd.C_drewN ?_ _) | (with_reducible refine Kd.C_drew ?_))); (case side2 => exact HC356_0.out); (case side3 => repeat (first | exact (Kd.R_reads' HO_64.out).2.2 | (with_reducible refine Kd.C_alloc ?_ _) | (with_reducible refine Kd.C_drewN ?_ _) | (with_reducible refine Kd.C_drew ?_))); (case side4 => exact (Kd.R_reads' HO_64.out).2.1); rintro e w' ⟨rfl, ⟨nd, rfl⟩⟩))
                               go_roundg k8
                               case measure => have := HJ8.out; have := HJ18.out; have := HJ55.out; have := HJ106.out; have := HJ114.out; have := HJ150.out; have := HK7.out; have := HK8.out; omega
                               case rel => exact ⟨(t357), (wrap64 (x426_8 + 1)), (by first | rfl | (simp; done) | (simp [*]; done)), (by first | rfl | (simp; done) | (simp [*]; done)), H', ⟨by have := HJ8.out; have := HJ18.out; have := HJ55.out; have := HJ106.out; have := HJ114.out; have := HJ150.out; have := HK7.out; have := HK8.out; omega⟩, ⟨by (with_reducible repeat (first | apply Kd.S_alloc | apply Kd.S_drewN | apply Kd.S_drew)); exact HO_52.out⟩, ⟨by (with_reducible repeat (first | apply Kd.R_alloc | apply Kd.R_drewN | apply Kd.R_drew)); exact HO_64.out⟩, ⟨by (with_reducible repeat (first | apply Kd.S_alloc | apply Kd.S_drewN | apply Kd.S_drew)); exact HO_408.out⟩, ⟨by (with_reducible repeat (first | apply Kd.S_alloc | apply Kd.S_drewN | apply Kd.S_drew)); exact HO_424.out⟩, ⟨by repeat (first | (with_reducible exact HR349_0.out) | (with_reducible refine Kd.C_alloc ?_ _) | (with_reducible refine Kd.C_drewN ?_ _) | (with_reducible refine Kd.C_drew ?_) | exact HR349_0.out)⟩, ⟨by repeat (first | (with_reducible first | exact HB.out | apply below_alloc | apply pw_below_drewN | apply below_drew1))⟩⟩
                             ·
                              rw [if_neg c185] at H
                              exact absurd H (by simp)
                            ·
                             rw [if_neg c184] at H
                             exact absurd H (by simp)
                           ·
                            rw [if_neg c183] at H
                            have c183b0 : decide (x426_8 < (t336.length : Int)) = false := decide_eq_false c183
                            clear c183
                            by_cases c189 : t351 = true
                            ·
                             subst c189
                             have H1 : (if t350 = true then (if ((rd_L1 t336 x410_7).length : Int) = a2 then (if 0 ≤ (wrap64 (a2 - 1)) then (if (wrap64 (a2 - 1)) < ((rd_L1 t336 x410_7).length : Int) then (if (rd (rd_L1 t336 x410_7) (wrap64 (a2 - 1))) = a3 then (if t353 = true then (if x66_8 = true then (laws_FnPatternsOpenOfAll.l3 k8 a2 a3 l4 a5 l6 a7 t336 t344 t336 (t336.length : Int) (wrap64 (x410_7 + 1))) else (some false)) else (some false)) else (some false)) else (none)) else (none)) else (some false)) else (some false)) = some r := by rw [if_pos rfl] at H; exact H
                             clear H
                             have H := H1
                             clear H1
                             by_cases c190 : t350 = true
                             ·
                              subst c190
                              have H1 : (if ((rd_L1 t336 x410_7).length : Int) = a2 then (if 0 ≤ (wrap64 (a2 - 1)) then (if (wrap64 (a2 - 1)) < ((rd_L1 t336 x410_7).length : Int) then (if (rd (rd_L1 t336 x410_7) (wrap64 (a2 - 1))) = a3 then (if t353 = true then (if x66_8 = true then (laws_FnPatternsOpenOfAll.l3 k8 a2 a3 l4 a5 l6 a7 t336 t344 t336 (t336.length : Int) (wrap64 (x410_7 + 1))) else (some false)) else (some false)) else (some false)) else (none)) else (none)) else (some false)) = some r := by rw [if_pos rfl] at H; exact H
                              clear H
                              have H := H1
                              clear H1
                              by_cases c191 : ((rd_L1 t336 x410_7).length : Int) = a2
                              ·
                               rw [if_pos c191] at H
                               have c191b0 : (((rd_L1 t336 x410_7).length : Int) == a2) = true := beq_iff_eq.mpr c191
                               have c191b1 : (((rd_L1 t336 x410_7).length : Int) != a2) = false := bne_eq_false_iff_eq.mpr c191
                               clear c191
                               obtain ⟨ji192, hji192⟩ : ∃ j_ : Int, (wrap64 (a2 - 1)) = j_ := ⟨_, rfl⟩
                               replace H : (if 0 ≤ (ji192) then (if (ji192) < ((rd_L1 t336 x410_7).length : Int) then (if (rd (rd_L1 t336 x410_7) (ji192)) = a3 then (if t353 = true then (if x66_8 = true then (laws_FnPatternsOpenOfAll.l3 k8 a2 a3 l4 a5 l6 a7 t336 t344 t336 (t336.length : Int) (wrap64 (x410_7 + 1))) else (some false)) else (some false)) else (some false)) else (none)) else (none)) = some r := by first | (rw [hji192] at H; exact H) | (simp only [hji192] at H ⊢; exact H)
                               have hji192w : (IntKind.i64.wrap (a2 - 1)) = ji192 := (i64_w _).trans hji192
                               by_cases c193 : 0 ≤ (ji192)
                               ·
                                rw [if_pos c193] at H
                                have c193b0 : decide (0 ≤ (ji192)) = true := decide_eq_true c193
                                clear c193
                                by_cases c194 : (ji192) < ((rd_L1 t336 x410_7).length : Int)
                                ·
                                 rw [if_pos c194] at H
                                 have c194b0 : decide ((ji192) < ((rd_L1 t336 x410_7).length : Int)) = true := decide_eq_true c194
                                 clear c194
                                 by_cases c195 : (rd (rd_L1 t336 x410_7) (ji192)) = a3
                                 ·
                                  rw [if_pos c195] at H
                                  have c195b0 : ((rd (rd_L1 t336 x410_7) (ji192)) == a3) = true := beq_iff_eq.mpr c195
                                  have c195b1 : ((rd (rd_L1 t336 x410_7) (ji192)) != a3) = false := bne_eq_false_iff_eq.mpr c195
                                  clear c195
                                  by_cases c196 : t353 = true
                                  ·
                                   subst c196
                                   have H1 : (if x66_8 = true then (laws_FnPatternsOpenOfAll.l3 k8 a2 a3 l4 a5 l6 a7 t336 t344 t336 (t336.length : Int) (wrap64 (x410_7 + 1))) else (some false)) = some r := by rw [if_pos rfl] at H; exact H
                                   clear H
                                   have H := H1
                                   clear H1
                                   by_cases c197 : x66_8 = true
                                   ·
                                    subst c197
                                    have H1 : (laws_FnPatternsOpenOfAll.l3 k8 a2 a3 l4 a5 l6 a7 t336 t344 t336 (t336.length : Int) (wrap64 (x410_7 + 1))) = some r := by rw [if_pos rfl] at H; exact H
                                    clear H
                                    have H := H1
                                    clear H1
                                    have H' := Aside0.mk H
                                    clear H
                                    have p358 : 0 ≤ ((ji192) : Int) := of_decide_eq_true (by first | (with_reducible assumption) | assumption)
                                    have q358 : (ji192) < ((rd_L1 t336 x410_7).length : Int) := of_decide_eq_true (by first | (with_reducible assumption) | assumption)
                                    obtain ⟨ad358, e358, hx358_0⟩ := Kd.at_int HR349_0.out (ji192) p358 q358
                                    cases e358
                                    (try replace hx358_0 := (HB.out.cell (World.block_lt_of_cell? w _ hx358_0)).trans hx358_0)
                                    replace p358 := eq_true p358
                                    replace q358 := eq_true q358
                                    go_wp2
                                    go_roundg k8
                                    case measure => have := HJ8.out; have := HJ18.out; have := HJ55.out; have := HJ106.out; have := HJ114.out; have := HJ150.out; have := HK7.out; have := HK8.out; omega
                                    case rel => exact ⟨(wrap64 (x410_7 + 1)), (by first | rfl | (simp; done) | (simp [*]; done)), H', ⟨by have := HJ8.out; have := HJ18.out; have := HJ55.out; have := HJ106.out; have := HJ114.out; have := HJ150.out; have := HK7.out; have := HK8.out; omega⟩, ⟨by (with_reducible repeat (first | apply Kd.S_alloc | apply Kd.S_drewN | apply Kd.S_drew)); exact Kd.S_mono HO_52.out (fun _ hk => trivial)⟩, ⟨by (with_reducible repeat (first | apply Kd.S_alloc | apply Kd.S_drewN | apply Kd.S_drew)); exact Kd.S_mono HO_408.out (fun _ hk => trivial)⟩, ⟨by repeat (first | (with_reducible first | exact HB.out | apply below_alloc | apply pw_below_drewN | apply below_drew1))⟩⟩
                                   ·
                                    replace c197 := Bool.eq_false_iff.mpr c197
                                    subst c197
                                    have H1 : (some false) = some r := by rw [if_neg (show ¬ (false = true) by decide)] at H; exact H
                                    clear H
                                    have H := H1
                                    clear H1
                                    exact absurd (Option.some.inj (H.trans (congrArg some HRT.out))) Bool.false_ne_true
                                  ·
                                   replace c196 := Bool.eq_false_iff.mpr c196
                                   subst c196
                                   have H1 : (some false) = some r := by rw [if_neg (show ¬ (false = true) by decide)] at H; exact H
                                   clear H
                                   have H := H1
                                   clear H1
                                   exact absurd (Option.some.inj (H.trans (congrArg some HRT.out))) Bool.false_ne_true
                                 ·
                                  rw [if_neg c195] at H
                                  have c195b0 : ((rd (rd_L1 t336 x410_7) (ji192)) == a3) = false := beq_eq_false_iff_ne.mpr c195
                                  have c195b1 : ((rd (rd_L1 t336 x410_7) (ji192)) != a3) = true := bne_iff_ne.mpr c195
                                  exact absurd (Option.some.inj (H.trans (congrArg some HRT.out))) Bool.false_ne_true
                                ·
                                 rw [if_neg c194] at H
                                 exact absurd H (by simp)
                               ·
                                rw [if_neg c193] at H
                                exact absurd H (by simp)
                              ·
                               rw [if_neg c191] at H
                               have c191b0 : (((rd_L1 t336 x410_7).length : Int) == a2) = false := beq_eq_false_iff_ne.mpr c191
                               have c191b1 : (((rd_L1 t336 x410_7).length : Int) != a2) = true := bne_iff_ne.mpr c191
                               exact absurd (Option.some.inj (H.trans (congrArg some HRT.out))) Bool.false_ne_true
                             ·
                              replace c190 := Bool.eq_false_iff.mpr c190
                              subst c190
                              have H1 : (some false) = some r := by rw [if_neg (show ¬ (false = true) by decide)] at H; exact H
                              clear H
                              have H := H1
                              clear H1
                              exact absurd (Option.some.inj (H.trans (congrArg some HRT.out))) Bool.false_ne_true
                            ·
                             replace c189 := Bool.eq_false_iff.mpr c189
                             subst c189
                             have H1 : (some false) = some r := by rw [if_neg (show ¬ (false = true) by decide)] at H; exact H
                             clear H
                             have H := H1
                             clear H1
                             exact absurd (Option.some.inj (H.trans (congrArg some HRT.out))) Bool.false_ne_true
                        ·
                         rw [if_neg c178] at H
                         exact absurd H (by simp)
                       ·
                        rw [if_neg c177] at H
                        exact absurd H (by simp)
                      ·
                       rw [if_neg c176] at H
                       have c176b0 : decide (x410_7 < (t336.length : Int)) = false := decide_eq_false c176
                       clear c176
                       (first | rw [c176b0] | (simp only [i64_w, i32_w]; rw [c176b0]) | skip)
                       by_cases c198 : (t336.length : Int) = t344
                       ·
                        rw [if_pos c198] at H
                        have c198b0 : ((t336.length : Int) == t344) = true := beq_iff_eq.mpr c198
                        have c198b1 : ((t336.length : Int) != t344) = false := bne_eq_false_iff_eq.mpr c198
                        clear c198
                        have H' := Aside0.mk H
                        clear H
                        go_wp2
                        refine cutMeet hJ_ ?_ (by kernel_rfl)
                        exact ⟨_, H', ⟨by have := HJ8.out; have := HJ18.out; have := HJ55.out; have := HJ106.out; have := HJ114.out; have := HJ150.out; have := HK7.out; first | omega | exact Nat.le_refl _⟩, ⟨by repeat (first | (with_reducible first | exact HB.out | apply below_alloc | apply pw_below_drewN | apply below_drew1))⟩⟩
                       ·
                        rw [if_neg c198] at H
                        have c198b0 : ((t336.length : Int) == t344) = false := beq_eq_false_iff_ne.mpr c198
                        have c198b1 : ((t336.length : Int) != t344) = true := bne_iff_ne.mpr c198
                        first
                        | exact absurd (Option.some.inj (H.trans (congrArg some HRT.out))) Bool.false_ne_true
                        |
                         obtain rfl := Option.some.inj H
                         go_wp2
                         go_ret
                         exact ⟨by first | rfl | (simp [errW_none, errW_some] <;> rfl) | (simp [*, errW_none, errW_some] <;> rfl), by repeat (first | (with_reducible first | exact HB.out | apply below_alloc | apply pw_below_drewN | apply below_drew1))⟩
                   ·
                    replace c174 := Bool.eq_false_iff.mpr c174
                    subst c174
                    have H1 : (laws_FnPatternsOpenOfAll.j15 kj150 l4 a5 l6 a7) = some r := by rw [if_neg (show ¬ (false = true) by decide)] at H; exact H
                    clear H
                    have H := H1
                    clear H1
                    have H' := Aside0.mk H
                    clear H
                    go_wp2
                    refine cutMeet hJ_ ?_ (by kernel_rfl)
                    exact ⟨_, H', ⟨by have := HJ8.out; have := HJ18.out; have := HJ55.out; have := HJ106.out; have := HJ114.out; have := HJ150.out; first | omega | exact Nat.le_refl _⟩, ⟨by repeat (first | (with_reducible first | exact HB.out | apply below_alloc | apply pw_below_drewN | apply below_drew1))⟩⟩
                 ·
                  as_aux_lemma =>
                   intro u_ wc hcut
                   clear HC173
                   obtain ⟨kq, HA, HJ172, HB⟩ := hcut
                   dsimp only [cutFgt, mk0]
                   cases kq with
                   | zero => exact absurd HA.out (by simp [laws_FnPatternsOpenOfAll.j15])
                   | succ kj172 =>
                    have H := HA.out
                    clear HA
                    simp only [laws_FnPatternsOpenOfAll.j15] at H
                    replace H := Option.bind_eq_some_iff.mp H
                    obtain ⟨⟨t359, t360⟩, A1990, H⟩ := H
                    replace H : ((spec_AddOffsets.f kj172 l4 a5).bind fun bt363 => ((impl_RestsOf.f kj172 l6 a7).bind fun bt367 => ((spec_RestsOf.f kj172 l6 a7).bind fun bt371 => (if (t360 == bt363.2) = true then ((laws_tSame.f kj172 t359 bt363.1).bind fun t375 => (if t375 = true then (if (bt367.2 == bt371.2) = true then ((laws_tSame.f kj172 bt367.1 bt371.1).bind fun t376 => (if t376 = true then (if t360 = true then ((laws_tRises.f kj172 t359 1 a5).bind fun t377 => (some t377)) else (some true)) else (some false))) else (some false)) else (some false))) else (some false))))) = some r := H
                    have A199 := Aside0.mk A1990
                    clear A1990
                    replace H := Option.bind_eq_some_iff.mp H
                    obtain ⟨⟨t363, t364⟩, A2000, H⟩ := H
                    replace H : ((impl_RestsOf.f kj172 l6 a7).bind fun bt367 => ((spec_RestsOf.f kj172 l6 a7).bind fun bt371 => (if (t360 == t364) = true then ((laws_tSame.f kj172 t359 t363).bind fun t375 => (if t375 = true then (if (bt367.2 == bt371.2) = true then ((laws_tSame.f kj172 bt367.1 bt371.1).bind fun t376 => (if t376 = true then (if t360 = true then ((laws_tRises.f kj172 t359 1 a5).bind fun t377 => (some t377)) else (some true)) else (some false))) else (some false)) else (some false))) else (some false)))) = some r := H
                    have A200 := Aside0.mk A2000
                    clear A2000
                    replace H := Option.bind_eq_some_iff.mp H
                    obtain ⟨⟨t367, t368⟩, A2010, H⟩ := H
                    replace H : ((spec_RestsOf.f kj172 l6 a7).bind fun bt371 => (if (t360 == t364) = true then ((laws_tSame.f kj172 t359 t363).bind fun t375 => (if t375 = true then (if (t368 == bt371.2) = true then ((laws_tSame.f kj172 t367 bt371.1).bind fun t376 => (if t376 = true then (if t360 = true then ((laws_tRises.f kj172 t359 1 a5).bind fun t377 => (some t377)) else (some true)) else (some false))) else (some false)) else (some false))) else (some false))) = some r := H
                    have A201 := Aside0.mk A2010
                    clear A2010
                    replace H := Option.bind_eq_some_iff.mp H
                    obtain ⟨⟨t371, t372⟩, A2020, H⟩ := H
                    replace H : (if (t360 == t364) = true then ((laws_tSame.f kj172 t359 t363).bind fun t375 => (if t375 = true then (if (t368 == t372) = true then ((laws_tSame.f kj172 t367 t371).bind fun t376 => (if t376 = true then (if t360 = true then ((laws_tRises.f kj172 t359 1 a5).bind fun t377 => (some t377)) else (some true)) else (some false))) else (some false)) else (some false))) else (some false)) = some r := H
                    have A202 := Aside0.mk A2020
                    clear A2020
                    by_cases c203 : (t360 == t364) = true
                    ·
                     rw [if_pos c203] at H
                     have c203b0 : (t360 == t364) = true := c203
                     (try (have c203b1 : decide (t360 = t364) = true := by simpa using c203))
                     (try (have c203b2 : (t360 == t364) = true := by simpa using c203))
                     clear c203
                     replace H := Option.bind_eq_some_iff.mp H
                     obtain ⟨t375, A2040, H⟩ := H
                     replace H : (if t375 = true then (if (t368 == t372) = true then ((laws_tSame.f kj172 t367 t371).bind fun t376 => (if t376 = true then (if t360 = true then ((laws_tRises.f kj172 t359 1 a5).bind fun t377 => (some t377)) else (some true)) else (some false))) else (some false)) else (some false)) = some r := H
                     have A204 := Aside0.mk A2040
                     clear A2040
                     by_cases c205 : t375 = true
                     ·
                      subst c205
                      have H1 : (if (t368 == t372) = true then ((laws_tSame.f kj172 t367 t371).bind fun t376 => (if t376 = true then (if t360 = true then ((laws_tRises.f kj172 t359 1 a5).bind fun t377 => (some t377)) else (some true)) else (some false))) else (some false)) = some r := by rw [if_pos rfl] at H; exact H
                      clear H
                      have H := H1
                      clear H1
                      by_cases c206 : (t368 == t372) = true
                      ·
                       rw [if_pos c206] at H
                       have c206b0 : (t368 == t372) = true := c206
                       (try (have c206b1 : decide (t368 = t372) = true := by simpa using c206))
                       (try (have c206b2 : (t368 == t372) = true := by simpa using c206))
                       clear c206
                       replace H := Option.bind_eq_some_iff.mp H
                       obtain ⟨t376, A2070, H⟩ := H
                       replace H : (if t376 = true then (if t360 = true then ((laws_tRises.f kj172 t359 1 a5).bind fun t377 => (some t377)) else (some true)) else (some false)) = some r := H
                       have A207 := Aside0.mk A2070
                       clear A2070
                       by_cases c208 : t376 = true
                       ·
                        subst c208
                        have H1 : (if t360 = true then ((laws_tRises.f kj172 t359 1 a5).bind fun t377 => (some t377)) else (some true)) = some r := by rw [if_pos rfl] at H; exact H
                        clear H
                        have H := H1
                        clear H1
                        by_cases c209 : t360 = true
                        ·
                         subst c209
                         have H1 : ((laws_tRises.f kj172 t359 1 a5).bind fun t377 => (some t377)) = some r := by rw [if_pos rfl] at H; exact H
                         clear H
                         have H := H1
                         clear H1
                         replace H := Option.bind_eq_some_iff.mp H
                         obtain ⟨t377, A2100, H⟩ := H
                         replace H : (some t377) = some r := H
                         have A210 := Aside0.mk A2100
                         clear A2100
                         first
                         | exact absurd (Option.some.inj (H.trans (congrArg some HRT.out))) Bool.false_ne_true
                         |
                          obtain rfl := Option.some.inj H
                          go_wp2_with (first | ((with_reducible refine gate_callee (f := 24) rfl ?_); refine goesL_ (some 474) rfl rfl Try.func24 (by kernel_rfl) rfl #[.slice A4 l4.length c4, .int .i64 a5] rfl (by (try simp only [List.map_toArray, List.map_cons, List.map_nil]); first | done | rfl | (simp only [List.length_drop, List.length_take]; rfl)) ?_; (with_reducible refine (impl_AddOffsets.calls kj172 _ _ l4 a5 t359 true _ ?side1 ?side2 A199.out).mono ?_); (case side1 => repeat (first | exact (Kd.C_below HR4.out HB.out) | (with_reducible refine Kd.C_alloc ?_ _) | (with_reducible refine Kd.C_drewN ?_ _) | (with_reducible refine Kd.C_drew ?_))); (case side2 => exact HC4.out); rintro e w211 ⟨v361, rfl, ho0, hb⟩; refine ⟨_, rfl, ?_⟩; have n0_ := Aside0.mk (Kd.R_lower ho0 (below_size (by repeat (first | (with_reducible first | exact HB.out | apply below_alloc | apply pw_below_drewN | apply below_drew1))))); have n1_ := Aside0.mk (below_step (by repeat (first | (with_reducible first | exact HB.out | apply below_alloc | apply pw_below_drewN | apply below_drew1))) hb); clear HB; have HO362 := n0_; have HB := n1_; clear n0_ n1_; (try clear hb); (try clear ho0)) | ((with_reducible refine gate_callee (f := 25) rfl ?_); refine goesL_ (some 480) rfl rfl Try.func25 (by kernel_rfl) rfl #[.slice A4 l4.length c4, .int .i64 a5] rfl (by (try simp only [List.map_toArray, List.map_cons, List.map_nil]); first | done | rfl | (simp only [List.length_drop, List.length_take]; rfl)) ?_; (with_reducible refine (spec_AddOffsets.calls kj172 _ _ l4 a5 t363 t364 _ ?side1 ?side2 A200.out).mono ?_); (case side1 => repeat (first | exact (Kd.C_below HR4.out HB.out) | (with_reducible refine Kd.C_alloc ?_ _) | (with_reducible refine Kd.C_drewN ?_ _) | (with_reducible refine Kd.C_drew ?_))); (case side2 => exact HC4.out); rintro e w212 ⟨v365, rfl, ho0, hb⟩; refine ⟨_, rfl, ?_⟩; have n0_ := Aside0.mk (Kd.R_elder' (by (with_reducible repeat (first | apply Kd.R_alloc | apply Kd.R_drewN | apply Kd.R_drew)); exact HO362.out) (Kd.R_base ho0) hb); have n1_ := Aside0.mk (Kd.R_lower (Kd.R_new' ho0 (Kd.R_lt (by (with_reducible repeat (first | apply Kd.R_alloc | apply Kd.R_drewN | apply Kd.R_drew)); exact HO362.out))) (below_size (by repeat (first | (with_reducible first | exact HB.out | apply below_alloc | apply pw_below_drewN | apply below_drew1))))); have n2_ := Aside0.mk (below_step (by repeat (first | (with_reducible first | exact HB.out | apply below_alloc | apply pw_below_drewN | apply below_drew1))) hb); clear HO362; clear HB; have HO362 := n0_; have HO366 := n1_; have HB := n2_; clear n0_ n1_ n2_; (try clear hb); (try clear ho0)) | ((with_reducible refine gate_callee (f := 14) rfl ?_); refine goesL_ (some 486) rfl rfl Try.func14 (by kernel_rfl) rfl #[.slice A6 l6.length c6, .int .i64 a7] rfl (by (try simp only [List.map_toArray, List.map_cons, List.map_nil]); first | done | rfl | (simp only [List.length_drop, List.length_take]; rfl)) ?_; (with_reducible refine (impl_RestsOf.calls kj172 _ _ l6 a7 t367 t368 _ ?side1 ?side2 A201.out).mono ?_); (case side1 => repeat (first | exact (Kd.C_below HR6.out HB.out) | (with_reducible refine Kd.C_alloc ?_ _) | (with_reducible refine Kd.C_drewN ?_ _) | (with_reducible refine Kd.C_drew ?_))); (case side2 => exact HC6.out); rintro e w213 ⟨v369, rfl, ho0, hb⟩; refine ⟨_, rfl, ?_⟩; have n0_ := Aside0.mk (Kd.R_elder' (by (with_reducible repeat (first | apply Kd.R_alloc | apply Kd.R_drewN | apply Kd.R_drew)); exact HO362.out) (Kd.R_base ho0) hb); have n1_ := Aside0.mk (Kd.R_elder' (by (with_reducible repeat (first | apply Kd.R_alloc | apply Kd.R_drewN | apply Kd.R_drew)); exact HO366.out) (Kd.R_base ho0) hb); have n2_ := Aside0.mk (Kd.R_lower (Kd.R_new' (Kd.R_new' ho0 (Kd.R_lt (by (with_reducible repeat (first | apply Kd.R_alloc | apply Kd.R_drewN | apply Kd.R_drew)); exact HO362.out))) (Kd.R_lt (by (with_reducible repeat (first | apply Kd.R_alloc | apply Kd.R_drewN | apply Kd.R_drew)); exact HO366.out))) (below_size (by repeat (first | (with_reducible first | exact HB.out | apply below_alloc | apply pw_below_drewN | apply below_drew1))))); have n3_ := Aside0.mk (below_step (by repeat (first | (with_reducible first | exact HB.out | apply below_alloc | apply pw_below_drewN | apply below_drew1))) hb); clear HO362; clear HO366; clear HB; have HO362 := n0_; have HO366 := n1_; have HO370 := n2_; have HB := n3_; clear n0_ n1_ n2_ n3_; (try clear hb); (try clear ho0)) | ((with_reducible refine gate_callee (f := 26) rfl ?_); refine goesL_ (some 492) rfl rfl Try.func26 (by kernel_rfl) rfl #[.slice A6 l6.length c6, .int .i64 a7] rfl (by (try simp only [List.map_toArray, List.map_cons, List.map_nil]); first | done | rfl | (simp only [List.length_drop, List.length_take]; rfl)) ?_; (with_reducible refine (spec_RestsOf.calls kj172 _ _ l6 a7 t371 t372 _ ?side1 ?side2 A202.out).mono ?_); (case side1 => repeat (first | exact (Kd.C_below HR6.out HB.out) | (with_reducible refine Kd.C_alloc ?_ _) | (with_reducible refine Kd.C_drewN ?_ _) | (with_reducible refine Kd.C_drew ?_))); (case side2 => exact HC6.out); rintro e w214 ⟨v373, rfl, ho0, hb⟩; refine ⟨_, rfl, ?_⟩; have n0_ := Aside0.mk (Kd.R_elder' (by (with_reducible repeat (first | apply Kd.R_alloc | apply Kd.R_drewN | apply Kd.R_drew)); exact HO362.out) (Kd.R_base ho0) hb); have n1_ := Aside0.mk (Kd.R_elder' (by (with_reducible repeat (first | apply Kd.R_alloc | apply Kd.R_drewN | apply Kd.R_drew)); exact HO366.out) (Kd.R_base ho0) hb); have n2_ := Aside0.mk (Kd.R_elder' (by (with_reducible repeat (first | apply Kd.R_alloc | apply Kd.R_drewN | apply Kd.R_drew)); exact HO370.out) (Kd.R_base ho0) hb); have n3_ := Aside0.mk (Kd.R_lower (Kd.R_new' (Kd.R_new' (Kd.R_new' ho0 (Kd.R_lt (by (with_reducible repeat (first | apply Kd.R_alloc | apply Kd.R_drewN | apply Kd.R_drew)); exact HO362.out))) (Kd.R_lt (by (with_reducible repeat (first | apply Kd.R_alloc | apply Kd.R_drewN | apply Kd.R_drew)); exact HO366.out))) (Kd.R_lt (by (with_reducible repeat (first | apply Kd.R_alloc | apply Kd.R_drewN | apply Kd.R_drew)); exact HO370.out))) (below_size (by repeat (first | (with_reducible first | exact HB.out | apply below_alloc | apply pw_below_drewN | apply below_drew1))))); have n4_ := Aside0.mk (below_step (by repeat (first | (with_reducible first | exact HB.out | apply below_alloc | apply pw_below_drewN | apply below_drew1))) hb); clear HO362; clear HO366; clear HO370; clear HB; have HO362 := n0_; have HO366 := n1_; have HO370 := n2_; have HO374 := n3_; have HB := n4_; clear n0_ n1_ n2_ n3_ n4_; (try clear hb); (try clear ho0); obtain ⟨Ao215, co215, eo215⟩ := Kd.R_slice HO362.out; subst eo215; obtain ⟨Ao216, co216, eo216⟩ := Kd.R_slice HO366.out; subst eo216) | (go_at_call 11; (with_reducible refine (laws_tSame.calls kj172 _ _ t359 _ _ t363 true _ ?side1 ?side2 ?side3 ?side4 A204.out).mono ?_); (case side1 => repeat (first | exact (Kd.R_reads' HO362.out).2.2 | (with_reducible refine Kd.C_alloc ?_ _) | (with_reducible refine Kd.C_drewN ?_ _) | (with_reducible refine Kd.C_drew ?_))); (case side2 => exact (Kd.R_reads' HO362.out).2.1); (case side3 => repeat (first | exact (Kd.R_reads' HO366.out).2.2 | (with_reducible refine Kd.C_alloc ?_ _) | (with_reducible refine Kd.C_drewN ?_ _) | (with_reducible refine Kd.C_drew ?_))); (case side4 => exact (Kd.R_reads' HO366.out).2.1); rintro e w' ⟨rfl, ⟨nd, rfl⟩⟩; obtain ⟨Ao217, co217, eo217⟩ := Kd.R_slice HO370.out; subst eo217; obtain ⟨Ao218, co218, eo218⟩ := Kd.R_slice HO374.out; subst eo218) | (go_at_call 11; (with_reducible refine (laws_tSame.calls kj172 _ _ t367 _ _ t371 true _ ?side1 ?side2 ?side3 ?side4 A207.out).mono ?_); (case side1 => repeat (first | exact (Kd.R_reads' HO370.out).2.2 | (with_reducible refine Kd.C_alloc ?_ _) | (with_reducible refine Kd.C_drewN ?_ _) | (with_reducible refine Kd.C_drew ?_))); (case side2 => exact (Kd.R_reads' HO370.out).2.1); (case side3 => repeat (first | exact (Kd.R_reads' HO374.out).2.2 | (with_reducible refine Kd.C_alloc ?_ _) | (with_reducible refine Kd.C_drewN ?_ _) | (with_reducible refine Kd.C_drew ?_))); (case side4 => exact (Kd.R_reads' HO374.out).2.1); rintro e w' ⟨rfl, ⟨nd, rfl⟩⟩) | (go_at_call 15; (with_reducible refine (laws_tRises.calls kj172 _ _ t359 1 a5 t377 _ ?side1 ?side2 A210.out).mono ?_); (case side1 => repeat (first | exact (Kd.R_reads' HO362.out).2.2 | (with_reducible refine Kd.C_alloc ?_ _) | (with_reducible refine Kd.C_drewN ?_ _) | (with_reducible refine Kd.C_drew ?_))); (case side2 => exact (Kd.R_reads' HO362.out).2.1); rintro e w' ⟨rfl, ⟨nd, rfl⟩⟩))
                          go_ret
                          exact ⟨by first | rfl | (simp [errW_none, errW_some] <;> rfl) | (simp [*, errW_none, errW_some] <;> rfl), by repeat (first | (with_reducible first | exact HB.out | apply below_alloc | apply pw_below_drewN | apply below_drew1))⟩
                        ·
                         replace c209 := Bool.eq_false_iff.mpr c209
                         subst c209
                         have H1 : (some true) = some r := by rw [if_neg (show ¬ (false = true) by decide)] at H; exact H
                         clear H
                         have H := H1
                         clear H1
                         first
                         | exact absurd (Option.some.inj (H.trans (congrArg some HRT.out))) Bool.false_ne_true
                         |
                          obtain rfl := Option.some.inj H
                          go_wp2_with (first | ((with_reducible refine gate_callee (f := 24) rfl ?_); refine goesL_ (some 474) rfl rfl Try.func24 (by kernel_rfl) rfl #[.slice A4 l4.length c4, .int .i64 a5] rfl (by (try simp only [List.map_toArray, List.map_cons, List.map_nil]); first | done | rfl | (simp only [List.length_drop, List.length_take]; rfl)) ?_; (with_reducible refine (impl_AddOffsets.calls kj172 _ _ l4 a5 t359 false _ ?side1 ?side2 A199.out).mono ?_); (case side1 => repeat (first | exact (Kd.C_below HR4.out HB.out) | (with_reducible refine Kd.C_alloc ?_ _) | (with_reducible refine Kd.C_drewN ?_ _) | (with_reducible refine Kd.C_drew ?_))); (case side2 => exact HC4.out); rintro e w219 ⟨v361, rfl, ho0, hb⟩; refine ⟨_, rfl, ?_⟩; have n0_ := Aside0.mk (Kd.R_lower ho0 (below_size (by repeat (first | (with_reducible first | exact HB.out | apply below_alloc | apply pw_below_drewN | apply below_drew1))))); have n1_ := Aside0.mk (below_step (by repeat (first | (with_reducible first | exact HB.out | apply below_alloc | apply pw_below_drewN | apply below_drew1))) hb); clear HB; have HO362 := n0_; have HB := n1_; clear n0_ n1_; (try clear hb); (try clear ho0)) | ((with_reducible refine gate_callee (f := 25) rfl ?_); refine goesL_ (some 480) rfl rfl Try.func25 (by kernel_rfl) rfl #[.slice A4 l4.length c4, .int .i64 a5] rfl (by (try simp only [List.map_toArray, List.map_cons, List.map_nil]); first | done | rfl | (simp only [List.length_drop, List.length_take]; rfl)) ?_; (with_reducible refine (spec_AddOffsets.calls kj172 _ _ l4 a5 t363 t364 _ ?side1 ?side2 A200.out).mono ?_); (case side1 => repeat (first | exact (Kd.C_below HR4.out HB.out) | (with_reducible refine Kd.C_alloc ?_ _) | (with_reducible refine Kd.C_drewN ?_ _) | (with_reducible refine Kd.C_drew ?_))); (case side2 => exact HC4.out); rintro e w220 ⟨v365, rfl, ho0, hb⟩; refine ⟨_, rfl, ?_⟩; have n0_ := Aside0.mk (Kd.R_elder' (by (with_reducible repeat (first | apply Kd.R_alloc | apply Kd.R_drewN | apply Kd.R_drew)); exact HO362.out) (Kd.R_base ho0) hb); have n1_ := Aside0.mk (Kd.R_lower (Kd.R_new' ho0 (Kd.R_lt (by (with_reducible repeat (first | apply Kd.R_alloc | apply Kd.R_drewN | apply Kd.R_drew)); exact HO362.out))) (below_size (by repeat (first | (with_reducible first | exact HB.out | apply below_alloc | apply pw_below_drewN | apply below_drew1))))); have n2_ := Aside0.mk (below_step (by repeat (first | (with_reducible first | exact HB.out | apply below_alloc | apply pw_below_drewN | apply below_drew1))) hb); clear HO362; clear HB; have HO362 := n0_; have HO366 := n1_; have HB := n2_; clear n0_ n1_ n2_; (try clear hb); (try clear ho0)) | ((with_reducible refine gate_callee (f := 14) rfl ?_); refine goesL_ (some 486) rfl rfl Try.func14 (by kernel_rfl) rfl #[.slice A6 l6.length c6, .int .i64 a7] rfl (by (try simp only [List.map_toArray, List.map_cons, List.map_nil]); first | done | rfl | (simp only [List.length_drop, List.length_take]; rfl)) ?_; (with_reducible refine (impl_RestsOf.calls kj172 _ _ l6 a7 t367 t368 _ ?side1 ?side2 A201.out).mono ?_); (case side1 => repeat (first | exact (Kd.C_below HR6.out HB.out) | (with_reducible refine Kd.C_alloc ?_ _) | (with_reducible refine Kd.C_drewN ?_ _) | (with_reducible refine Kd.C_drew ?_))); (case side2 => exact HC6.out); rintro e w221 ⟨v369, rfl, ho0, hb⟩; refine ⟨_, rfl, ?_⟩; have n0_ := Aside0.mk (Kd.R_elder' (by (with_reducible repeat (first | apply Kd.R_alloc | apply Kd.R_drewN | apply Kd.R_drew)); exact HO362.out) (Kd.R_base ho0) hb); have n1_ := Aside0.mk (Kd.R_elder' (by (with_reducible repeat (first | apply Kd.R_alloc | apply Kd.R_drewN | apply Kd.R_drew)); exact HO366.out) (Kd.R_base ho0) hb); have n2_ := Aside0.mk (Kd.R_lower (Kd.R_new' (Kd.R_new' ho0 (Kd.R_lt (by (with_reducible repeat (first | apply Kd.R_alloc | apply Kd.R_drewN | apply Kd.R_drew)); exact HO362.out))) (Kd.R_lt (by (with_reducible repeat (first | apply Kd.R_alloc | apply Kd.R_drewN | apply Kd.R_drew)); exact HO366.out))) (below_size (by repeat (first | (with_reducible first | exact HB.out | apply below_alloc | apply pw_below_drewN | apply below_drew1))))); have n3_ := Aside0.mk (below_step (by repeat (first | (with_reducible first | exact HB.out | apply below_alloc | apply pw_below_drewN | apply below_drew1))) hb); clear HO362; clear HO366; clear HB; have HO362 := n0_; have HO366 := n1_; have HO370 := n2_; have HB := n3_; clear n0_ n1_ n2_ n3_; (try clear hb); (try clear ho0)) | ((with_reducible refine gate_callee (f := 26) rfl ?_); refine goesL_ (some 492) rfl rfl Try.func26 (by kernel_rfl) rfl #[.slice A6 l6.length c6, .int .i64 a7] rfl (by (try simp only [List.map_toArray, List.map_cons, List.map_nil]); first | done | rfl | (simp only [List.length_drop, List.length_take]; rfl)) ?_; (with_reducible refine (spec_RestsOf.calls kj172 _ _ l6 a7 t371 t372 _ ?side1 ?side2 A202.out).mono ?_); (case side1 => repeat (first | exact (Kd.C_below HR6.out HB.out) | (with_reducible refine Kd.C_alloc ?_ _) | (with_reducible refine Kd.C_drewN ?_ _) | (with_reducible refine Kd.C_drew ?_))); (case side2 => exact HC6.out); rintro e w222 ⟨v373, rfl, ho0, hb⟩; refine ⟨_, rfl, ?_⟩; have n0_ := Aside0.mk (Kd.R_elder' (by (with_reducible repeat (first | apply Kd.R_alloc | apply Kd.R_drewN | apply Kd.R_drew)); exact HO362.out) (Kd.R_base ho0) hb); have n1_ := Aside0.mk (Kd.R_elder' (by (with_reducible repeat (first | apply Kd.R_alloc | apply Kd.R_drewN | apply Kd.R_drew)); exact HO366.out) (Kd.R_base ho0) hb); have n2_ := Aside0.mk (Kd.R_elder' (by (with_reducible repeat (first | apply Kd.R_alloc | apply Kd.R_drewN | apply Kd.R_drew)); exact HO370.out) (Kd.R_base ho0) hb); have n3_ := Aside0.mk (Kd.R_lower (Kd.R_new' (Kd.R_new' (Kd.R_new' ho0 (Kd.R_lt (by (with_reducible repeat (first | apply Kd.R_alloc | apply Kd.R_drewN | apply Kd.R_drew)); exact HO362.out))) (Kd.R_lt (by (with_reducible repeat (first | apply Kd.R_alloc | apply Kd.R_drewN | apply Kd.R_drew)); exact HO366.out))) (Kd.R_lt (by (with_reducible repeat (first | apply Kd.R_alloc | apply Kd.R_drewN | apply Kd.R_drew)); exact HO370.out))) (below_size (by repeat (first | (with_reducible first | exact HB.out | apply below_alloc | apply pw_below_drewN | apply below_drew1))))); have n4_ := Aside0.mk (below_step (by repeat (first | (with_reducible first | exact HB.out | apply below_alloc | apply pw_below_drewN | apply below_drew1))) hb); clear HO362; clear HO366; clear HO370; clear HB; have HO362 := n0_; have HO366 := n1_; have HO370 := n2_; have HO374 := n3_; have HB := n4_; clear n0_ n1_ n2_ n3_ n4_; (try clear hb); (try clear ho0); obtain ⟨Ao223, co223, eo223⟩ := Kd.R_slice HO362.out; subst eo223; obtain ⟨Ao224, co224, eo224⟩ := Kd.R_slice HO366.out; subst eo224) | (go_at_call 11; (with_reducible refine (laws_tSame.calls kj172 _ _ t359 _ _ t363 true _ ?side1 ?side2 ?side3 ?side4 A204.out).mono ?_); (case side1 => repeat (first | exact (Kd.R_reads' HO362.out).2.2 | (with_reducible refine Kd.C_alloc ?_ _) | (with_reducible refine Kd.C_drewN ?_ _) | (with_reducible refine Kd.C_drew ?_))); (case side2 => exact (Kd.R_reads' HO362.out).2.1); (case side3 => repeat (first | exact (Kd.R_reads' HO366.out).2.2 | (with_reducible refine Kd.C_alloc ?_ _) | (with_reducible refine Kd.C_drewN ?_ _) | (with_reducible refine Kd.C_drew ?_))); (case side4 => exact (Kd.R_reads' HO366.out).2.1); rintro e w' ⟨rfl, ⟨nd, rfl⟩⟩; obtain ⟨Ao225, co225, eo225⟩ := Kd.R_slice HO370.out; subst eo225; obtain ⟨Ao226, co226, eo226⟩ := Kd.R_slice HO374.out; subst eo226) | (go_at_call 11; (with_reducible refine (laws_tSame.calls kj172 _ _ t367 _ _ t371 true _ ?side1 ?side2 ?side3 ?side4 A207.out).mono ?_); (case side1 => repeat (first | exact (Kd.R_reads' HO370.out).2.2 | (with_reducible refine Kd.C_alloc ?_ _) | (with_reducible refine Kd.C_drewN ?_ _) | (with_reducible refine Kd.C_drew ?_))); (case side2 => exact (Kd.R_reads' HO370.out).2.1); (case side3 => repeat (first | exact (Kd.R_reads' HO374.out).2.2 | (with_reducible refine Kd.C_alloc ?_ _) | (with_reducible refine Kd.C_drewN ?_ _) | (with_reducible refine Kd.C_drew ?_))); (case side4 => exact (Kd.R_reads' HO374.out).2.1); rintro e w' ⟨rfl, ⟨nd, rfl⟩⟩))
                          go_ret
                          exact ⟨by first | rfl | (simp [errW_none, errW_some] <;> rfl) | (simp [*, errW_none, errW_some] <;> rfl), by repeat (first | (with_reducible first | exact HB.out | apply below_alloc | apply pw_below_drewN | apply below_drew1))⟩
                       ·
                        replace c208 := Bool.eq_false_iff.mpr c208
                        subst c208
                        have H1 : (some false) = some r := by rw [if_neg (show ¬ (false = true) by decide)] at H; exact H
                        clear H
                        have H := H1
                        clear H1
                        exact absurd (Option.some.inj (H.trans (congrArg some HRT.out))) Bool.false_ne_true
                      ·
                       rw [if_neg c206] at H
                       have c206b0 : (t368 == t372) = false := by simpa using c206
                       (try (have c206b1 : decide (t368 = t372) = false := by simpa using c206))
                       (try (have c206b2 : (t368 == t372) = false := by simpa using c206))
                       (try (have c206b3 : ¬ (t368 = t372) := by simpa using c206))
                       clear c206
                       exact absurd (Option.some.inj (H.trans (congrArg some HRT.out))) Bool.false_ne_true
                     ·
                      replace c205 := Bool.eq_false_iff.mpr c205
                      subst c205
                      have H1 : (some false) = some r := by rw [if_neg (show ¬ (false = true) by decide)] at H; exact H
                      clear H
                      have H := H1
                      clear H1
                      exact absurd (Option.some.inj (H.trans (congrArg some HRT.out))) Bool.false_ne_true
                    ·
                     rw [if_neg c203] at H
                     have c203b0 : (t360 == t364) = false := by simpa using c203
                     (try (have c203b1 : decide (t360 = t364) = false := by simpa using c203))
                     (try (have c203b2 : (t360 == t364) = false := by simpa using c203))
                     (try (have c203b3 : ¬ (t360 = t364) := by simpa using c203))
                     clear c203
                     exact absurd (Option.some.inj (H.trans (congrArg some HRT.out))) Bool.false_ne_true
 
/-- THE ONE PURE STATEMENT of laws_FnPatternsOpenOfAll: yours. -/
def laws_FnPatternsOpenOfAll.Pure : Prop := ∀ (l0 : List Int) (a1 : Int) (a2 : Int) (a3 : Int) (l4 : List Int) (a5 : Int) (l6 : List Int) (a7 : Int), l0.length ≤ maxLen → l0.length * 8 ≤ 140737488351232 → (∀ x ∈ l0, (Lit.int .i64 x).wf = true) → (Lit.int .i64 a1).wf = true → (Lit.int .i64 a2).wf = true → (Lit.int .i64 a3).wf = true → l4.length ≤ maxLen → l4.length * 8 ≤ 140737488351232 → (∀ x ∈ l4, (Lit.int .i64 x).wf = true) → (Lit.int .i64 a5).wf = true → l6.length ≤ maxLen → l6.length * 8 ≤ 140737488351232 → (∀ x ∈ l6, (Lit.int .i64 x).wf = true) → (Lit.int .i64 a7).wf = true → ∃ k, laws_FnPatternsOpenOfAll.f k l0 a1 a2 a3 l4 a5 l6 a7 = some true
theorem laws_FnPatternsOpenOfAll.walk (P : laws_FnPatternsOpenOfAll.Pure) (a0 : Option Addr) (len0 cap0 : Nat) (z0 : List Int) (a1 : Int) (a2 : Int) (a3 : Int) (a4 : Option Addr) (len4 cap4 : Nat) (z4 : List Int) (a5 : Int) (a6 : Option Addr) (len6 cap6 : Nat) (z6 : List Int) (a7 : Int) (w : World) (w0 : (a0 = none ∧ len0 = 0 ∧ cap0 = 0 ∧ z0 = []) ∨ ∃ x, a0 = some x ∧ len0 ≤ cap0 ∧ cap0 ≤ maxLen ∧ z0.length = cap0 ∧ (∀ i, i < z0.length → w.cell? (x.add i) = some (.int .i64 (z0.getD i 0))) ∧ ∀ n ∈ z0, (Lit.int .i64 n).wf = true) (y0 : len0 * 8 ≤ 140737488351232) (w1 : (Lit.int .i64 a1).wf = true) (w2 : (Lit.int .i64 a2).wf = true) (w3 : (Lit.int .i64 a3).wf = true) (w4 : (a4 = none ∧ len4 = 0 ∧ cap4 = 0 ∧ z4 = []) ∨ ∃ x, a4 = some x ∧ len4 ≤ cap4 ∧ cap4 ≤ maxLen ∧ z4.length = cap4 ∧ (∀ i, i < z4.length → w.cell? (x.add i) = some (.int .i64 (z4.getD i 0))) ∧ ∀ n ∈ z4, (Lit.int .i64 n).wf = true) (y4 : len4 * 8 ≤ 140737488351232) (w5 : (Lit.int .i64 a5).wf = true) (w6 : (a6 = none ∧ len6 = 0 ∧ cap6 = 0 ∧ z6 = []) ∨ ∃ x, a6 = some x ∧ len6 ≤ cap6 ∧ cap6 ≤ maxLen ∧ z6.length = cap6 ∧ (∀ i, i < z6.length → w.cell? (x.add i) = some (.int .i64 (z6.getD i 0))) ∧ ∀ n ∈ z6, (Lit.int .i64 n).wf = true) (y6 : len6 * 8 ≤ 140737488351232) (w7 : (Lit.int .i64 a7).wf = true) :
  Calls Try.prog 3 #[.slice a0 len0 cap0, .int .i64 a1, .int .i64 a2, .int .i64 a3, .slice a4 len4 cap4, .int .i64 a5, .slice a6 len6 cap6, .int .i64 a7] w fun e w' => e = .returned (.bool true) ∧ Below w.heap.size w w' := by
 obtain ⟨l0, rfl, hr0, hm0, hw0, hc0⟩ := ReadsInt.ofRowC w0
 obtain ⟨l4, rfl, hr4, hm4, hw4, hc4⟩ := ReadsInt.ofRowC w4
 obtain ⟨l6, rfl, hr6, hm6, hw6, hc6⟩ := ReadsInt.ofRowC w6
 obtain ⟨k, h⟩ := P l0 a1 a2 a3 l4 a5 l6 a7 hm0 y0 hw0 w1 w2 w3 hm4 y4 hw4 w5 hm6 y6 hw6 w7
 refine (laws_FnPatternsOpenOfAll.calls k _ _ l0 a1 a2 a3 _ _ l4 a5 _ _ l6 a7 true w (Kd.C_of_reads (d := (0 : Int)) (h1 := fun _ => rfl) hr0) hc0 (Kd.C_of_reads (d := (0 : Int)) (h1 := fun _ => rfl) hr4) hc4 (Kd.C_of_reads (d := (0 : Int)) (h1 := fun _ => rfl) hr6) hc6 h rfl).mono ?_
 rintro e w' ⟨rfl, hd⟩
 exact ⟨rfl, hd⟩

end Go.Proofs.Ytbdapgjgjllojaa.PFnPatternsOpenOfAll
