-- Written for this claim by a program of this session, out of the translation and given contracts.
import Derived.Test.YtfhfbicejddoiaaPFnSumsOfSquaresOfAllx0
import Derived.Test.YtfhfbicejddoiaaPFnSumsOfSquaresOfAllx1
import Derived.Test.YtfhfbicejddoiaaPFnSumsOfSquaresOfAllx2
import Derived.Test.YtfhfbicejddoiaaPFnSumsOfSquaresOfAllx3
import Derived.Test.YtfhfbicejddoiaaPFnSumsOfSquaresOfAllx4
import Derived.Test.YtfhfbicejddoiaaPFnSumsOfSquaresOfAllx5
import Derived.Test.YtfhfbicejddoiaaPFnSumsOfSquaresOfAllx6
namespace Go.Proofs.Ytfhfbicejddoiaa.PFnSumsOfSquaresOfAll
open Go.RowKit Go.Proofs.YtfhfbicejddoiaaW.PrintWords Go.Proofs.YtfhfbicejddoiaaW.PrintLast Go.Proofs.YtfhfbicejddoiaaW.PrintMore
attribute [local go_sem] max2_int min2_int max_two min_two max_three min_three max_four min_four   -- for this text's walks alone
set_option linter.unusedVariables false
set_option linter.unusedSimpArgs false

/-- A frame of which some slots (by two masks) hold whatever u says. -/
def cutFgt (u : Nat → Value) : List (Option Nat) → List Value → List Value
 | some n :: m, _ :: l => u n :: cutFgt u m l
 | none :: m, v :: l => v :: cutFgt u m l
 | _, l => l
theorem cutF {P : Program} {s : Code} {K : Act → World → Prop} {Q' : Exit → Act → World → Prop} {w : World} {L : List Value} {fr} (m m2 : List (Option Nat)) (R : (Nat → Value) → World → Prop)
  (first : ∀ (J K' : Act → World → Prop), (∀ u w', R u w' → J ⟨(cutFgt u m2 (cutFgt u m L)).toArray, fr⟩ w') → (∀ a' w', Met J a' w' → K' a' w') → s.wp P (Exit.then K' Q') ⟨L.toArray, fr⟩ w)
  (rest : ∀ u w', R u w' → K ⟨(cutFgt u m2 (cutFgt u m L)).toArray, fr⟩ w') : s.wp P (Exit.then K Q') ⟨L.toArray, fr⟩ w := by
 refine wp_cut (fun a' w' => ∃ u, R u w' ∧ a' = ⟨(cutFgt u m2 (cutFgt u m L)).toArray, fr⟩) ?_ ?_
 ·
  rintro _ w' ⟨u, h, rfl⟩
  exact rest u w' h
 ·
  intro J K' h1 h2
  exact first J K' (fun u w' h => h1 _ _ ⟨u, h, rfl⟩) h2
theorem cutMeet {J : Act → World → Prop} {R : (Nat → Value) → World → Prop} {m m2 : List (Option Nat)} {L0 L : List Value} {fr} {w' : World} (h : ∀ u w', R u w' → J ⟨(cutFgt u m2 (cutFgt u m L0)).toArray, fr⟩ w') (hr : R (fun n => L.getD n (.bool false)) w') (he : cutFgt (fun n => L.getD n (.bool false)) m2 (cutFgt (fun n => L.getD n (.bool false)) m L0) = L) : Met J ⟨L.toArray, fr⟩ w' := by
 have := h _ _ hr
 rw [he] at this
 exact this
def mk0 : List (Option Nat) := [none, none, none, none, none, none, none, none, none, none, none, none, none, none, none, none, none, none, none, none, none, none, none, none, none, none, none, none, none, none, none, none, none, none, none, none, none, none, none, none, none, none, none, none, none, none, none, none, none, none, none, none, none, some 53, some 54, some 55, some 56, some 57, some 58, some 59, some 60, some 61, some 62, some 63, some 64, some 65, some 66, some 67, some 68, some 69, some 70, some 71, some 72, some 73, some 74, some 75, some 76, some 77, some 78, some 79, some 80, some 81, some 82, some 83, some 84, some 85, some 86, some 87, some 88, some 89, some 90, some 91, some 92, some 93, some 94, some 95, some 96, some 97, some 98, some 99, some 100, some 101, some 102, some 103, some 104, some 105, some 106, some 107, some 108, some 109, some 110, some 111, some 112, some 113, some 114, some 115, some 116, some 117, some 118, some 119, some 120, some 121, some 122, some 123, some 124, some 125, some 126, some 127, some 128, some 129, some 130, some 131, some 132, some 133, some 134, some 135, some 136, some 137, some 138, some 139, some 140, some 141, some 142, some 143, some 144, some 145, some 146, some 147, some 148, some 149, some 150, some 151, some 152, some 153, some 154, some 155, some 156, some 157, some 158, some 159, some 160, some 161, some 162, some 163, some 164, some 165, some 166, some 167, some 168, some 169, some 170, some 171, some 172, some 173, some 174, some 175, some 176, some 177, some 178, some 179, some 180, some 181, some 182, some 183, some 184, some 185, some 186, some 187, some 188, some 189, some 190, some 191, some 192, some 193, some 194, some 195, some 196, some 197, some 198, some 199, some 200, some 201, some 202, some 203, some 204, some 205, some 206, some 207, some 208, some 209, some 210, some 211, some 212, some 213, some 214, some 215, some 216, some 217, some 218, some 219, some 220, some 221, some 222, some 223, some 224, some 225, some 226, some 227, none, none, none, some 231, some 232, some 233, some 234, some 235, some 236, some 237, some 238, some 239, some 240, some 241, some 242, some 243, some 244, some 245, some 246, some 247, some 248, some 249, some 250, some 251, some 252, some 253, some 254, some 255, some 256, some 257, some 258, some 259, some 260, some 261, some 262, some 263, some 264, some 265, some 266, some 267, some 268, some 269, some 270, some 271, some 272, some 273, some 274, some 275, some 276, some 277, some 278, some 279, some 280, some 281, some 282, some 283, some 284, some 285, some 286, some 287, some 288, some 289, some 290, some 291, some 292, some 293, some 294, some 295, some 296, some 297, some 298, some 299, some 300, some 301, some 302, some 303, some 304, some 305, some 306, some 307, some 308, some 309, some 310, some 311, some 312, some 313, some 314, some 315, some 316, some 317, some 318, some 319, some 320, some 321, some 322, some 323, some 324, some 325, some 326, some 327, some 328, some 329, some 330, some 331, some 332, some 333, some 334, some 335, some 336, some 337, some 338, some 339, some 340, some 341, some 342, some 343, some 344, some 345, some 346, none, none, none, some 350, some 351, some 352, some 353, some 354, some 355, some 356, some 357, some 358, some 359, some 360, some 361, some 362, some 363, some 364, some 365, some 366, some 367, some 368, some 369, some 370, some 371, some 372, some 373, some 374, some 375, some 376, some 377, some 378, some 379, some 380, some 381, some 382, some 383, some 384, some 385, some 386, some 387, some 388, some 389, some 390, some 391, some 392, some 393, some 394, some 395, some 396, some 397, some 398, some 399, some 400, some 401, some 402, some 403, some 404, some 405, some 406, some 407, some 408, some 409, some 410, some 411, some 412, some 413, some 414, some 415, some 416, some 417, some 418, some 419, some 420, some 421, some 422, some 423, some 424, some 425, some 426, some 427, some 428, some 429, none, none, none, some 433, some 434, some 435, some 436, some 437, some 438, some 439, some 440, some 441, some 442, some 443, some 444, some 445, some 446, some 447, some 448, some 449, some 450, some 451, some 452, some 453, some 454, some 455, some 456, some 457, some 458, some 459, some 460, some 461, some 462, some 463, some 464, some 465, some 466, some 467, some 468, some 469, some 470, some 471, some 472]
def mk1 : List (Option Nat) := [none, none, none, none, none, none, none, none, none, none, none, none, none, none, none, none, none, none, none, none, none, none, none, none, none, none, none, none, none, none, none, none, none, none, none, none, none, none, none, none, none, none, none, none, none, none, none, none, none, none, none, none, none, none, none, none, none, none, none, none, none, none, none, none, none, none, none, none, none, none, none, none, none, none, none, none, none, none, none, none, none, none, none, none, none, none, none, none, none, none, none, none, none, none, none, none, none, none, none, none, none, none, none, none, none, none, none, none, none, none, none, none, none, none, none, none, none, none, none, none, none, none, none, none, none, none, none, none, none, none, none, none, none, none, none, none, none, none, none, none, none, none, none, none, none, none, none, none, none, none, none, none, none, none, none, none, none, none, none, none, none, none, none, none, none, none, none, none, none, none, none, none, none, none, none, none, none, none, none, none, none, none, none, none, none, none, none, none, none, none, none, none, none, none, none, none, none, none, none, none, none, none, none, none, none, none, none, none, none, none, none, none, none, none, none, none, none, none, none, none, none, none, none, none, none, none, none, none, none, none, none, none, none, none, none, none, none, none, none, none, none, none, none, none, none, none, none, none, none, none, none, none, none, none, none, none, none, none, none, none, none, none, none, none, none, none, none, none, none, none, none, none, none, none, none, none, none, none, none, none, none, none, none, none, none, none, none, none, none, none, none, none, none, none, none, none, none, none, none, none, none, none, none, none, none, none, none, none, none, none, none, none, none, none, none, none, none, none, none, none, none, none, none, none, none, none, none, none, none, none, none, none, none, none, none, none, none, none, none, none, none, none, none, none, none, none, none, none, none, none, none, none, none, none, none, none, none, none, none, none, none, none, none, none, none, none, none, none, none, none, none, none, none, none, none, none, none, none, none, none, none, none, none, none, none, none, none, none, none, none, none, none, none, none, none, none, none, none, none, none, none, none, none, none, none, none, none, none, none, none, none, none, none, none, none, none, none, none, none, none, none, none, none, none, none, none, none, none, none, none, none, none, none, some 433, some 434, some 435, some 436, some 437, some 438, some 439, some 440, some 441, some 442, some 443, some 444, some 445, some 446, some 447, some 448, some 449, some 450, some 451, some 452, some 453, some 454, some 455, some 456, some 457, some 458, some 459, some 460, some 461, some 462, some 463, some 464, some 465, some 466, some 467, some 468, some 469, some 470, some 471, some 472]
set_option maxHeartbeats 200000000 in
set_option maxRecDepth 100000 in
theorem laws_FnSumsOfSquaresOfAll.calls (k : Nat) (a0 : Int) (a1 : Int) (r : Bool) (w : World) (h : laws_FnSumsOfSquaresOfAll.f k a0 a1 = some r) (hr_ : r = true) :
  Calls Try.prog 9 #[.int .i64 a0, .int .i64 a1] w fun e w' => e = .returned (.bool r) ∧ Below w.heap.size w w' := by
 have HRT := Aside0.mk hr_
 clear hr_
 have HB := Aside0.mk (Below.refl w.heap.size w)
 have H : ((impl_TwoSquares.f k a0).bind fun bt203 => ((spec_TwoSquares.f k a0).bind fun bt207 => ((impl_CountAsTwo.f k a0).bind fun bt211 => ((spec_CountAsTwo.f k a0).bind fun bt213 => ((impl_IsSumOfTwo.f k a0).bind fun bt215 => ((spec_IsSumOfTwo.f k a0).bind fun bt217 => ((impl_IsSumOfThree.f k a0).bind fun bt219 => ((spec_IsSumOfThree.f k a0).bind fun bt221 => ((impl_FourSquares.f k a0).bind fun bt223 => ((spec_FourSquares.f k a0).bind fun bt227 => ((impl_CountAsFour.f k a0).bind fun bt231 => ((spec_CountAsFour.f k a0).bind fun bt233 => ((impl_CountInCircle.f k a0).bind fun bt235 => ((spec_CountInCircle.f k a0).bind fun bt237 => (if (bt203.2 != bt207.2) = true then (j0 k a0 a1 bt203.1 bt203.2 bt211.1 bt215.1 bt219.1 bt223.1 bt223.2 bt231.1 bt235.1 true) else ((laws_tRows.f k bt203.1 bt207.1).bind fun t239 => (if t239 = true then (if (bt211.2 != bt213.2) = true then (j0 k a0 a1 bt203.1 bt203.2 bt211.1 bt215.1 bt219.1 bt223.1 bt223.2 bt231.1 bt235.1 true) else (if bt211.1 = bt213.1 then (if (bt215.2 != bt217.2) = true then (j0 k a0 a1 bt203.1 bt203.2 bt211.1 bt215.1 bt219.1 bt223.1 bt223.2 bt231.1 bt235.1 true) else (if (bt215.1 != bt217.1) = true then (j0 k a0 a1 bt203.1 bt203.2 bt211.1 bt215.1 bt219.1 bt223.1 bt223.2 bt231.1 bt235.1 true) else (if (bt219.2 != bt221.2) = true then (j0 k a0 a1 bt203.1 bt203.2 bt211.1 bt215.1 bt219.1 bt223.1 bt223.2 bt231.1 bt235.1 true) else (if (bt219.1 != bt221.1) = true then (j0 k a0 a1 bt203.1 bt203.2 bt211.1 bt215.1 bt219.1 bt223.1 bt223.2 bt231.1 bt235.1 true) else (if (bt223.2 != bt227.2) = true then (j0 k a0 a1 bt203.1 bt203.2 bt211.1 bt215.1 bt219.1 bt223.1 bt223.2 bt231.1 bt235.1 true) else ((laws_tSame.f k bt223.1 bt227.1).bind fun t240 => (if t240 = true then (if (bt231.2 != bt233.2) = true then (j0 k a0 a1 bt203.1 bt203.2 bt211.1 bt215.1 bt219.1 bt223.1 bt223.2 bt231.1 bt235.1 true) else (if bt231.1 = bt233.1 then (if (bt235.2 != bt237.2) = true then (j0 k a0 a1 bt203.1 bt203.2 bt211.1 bt215.1 bt219.1 bt223.1 bt223.2 bt231.1 bt235.1 true) else (if bt235.1 = bt237.1 then (if (bt211.2 != bt203.2) = true then (j0 k a0 a1 bt203.1 bt203.2 bt211.1 bt215.1 bt219.1 bt223.1 bt223.2 bt231.1 bt235.1 true) else (if (bt215.2 != bt203.2) = true then (j0 k a0 a1 bt203.1 bt203.2 bt211.1 bt215.1 bt219.1 bt223.1 bt223.2 bt231.1 bt235.1 true) else (if (bt219.2 != bt203.2) = true then (j0 k a0 a1 bt203.1 bt203.2 bt211.1 bt215.1 bt219.1 bt223.1 bt223.2 bt231.1 bt235.1 true) else (if bt203.2 = true then (if (bt223.2 != (decide (a0 ≤ 5000))) = true then (j0 k a0 a1 bt203.1 bt203.2 bt211.1 bt215.1 bt219.1 bt223.1 bt223.2 bt231.1 bt235.1 true) else (if (bt231.2 != bt203.2) = true then (j0 k a0 a1 bt203.1 bt203.2 bt211.1 bt215.1 bt219.1 bt223.1 bt223.2 bt231.1 bt235.1 true) else (j0 k a0 a1 bt203.1 bt203.2 bt211.1 bt215.1 bt219.1 bt223.1 bt223.2 bt231.1 bt235.1 (bt235.2 != bt203.2)))) else (if (bt223.2 != false) = true then (j0 k a0 a1 bt203.1 bt203.2 bt211.1 bt215.1 bt219.1 bt223.1 bt223.2 bt231.1 bt235.1 true) else (if (bt231.2 != bt203.2) = true then (j0 k a0 a1 bt203.1 bt203.2 bt211.1 bt215.1 bt219.1 bt223.1 bt223.2 bt231.1 bt235.1 true) else (j0 k a0 a1 bt203.1 bt203.2 bt211.1 bt215.1 bt219.1 bt223.1 bt223.2 bt231.1 bt235.1 (bt235.2 != bt203.2)))))))) else (j0 k a0 a1 bt203.1 bt203.2 bt211.1 bt215.1 bt219.1 bt223.1 bt223.2 bt231.1 bt235.1 true))) else (j0 k a0 a1 bt203.1 bt203.2 bt211.1 bt215.1 bt219.1 bt223.1 bt223.2 bt231.1 bt235.1 true))) else (j0 k a0 a1 bt203.1 bt203.2 bt211.1 bt215.1 bt219.1 bt223.1 bt223.2 bt231.1 bt235.1 true)))))))) else (j0 k a0 a1 bt203.1 bt203.2 bt211.1 bt215.1 bt219.1 bt223.1 bt223.2 bt231.1 bt235.1 true))) else (j0 k a0 a1 bt203.1 bt203.2 bt211.1 bt215.1 bt219.1 bt223.1 bt223.2 bt231.1 bt235.1 true)))))))))))))))))) = some r := h
 clear h
 replace H := Option.bind_eq_some_iff.mp H
 obtain ⟨⟨t203, t204⟩, A30, H⟩ := H
 try dsimp only at H
 have A3 := Aside0.mk A30
 clear A30
 replace H := Option.bind_eq_some_iff.mp H
 obtain ⟨⟨t207, t208⟩, A40, H⟩ := H
 try dsimp only at H
 have A4 := Aside0.mk A40
 clear A40
 replace H := Option.bind_eq_some_iff.mp H
 obtain ⟨⟨t211, t212⟩, A50, H⟩ := H
 try dsimp only at H
 have A5 := Aside0.mk A50
 clear A50
 replace H := Option.bind_eq_some_iff.mp H
 obtain ⟨⟨t213, t214⟩, A60, H⟩ := H
 try dsimp only at H
 have A6 := Aside0.mk A60
 clear A60
 replace H := Option.bind_eq_some_iff.mp H
 obtain ⟨⟨t215, t216⟩, A70, H⟩ := H
 try dsimp only at H
 have A7 := Aside0.mk A70
 clear A70
 replace H := Option.bind_eq_some_iff.mp H
 obtain ⟨⟨t217, t218⟩, A80, H⟩ := H
 try dsimp only at H
 have A8 := Aside0.mk A80
 clear A80
 replace H := Option.bind_eq_some_iff.mp H
 obtain ⟨⟨t219, t220⟩, A90, H⟩ := H
 try dsimp only at H
 have A9 := Aside0.mk A90
 clear A90
 replace H := Option.bind_eq_some_iff.mp H
 obtain ⟨⟨t221, t222⟩, A100, H⟩ := H
 try dsimp only at H
 have A10 := Aside0.mk A100
 clear A100
 replace H := Option.bind_eq_some_iff.mp H
 obtain ⟨⟨t223, t224⟩, A110, H⟩ := H
 try dsimp only at H
 have A11 := Aside0.mk A110
 clear A110
 replace H := Option.bind_eq_some_iff.mp H
 obtain ⟨⟨t227, t228⟩, A120, H⟩ := H
 try dsimp only at H
 have A12 := Aside0.mk A120
 clear A120
 replace H := Option.bind_eq_some_iff.mp H
 obtain ⟨⟨t231, t232⟩, A130, H⟩ := H
 try dsimp only at H
 have A13 := Aside0.mk A130
 clear A130
 replace H := Option.bind_eq_some_iff.mp H
 obtain ⟨⟨t233, t234⟩, A140, H⟩ := H
 try dsimp only at H
 have A14 := Aside0.mk A140
 clear A140
 replace H := Option.bind_eq_some_iff.mp H
 obtain ⟨⟨t235, t236⟩, A150, H⟩ := H
 try dsimp only at H
 have A15 := Aside0.mk A150
 clear A150
 replace H := Option.bind_eq_some_iff.mp H
 obtain ⟨⟨t237, t238⟩, A160, H⟩ := H
 try dsimp only at H
 have A16 := Aside0.mk A160
 clear A160
 have HC17 := Aside0.mk H
 clear H
 go_enter Try.func9, Try.ntmps9
 go_upto_region 15 with (first | (go_at_call 104; (with_reducible refine (impl_TwoSquares.calls k a0 t203 t204 _ A3.out).mono ?_); rintro e w18 ⟨v205, rfl, ho0, hb⟩; have n0_ := Aside0.mk (Kd.S_lower ho0 (below_size (by repeat (first | (with_reducible first | exact HB.out | apply below_alloc | apply pw_below_drewN | apply below_drew1))))); have n1_ := Aside0.mk (below_step (by repeat (first | (with_reducible first | exact HB.out | apply below_alloc | apply pw_below_drewN | apply below_drew1))) hb); clear HB; have HO206 := n0_; have HB := n1_; clear n0_ n1_; (try clear hb); (try clear ho0)) | (go_at_call 105; (with_reducible refine (spec_TwoSquares.calls k a0 t207 t208 _ A4.out).mono ?_); rintro e w19 ⟨v209, rfl, ho0, hb⟩; have n0_ := Aside0.mk (Kd.S_elder' (by (with_reducible repeat (first | apply Kd.S_alloc | apply Kd.S_drewN | apply Kd.S_drew)); exact HO206.out) (Kd.S_base ho0) hb); have n1_ := Aside0.mk (Kd.S_lower (Kd.S_new' ho0 (Kd.S_lt (by (with_reducible repeat (first | apply Kd.S_alloc | apply Kd.S_drewN | apply Kd.S_drew)); exact HO206.out))) (below_size (by repeat (first | (with_reducible first | exact HB.out | apply below_alloc | apply pw_below_drewN | apply below_drew1))))); have n2_ := Aside0.mk (below_step (by repeat (first | (with_reducible first | exact HB.out | apply below_alloc | apply pw_below_drewN | apply below_drew1))) hb); clear HO206; clear HB; have HO206 := n0_; have HO210 := n1_; have HB := n2_; clear n0_ n1_ n2_; (try clear hb); (try clear ho0)) | (go_at_call 106; (with_reducible refine (impl_CountAsTwo.calls k a0 t211 t212 _ A5.out).mono ?_); rintro e w20 ⟨rfl, hb⟩; have n0_ := Aside0.mk (Kd.S_below (by (with_reducible repeat (first | apply Kd.S_alloc | apply Kd.S_drewN | apply Kd.S_drew)); exact HO206.out) hb); have n1_ := Aside0.mk (Kd.S_below (by (with_reducible repeat (first | apply Kd.S_alloc | apply Kd.S_drewN | apply Kd.S_drew)); exact HO210.out) hb); have n2_ := Aside0.mk (below_step (by repeat (first | (with_reducible first | exact HB.out | apply below_alloc | apply pw_below_drewN | apply below_drew1))) hb); clear HO206; clear HO210; clear HB; have HO206 := n0_; have HO210 := n1_; have HB := n2_; clear n0_ n1_ n2_; (try clear hb)) | (go_at_call 107; (with_reducible refine (spec_CountAsTwo.calls k a0 t213 t214 _ A6.out).mono ?_); rintro e w' ⟨rfl, ⟨nd, rfl⟩⟩; (try first | exact ⟨rfl, _, World.drewN_drewN _ _ _⟩ | exact ⟨rfl, _, Eq.trans (World.drewN_drewN _ _ _) (congrArg (World.drewN _) (Nat.add_assoc _ _ _))⟩)) | (go_at_call 108; (with_reducible refine (impl_IsSumOfTwo.calls k a0 t215 t216 _ A7.out).mono ?_); rintro e w21 ⟨rfl, hb⟩; have n0_ := Aside0.mk (Kd.S_below (by (with_reducible repeat (first | apply Kd.S_alloc | apply Kd.S_drewN | apply Kd.S_drew)); exact HO206.out) hb); have n1_ := Aside0.mk (Kd.S_below (by (with_reducible repeat (first | apply Kd.S_alloc | apply Kd.S_drewN | apply Kd.S_drew)); exact HO210.out) hb); have n2_ := Aside0.mk (below_step (by repeat (first | (with_reducible first | exact HB.out | apply below_alloc | apply pw_below_drewN | apply below_drew1))) hb); clear HO206; clear HO210; clear HB; have HO206 := n0_; have HO210 := n1_; have HB := n2_; clear n0_ n1_ n2_; (try clear hb)) | (go_at_call 109; (with_reducible refine (spec_IsSumOfTwo.calls k a0 t217 t218 _ A8.out).mono ?_); rintro e w' ⟨rfl, ⟨nd, rfl⟩⟩; (try first | exact ⟨rfl, _, World.drewN_drewN _ _ _⟩ | exact ⟨rfl, _, Eq.trans (World.drewN_drewN _ _ _) (congrArg (World.drewN _) (Nat.add_assoc _ _ _))⟩)) | (go_at_call 110; (with_reducible refine (impl_IsSumOfThree.calls k a0 t219 t220 _ A9.out).mono ?_); rintro e w' ⟨rfl, ⟨nd, rfl⟩⟩; (try first | exact ⟨rfl, _, World.drewN_drewN _ _ _⟩ | exact ⟨rfl, _, Eq.trans (World.drewN_drewN _ _ _) (congrArg (World.drewN _) (Nat.add_assoc _ _ _))⟩)) | (go_at_call 111; (with_reducible refine (spec_IsSumOfThree.calls k a0 t221 t222 _ A10.out).mono ?_); rintro e w' ⟨rfl, ⟨nd, rfl⟩⟩; (try first | exact ⟨rfl, _, World.drewN_drewN _ _ _⟩ | exact ⟨rfl, _, Eq.trans (World.drewN_drewN _ _ _) (congrArg (World.drewN _) (Nat.add_assoc _ _ _))⟩)) | (go_at_call 112; (with_reducible refine (impl_FourSquares.calls k a0 t223 t224 _ A11.out).mono ?_); rintro e w22 ⟨v225, rfl, ho0, hb⟩; have n0_ := Aside0.mk (Kd.S_elder' (by (with_reducible repeat (first | apply Kd.S_alloc | apply Kd.S_drewN | apply Kd.S_drew)); exact HO206.out) (Kd.R_base ho0) hb); have n1_ := Aside0.mk (Kd.S_elder' (by (with_reducible repeat (first | apply Kd.S_alloc | apply Kd.S_drewN | apply Kd.S_drew)); exact HO210.out) (Kd.R_base ho0) hb); have n2_ := Aside0.mk (Kd.R_lower ho0 (below_size (by repeat (first | (with_reducible first | exact HB.out | apply below_alloc | apply pw_below_drewN | apply below_drew1))))); have n3_ := Aside0.mk (below_step (by repeat (first | (with_reducible first | exact HB.out | apply below_alloc | apply pw_below_drewN | apply below_drew1))) hb); clear HO206; clear HO210; clear HB; have HO206 := n0_; have HO210 := n1_; have HO226 := n2_; have HB := n3_; clear n0_ n1_ n2_ n3_; (try clear hb); (try clear ho0)) | (go_at_call 113; (with_reducible refine (spec_FourSquares.calls k a0 t227 t228 _ A12.out).mono ?_); rintro e w23 ⟨v229, rfl, ho0, hb⟩; have n0_ := Aside0.mk (Kd.S_elder' (by (with_reducible repeat (first | apply Kd.S_alloc | apply Kd.S_drewN | apply Kd.S_drew)); exact HO206.out) (Kd.R_base ho0) hb); have n1_ := Aside0.mk (Kd.S_elder' (by (with_reducible repeat (first | apply Kd.S_alloc | apply Kd.S_drewN | apply Kd.S_drew)); exact HO210.out) (Kd.R_base ho0) hb); have n2_ := Aside0.mk (Kd.R_elder' (by (with_reducible repeat (first | apply Kd.R_alloc | apply Kd.R_drewN | apply Kd.R_drew)); exact HO226.out) (Kd.R_base ho0) hb); have n3_ := Aside0.mk (Kd.R_lower (Kd.R_new' ho0 (Kd.R_lt (by (with_reducible repeat (first | apply Kd.R_alloc | apply Kd.R_drewN | apply Kd.R_drew)); exact HO226.out))) (below_size (by repeat (first | (with_reducible first | exact HB.out | apply below_alloc | apply pw_below_drewN | apply below_drew1))))); have n4_ := Aside0.mk (below_step (by repeat (first | (with_reducible first | exact HB.out | apply below_alloc | apply pw_below_drewN | apply below_drew1))) hb); clear HO206; clear HO210; clear HO226; clear HB; have HO206 := n0_; have HO210 := n1_; have HO226 := n2_; have HO230 := n3_; have HB := n4_; clear n0_ n1_ n2_ n3_ n4_; (try clear hb); (try clear ho0)) | (go_at_call 114; (with_reducible refine (impl_CountAsFour.calls k a0 t231 t232 _ A13.out).mono ?_); rintro e w24 ⟨rfl, hb⟩; have n0_ := Aside0.mk (Kd.S_below (by (with_reducible repeat (first | apply Kd.S_alloc | apply Kd.S_drewN | apply Kd.S_drew)); exact HO206.out) hb); have n1_ := Aside0.mk (Kd.S_below (by (with_reducible repeat (first | apply Kd.S_alloc | apply Kd.S_drewN | apply Kd.S_drew)); exact HO210.out) hb); have n2_ := Aside0.mk (Kd.R_below (by (with_reducible repeat (first | apply Kd.R_alloc | apply Kd.R_drewN | apply Kd.R_drew)); exact HO226.out) hb); have n3_ := Aside0.mk (Kd.R_below (by (with_reducible repeat (first | apply Kd.R_alloc | apply Kd.R_drewN | apply Kd.R_drew)); exact HO230.out) hb); have n4_ := Aside0.mk (below_step (by repeat (first | (with_reducible first | exact HB.out | apply below_alloc | apply pw_below_drewN | apply below_drew1))) hb); clear HO206; clear HO210; clear HO226; clear HO230; clear HB; have HO206 := n0_; have HO210 := n1_; have HO226 := n2_; have HO230 := n3_; have HB := n4_; clear n0_ n1_ n2_ n3_ n4_; (try clear hb)) | (go_at_call 115; (with_reducible refine (spec_CountAsFour.calls k a0 t233 t234 _ A14.out).mono ?_); rintro e w' ⟨rfl, ⟨nd, rfl⟩⟩; (try first | exact ⟨rfl, _, World.drewN_drewN _ _ _⟩ | exact ⟨rfl, _, Eq.trans (World.drewN_drewN _ _ _) (congrArg (World.drewN _) (Nat.add_assoc _ _ _))⟩)) | (go_at_call 116; (with_reducible refine (impl_CountInCircle.calls k a0 t235 t236 _ A15.out).mono ?_); rintro e w' ⟨rfl, ⟨nd, rfl⟩⟩; (try first | exact ⟨rfl, _, World.drewN_drewN _ _ _⟩ | exact ⟨rfl, _, Eq.trans (World.drewN_drewN _ _ _) (congrArg (World.drewN _) (Nat.add_assoc _ _ _))⟩)) | (go_at_call 117; (with_reducible refine (spec_CountInCircle.calls k a0 t237 t238 _ A16.out).mono ?_); rintro e w' ⟨rfl, ⟨nd, rfl⟩⟩; (try first | exact ⟨rfl, _, World.drewN_drewN _ _ _⟩ | exact ⟨rfl, _, Eq.trans (World.drewN_drewN _ _ _) (congrArg (World.drewN _) (Nat.add_assoc _ _ _))⟩)))
 repeat (go_quiet (first | (go_at_call 104; (with_reducible refine (impl_TwoSquares.calls k a0 t203 t204 _ A3.out).mono ?_); rintro e w18 ⟨v205, rfl, ho0, hb⟩; have n0_ := Aside0.mk (Kd.S_lower ho0 (below_size (by repeat (first | (with_reducible first | exact HB.out | apply below_alloc | apply pw_below_drewN | apply below_drew1))))); have n1_ := Aside0.mk (below_step (by repeat (first | (with_reducible first | exact HB.out | apply below_alloc | apply pw_below_drewN | apply below_drew1))) hb); clear HB; have HO206 := n0_; have HB := n1_; clear n0_ n1_; (try clear hb); (try clear ho0)) | (go_at_call 105; (with_reducible refine (spec_TwoSquares.calls k a0 t207 t208 _ A4.out).mono ?_); rintro e w19 ⟨v209, rfl, ho0, hb⟩; have n0_ := Aside0.mk (Kd.S_elder' (by (with_reducible repeat (first | apply Kd.S_alloc | apply Kd.S_drewN | apply Kd.S_drew)); exact HO206.out) (Kd.S_base ho0) hb); have n1_ := Aside0.mk (Kd.S_lower (Kd.S_new' ho0 (Kd.S_lt (by (with_reducible repeat (first | apply Kd.S_alloc | apply Kd.S_drewN | apply Kd.S_drew)); exact HO206.out))) (below_size (by repeat (first | (with_reducible first | exact HB.out | apply below_alloc | apply pw_below_drewN | apply below_drew1))))); have n2_ := Aside0.mk (below_step (by repeat (first | (with_reducible first | exact HB.out | apply below_alloc | apply pw_below_drewN | apply below_drew1))) hb); clear HO206; clear HB; have HO206 := n0_; have HO210 := n1_; have HB := n2_; clear n0_ n1_ n2_; (try clear hb); (try clear ho0)) | (go_at_call 106; (with_reducible refine (impl_CountAsTwo.calls k a0 t211 t212 _ A5.out).mono ?_); rintro e w20 ⟨rfl, hb⟩; have n0_ := Aside0.mk (Kd.S_below (by (with_reducible repeat (first | apply Kd.S_alloc | apply Kd.S_drewN | apply Kd.S_drew)); exact HO206.out) hb); have n1_ := Aside0.mk (Kd.S_below (by (with_reducible repeat (first | apply Kd.S_alloc | apply Kd.S_drewN | apply Kd.S_drew)); exact HO210.out) hb); have n2_ := Aside0.mk (below_step (by repeat (first | (with_reducible first | exact HB.out | apply below_alloc | apply pw_below_drewN | apply below_drew1))) hb); clear HO206; clear HO210; clear HB; have HO206 := n0_; have HO210 := n1_; have HB := n2_; clear n0_ n1_ n2_; (try clear hb)) | (go_at_call 107; (with_reducible refine (spec_CountAsTwo.calls k a0 t213 t214 _ A6.out).mono ?_); rintro e w' ⟨rfl, ⟨nd, rfl⟩⟩; (try first | exact ⟨rfl, _, World.drewN_drewN _ _ _⟩ | exact ⟨rfl, _, Eq.trans (World.drewN_drewN _ _ _) (congrArg (World.drewN _) (Nat.add_assoc _ _ _))⟩)) | (go_at_call 108; (with_reducible refine (impl_IsSumOfTwo.calls k a0 t215 t216 _ A7.out).mono ?_); rintro e w21 ⟨rfl, hb⟩; have n0_ := Aside0.mk (Kd.S_below (by (with_reducible repeat (first | apply Kd.S_alloc | apply Kd.S_drewN | apply Kd.S_drew)); exact HO206.out) hb); have n1_ := Aside0.mk (Kd.S_below (by (with_reducible repeat (first | apply Kd.S_alloc | apply Kd.S_drewN | apply Kd.S_drew)); exact HO210.out) hb); have n2_ := Aside0.mk (below_step (by repeat (first | (with_reducible first | exact HB.out | apply below_alloc | apply pw_below_drewN | apply below_drew1))) hb); clear HO206; clear HO210; clear HB; have HO206 := n0_; have HO210 := n1_; have HB := n2_; clear n0_ n1_ n2_; (try clear hb)) | (go_at_call 109; (with_reducible refine (spec_IsSumOfTwo.calls k a0 t217 t218 _ A8.out).mono ?_); rintro e w' ⟨rfl, ⟨nd, rfl⟩⟩; (try first | exact ⟨rfl, _, World.drewN_drewN _ _ _⟩ | exact ⟨rfl, _, Eq.trans (World.drewN_drewN _ _ _) (congrArg (World.drewN _) (Nat.add_assoc _ _ _))⟩)) | (go_at_call 110; (with_reducible refine (impl_IsSumOfThree.calls k a0 t219 t220 _ A9.out).mono ?_); rintro e w' ⟨rfl, ⟨nd, rfl⟩⟩; (try first | exact ⟨rfl, _, World.drewN_drewN _ _ _⟩ | exact ⟨rfl, _, Eq.trans (World.drewN_drewN _ _ _) (congrArg (World.drewN _) (Nat.add_assoc _ _ _))⟩)) | (go_at_call 111; (with_reducible refine (spec_IsSumOfThree.calls k a0 t221 t222 _ A10.out).mono ?_); rintro e w' ⟨rfl, ⟨nd, rfl⟩⟩; (try first | exact ⟨rfl, _, World.drewN_drewN _ _ _⟩ | exact ⟨rfl, _, Eq.trans (World.drewN_drewN _ _ _) (congrArg (World.drewN _) (Nat.add_assoc _ _ _))⟩)) | (go_at_call 112; (with_reducible refine (impl_FourSquares.calls k a0 t223 t224 _ A11.out).mono ?_); rintro e w22 ⟨v225, rfl, ho0, hb⟩; have n0_ := Aside0.mk (Kd.S_elder' (by (with_reducible repeat (first | apply Kd.S_alloc | apply Kd.S_drewN | apply Kd.S_drew)); exact HO206.out) (Kd.R_base ho0) hb); have n1_ := Aside0.mk (Kd.S_elder' (by (with_reducible repeat (first | apply Kd.S_alloc | apply Kd.S_drewN | apply Kd.S_drew)); exact HO210.out) (Kd.R_base ho0) hb); have n2_ := Aside0.mk (Kd.R_lower ho0 (below_size (by repeat (first | (with_reducible first | exact HB.out | apply below_alloc | apply pw_below_drewN | apply below_drew1))))); have n3_ := Aside0.mk (below_step (by repeat (first | (with_reducible first | exact HB.out | apply below_alloc | apply pw_below_drewN | apply below_drew1))) hb); clear HO206; clear HO210; clear HB; have HO206 := n0_; have HO210 := n1_; have HO226 := n2_; have HB := n3_; clear n0_ n1_ n2_ n3_; (try clear hb); (try clear ho0)) | (go_at_call 113; (with_reducible refine (spec_FourSquares.calls k a0 t227 t228 _ A12.out).mono ?_); rintro e w23 ⟨v229, rfl, ho0, hb⟩; have n0_ := Aside0.mk (Kd.S_elder' (by (with_reducible repeat (first | apply Kd.S_alloc | apply Kd.S_drewN | apply Kd.S_drew)); exact HO206.out) (Kd.R_base ho0) hb); have n1_ := Aside0.mk (Kd.S_elder' (by (with_reducible repeat (first | apply Kd.S_alloc | apply Kd.S_drewN | apply Kd.S_drew)); exact HO210.out) (Kd.R_base ho0) hb); have n2_ := Aside0.mk (Kd.R_elder' (by (with_reducible repeat (first | apply Kd.R_alloc | apply Kd.R_drewN | apply Kd.R_drew)); exact HO226.out) (Kd.R_base ho0) hb); have n3_ := Aside0.mk (Kd.R_lower (Kd.R_new' ho0 (Kd.R_lt (by (with_reducible repeat (first | apply Kd.R_alloc | apply Kd.R_drewN | apply Kd.R_drew)); exact HO226.out))) (below_size (by repeat (first | (with_reducible first | exact HB.out | apply below_alloc | apply pw_below_drewN | apply below_drew1))))); have n4_ := Aside0.mk (below_step (by repeat (first | (with_reducible first | exact HB.out | apply below_alloc | apply pw_below_drewN | apply below_drew1))) hb); clear HO206; clear HO210; clear HO226; clear HB; have HO206 := n0_; have HO210 := n1_; have HO226 := n2_; have HO230 := n3_; have HB := n4_; clear n0_ n1_ n2_ n3_ n4_; (try clear hb); (try clear ho0)) | (go_at_call 114; (with_reducible refine (impl_CountAsFour.calls k a0 t231 t232 _ A13.out).mono ?_); rintro e w24 ⟨rfl, hb⟩; have n0_ := Aside0.mk (Kd.S_below (by (with_reducible repeat (first | apply Kd.S_alloc | apply Kd.S_drewN | apply Kd.S_drew)); exact HO206.out) hb); have n1_ := Aside0.mk (Kd.S_below (by (with_reducible repeat (first | apply Kd.S_alloc | apply Kd.S_drewN | apply Kd.S_drew)); exact HO210.out) hb); have n2_ := Aside0.mk (Kd.R_below (by (with_reducible repeat (first | apply Kd.R_alloc | apply Kd.R_drewN | apply Kd.R_drew)); exact HO226.out) hb); have n3_ := Aside0.mk (Kd.R_below (by (with_reducible repeat (first | apply Kd.R_alloc | apply Kd.R_drewN | apply Kd.R_drew)); exact HO230.out) hb); have n4_ := Aside0.mk (below_step (by repeat (first | (with_reducible first | exact HB.out | apply below_alloc | apply pw_below_drewN | apply below_drew1))) hb); clear HO206; clear HO210; clear HO226; clear HO230; clear HB; have HO206 := n0_; have HO210 := n1_; have HO226 := n2_; have HO230 := n3_; have HB := n4_; clear n0_ n1_ n2_ n3_ n4_; (try clear hb)) | (go_at_call 115; (with_reducible refine (spec_CountAsFour.calls k a0 t233 t234 _ A14.out).mono ?_); rintro e w' ⟨rfl, ⟨nd, rfl⟩⟩; (try first | exact ⟨rfl, _, World.drewN_drewN _ _ _⟩ | exact ⟨rfl, _, Eq.trans (World.drewN_drewN _ _ _) (congrArg (World.drewN _) (Nat.add_assoc _ _ _))⟩)) | (go_at_call 116; (with_reducible refine (impl_CountInCircle.calls k a0 t235 t236 _ A15.out).mono ?_); rintro e w' ⟨rfl, ⟨nd, rfl⟩⟩; (try first | exact ⟨rfl, _, World.drewN_drewN _ _ _⟩ | exact ⟨rfl, _, Eq.trans (World.drewN_drewN _ _ _) (congrArg (World.drewN _) (Nat.add_assoc _ _ _))⟩)) | (go_at_call 117; (with_reducible refine (spec_CountInCircle.calls k a0 t237 t238 _ A16.out).mono ?_); rintro e w' ⟨rfl, ⟨nd, rfl⟩⟩; (try first | exact ⟨rfl, _, World.drewN_drewN _ _ _⟩ | exact ⟨rfl, _, Eq.trans (World.drewN_drewN _ _ _) (congrArg (World.drewN _) (Nat.add_assoc _ _ _))⟩))); go_upto_region 15 with (first | (go_at_call 104; (with_reducible refine (impl_TwoSquares.calls k a0 t203 t204 _ A3.out).mono ?_); rintro e w18 ⟨v205, rfl, ho0, hb⟩; have n0_ := Aside0.mk (Kd.S_lower ho0 (below_size (by repeat (first | (with_reducible first | exact HB.out | apply below_alloc | apply pw_below_drewN | apply below_drew1))))); have n1_ := Aside0.mk (below_step (by repeat (first | (with_reducible first | exact HB.out | apply below_alloc | apply pw_below_drewN | apply below_drew1))) hb); clear HB; have HO206 := n0_; have HB := n1_; clear n0_ n1_; (try clear hb); (try clear ho0)) | (go_at_call 105; (with_reducible refine (spec_TwoSquares.calls k a0 t207 t208 _ A4.out).mono ?_); rintro e w19 ⟨v209, rfl, ho0, hb⟩; have n0_ := Aside0.mk (Kd.S_elder' (by (with_reducible repeat (first | apply Kd.S_alloc | apply Kd.S_drewN | apply Kd.S_drew)); exact HO206.out) (Kd.S_base ho0) hb); have n1_ := Aside0.mk (Kd.S_lower (Kd.S_new' ho0 (Kd.S_lt (by (with_reducible repeat (first | apply Kd.S_alloc | apply Kd.S_drewN | apply Kd.S_drew)); exact HO206.out))) (below_size (by repeat (first | (with_reducible first | exact HB.out | apply below_alloc | apply pw_below_drewN | apply below_drew1))))); have n2_ := Aside0.mk (below_step (by repeat (first | (with_reducible first | exact HB.out | apply below_alloc | apply pw_below_drewN | apply below_drew1))) hb); clear HO206; clear HB; have HO206 := n0_; have HO210 := n1_; have HB := n2_; clear n0_ n1_ n2_; (try clear hb); (try clear ho0)) | (go_at_call 106; (with_reducible refine (impl_CountAsTwo.calls k a0 t211 t212 _ A5.out).mono ?_); rintro e w20 ⟨rfl, hb⟩; have n0_ := Aside0.mk (Kd.S_below (by (with_reducible repeat (first | apply Kd.S_alloc | apply Kd.S_drewN | apply Kd.S_drew)); exact HO206.out) hb); have n1_ := Aside0.mk (Kd.S_below (by (with_reducible repeat (first | apply Kd.S_alloc | apply Kd.S_drewN | apply Kd.S_drew)); exact HO210.out) hb); have n2_ := Aside0.mk (below_step (by repeat (first | (with_reducible first | exact HB.out | apply below_alloc | apply pw_below_drewN | apply below_drew1))) hb); clear HO206; clear HO210; clear HB; have HO206 := n0_; have HO210 := n1_; have HB := n2_; clear n0_ n1_ n2_; (try clear hb)) | (go_at_call 107; (with_reducible refine (spec_CountAsTwo.calls k a0 t213 t214 _ A6.out).mono ?_); rintro e w' ⟨rfl, ⟨nd, rfl⟩⟩; (try first | exact ⟨rfl, _, World.drewN_drewN _ _ _⟩ | exact ⟨rfl, _, Eq.trans (World.drewN_drewN _ _ _) (congrArg (World.drewN _) (Nat.add_assoc _ _ _))⟩)) | (go_at_call 108; (with_reducible refine (impl_IsSumOfTwo.calls k a0 t215 t216 _ A7.out).mono ?_); rintro e w21 ⟨rfl, hb⟩; have n0_ := Aside0.mk (Kd.S_below (by (with_reducible repeat (first | apply Kd.S_alloc | apply Kd.S_drewN | apply Kd.S_drew)); exact HO206.out) hb); have n1_ := Aside0.mk (Kd.S_below (by (with_reducible repeat (first | apply Kd.S_alloc | apply Kd.S_drewN | apply Kd.S_drew)); exact HO210.out) hb); have n2_ := Aside0.mk (below_step (by repeat (first | (with_reducible first | exact HB.out | apply below_alloc | apply pw_below_drewN | apply below_drew1))) hb); clear HO206; clear HO210; clear HB; have HO206 := n0_; have HO210 := n1_; have HB := n2_; clear n0_ n1_ n2_; (try clear hb)) | (go_at_call 109; (with_reducible refine (spec_IsSumOfTwo.calls k a0 t217 t218 _ A8.out).mono ?_); rintro e w' ⟨rfl, ⟨nd, rfl⟩⟩; (try first | exact ⟨rfl, _, World.drewN_drewN _ _ _⟩ | exact ⟨rfl, _, Eq.trans (World.drewN_drewN _ _ _) (congrArg (World.drewN _) (Nat.add_assoc _ _ _))⟩)) | (go_at_call 110; (with_reducible refine (impl_IsSumOfThree.calls k a0 t219 t220 _ A9.out).mono ?_); rintro e w' ⟨rfl, ⟨nd, rfl⟩⟩; (try first | exact ⟨rfl, _, World.drewN_drewN _ _ _⟩ | exact ⟨rfl, _, Eq.trans (World.drewN_drewN _ _ _) (congrArg (World.drewN _) (Nat.add_assoc _ _ _))⟩)) | (go_at_call 111; (with_reducible refine (spec_IsSumOfThree.calls k a0 t221 t222 _ A10.out).mono ?_); rintro e w' ⟨rfl, ⟨nd, rfl⟩⟩; (try first | exact ⟨rfl, _, World.drewN_drewN _ _ _⟩ | exact ⟨rfl, _, Eq.trans (World.drewN_drewN _ _ _) (congrArg (World.drewN _) (Nat.add_assoc _ _ _))⟩)) | (go_at_call 112; (with_reducible refine (impl_FourSquares.calls k a0 t223 t224 _ A11.out).mono ?_); rintro e w22 ⟨v225, rfl, ho0, hb⟩; have n0_ := Aside0.mk (Kd.S_elder' (by (with_reducible repeat (first | apply Kd.S_alloc | apply Kd.S_drewN | apply Kd.S_drew)); exact HO206.out) (Kd.R_base ho0) hb); have n1_ := Aside0.mk (Kd.S_elder' (by (with_reducible repeat (first | apply Kd.S_alloc | apply Kd.S_drewN | apply Kd.S_drew)); exact HO210.out) (Kd.R_base ho0) hb); have n2_ := Aside0.mk (Kd.R_lower ho0 (below_size (by repeat (first | (with_reducible first | exact HB.out | apply below_alloc | apply pw_below_drewN | apply below_drew1))))); have n3_ := Aside0.mk (below_step (by repeat (first | (with_reducible first | exact HB.out | apply below_alloc | apply pw_below_drewN | apply below_drew1))) hb); clear HO206; clear HO210; clear HB; have HO206 := n0_; have HO210 := n1_; have HO226 := n2_; have HB := n3_; clear n0_ n1_ n2_ n3_; (try clear hb); (try clear ho0)) | (go_at_call 113; (with_reducible refine (spec_FourSquares.calls k a0 t227 t228 _ A12.out).mono ?_); rintro e w23 ⟨v229, rfl, ho0, hb⟩; have n0_ := Aside0.mk (Kd.S_elder' (by (with_reducible repeat (first | apply Kd.S_alloc | apply Kd.S_drewN | apply Kd.S_drew)); exact HO206.out) (Kd.R_base ho0) hb); have n1_ := Aside0.mk (Kd.S_elder' (by (with_reducible repeat (first | apply Kd.S_alloc | apply Kd.S_drewN | apply Kd.S_drew)); exact HO210.out) (Kd.R_base ho0) hb); have n2_ := Aside0.mk (Kd.R_elder' (by (with_reducible repeat (first | apply Kd.R_alloc | apply Kd.R_drewN | apply Kd.R_drew)); exact HO226.out) (Kd.R_base ho0) hb); have n3_ := Aside0.mk (Kd.R_lower (Kd.R_new' ho0 (Kd.R_lt (by (with_reducible repeat (first | apply Kd.R_alloc | apply Kd.R_drewN | apply Kd.R_drew)); exact HO226.out))) (below_size (by repeat (first | (with_reducible first | exact HB.out | apply below_alloc | apply pw_below_drewN | apply below_drew1))))); have n4_ := Aside0.mk (below_step (by repeat (first | (with_reducible first | exact HB.out | apply below_alloc | apply pw_below_drewN | apply below_drew1))) hb); clear HO206; clear HO210; clear HO226; clear HB; have HO206 := n0_; have HO210 := n1_; have HO226 := n2_; have HO230 := n3_; have HB := n4_; clear n0_ n1_ n2_ n3_ n4_; (try clear hb); (try clear ho0)) | (go_at_call 114; (with_reducible refine (impl_CountAsFour.calls k a0 t231 t232 _ A13.out).mono ?_); rintro e w24 ⟨rfl, hb⟩; have n0_ := Aside0.mk (Kd.S_below (by (with_reducible repeat (first | apply Kd.S_alloc | apply Kd.S_drewN | apply Kd.S_drew)); exact HO206.out) hb); have n1_ := Aside0.mk (Kd.S_below (by (with_reducible repeat (first | apply Kd.S_alloc | apply Kd.S_drewN | apply Kd.S_drew)); exact HO210.out) hb); have n2_ := Aside0.mk (Kd.R_below (by (with_reducible repeat (first | apply Kd.R_alloc | apply Kd.R_drewN | apply Kd.R_drew)); exact HO226.out) hb); have n3_ := Aside0.mk (Kd.R_below (by (with_reducible repeat (first | apply Kd.R_alloc | apply Kd.R_drewN | apply Kd.R_drew)); exact HO230.out) hb); have n4_ := Aside0.mk (below_step (by repeat (first | (with_reducible first | exact HB.out | apply below_alloc | apply pw_below_drewN | apply below_drew1))) hb); clear HO206; clear HO210; clear HO226; clear HO230; clear HB; have HO206 := n0_; have HO210 := n1_; have HO226 := n2_; have HO230 := n3_; have HB := n4_; clear n0_ n1_ n2_ n3_ n4_; (try clear hb)) | (go_at_call 115; (with_reducible refine (spec_CountAsFour.calls k a0 t233 t234 _ A14.out).mono ?_); rintro e w' ⟨rfl, ⟨nd, rfl⟩⟩; (try first | exact ⟨rfl, _, World.drewN_drewN _ _ _⟩ | exact ⟨rfl, _, Eq.trans (World.drewN_drewN _ _ _) (congrArg (World.drewN _) (Nat.add_assoc _ _ _))⟩)) | (go_at_call 116; (with_reducible refine (impl_CountInCircle.calls k a0 t235 t236 _ A15.out).mono ?_); rintro e w' ⟨rfl, ⟨nd, rfl⟩⟩; (try first | exact ⟨rfl, _, World.drewN_drewN _ _ _⟩ | exact ⟨rfl, _, Eq.trans (World.drewN_drewN _ _ _) (congrArg (World.drewN _) (Nat.add_assoc _ _ _))⟩)) | (go_at_call 117; (with_reducible refine (spec_CountInCircle.calls k a0 t237 t238 _ A16.out).mono ?_); rintro e w' ⟨rfl, ⟨nd, rfl⟩⟩; (try first | exact ⟨rfl, _, World.drewN_drewN _ _ _⟩ | exact ⟨rfl, _, Eq.trans (World.drewN_drewN _ _ _) (congrArg (World.drewN _) (Nat.add_assoc _ _ _))⟩))))
 (try simp only [Act.put, List.setIfInBounds_toArray, List.set_cons_zero, List.set_cons_succ])
 refine cutF mk0 [] (fun u_ wc => ∃ (kq : Nat) (x226_16 : Bool), (u_ 226) = .bool x226_16 ∧ Aside0 (j0 kq a0 a1 t203 t204 t211 t215 t219 t223 t224 t231 t235 x226_16 = some r) ∧ Aside0 (kq ≤ k) ∧ Aside0 (Kd.S (Kd.slice 3 (Kd.int .i64)) 24 wc w.heap.size (fun k_ => some k_ ≠ (v225 : Value).ownBlock) v205 t203) ∧ Aside0 (Kd.R (Kd.int .i64) 3 wc w.heap.size (fun _ => True) v225 t223) ∧ Aside0 (Below w.heap.size w wc)) ?_ ?_
 ·
  as_aux_lemma =>
   intro J_ K_ hJ_ hK_
   have H := HC17.out
   clear HC17
   by_cases c25 : (t204 != t208) = true
   ·
    rw [if_pos c25] at H
    exact (laws_FnSumsOfSquaresOfAll.j0_no _ _ _ _ _ _ _ _ _ _ _ _ (H.trans (congrArg some HRT.out))).elim
   rw [if_neg c25] at H
   have c25b0 : (t204 != t208) = false := by simpa using c25
   (try (have c25b1 : decide (t204 = t208) = true := by simpa using c25))
   (try (have c25b2 : (t204 == t208) = true := by simpa using c25))
   clear c25
   (first | rw [c25b0] | (simp only [i64_w, i32_w]; rw [c25b0]) | skip)
   replace H := Option.bind_eq_some_iff.mp H
   obtain ⟨t239, A260, H⟩ := H
   try dsimp only at H
   have A26 := Aside0.mk A260
   clear A260
   by_cases c27 : t239 = true
   ·
    subst c27
    have H1 : (if (t212 != t214) = true then (j0 k a0 a1 t203 t204 t211 t215 t219 t223 t224 t231 t235 true) else (if t211 = t213 then (if (t216 != t218) = true then (j0 k a0 a1 t203 t204 t211 t215 t219 t223 t224 t231 t235 true) else (if (t215 != t217) = true then (j0 k a0 a1 t203 t204 t211 t215 t219 t223 t224 t231 t235 true) else (if (t220 != t222) = true then (j0 k a0 a1 t203 t204 t211 t215 t219 t223 t224 t231 t235 true) else (if (t219 != t221) = true then (j0 k a0 a1 t203 t204 t211 t215 t219 t223 t224 t231 t235 true) else (if (t224 != t228) = true then (j0 k a0 a1 t203 t204 t211 t215 t219 t223 t224 t231 t235 true) else ((laws_tSame.f k t223 t227).bind fun t240 => (if t240 = true then (if (t232 != t234) = true then (j0 k a0 a1 t203 t204 t211 t215 t219 t223 t224 t231 t235 true) else (if t231 = t233 then (if (t236 != t238) = true then (j0 k a0 a1 t203 t204 t211 t215 t219 t223 t224 t231 t235 true) else (if t235 = t237 then (if (t212 != t204) = true then (j0 k a0 a1 t203 t204 t211 t215 t219 t223 t224 t231 t235 true) else (if (t216 != t204) = true then (j0 k a0 a1 t203 t204 t211 t215 t219 t223 t224 t231 t235 true) else (if (t220 != t204) = true then (j0 k a0 a1 t203 t204 t211 t215 t219 t223 t224 t231 t235 true) else (if t204 = true then (if (t224 != (decide (a0 ≤ 5000))) = true then (j0 k a0 a1 t203 t204 t211 t215 t219 t223 t224 t231 t235 true) else (if (t232 != t204) = true then (j0 k a0 a1 t203 t204 t211 t215 t219 t223 t224 t231 t235 true) else (j0 k a0 a1 t203 t204 t211 t215 t219 t223 t224 t231 t235 (t236 != t204)))) else (if (t224 != false) = true then (j0 k a0 a1 t203 t204 t211 t215 t219 t223 t224 t231 t235 true) else (if (t232 != t204) = true then (j0 k a0 a1 t203 t204 t211 t215 t219 t223 t224 t231 t235 true) else (j0 k a0 a1 t203 t204 t211 t215 t219 t223 t224 t231 t235 (t236 != t204)))))))) else (j0 k a0 a1 t203 t204 t211 t215 t219 t223 t224 t231 t235 true))) else (j0 k a0 a1 t203 t204 t211 t215 t219 t223 t224 t231 t235 true))) else (j0 k a0 a1 t203 t204 t211 t215 t219 t223 t224 t231 t235 true)))))))) else (j0 k a0 a1 t203 t204 t211 t215 t219 t223 t224 t231 t235 true))) = some r := by rw [if_pos rfl] at H; exact H
    clear H
    have H := H1
    clear H1
    by_cases c28 : (t212 != t214) = true
    ·
     rw [if_pos c28] at H
     exact (laws_FnSumsOfSquaresOfAll.j0_no _ _ _ _ _ _ _ _ _ _ _ _ (H.trans (congrArg some HRT.out))).elim
    rw [if_neg c28] at H
    have c28b0 : (t212 != t214) = false := by simpa using c28
    (try (have c28b1 : decide (t212 = t214) = true := by simpa using c28))
    (try (have c28b2 : (t212 == t214) = true := by simpa using c28))
    clear c28
    by_cases c31 : t211 = t213
    ·
     rw [if_pos c31] at H
     have c31b0 : (t211 == t213) = true := beq_iff_eq.mpr c31
     have c31b1 : (t211 != t213) = false := bne_eq_false_iff_eq.mpr c31
     clear c31
     by_cases c32 : (t216 != t218) = true
     ·
      rw [if_pos c32] at H
      exact (laws_FnSumsOfSquaresOfAll.j0_no _ _ _ _ _ _ _ _ _ _ _ _ (H.trans (congrArg some HRT.out))).elim
     rw [if_neg c32] at H
     have c32b0 : (t216 != t218) = false := by simpa using c32
     (try (have c32b1 : decide (t216 = t218) = true := by simpa using c32))
     (try (have c32b2 : (t216 == t218) = true := by simpa using c32))
     clear c32
     by_cases c35 : (t215 != t217) = true
     ·
      rw [if_pos c35] at H
      exact (laws_FnSumsOfSquaresOfAll.j0_no _ _ _ _ _ _ _ _ _ _ _ _ (H.trans (congrArg some HRT.out))).elim
     rw [if_neg c35] at H
     have c35b0 : (t215 != t217) = false := by simpa using c35
     (try (have c35b1 : decide (t215 = t217) = true := by simpa using c35))
     (try (have c35b2 : (t215 == t217) = true := by simpa using c35))
     clear c35
     by_cases c38 : (t220 != t222) = true
     ·
      rw [if_pos c38] at H
      exact (laws_FnSumsOfSquaresOfAll.j0_no _ _ _ _ _ _ _ _ _ _ _ _ (H.trans (congrArg some HRT.out))).elim
     rw [if_neg c38] at H
     have c38b0 : (t220 != t222) = false := by simpa using c38
     (try (have c38b1 : decide (t220 = t222) = true := by simpa using c38))
     (try (have c38b2 : (t220 == t222) = true := by simpa using c38))
     clear c38
     by_cases c41 : (t219 != t221) = true
     ·
      rw [if_pos c41] at H
      exact (laws_FnSumsOfSquaresOfAll.j0_no _ _ _ _ _ _ _ _ _ _ _ _ (H.trans (congrArg some HRT.out))).elim
     rw [if_neg c41] at H
     have c41b0 : (t219 != t221) = false := by simpa using c41
     (try (have c41b1 : decide (t219 = t221) = true := by simpa using c41))
     (try (have c41b2 : (t219 == t221) = true := by simpa using c41))
     clear c41
     by_cases c44 : (t224 != t228) = true
     ·
      rw [if_pos c44] at H
      exact (laws_FnSumsOfSquaresOfAll.j0_no _ _ _ _ _ _ _ _ _ _ _ _ (H.trans (congrArg some HRT.out))).elim
     rw [if_neg c44] at H
     have c44b0 : (t224 != t228) = false := by simpa using c44
     (try (have c44b1 : decide (t224 = t228) = true := by simpa using c44))
     (try (have c44b2 : (t224 == t228) = true := by simpa using c44))
     clear c44
     replace H := Option.bind_eq_some_iff.mp H
     obtain ⟨t240, A470, H⟩ := H
     try dsimp only at H
     have A47 := Aside0.mk A470
     clear A470
     by_cases c48 : t240 = true
     ·
      as_aux_lemma =>
       subst c48
       have H1 : (if (t232 != t234) = true then (j0 k a0 a1 t203 t204 t211 t215 t219 t223 t224 t231 t235 true) else (if t231 = t233 then (if (t236 != t238) = true then (j0 k a0 a1 t203 t204 t211 t215 t219 t223 t224 t231 t235 true) else (if t235 = t237 then (if (t212 != t204) = true then (j0 k a0 a1 t203 t204 t211 t215 t219 t223 t224 t231 t235 true) else (if (t216 != t204) = true then (j0 k a0 a1 t203 t204 t211 t215 t219 t223 t224 t231 t235 true) else (if (t220 != t204) = true then (j0 k a0 a1 t203 t204 t211 t215 t219 t223 t224 t231 t235 true) else (if t204 = true then (if (t224 != (decide (a0 ≤ 5000))) = true then (j0 k a0 a1 t203 t204 t211 t215 t219 t223 t224 t231 t235 true) else (if (t232 != t204) = true then (j0 k a0 a1 t203 t204 t211 t215 t219 t223 t224 t231 t235 true) else (j0 k a0 a1 t203 t204 t211 t215 t219 t223 t224 t231 t235 (t236 != t204)))) else (if (t224 != false) = true then (j0 k a0 a1 t203 t204 t211 t215 t219 t223 t224 t231 t235 true) else (if (t232 != t204) = true then (j0 k a0 a1 t203 t204 t211 t215 t219 t223 t224 t231 t235 true) else (j0 k a0 a1 t203 t204 t211 t215 t219 t223 t224 t231 t235 (t236 != t204)))))))) else (j0 k a0 a1 t203 t204 t211 t215 t219 t223 t224 t231 t235 true))) else (j0 k a0 a1 t203 t204 t211 t215 t219 t223 t224 t231 t235 true))) = some r := by rw [if_pos rfl] at H; exact H
       clear H
       have H := H1
       clear H1
       by_cases c49 : (t232 != t234) = true
       ·
        rw [if_pos c49] at H
        exact (laws_FnSumsOfSquaresOfAll.j0_no _ _ _ _ _ _ _ _ _ _ _ _ (H.trans (congrArg some HRT.out))).elim
       rw [if_neg c49] at H
       have c49b0 : (t232 != t234) = false := by simpa using c49
       (try (have c49b1 : decide (t232 = t234) = true := by simpa using c49))
       (try (have c49b2 : (t232 == t234) = true := by simpa using c49))
       clear c49
       by_cases c54 : t231 = t233
       ·
        rw [if_pos c54] at H
        have c54b0 : (t231 == t233) = true := beq_iff_eq.mpr c54
        have c54b1 : (t231 != t233) = false := bne_eq_false_iff_eq.mpr c54
        clear c54
        by_cases c55 : (t236 != t238) = true
        ·
         rw [if_pos c55] at H
         exact (laws_FnSumsOfSquaresOfAll.j0_no _ _ _ _ _ _ _ _ _ _ _ _ (H.trans (congrArg some HRT.out))).elim
        rw [if_neg c55] at H
        have c55b0 : (t236 != t238) = false := by simpa using c55
        (try (have c55b1 : decide (t236 = t238) = true := by simpa using c55))
        (try (have c55b2 : (t236 == t238) = true := by simpa using c55))
        clear c55
        by_cases c60 : t235 = t237
        ·
         rw [if_pos c60] at H
         have c60b0 : (t235 == t237) = true := beq_iff_eq.mpr c60
         have c60b1 : (t235 != t237) = false := bne_eq_false_iff_eq.mpr c60
         clear c60
         by_cases c61 : (t212 != t204) = true
         ·
          rw [if_pos c61] at H
          exact (laws_FnSumsOfSquaresOfAll.j0_no _ _ _ _ _ _ _ _ _ _ _ _ (H.trans (congrArg some HRT.out))).elim
         rw [if_neg c61] at H
         have c61b0 : (t212 != t204) = false := by simpa using c61
         (try (have c61b1 : decide (t212 = t204) = true := by simpa using c61))
         (try (have c61b2 : (t212 == t204) = true := by simpa using c61))
         clear c61
         by_cases c66 : (t216 != t204) = true
         ·
          rw [if_pos c66] at H
          exact (laws_FnSumsOfSquaresOfAll.j0_no _ _ _ _ _ _ _ _ _ _ _ _ (H.trans (congrArg some HRT.out))).elim
         rw [if_neg c66] at H
         have c66b0 : (t216 != t204) = false := by simpa using c66
         (try (have c66b1 : decide (t216 = t204) = true := by simpa using c66))
         (try (have c66b2 : (t216 == t204) = true := by simpa using c66))
         clear c66
         by_cases c71 : (t220 != t204) = true
         ·
          rw [if_pos c71] at H
          exact (laws_FnSumsOfSquaresOfAll.j0_no _ _ _ _ _ _ _ _ _ _ _ _ (H.trans (congrArg some HRT.out))).elim
         rw [if_neg c71] at H
         have c71b0 : (t220 != t204) = false := by simpa using c71
         (try (have c71b1 : decide (t220 = t204) = true := by simpa using c71))
         (try (have c71b2 : (t220 == t204) = true := by simpa using c71))
         clear c71
         by_cases c76 : t204 = true
         ·
          subst c76
          have H1 : (if (t224 != (decide (a0 ≤ 5000))) = true then (j0 k a0 a1 t203 true t211 t215 t219 t223 t224 t231 t235 true) else (if (t232 != true) = true then (j0 k a0 a1 t203 true t211 t215 t219 t223 t224 t231 t235 true) else (j0 k a0 a1 t203 true t211 t215 t219 t223 t224 t231 t235 (t236 != true)))) = some r := by rw [if_pos rfl] at H; exact H
          clear H
          have H := H1
          clear H1
          by_cases c77 : (t224 != (decide (a0 ≤ 5000))) = true
          ·
           rw [if_pos c77] at H
           exact (laws_FnSumsOfSquaresOfAll.j0_no _ _ _ _ _ _ _ _ _ _ _ _ (H.trans (congrArg some HRT.out))).elim
          rw [if_neg c77] at H
          have c77b0 : (t224 != (decide (a0 ≤ 5000))) = false := by simpa using c77
          (try (have c77b1 : decide (t224 = (decide (a0 ≤ 5000))) = true := by simpa using c77))
          (try (have c77b2 : (t224 == (decide (a0 ≤ 5000))) = true := by simpa using c77))
          clear c77
          by_cases c82 : (t232 != true) = true
          ·
           rw [if_pos c82] at H
           exact (laws_FnSumsOfSquaresOfAll.j0_no _ _ _ _ _ _ _ _ _ _ _ _ (H.trans (congrArg some HRT.out))).elim
          rw [if_neg c82] at H
          have c82b0 : (t232 != true) = false := by simpa using c82
          (try (have c82b1 : decide (t232 = true) = true := by simpa using c82))
          (try (have c82b2 : (t232 == true) = true := by simpa using c82))
          clear c82
          have H' := Aside0.mk H
          clear H
          obtain ⟨Ao87, co87, eo87⟩ := Kd.S_slice HO206.out
          subst eo87
          obtain ⟨Ao88, co88, eo88⟩ := Kd.S_slice HO210.out
          subst eo88
          go_wp2_with (first | (go_at_call 33; (with_reducible refine (laws_tRows.calls k _ _ t203 _ _ t207 true _ ?side1 ?side2 ?side3 ?side4 A26.out).mono ?_); (case side1 => repeat (first | exact (Kd.S_reads' HO206.out).2.2 | (with_reducible refine Kd.C_alloc ?_ _) | (with_reducible refine Kd.C_drewN ?_ _) | (with_reducible refine Kd.C_drew ?_))); (case side2 => exact (Kd.S_reads' HO206.out).2.1); (case side3 => repeat (first | exact (Kd.S_reads' HO210.out).2.2 | (with_reducible refine Kd.C_alloc ?_ _) | (with_reducible refine Kd.C_drewN ?_ _) | (with_reducible refine Kd.C_drew ?_))); (case side4 => exact (Kd.S_reads' HO210.out).2.1); rintro e w' ⟨rfl, ⟨nd, rfl⟩⟩; (try first | exact ⟨rfl, _, World.drewN_drewN _ _ _⟩ | exact ⟨rfl, _, Eq.trans (World.drewN_drewN _ _ _) (congrArg (World.drewN _) (Nat.add_assoc _ _ _))⟩); obtain ⟨Ao89, co89, eo89⟩ := Kd.R_slice HO226.out; subst eo89; obtain ⟨Ao90, co90, eo90⟩ := Kd.R_slice HO230.out; subst eo90) | (go_at_call 19; (with_reducible refine (laws_tSame.calls k _ _ t223 _ _ t227 true _ ?side1 ?side2 ?side3 ?side4 A47.out).mono ?_); (case side1 => repeat (first | exact (Kd.R_reads' HO226.out).2.2 | (with_reducible refine Kd.C_alloc ?_ _) | (with_reducible refine Kd.C_drewN ?_ _) | (with_reducible refine Kd.C_drew ?_))); (case side2 => exact (Kd.R_reads' HO226.out).2.1); (case side3 => repeat (first | exact (Kd.R_reads' HO230.out).2.2 | (with_reducible refine Kd.C_alloc ?_ _) | (with_reducible refine Kd.C_drewN ?_ _) | (with_reducible refine Kd.C_drew ?_))); (case side4 => exact (Kd.R_reads' HO230.out).2.1); rintro e w' ⟨rfl, ⟨nd, rfl⟩⟩; (try first | exact ⟨rfl, _, World.drewN_drewN _ _ _⟩ | exact ⟨rfl, _, Eq.trans (World.drewN_drewN _ _ _) (congrArg (World.drewN _) (Nat.add_assoc _ _ _))⟩)))
          repeat (go_quiet (first | (go_at_call 33; (with_reducible refine (laws_tRows.calls k _ _ t203 _ _ t207 true _ ?side1 ?side2 ?side3 ?side4 A26.out).mono ?_); (case side1 => repeat (first | exact (Kd.S_reads' HO206.out).2.2 | (with_reducible refine Kd.C_alloc ?_ _) | (with_reducible refine Kd.C_drewN ?_ _) | (with_reducible refine Kd.C_drew ?_))); (case side2 => exact (Kd.S_reads' HO206.out).2.1); (case side3 => repeat (first | exact (Kd.S_reads' HO210.out).2.2 | (with_reducible refine Kd.C_alloc ?_ _) | (with_reducible refine Kd.C_drewN ?_ _) | (with_reducible refine Kd.C_drew ?_))); (case side4 => exact (Kd.S_reads' HO210.out).2.1); rintro e w' ⟨rfl, ⟨nd, rfl⟩⟩; (try first | exact ⟨rfl, _, World.drewN_drewN _ _ _⟩ | exact ⟨rfl, _, Eq.trans (World.drewN_drewN _ _ _) (congrArg (World.drewN _) (Nat.add_assoc _ _ _))⟩); obtain ⟨Ao89, co89, eo89⟩ := Kd.R_slice HO226.out; subst eo89; obtain ⟨Ao90, co90, eo90⟩ := Kd.R_slice HO230.out; subst eo90) | (go_at_call 19; (with_reducible refine (laws_tSame.calls k _ _ t223 _ _ t227 true _ ?side1 ?side2 ?side3 ?side4 A47.out).mono ?_); (case side1 => repeat (first | exact (Kd.R_reads' HO226.out).2.2 | (with_reducible refine Kd.C_alloc ?_ _) | (with_reducible refine Kd.C_drewN ?_ _) | (with_reducible refine Kd.C_drew ?_))); (case side2 => exact (Kd.R_reads' HO226.out).2.1); (case side3 => repeat (first | exact (Kd.R_reads' HO230.out).2.2 | (with_reducible refine Kd.C_alloc ?_ _) | (with_reducible refine Kd.C_drewN ?_ _) | (with_reducible refine Kd.C_drew ?_))); (case side4 => exact (Kd.R_reads' HO230.out).2.1); rintro e w' ⟨rfl, ⟨nd, rfl⟩⟩; (try first | exact ⟨rfl, _, World.drewN_drewN _ _ _⟩ | exact ⟨rfl, _, Eq.trans (World.drewN_drewN _ _ _) (congrArg (World.drewN _) (Nat.add_assoc _ _ _))⟩))); try go_wp2_with (first | (go_at_call 33; (with_reducible refine (laws_tRows.calls k _ _ t203 _ _ t207 true _ ?side1 ?side2 ?side3 ?side4 A26.out).mono ?_); (case side1 => repeat (first | exact (Kd.S_reads' HO206.out).2.2 | (with_reducible refine Kd.C_alloc ?_ _) | (with_reducible refine Kd.C_drewN ?_ _) | (with_reducible refine Kd.C_drew ?_))); (case side2 => exact (Kd.S_reads' HO206.out).2.1); (case side3 => repeat (first | exact (Kd.S_reads' HO210.out).2.2 | (with_reducible refine Kd.C_alloc ?_ _) | (with_reducible refine Kd.C_drewN ?_ _) | (with_reducible refine Kd.C_drew ?_))); (case side4 => exact (Kd.S_reads' HO210.out).2.1); rintro e w' ⟨rfl, ⟨nd, rfl⟩⟩; (try first | exact ⟨rfl, _, World.drewN_drewN _ _ _⟩ | exact ⟨rfl, _, Eq.trans (World.drewN_drewN _ _ _) (congrArg (World.drewN _) (Nat.add_assoc _ _ _))⟩); obtain ⟨Ao89, co89, eo89⟩ := Kd.R_slice HO226.out; subst eo89; obtain ⟨Ao90, co90, eo90⟩ := Kd.R_slice HO230.out; subst eo90) | (go_at_call 19; (with_reducible refine (laws_tSame.calls k _ _ t223 _ _ t227 true _ ?side1 ?side2 ?side3 ?side4 A47.out).mono ?_); (case side1 => repeat (first | exact (Kd.R_reads' HO226.out).2.2 | (with_reducible refine Kd.C_alloc ?_ _) | (with_reducible refine Kd.C_drewN ?_ _) | (with_reducible refine Kd.C_drew ?_))); (case side2 => exact (Kd.R_reads' HO226.out).2.1); (case side3 => repeat (first | exact (Kd.R_reads' HO230.out).2.2 | (with_reducible refine Kd.C_alloc ?_ _) | (with_reducible refine Kd.C_drewN ?_ _) | (with_reducible refine Kd.C_drew ?_))); (case side4 => exact (Kd.R_reads' HO230.out).2.1); rintro e w' ⟨rfl, ⟨nd, rfl⟩⟩; (try first | exact ⟨rfl, _, World.drewN_drewN _ _ _⟩ | exact ⟨rfl, _, Eq.trans (World.drewN_drewN _ _ _) (congrArg (World.drewN _) (Nat.add_assoc _ _ _))⟩))))
          refine cutMeet hJ_ ?_ (by kernel_rfl)
          exact ⟨_, ((t236 != true)), (by first | rfl | (simp; done) | (simp [*]; done)), H', ⟨by first | omega | exact Nat.le_refl _⟩, ⟨by (with_reducible repeat (first | apply Kd.S_alloc | apply Kd.S_drewN | apply Kd.S_drew)); exact Kd.S_mono HO206.out (fun _ hk => hk.1.2)⟩, ⟨by (with_reducible repeat (first | apply Kd.R_alloc | apply Kd.R_drewN | apply Kd.R_drew)); exact Kd.R_mono HO226.out (fun _ hk => trivial)⟩, ⟨by repeat (first | (with_reducible first | exact HB.out | apply below_alloc | apply pw_below_drewN | apply below_drew1))⟩⟩
         replace c76 := Bool.eq_false_iff.mpr c76
         subst c76
         have H1 : (if (t224 != false) = true then (j0 k a0 a1 t203 false t211 t215 t219 t223 t224 t231 t235 true) else (if (t232 != false) = true then (j0 k a0 a1 t203 false t211 t215 t219 t223 t224 t231 t235 true) else (j0 k a0 a1 t203 false t211 t215 t219 t223 t224 t231 t235 (t236 != false)))) = some r := by rw [if_neg (show ¬ (false = true) by decide)] at H; exact H
         clear H
         have H := H1
         clear H1
         by_cases c91 : (t224 != false) = true
         ·
          rw [if_pos c91] at H
          exact (laws_FnSumsOfSquaresOfAll.j0_no _ _ _ _ _ _ _ _ _ _ _ _ (H.trans (congrArg some HRT.out))).elim
         rw [if_neg c91] at H
         have c91b0 : (t224 != false) = false := by simpa using c91
         (try (have c91b1 : decide (t224 = false) = true := by simpa using c91))
         (try (have c91b2 : (t224 == false) = true := by simpa using c91))
         clear c91
         by_cases c96 : (t232 != false) = true
         ·
          rw [if_pos c96] at H
          exact (laws_FnSumsOfSquaresOfAll.j0_no _ _ _ _ _ _ _ _ _ _ _ _ (H.trans (congrArg some HRT.out))).elim
         rw [if_neg c96] at H
         have c96b0 : (t232 != false) = false := by simpa using c96
         (try (have c96b1 : decide (t232 = false) = true := by simpa using c96))
         (try (have c96b2 : (t232 == false) = true := by simpa using c96))
         clear c96
         have H' := Aside0.mk H
         clear H
         obtain ⟨Ao101, co101, eo101⟩ := Kd.S_slice HO206.out
         subst eo101
         obtain ⟨Ao102, co102, eo102⟩ := Kd.S_slice HO210.out
         subst eo102
         go_wp2_with (first | (go_at_call 33; (with_reducible refine (laws_tRows.calls k _ _ t203 _ _ t207 true _ ?side1 ?side2 ?side3 ?side4 A26.out).mono ?_); (case side1 => repeat (first | exact (Kd.S_reads' HO206.out).2.2 | (with_reducible refine Kd.C_alloc ?_ _) | (with_reducible refine Kd.C_drewN ?_ _) | (with_reducible refine Kd.C_drew ?_))); (case side2 => exact (Kd.S_reads' HO206.out).2.1); (case side3 => repeat (first | exact (Kd.S_reads' HO210.out).2.2 | (with_reducible refine Kd.C_alloc ?_ _) | (with_reducible refine Kd.C_drewN ?_ _) | (with_reducible refine Kd.C_drew ?_))); (case side4 => exact (Kd.S_reads' HO210.out).2.1); rintro e w' ⟨rfl, ⟨nd, rfl⟩⟩; (try first | exact ⟨rfl, _, World.drewN_drewN _ _ _⟩ | exact ⟨rfl, _, Eq.trans (World.drewN_drewN _ _ _) (congrArg (World.drewN _) (Nat.add_assoc _ _ _))⟩); obtain ⟨Ao103, co103, eo103⟩ := Kd.R_slice HO226.out; subst eo103; obtain ⟨Ao104, co104, eo104⟩ := Kd.R_slice HO230.out; subst eo104) | (go_at_call 19; (with_reducible refine (laws_tSame.calls k _ _ t223 _ _ t227 true _ ?side1 ?side2 ?side3 ?side4 A47.out).mono ?_); (case side1 => repeat (first | exact (Kd.R_reads' HO226.out).2.2 | (with_reducible refine Kd.C_alloc ?_ _) | (with_reducible refine Kd.C_drewN ?_ _) | (with_reducible refine Kd.C_drew ?_))); (case side2 => exact (Kd.R_reads' HO226.out).2.1); (case side3 => repeat (first | exact (Kd.R_reads' HO230.out).2.2 | (with_reducible refine Kd.C_alloc ?_ _) | (with_reducible refine Kd.C_drewN ?_ _) | (with_reducible refine Kd.C_drew ?_))); (case side4 => exact (Kd.R_reads' HO230.out).2.1); rintro e w' ⟨rfl, ⟨nd, rfl⟩⟩; (try first | exact ⟨rfl, _, World.drewN_drewN _ _ _⟩ | exact ⟨rfl, _, Eq.trans (World.drewN_drewN _ _ _) (congrArg (World.drewN _) (Nat.add_assoc _ _ _))⟩)))
         repeat (go_quiet (first | (go_at_call 33; (with_reducible refine (laws_tRows.calls k _ _ t203 _ _ t207 true _ ?side1 ?side2 ?side3 ?side4 A26.out).mono ?_); (case side1 => repeat (first | exact (Kd.S_reads' HO206.out).2.2 | (with_reducible refine Kd.C_alloc ?_ _) | (with_reducible refine Kd.C_drewN ?_ _) | (with_reducible refine Kd.C_drew ?_))); (case side2 => exact (Kd.S_reads' HO206.out).2.1); (case side3 => repeat (first | exact (Kd.S_reads' HO210.out).2.2 | (with_reducible refine Kd.C_alloc ?_ _) | (with_reducible refine Kd.C_drewN ?_ _) | (with_reducible refine Kd.C_drew ?_))); (case side4 => exact (Kd.S_reads' HO210.out).2.1); rintro e w' ⟨rfl, ⟨nd, rfl⟩⟩; (try first | exact ⟨rfl, _, World.drewN_drewN _ _ _⟩ | exact ⟨rfl, _, Eq.trans (World.drewN_drewN _ _ _) (congrArg (World.drewN _) (Nat.add_assoc _ _ _))⟩); obtain ⟨Ao103, co103, eo103⟩ := Kd.R_slice HO226.out; subst eo103; obtain ⟨Ao104, co104, eo104⟩ := Kd.R_slice HO230.out; subst eo104) | (go_at_call 19; (with_reducible refine (laws_tSame.calls k _ _ t223 _ _ t227 true _ ?side1 ?side2 ?side3 ?side4 A47.out).mono ?_); (case side1 => repeat (first | exact (Kd.R_reads' HO226.out).2.2 | (with_reducible refine Kd.C_alloc ?_ _) | (with_reducible refine Kd.C_drewN ?_ _) | (with_reducible refine Kd.C_drew ?_))); (case side2 => exact (Kd.R_reads' HO226.out).2.1); (case side3 => repeat (first | exact (Kd.R_reads' HO230.out).2.2 | (with_reducible refine Kd.C_alloc ?_ _) | (with_reducible refine Kd.C_drewN ?_ _) | (with_reducible refine Kd.C_drew ?_))); (case side4 => exact (Kd.R_reads' HO230.out).2.1); rintro e w' ⟨rfl, ⟨nd, rfl⟩⟩; (try first | exact ⟨rfl, _, World.drewN_drewN _ _ _⟩ | exact ⟨rfl, _, Eq.trans (World.drewN_drewN _ _ _) (congrArg (World.drewN _) (Nat.add_assoc _ _ _))⟩))); try go_wp2_with (first | (go_at_call 33; (with_reducible refine (laws_tRows.calls k _ _ t203 _ _ t207 true _ ?side1 ?side2 ?side3 ?side4 A26.out).mono ?_); (case side1 => repeat (first | exact (Kd.S_reads' HO206.out).2.2 | (with_reducible refine Kd.C_alloc ?_ _) | (with_reducible refine Kd.C_drewN ?_ _) | (with_reducible refine Kd.C_drew ?_))); (case side2 => exact (Kd.S_reads' HO206.out).2.1); (case side3 => repeat (first | exact (Kd.S_reads' HO210.out).2.2 | (with_reducible refine Kd.C_alloc ?_ _) | (with_reducible refine Kd.C_drewN ?_ _) | (with_reducible refine Kd.C_drew ?_))); (case side4 => exact (Kd.S_reads' HO210.out).2.1); rintro e w' ⟨rfl, ⟨nd, rfl⟩⟩; (try first | exact ⟨rfl, _, World.drewN_drewN _ _ _⟩ | exact ⟨rfl, _, Eq.trans (World.drewN_drewN _ _ _) (congrArg (World.drewN _) (Nat.add_assoc _ _ _))⟩); obtain ⟨Ao103, co103, eo103⟩ := Kd.R_slice HO226.out; subst eo103; obtain ⟨Ao104, co104, eo104⟩ := Kd.R_slice HO230.out; subst eo104) | (go_at_call 19; (with_reducible refine (laws_tSame.calls k _ _ t223 _ _ t227 true _ ?side1 ?side2 ?side3 ?side4 A47.out).mono ?_); (case side1 => repeat (first | exact (Kd.R_reads' HO226.out).2.2 | (with_reducible refine Kd.C_alloc ?_ _) | (with_reducible refine Kd.C_drewN ?_ _) | (with_reducible refine Kd.C_drew ?_))); (case side2 => exact (Kd.R_reads' HO226.out).2.1); (case side3 => repeat (first | exact (Kd.R_reads' HO230.out).2.2 | (with_reducible refine Kd.C_alloc ?_ _) | (with_reducible refine Kd.C_drewN ?_ _) | (with_reducible refine Kd.C_drew ?_))); (case side4 => exact (Kd.R_reads' HO230.out).2.1); rintro e w' ⟨rfl, ⟨nd, rfl⟩⟩; (try first | exact ⟨rfl, _, World.drewN_drewN _ _ _⟩ | exact ⟨rfl, _, Eq.trans (World.drewN_drewN _ _ _) (congrArg (World.drewN _) (Nat.add_assoc _ _ _))⟩))))
         refine cutMeet hJ_ ?_ (by kernel_rfl)
         exact ⟨_, ((t236 != false)), (by first | rfl | (simp; done) | (simp [*]; done)), H', ⟨by first | omega | exact Nat.le_refl _⟩, ⟨by (with_reducible repeat (first | apply Kd.S_alloc | apply Kd.S_drewN | apply Kd.S_drew)); exact Kd.S_mono HO206.out (fun _ hk => hk.1.2)⟩, ⟨by (with_reducible repeat (first | apply Kd.R_alloc | apply Kd.R_drewN | apply Kd.R_drew)); exact Kd.R_mono HO226.out (fun _ hk => trivial)⟩, ⟨by repeat (first | (with_reducible first | exact HB.out | apply below_alloc | apply pw_below_drewN | apply below_drew1))⟩⟩
        rw [if_neg c60] at H
        exact (laws_FnSumsOfSquaresOfAll.j0_no _ _ _ _ _ _ _ _ _ _ _ _ (H.trans (congrArg some HRT.out))).elim
       rw [if_neg c54] at H
       exact (laws_FnSumsOfSquaresOfAll.j0_no _ _ _ _ _ _ _ _ _ _ _ _ (H.trans (congrArg some HRT.out))).elim
     replace c48 := Bool.eq_false_iff.mpr c48
     subst c48
     have H1 : (j0 k a0 a1 t203 t204 t211 t215 t219 t223 t224 t231 t235 true) = some r := by rw [if_neg (show ¬ (false = true) by decide)] at H; exact H
     clear H
     have H := H1
     clear H1
     exact (laws_FnSumsOfSquaresOfAll.j0_no _ _ _ _ _ _ _ _ _ _ _ _ (H.trans (congrArg some HRT.out))).elim
    rw [if_neg c31] at H
    exact (laws_FnSumsOfSquaresOfAll.j0_no _ _ _ _ _ _ _ _ _ _ _ _ (H.trans (congrArg some HRT.out))).elim
   replace c27 := Bool.eq_false_iff.mpr c27
   subst c27
   have H1 : (j0 k a0 a1 t203 t204 t211 t215 t219 t223 t224 t231 t235 true) = some r := by rw [if_neg (show ¬ (false = true) by decide)] at H; exact H
   clear H
   have H := H1
   clear H1
   exact (laws_FnSumsOfSquaresOfAll.j0_no _ _ _ _ _ _ _ _ _ _ _ _ (H.trans (congrArg some HRT.out))).elim
 ·
  as_aux_lemma =>
   intro u_ wc hcut
   clear HC17
   obtain ⟨kq, x226_16, e_226, HA, HJ16, HO_5, HO_21, HB⟩ := hcut
   dsimp only [cutFgt, mk0]
   rw [e_226]
   cases kq with
   | zero => exact absurd HA.out (by simp [j0])
   | succ kj16 =>
    have H := HA.out
    clear HA
    simp only [j0] at H
    by_cases c121 : x226_16 = true
    ·
     subst c121
     have H1 : (some false) = some r := by rw [if_pos rfl] at H; exact H
     clear H
     have H := H1
     clear H1
     first
     | exact absurd (Option.some.inj (H.trans (congrArg some HRT.out))) Bool.false_ne_true
     |
      obtain rfl := Option.some.inj H
      go_wp2
      repeat (go_quiet (fail); try go_wp2)
      go_ret
      exact ⟨by first | rfl | (simp [errW_none, errW_some] <;> rfl) | (simp [*, errW_none, errW_some] <;> rfl), by repeat (first | (with_reducible first | exact HB.out | apply below_alloc | apply pw_below_drewN | apply below_drew1))⟩
    replace c121 := Bool.eq_false_iff.mpr c121
    subst c121
    have H1 : (if t204 = true then (laws_FnSumsOfSquaresOfAll.l0 kj16 a0 a1 t203 t204 t211 t215 t219 t223 t224 t231 t235 0 t203 (t203.length : Int) 0) else (j3 kj16 a0 a1 t204 t215 t219 t223 t224)) = some r := by rw [if_neg (show ¬ (false = true) by decide)] at H; exact H
    clear H
    have H := H1
    clear H1
    have HC122 := Aside0.mk H
    clear H
    go_upto_if 227 with (fail)
    repeat (go_quiet (fail); go_upto_if 227 with (fail))
    refine cutF mk0 [none, none, none, none, some 4, none, none, none, none, none, none, none, none, none, none, none, none, none, none, none, none, none, none, none, none, none, none, none, none, none, none, none, none, some 33, some 34, some 35, some 36, some 37, some 38, none, none, none, none, none, none, none, none, none, none, none, none, none, none, none, none, none, none, none, none, none, none, none, none, none, none, none, none, none, none, none, none, none, none, none, none, none, none, none, none, none, none, none, none, none, none, none, none, none, none, none, none, none, none, none, none, none, none, none, none, none, none, none, none, none, none, none, none, none, none, none, none, none, none, none, none, none, none, none, none, none, none, none, none, none, none, none, none, none, none, none, none, none, none, none, none, none, none, none, none, none, none, none, none, none, none, none, none, none, none, none, none, none, none, none, none, none, none, none, none, none, none, none, none, none, none, none, none, none, none, none, none, none, none, none, none, none, none, none, none, none, none, none, none, none, none, none, none, none, none, none, none, none, none, none, none, none, none, none, none, none, none, none, none, none, none, none, none, none, none, none, none, none, none, none, none, none, none, none, none, none, none, none, none, none, none, none, none, none, some 228, some 229, some 230] (fun u_ wc => ∃ (kq : Nat), Aside0 (j3 kq a0 a1 t204 t215 t219 t223 t224 = some r) ∧ Aside0 (kq ≤ kj16) ∧ Aside0 (Kd.R (Kd.int .i64) 3 wc w.heap.size (fun _ => True) v225 t223) ∧ Aside0 (Below w.heap.size w wc)) ?_ ?_
    ·
     as_aux_lemma =>
      intro J_ K_ hJ_ hK_
      have H := HC122.out
      clear HC122
      by_cases c123 : t204 = true
      ·
       subst c123
       have H1 : (laws_FnSumsOfSquaresOfAll.l0 kj16 a0 a1 t203 true t211 t215 t219 t223 t224 t231 t235 0 t203 (t203.length : Int) 0) = some r := by rw [if_pos rfl] at H; exact H
       clear H
       have H := H1
       clear H1
       have H' := Aside0.mk H
       clear H
       obtain ⟨Ao124, co124, eo124⟩ := Kd.S_slice HO_5.out
       subst eo124
       go_wp2
       repeat (go_quiet (fail); try go_wp2)
       go_loopg [33, 230] kj16 (fun kq v33 v230 w' => ∃ (x33_2 : Int) (x230_2 : Int), v33 = .int .i64 x33_2 ∧ v230 = .int .i64 x230_2 ∧ Aside0 (laws_FnSumsOfSquaresOfAll.l0 kq a0 a1 t203 true t211 t215 t219 t223 t224 t231 t235 x33_2 t203 (t203.length : Int) x230_2 = some r) ∧ Aside0 (kq ≤ kj16) ∧ Aside0 (Kd.S (Kd.slice 3 (Kd.int .i64)) 24 w' w.heap.size (fun k_ => some k_ ≠ (v225 : Value).ownBlock) (.slice Ao124 t203.length co124) t203) ∧ Aside0 (Kd.R (Kd.int .i64) 3 w' w.heap.size (fun _ => True) v225 t223) ∧ Aside0 (Kd.S (Kd.slice 3 (Kd.int .i64)) 24 w' w.heap.size (fun k_ => some k_ ≠ (v225 : Value).ownBlock) (.slice Ao124 t203.length co124) t203) ∧ Aside0 (Below w.heap.size w w'))
       case atStart => exact ⟨(0), (0), (by first | rfl | (simp; done) | (simp [*]; done)), (by first | rfl | (simp; done) | (simp [*]; done)), H', ⟨Nat.le_refl _⟩, ⟨by (with_reducible repeat (first | apply Kd.S_alloc | apply Kd.S_drewN | apply Kd.S_drew)); exact HO_5.out⟩, ⟨by (with_reducible repeat (first | apply Kd.R_alloc | apply Kd.R_drewN | apply Kd.R_drew)); exact HO_21.out⟩, ⟨by (with_reducible repeat (first | apply Kd.S_alloc | apply Kd.S_drewN | apply Kd.S_drew)); exact HO_5.out⟩, ⟨by repeat (first | (with_reducible first | exact HB.out | apply below_alloc | apply pw_below_drewN | apply below_drew1))⟩⟩
       case round =>
        as_aux_lemma =>
         clear H'
         obtain ⟨x33_2, x230_2, rfl, rfl, HA, HK2, HO_5, HO_21, HO_228, HB⟩ := hrel
         cases gk with
         | zero => exact absurd HA.out (by simp [laws_FnSumsOfSquaresOfAll.l0])
         | succ k2 =>
          have H := HA.out
          clear HA
          simp only [laws_FnSumsOfSquaresOfAll.l0] at H
          by_cases c125 : x230_2 < (t203.length : Int)
          ·
           rw [if_pos c125] at H
           have c125b0 : decide (x230_2 < (t203.length : Int)) = true := decide_eq_true c125
           clear c125
           (first | rw [c125b0] | (simp only [i64_w, i32_w]; rw [c125b0]) | skip)
           by_cases c126 : 0 ≤ x230_2
           ·
            rw [if_pos c126] at H
            have c126b0 : decide (0 ≤ x230_2) = true := decide_eq_true c126
            clear c126
            by_cases c127 : x230_2 < (t203.length : Int)
            ·
             rw [if_pos c127] at H
             have c127b0 : decide (x230_2 < (t203.length : Int)) = true := decide_eq_true c127
             clear c127
             by_cases c128 : ((rd_L1 t203 x230_2).length : Int) = 2
             ·
              rw [if_pos c128] at H
              have c128b0 : (((rd_L1 t203 x230_2).length : Int) == 2) = true := beq_iff_eq.mpr c128
              have c128b1 : (((rd_L1 t203 x230_2).length : Int) != 2) = false := bne_eq_false_iff_eq.mpr c128
              clear c128
              by_cases c129 : 0 < ((rd_L1 t203 x230_2).length : Int)
              ·
               rw [if_pos c129] at H
               have c129b0 : decide (0 < ((rd_L1 t203 x230_2).length : Int)) = true := decide_eq_true c129
               have c129b1 : decide (0 < (rd_L1 t203 x230_2).length) = true := decide_eq_true (by omega)
               clear c129
               by_cases c130 : (rd (rd_L1 t203 x230_2) 0) < 0
               ·
                rw [if_pos c130] at H
                have c130b0 : decide ((rd (rd_L1 t203 x230_2) 0) < 0) = true := decide_eq_true c130
                clear c130
                first
                | exact absurd (Option.some.inj (H.trans (congrArg some HRT.out))) Bool.false_ne_true
                |
                 obtain rfl := Option.some.inj H
                 have p241 : 0 ≤ (x230_2 : Int) := of_decide_eq_true (by first | (with_reducible assumption) | assumption)
                 have q241 : x230_2 < (t203.length : Int) := of_decide_eq_true (by first | (with_reducible assumption) | assumption)
                 obtain ⟨ad241, A241_0, c241_0, e241, hx241_0, hl241_0, hi241_0⟩ := at_L1 (Kd.S_reads' HO_228.out).2.2 x230_2 p241 q241
                 cases e241
                 obtain ⟨ce241, hce241, hMe241, hcc241⟩ := Kd.S_get HO_228.out [] x230_2 p241 (by first | exact q241 | exact of_decide_eq_true (by first | (with_reducible assumption) | assumption) | (have e_ := (Kd.S_reads' HO_228.out).1; omega))
                 obtain ⟨ve241_0, rfl, ge241_0⟩ := hMe241
                 have hv241_0 := hcc241 0 _ rfl
                 rw [Nat.add_zero, show ((Kd.slice 3 (Kd.int .i64))).sz = 1 from rfl, Nat.mul_one] at hv241_0
                 replace hv241_0 := Option.some.inj (hv241_0.symm.trans hx241_0)
                 rw [hv241_0] at ge241_0
                 have HL241_0 := Aside0.mk (show Kd.R (Kd.int .i64) 3 _ _ _ _ (rd_L1 t203 x230_2) from ge241_0)
                 clear hv241_0 ge241_0
                 clear hcc241 hce241
                 have HR241_0 := Aside0.mk hi241_0
                 have HC241_0 := Aside0.mk hl241_0
                 clear hi241_0 hl241_0
                 replace p241 := eq_true p241
                 replace q241 := eq_true q241
                 have p242 : 0 ≤ (0 : Int) := (by omega)
                 have q242 : 0 < ((rd_L1 t203 x230_2).length : Int) := of_decide_eq_true (by first | (with_reducible assumption) | assumption)
                 obtain ⟨ad242, e242, hx242_0⟩ := Kd.at_int (by repeat (first | (with_reducible exact HR241_0.out) | (with_reducible refine Kd.C_alloc ?_ _) | (with_reducible refine Kd.C_drewN ?_ _) | (with_reducible refine Kd.C_drew ?_) | exact HR241_0.out)) 0 p242 q242
                 cases e242
                 have qi242 : (0 < (rd_L1 t203 x230_2).length) = True := eq_true (by omega)
                 (try rw [show ((0 : Int)).toNat = 0 from rfl] at hx242_0)
                 (try rw [Addr.add_zero'] at hx242_0)
                 replace p242 := eq_true p242
                 replace q242 := eq_true q242
                 go_wp2
                 repeat (go_quiet (fail); try go_wp2)
                 go_ret
                 exact ⟨by first | rfl | (simp [errW_none, errW_some] <;> rfl) | (simp [*, errW_none, errW_some] <;> rfl), by repeat (first | (with_reducible first | exact HB.out | apply below_alloc | apply pw_below_drewN | apply below_drew1))⟩
               rw [if_neg c130] at H
               have c130b0 : decide ((rd (rd_L1 t203 x230_2) 0) < 0) = false := decide_eq_false c130
               clear c130
               by_cases c131 : 1 < ((rd_L1 t203 x230_2).length : Int)
               ·
                as_aux_lemma =>
                 rw [if_pos c131] at H
                 have c131b0 : decide (1 < ((rd_L1 t203 x230_2).length : Int)) = true := decide_eq_true c131
                 have c131b1 : decide (1 < (rd_L1 t203 x230_2).length) = true := decide_eq_true (by omega)
                 clear c131
                 by_cases c132 : (rd (rd_L1 t203 x230_2) 0) > (rd (rd_L1 t203 x230_2) 1)
                 ·
                  rw [if_pos c132] at H
                  have c132b0 : decide ((rd (rd_L1 t203 x230_2) 1) < (rd (rd_L1 t203 x230_2) 0)) = true := decide_eq_true c132
                  clear c132
                  first
                  | exact absurd (Option.some.inj (H.trans (congrArg some HRT.out))) Bool.false_ne_true
                  |
                   obtain rfl := Option.some.inj H
                   have p241 : 0 ≤ (x230_2 : Int) := of_decide_eq_true (by first | (with_reducible assumption) | assumption)
                   have q241 : x230_2 < (t203.length : Int) := of_decide_eq_true (by first | (with_reducible assumption) | assumption)
                   obtain ⟨ad241, A241_0, c241_0, e241, hx241_0, hl241_0, hi241_0⟩ := at_L1 (Kd.S_reads' HO_228.out).2.2 x230_2 p241 q241
                   cases e241
                   obtain ⟨ce241, hce241, hMe241, hcc241⟩ := Kd.S_get HO_228.out [] x230_2 p241 (by first | exact q241 | exact of_decide_eq_true (by first | (with_reducible assumption) | assumption) | (have e_ := (Kd.S_reads' HO_228.out).1; omega))
                   obtain ⟨ve241_0, rfl, ge241_0⟩ := hMe241
                   have hv241_0 := hcc241 0 _ rfl
                   rw [Nat.add_zero, show ((Kd.slice 3 (Kd.int .i64))).sz = 1 from rfl, Nat.mul_one] at hv241_0
                   replace hv241_0 := Option.some.inj (hv241_0.symm.trans hx241_0)
                   rw [hv241_0] at ge241_0
                   have HL241_0 := Aside0.mk (show Kd.R (Kd.int .i64) 3 _ _ _ _ (rd_L1 t203 x230_2) from ge241_0)
                   clear hv241_0 ge241_0
                   clear hcc241 hce241
                   have HR241_0 := Aside0.mk hi241_0
                   have HC241_0 := Aside0.mk hl241_0
                   clear hi241_0 hl241_0
                   replace p241 := eq_true p241
                   replace q241 := eq_true q241
                   have p242 : 0 ≤ (0 : Int) := (by omega)
                   have q242 : 0 < ((rd_L1 t203 x230_2).length : Int) := of_decide_eq_true (by first | (with_reducible assumption) | assumption)
                   obtain ⟨ad242, e242, hx242_0⟩ := Kd.at_int (by repeat (first | (with_reducible exact HR241_0.out) | (with_reducible refine Kd.C_alloc ?_ _) | (with_reducible refine Kd.C_drewN ?_ _) | (with_reducible refine Kd.C_drew ?_) | exact HR241_0.out)) 0 p242 q242
                   cases e242
                   have qi242 : (0 < (rd_L1 t203 x230_2).length) = True := eq_true (by omega)
                   (try rw [show ((0 : Int)).toNat = 0 from rfl] at hx242_0)
                   (try rw [Addr.add_zero'] at hx242_0)
                   replace p242 := eq_true p242
                   replace q242 := eq_true q242
                   have p243 : 0 ≤ (0 : Int) := (by omega)
                   have q243 : 0 < ((rd_L1 t203 x230_2).length : Int) := of_decide_eq_true (by first | (with_reducible assumption) | assumption)
                   obtain ⟨ad243, e243, hx243_0⟩ := Kd.at_int (by repeat (first | (with_reducible exact HR241_0.out) | (with_reducible refine Kd.C_alloc ?_ _) | (with_reducible refine Kd.C_drewN ?_ _) | (with_reducible refine Kd.C_drew ?_) | exact HR241_0.out)) 0 p243 q243
                   obtain rfl : ad242 = ad243 := (by injection e243)
                   have qi243 : (0 < (rd_L1 t203 x230_2).length) = True := eq_true (by omega)
                   (try rw [show ((0 : Int)).toNat = 0 from rfl] at hx243_0)
                   (try rw [Addr.add_zero'] at hx243_0)
                   replace p243 := eq_true p243
                   replace q243 := eq_true q243
                   have p244 : 0 ≤ (1 : Int) := (by omega)
                   have q244 : 1 < ((rd_L1 t203 x230_2).length : Int) := of_decide_eq_true (by first | (with_reducible assumption) | assumption)
                   obtain ⟨ad244, e244, hx244_0⟩ := Kd.at_int (by repeat (first | (with_reducible exact HR241_0.out) | (with_reducible refine Kd.C_alloc ?_ _) | (with_reducible refine Kd.C_drewN ?_ _) | (with_reducible refine Kd.C_drew ?_) | exact HR241_0.out)) 1 p244 q244
                   obtain rfl : ad242 = ad244 := (by injection e244)
                   (try simp only [show (1 : Int).toNat = 1 from rfl, Nat.reduceMul, Nat.reduceEqDiff, Go.Addr.add, ↓reduceIte] at hx244_0)
                   have qi244 : (1 < (rd_L1 t203 x230_2).length) = True := eq_true (by omega)
                   (try rw [show ((1 : Int)).toNat = 1 from rfl] at hx244_0)
                   replace p244 := eq_true p244
                   replace q244 := eq_true q244
                   go_wp2
                   repeat (go_quiet (fail); try go_wp2)
                   go_ret
                   exact ⟨by first | rfl | (simp [errW_none, errW_some] <;> rfl) | (simp [*, errW_none, errW_some] <;> rfl), by repeat (first | (with_reducible first | exact HB.out | apply below_alloc | apply pw_below_drewN | apply below_drew1))⟩
                 rw [if_neg c132] at H
                 have c132b0 : decide ((rd (rd_L1 t203 x230_2) 1) < (rd (rd_L1 t203 x230_2) 0)) = false := decide_eq_false c132
                 clear c132
                 by_cases c133 : (wrap64 ((wrap64 ((rd (rd_L1 t203 x230_2) 0) * (rd (rd_L1 t203 x230_2) 0))) + (wrap64 ((rd (rd_L1 t203 x230_2) 1) * (rd (rd_L1 t203 x230_2) 1))))) = a0
                 ·
                  as_aux_lemma =>
                   rw [if_pos c133] at H
                   have c133b0 : ((wrap64 ((wrap64 ((rd (rd_L1 t203 x230_2) 0) * (rd (rd_L1 t203 x230_2) 0))) + (wrap64 ((rd (rd_L1 t203 x230_2) 1) * (rd (rd_L1 t203 x230_2) 1))))) == a0) = true := beq_iff_eq.mpr c133
                   have c133b1 : ((wrap64 ((wrap64 ((rd (rd_L1 t203 x230_2) 0) * (rd (rd_L1 t203 x230_2) 0))) + (wrap64 ((rd (rd_L1 t203 x230_2) 1) * (rd (rd_L1 t203 x230_2) 1))))) != a0) = false := bne_eq_false_iff_eq.mpr c133
                   clear c133
                   by_cases c134 : x230_2 > 0
                   ·
                    rw [if_pos c134] at H
                    have c134b0 : decide (0 < x230_2) = true := decide_eq_true c134
                    clear c134
                    obtain ⟨ji135, hji135⟩ : ∃ j_ : Int, (wrap64 (x230_2 - 1)) = j_ := ⟨_, rfl⟩
                    replace H : (if 0 ≤ (ji135) then (if (ji135) < (t203.length : Int) then (if 0 < ((rd_L1 t203 (ji135)).length : Int) then (if (rd (rd_L1 t203 (ji135)) 0) ≥ (rd (rd_L1 t203 x230_2) 0) then (some false) else (if (rd (rd_L1 t203 x230_2) 0) = 0 then (laws_FnSumsOfSquaresOfAll.l0 k2 a0 a1 t203 true t211 t215 t219 t223 t224 t231 t235 (wrap64 (x33_2 + 4)) t203 (t203.length : Int) (wrap64 (x230_2 + 1))) else (if (rd (rd_L1 t203 x230_2) 0) = (rd (rd_L1 t203 x230_2) 1) then (laws_FnSumsOfSquaresOfAll.l0 k2 a0 a1 t203 true t211 t215 t219 t223 t224 t231 t235 (wrap64 (x33_2 + 4)) t203 (t203.length : Int) (wrap64 (x230_2 + 1))) else (laws_FnSumsOfSquaresOfAll.l0 k2 a0 a1 t203 true t211 t215 t219 t223 t224 t231 t235 (wrap64 (x33_2 + 8)) t203 (t203.length : Int) (wrap64 (x230_2 + 1)))))) else (none)) else (none)) else (none)) = some r := by first | (rw [hji135] at H; exact H) | (simp only [hji135] at H ⊢; exact H)
                    have hji135w : (IntKind.i64.wrap (x230_2 - 1)) = ji135 := (i64_w _).trans hji135
                    by_cases c136 : 0 ≤ (ji135)
                    ·
                     rw [if_pos c136] at H
                     have c136b0 : decide (0 ≤ (ji135)) = true := decide_eq_true c136
                     clear c136
                     by_cases c137 : (ji135) < (t203.length : Int)
                     ·
                      rw [if_pos c137] at H
                      have c137b0 : decide ((ji135) < (t203.length : Int)) = true := decide_eq_true c137
                      clear c137
                      by_cases c138 : 0 < ((rd_L1 t203 (ji135)).length : Int)
                      ·
                       as_aux_lemma =>
                        rw [if_pos c138] at H
                        have c138b0 : decide (0 < ((rd_L1 t203 (ji135)).length : Int)) = true := decide_eq_true c138
                        have c138b1 : decide (0 < (rd_L1 t203 (ji135)).length) = true := decide_eq_true (by omega)
                        clear c138
                        by_cases c139 : (rd (rd_L1 t203 (ji135)) 0) ≥ (rd (rd_L1 t203 x230_2) 0)
                        ·
                         as_aux_lemma =>
                          rw [if_pos c139] at H
                          have c139b0 : decide ((rd (rd_L1 t203 x230_2) 0) ≤ (rd (rd_L1 t203 (ji135)) 0)) = true := decide_eq_true c139
                          clear c139
                          first
                          | exact absurd (Option.some.inj (H.trans (congrArg some HRT.out))) Bool.false_ne_true
                          |
                           obtain rfl := Option.some.inj H
                           have p241 : 0 ≤ (x230_2 : Int) := of_decide_eq_true (by first | (with_reducible assumption) | assumption)
                           have q241 : x230_2 < (t203.length : Int) := of_decide_eq_true (by first | (with_reducible assumption) | assumption)
                           obtain ⟨ad241, A241_0, c241_0, e241, hx241_0, hl241_0, hi241_0⟩ := at_L1 (Kd.S_reads' HO_228.out).2.2 x230_2 p241 q241
                           cases e241
                           obtain ⟨ce241, hce241, hMe241, hcc241⟩ := Kd.S_get HO_228.out [] x230_2 p241 (by first | exact q241 | exact of_decide_eq_true (by first | (with_reducible assumption) | assumption) | (have e_ := (Kd.S_reads' HO_228.out).1; omega))
                           obtain ⟨ve241_0, rfl, ge241_0⟩ := hMe241
                           have hv241_0 := hcc241 0 _ rfl
                           rw [Nat.add_zero, show ((Kd.slice 3 (Kd.int .i64))).sz = 1 from rfl, Nat.mul_one] at hv241_0
                           replace hv241_0 := Option.some.inj (hv241_0.symm.trans hx241_0)
                           rw [hv241_0] at ge241_0
                           have HL241_0 := Aside0.mk (show Kd.R (Kd.int .i64) 3 _ _ _ _ (rd_L1 t203 x230_2) from ge241_0)
                           clear hv241_0 ge241_0
                           clear hcc241 hce241
                           have HR241_0 := Aside0.mk hi241_0
                           have HC241_0 := Aside0.mk hl241_0
                           clear hi241_0 hl241_0
                           replace p241 := eq_true p241
                           replace q241 := eq_true q241
                           have p242 : 0 ≤ (0 : Int) := (by omega)
                           have q242 : 0 < ((rd_L1 t203 x230_2).length : Int) := of_decide_eq_true (by first | (with_reducible assumption) | assumption)
                           obtain ⟨ad242, e242, hx242_0⟩ := Kd.at_int (by repeat (first | (with_reducible exact HR241_0.out) | (with_reducible refine Kd.C_alloc ?_ _) | (with_reducible refine Kd.C_drewN ?_ _) | (with_reducible refine Kd.C_drew ?_) | exact HR241_0.out)) 0 p242 q242
                           cases e242
                           have qi242 : (0 < (rd_L1 t203 x230_2).length) = True := eq_true (by omega)
                           (try rw [show ((0 : Int)).toNat = 0 from rfl] at hx242_0)
                           (try rw [Addr.add_zero'] at hx242_0)
                           replace p242 := eq_true p242
                           replace q242 := eq_true q242
                           have p243 : 0 ≤ (0 : Int) := (by omega)
                           have q243 : 0 < ((rd_L1 t203 x230_2).length : Int) := of_decide_eq_true (by first | (with_reducible assumption) | assumption)
                           obtain ⟨ad243, e243, hx243_0⟩ := Kd.at_int (by repeat (first | (with_reducible exact HR241_0.out) | (with_reducible refine Kd.C_alloc ?_ _) | (with_reducible refine Kd.C_drewN ?_ _) | (with_reducible refine Kd.C_drew ?_) | exact HR241_0.out)) 0 p243 q243
                           obtain rfl : ad242 = ad243 := (by injection e243)
                           have qi243 : (0 < (rd_L1 t203 x230_2).length) = True := eq_true (by omega)
                           (try rw [show ((0 : Int)).toNat = 0 from rfl] at hx243_0)
                           (try rw [Addr.add_zero'] at hx243_0)
                           replace p243 := eq_true p243
                           replace q243 := eq_true q243
                           have p244 : 0 ≤ (1 : Int) := (by omega)
                           have q244 : 1 < ((rd_L1 t203 x230_2).length : Int) := of_decide_eq_true (by first | (with_reducible assumption) | assumption)
                           obtain ⟨ad244, e244, hx244_0⟩ := Kd.at_int (by repeat (first | (with_reducible exact HR241_0.out) | (with_reducible refine Kd.C_alloc ?_ _) | (with_reducible refine Kd.C_drewN ?_ _) | (with_reducible refine Kd.C_drew ?_) | exact HR241_0.out)) 1 p244 q244
                           obtain rfl : ad242 = ad244 := (by injection e244)
                           (try simp only [show (1 : Int).toNat = 1 from rfl, Nat.reduceMul, Nat.reduceEqDiff, Go.Addr.add, ↓reduceIte] at hx244_0)
                           have qi244 : (1 < (rd_L1 t203 x230_2).length) = True := eq_true (by omega)
                           (try rw [show ((1 : Int)).toNat = 1 from rfl] at hx244_0)
                           replace p244 := eq_true p244
                           replace q244 := eq_true q244
                           have p245 : 0 ≤ (0 : Int) := (by omega)
                           have q245 : 0 < ((rd_L1 t203 x230_2).length : Int) := of_decide_eq_true (by first | (with_reducible assumption) | assumption)
                           obtain ⟨ad245, e245, hx245_0⟩ := Kd.at_int (by repeat (first | (with_reducible exact HR241_0.out) | (with_reducible refine Kd.C_alloc ?_ _) | (with_reducible refine Kd.C_drewN ?_ _) | (with_reducible refine Kd.C_drew ?_) | exact HR241_0.out)) 0 p245 q245
                           obtain rfl : ad242 = ad245 := (by injection e245)
                           have qi245 : (0 < (rd_L1 t203 x230_2).length) = True := eq_true (by omega)
                           (try rw [show ((0 : Int)).toNat = 0 from rfl] at hx245_0)
                           (try rw [Addr.add_zero'] at hx245_0)
                           replace p245 := eq_true p245
                           replace q245 := eq_true q245
                           have p246 : 0 ≤ (0 : Int) := (by omega)
                           have q246 : 0 < ((rd_L1 t203 x230_2).length : Int) := of_decide_eq_true (by first | (with_reducible assumption) | assumption)
                           obtain ⟨ad246, e246, hx246_0⟩ := Kd.at_int (by repeat (first | (with_reducible exact HR241_0.out) | (with_reducible refine Kd.C_alloc ?_ _) | (with_reducible refine Kd.C_drewN ?_ _) | (with_reducible refine Kd.C_drew ?_) | exact HR241_0.out)) 0 p246 q246
                           obtain rfl : ad242 = ad246 := (by injection e246)
                           have qi246 : (0 < (rd_L1 t203 x230_2).length) = True := eq_true (by omega)
                           (try rw [show ((0 : Int)).toNat = 0 from rfl] at hx246_0)
                           (try rw [Addr.add_zero'] at hx246_0)
                           replace p246 := eq_true p246
                           replace q246 := eq_true q246
                           have p247 : 0 ≤ (1 : Int) := (by omega)
                           have q247 : 1 < ((rd_L1 t203 x230_2).length : Int) := of_decide_eq_true (by first | (with_reducible assumption) | assumption)
                           obtain ⟨ad247, e247, hx247_0⟩ := Kd.at_int (by repeat (first | (with_reducible exact HR241_0.out) | (with_reducible refine Kd.C_alloc ?_ _) | (with_reducible refine Kd.C_drewN ?_ _) | (with_reducible refine Kd.C_drew ?_) | exact HR241_0.out)) 1 p247 q247
                           obtain rfl : ad242 = ad247 := (by injection e247)
                           (try simp only [show (1 : Int).toNat = 1 from rfl, Nat.reduceMul, Nat.reduceEqDiff, Go.Addr.add, ↓reduceIte] at hx247_0)
                           have qi247 : (1 < (rd_L1 t203 x230_2).length) = True := eq_true (by omega)
                           (try rw [show ((1 : Int)).toNat = 1 from rfl] at hx247_0)
                           replace p247 := eq_true p247
                           replace q247 := eq_true q247
                           have p248 : 0 ≤ (1 : Int) := (by omega)
                           have q248 : 1 < ((rd_L1 t203 x230_2).length : Int) := of_decide_eq_true (by first | (with_reducible assumption) | assumption)
                           obtain ⟨ad248, e248, hx248_0⟩ := Kd.at_int (by repeat (first | (with_reducible exact HR241_0.out) | (with_reducible refine Kd.C_alloc ?_ _) | (with_reducible refine Kd.C_drewN ?_ _) | (with_reducible refine Kd.C_drew ?_) | exact HR241_0.out)) 1 p248 q248
                           obtain rfl : ad242 = ad248 := (by injection e248)
                           (try simp only [show (1 : Int).toNat = 1 from rfl, Nat.reduceMul, Nat.reduceEqDiff, Go.Addr.add, ↓reduceIte] at hx248_0)
                           have qi248 : (1 < (rd_L1 t203 x230_2).length) = True := eq_true (by omega)
                           (try rw [show ((1 : Int)).toNat = 1 from rfl] at hx248_0)
                           replace p248 := eq_true p248
                           replace q248 := eq_true q248
                           have p249 : 0 ≤ ((ji135) : Int) := of_decide_eq_true (by first | (with_reducible assumption) | assumption)
                           have q249 : (ji135) < (t203.length : Int) := of_decide_eq_true (by first | (with_reducible assumption) | assumption)
                           obtain ⟨ad249, A249_0, c249_0, e249, hx249_0, hl249_0, hi249_0⟩ := at_L1 (Kd.S_reads' HO_5.out).2.2 (ji135) p249 q249
                           obtain rfl : ad241 = ad249 := (by injection e249)
                           obtain ⟨ce249, hce249, hMe249, hcc249⟩ := Kd.S_get HO_5.out [] (ji135) p249 (by first | exact q249 | exact of_decide_eq_true (by first | (with_reducible assumption) | assumption) | (have e_ := (Kd.S_reads' HO_5.out).1; omega))
                           obtain ⟨ve249_0, rfl, ge249_0⟩ := hMe249
                           have hv249_0 := hcc249 0 _ rfl
                           rw [Nat.add_zero, show ((Kd.slice 3 (Kd.int .i64))).sz = 1 from rfl, Nat.mul_one] at hv249_0
                           replace hv249_0 := Option.some.inj (hv249_0.symm.trans hx249_0)
                           rw [hv249_0] at ge249_0
                           have HL249_0 := Aside0.mk (show Kd.R (Kd.int .i64) 3 _ _ _ _ (rd_L1 t203 (ji135)) from ge249_0)
                           clear hv249_0 ge249_0
                           clear hcc249 hce249
                           have HR249_0 := Aside0.mk hi249_0
                           have HC249_0 := Aside0.mk hl249_0
                           clear hi249_0 hl249_0
                           replace p249 := eq_true p249
                           replace q249 := eq_true q249
                           have p250 : 0 ≤ (0 : Int) := (by omega)
                           have q250 : 0 < ((rd_L1 t203 (ji135)).length : Int) := of_decide_eq_true (by first | (with_reducible assumption) | assumption)
                           obtain ⟨ad250, e250, hx250_0⟩ := Kd.at_int (by repeat (first | (with_reducible exact HR249_0.out) | (with_reducible refine Kd.C_alloc ?_ _) | (with_reducible refine Kd.C_drewN ?_ _) | (with_reducible refine Kd.C_drew ?_) | exact HR249_0.out)) 0 p250 q250
                           cases e250
                           have qi250 : (0 < (rd_L1 t203 (ji135)).length) = True := eq_true (by omega)
                           (try rw [show ((0 : Int)).toNat = 0 from rfl] at hx250_0)
                           (try rw [Addr.add_zero'] at hx250_0)
                           replace p250 := eq_true p250
                           replace q250 := eq_true q250
                           have p251 : 0 ≤ (0 : Int) := (by omega)
                           have q251 : 0 < ((rd_L1 t203 x230_2).length : Int) := of_decide_eq_true (by first | (with_reducible assumption) | assumption)
                           obtain ⟨ad251, e251, hx251_0⟩ := Kd.at_int (by repeat (first | (with_reducible exact HR241_0.out) | (with_reducible refine Kd.C_alloc ?_ _) | (with_reducible refine Kd.C_drewN ?_ _) | (with_reducible refine Kd.C_drew ?_) | exact HR241_0.out)) 0 p251 q251
                           obtain rfl : ad242 = ad251 := (by injection e251)
                           have qi251 : (0 < (rd_L1 t203 x230_2).length) = True := eq_true (by omega)
                           (try rw [show ((0 : Int)).toNat = 0 from rfl] at hx251_0)
                           (try rw [Addr.add_zero'] at hx251_0)
                           replace p251 := eq_true p251
                           replace q251 := eq_true q251
                           go_wp2
                           repeat (go_quiet (fail); try go_wp2)
                           go_ret
                           exact ⟨by first | rfl | (simp [errW_none, errW_some] <;> rfl) | (simp only [← hji135]; first | rfl | (simp [errW_none, errW_some] <;> rfl)) | (simp [*, errW_none, errW_some] <;> rfl), by repeat (first | (with_reducible first | exact HB.out | apply below_alloc | apply pw_below_drewN | apply below_drew1))⟩
                        rw [if_neg c139] at H
                        have c139b0 : decide ((rd (rd_L1 t203 x230_2) 0) ≤ (rd (rd_L1 t203 (ji135)) 0)) = false := decide_eq_false c139
                        clear c139
                        by_cases c140 : (rd (rd_L1 t203 x230_2) 0) = 0
                        ·
                         as_aux_lemma =>
                          rw [if_pos c140] at H
                          have c140b0 : ((rd (rd_L1 t203 x230_2) 0) == 0) = true := beq_iff_eq.mpr c140
                          have c140b1 : ((rd (rd_L1 t203 x230_2) 0) != 0) = false := bne_eq_false_iff_eq.mpr c140
                          clear c140
                          have H' := Aside0.mk H
                          clear H
                          have p241 : 0 ≤ (x230_2 : Int) := of_decide_eq_true (by first | (with_reducible assumption) | assumption)
                          have q241 : x230_2 < (t203.length : Int) := of_decide_eq_true (by first | (with_reducible assumption) | assumption)
                          obtain ⟨ad241, A241_0, c241_0, e241, hx241_0, hl241_0, hi241_0⟩ := at_L1 (Kd.S_reads' HO_228.out).2.2 x230_2 p241 q241
                          cases e241
                          obtain ⟨ce241, hce241, hMe241, hcc241⟩ := Kd.S_get HO_228.out [] x230_2 p241 (by first | exact q241 | exact of_decide_eq_true (by first | (with_reducible assumption) | assumption) | (have e_ := (Kd.S_reads' HO_228.out).1; omega))
                          obtain ⟨ve241_0, rfl, ge241_0⟩ := hMe241
                          have hv241_0 := hcc241 0 _ rfl
                          rw [Nat.add_zero, show ((Kd.slice 3 (Kd.int .i64))).sz = 1 from rfl, Nat.mul_one] at hv241_0
                          replace hv241_0 := Option.some.inj (hv241_0.symm.trans hx241_0)
                          rw [hv241_0] at ge241_0
                          have HL241_0 := Aside0.mk (show Kd.R (Kd.int .i64) 3 _ _ _ _ (rd_L1 t203 x230_2) from ge241_0)
                          clear hv241_0 ge241_0
                          clear hcc241 hce241
                          have HR241_0 := Aside0.mk hi241_0
                          have HC241_0 := Aside0.mk hl241_0
                          clear hi241_0 hl241_0
                          replace p241 := eq_true p241
                          replace q241 := eq_true q241
                          have p242 : 0 ≤ (0 : Int) := (by omega)
                          have q242 : 0 < ((rd_L1 t203 x230_2).length : Int) := of_decide_eq_true (by first | (with_reducible assumption) | assumption)
                          obtain ⟨ad242, e242, hx242_0⟩ := Kd.at_int (by repeat (first | (with_reducible exact HR241_0.out) | (with_reducible refine Kd.C_alloc ?_ _) | (with_reducible refine Kd.C_drewN ?_ _) | (with_reducible refine Kd.C_drew ?_) | exact HR241_0.out)) 0 p242 q242
                          cases e242
                          have qi242 : (0 < (rd_L1 t203 x230_2).length) = True := eq_true (by omega)
                          (try rw [show ((0 : Int)).toNat = 0 from rfl] at hx242_0)
                          (try rw [Addr.add_zero'] at hx242_0)
                          replace p242 := eq_true p242
                          replace q242 := eq_true q242
                          have p243 : 0 ≤ (0 : Int) := (by omega)
                          have q243 : 0 < ((rd_L1 t203 x230_2).length : Int) := of_decide_eq_true (by first | (with_reducible assumption) | assumption)
                          obtain ⟨ad243, e243, hx243_0⟩ := Kd.at_int (by repeat (first | (with_reducible exact HR241_0.out) | (with_reducible refine Kd.C_alloc ?_ _) | (with_reducible refine Kd.C_drewN ?_ _) | (with_reducible refine Kd.C_drew ?_) | exact HR241_0.out)) 0 p243 q243
                          obtain rfl : ad242 = ad243 := (by injection e243)
                          have qi243 : (0 < (rd_L1 t203 x230_2).length) = True := eq_true (by omega)
                          (try rw [show ((0 : Int)).toNat = 0 from rfl] at hx243_0)
                          (try rw [Addr.add_zero'] at hx243_0)
                          replace p243 := eq_true p243
                          replace q243 := eq_true q243
                          have p244 : 0 ≤ (1 : Int) := (by omega)
                          have q244 : 1 < ((rd_L1 t203 x230_2).length : Int) := of_decide_eq_true (by first | (with_reducible assumption) | assumption)
                          obtain ⟨ad244, e244, hx244_0⟩ := Kd.at_int (by repeat (first | (with_reducible exact HR241_0.out) | (with_reducible refine Kd.C_alloc ?_ _) | (with_reducible refine Kd.C_drewN ?_ _) | (with_reducible refine Kd.C_drew ?_) | exact HR241_0.out)) 1 p244 q244
                          obtain rfl : ad242 = ad244 := (by injection e244)
                          (try simp only [show (1 : Int).toNat = 1 from rfl, Nat.reduceMul, Nat.reduceEqDiff, Go.Addr.add, ↓reduceIte] at hx244_0)
                          have qi244 : (1 < (rd_L1 t203 x230_2).length) = True := eq_true (by omega)
                          (try rw [show ((1 : Int)).toNat = 1 from rfl] at hx244_0)
                          replace p244 := eq_true p244
                          replace q244 := eq_true q244
                          have p245 : 0 ≤ (0 : Int) := (by omega)
                          have q245 : 0 < ((rd_L1 t203 x230_2).length : Int) := of_decide_eq_true (by first | (with_reducible assumption) | assumption)
                          obtain ⟨ad245, e245, hx245_0⟩ := Kd.at_int (by repeat (first | (with_reducible exact HR241_0.out) | (with_reducible refine Kd.C_alloc ?_ _) | (with_reducible refine Kd.C_drewN ?_ _) | (with_reducible refine Kd.C_drew ?_) | exact HR241_0.out)) 0 p245 q245
                          obtain rfl : ad242 = ad245 := (by injection e245)
                          have qi245 : (0 < (rd_L1 t203 x230_2).length) = True := eq_true (by omega)
                          (try rw [show ((0 : Int)).toNat = 0 from rfl] at hx245_0)
                          (try rw [Addr.add_zero'] at hx245_0)
                          replace p245 := eq_true p245
                          replace q245 := eq_true q245
                          have p246 : 0 ≤ (0 : Int) := (by omega)
                          have q246 : 0 < ((rd_L1 t203 x230_2).length : Int) := of_decide_eq_true (by first | (with_reducible assumption) | assumption)
                          obtain ⟨ad246, e246, hx246_0⟩ := Kd.at_int (by repeat (first | (with_reducible exact HR241_0.out) | (with_reducible refine Kd.C_alloc ?_ _) | (with_reducible refine Kd.C_drewN ?_ _) | (with_reducible refine Kd.C_drew ?_) | exact HR241_0.out)) 0 p246 q246
                          obtain rfl : ad242 = ad246 := (by injection e246)
                          have qi246 : (0 < (rd_L1 t203 x230_2).length) = True := eq_true (by omega)
                          (try rw [show ((0 : Int)).toNat = 0 from rfl] at hx246_0)
                          (try rw [Addr.add_zero'] at hx246_0)
                          replace p246 := eq_true p246
                          replace q246 := eq_true q246
                          have p247 : 0 ≤ (1 : Int) := (by omega)
                          have q247 : 1 < ((rd_L1 t203 x230_2).length : Int) := of_decide_eq_true (by first | (with_reducible assumption) | assumption)
                          obtain ⟨ad247, e247, hx247_0⟩ := Kd.at_int (by repeat (first | (with_reducible exact HR241_0.out) | (with_reducible refine Kd.C_alloc ?_ _) | (with_reducible refine Kd.C_drewN ?_ _) | (with_reducible refine Kd.C_drew ?_) | exact HR241_0.out)) 1 p247 q247
                          obtain rfl : ad242 = ad247 := (by injection e247)
                          (try simp only [show (1 : Int).toNat = 1 from rfl, Nat.reduceMul, Nat.reduceEqDiff, Go.Addr.add, ↓reduceIte] at hx247_0)
                          have qi247 : (1 < (rd_L1 t203 x230_2).length) = True := eq_true (by omega)
                          (try rw [show ((1 : Int)).toNat = 1 from rfl] at hx247_0)
                          replace p247 := eq_true p247
                          replace q247 := eq_true q247
                          have p248 : 0 ≤ (1 : Int) := (by omega)
                          have q248 : 1 < ((rd_L1 t203 x230_2).length : Int) := of_decide_eq_true (by first | (with_reducible assumption) | assumption)
                          obtain ⟨ad248, e248, hx248_0⟩ := Kd.at_int (by repeat (first | (with_reducible exact HR241_0.out) | (with_reducible refine Kd.C_alloc ?_ _) | (with_reducible refine Kd.C_drewN ?_ _) | (with_reducible refine Kd.C_drew ?_) | exact HR241_0.out)) 1 p248 q248
                          obtain rfl : ad242 = ad248 := (by injection e248)
                          (try simp only [show (1 : Int).toNat = 1 from rfl, Nat.reduceMul, Nat.reduceEqDiff, Go.Addr.add, ↓reduceIte] at hx248_0)
                          have qi248 : (1 < (rd_L1 t203 x230_2).length) = True := eq_true (by omega)
                          (try rw [show ((1 : Int)).toNat = 1 from rfl] at hx248_0)
                          replace p248 := eq_true p248
                          replace q248 := eq_true q248
                          have p249 : 0 ≤ ((ji135) : Int) := of_decide_eq_true (by first | (with_reducible assumption) | assumption)
                          have q249 : (ji135) < (t203.length : Int) := of_decide_eq_true (by first | (with_reducible assumption) | assumption)
                          obtain ⟨ad249, A249_0, c249_0, e249, hx249_0, hl249_0, hi249_0⟩ := at_L1 (Kd.S_reads' HO_5.out).2.2 (ji135) p249 q249
                          obtain rfl : ad241 = ad249 := (by injection e249)
                          obtain ⟨ce249, hce249, hMe249, hcc249⟩ := Kd.S_get HO_5.out [] (ji135) p249 (by first | exact q249 | exact of_decide_eq_true (by first | (with_reducible assumption) | assumption) | (have e_ := (Kd.S_reads' HO_5.out).1; omega))
                          obtain ⟨ve249_0, rfl, ge249_0⟩ := hMe249
                          have hv249_0 := hcc249 0 _ rfl
                          rw [Nat.add_zero, show ((Kd.slice 3 (Kd.int .i64))).sz = 1 from rfl, Nat.mul_one] at hv249_0
                          replace hv249_0 := Option.some.inj (hv249_0.symm.trans hx249_0)
                          rw [hv249_0] at ge249_0
                          have HL249_0 := Aside0.mk (show Kd.R (Kd.int .i64) 3 _ _ _ _ (rd_L1 t203 (ji135)) from ge249_0)
                          clear hv249_0 ge249_0
                          clear hcc249 hce249
                          have HR249_0 := Aside0.mk hi249_0
                          have HC249_0 := Aside0.mk hl249_0
                          clear hi249_0 hl249_0
                          replace p249 := eq_true p249
                          replace q249 := eq_true q249
                          have p250 : 0 ≤ (0 : Int) := (by omega)
                          have q250 : 0 < ((rd_L1 t203 (ji135)).length : Int) := of_decide_eq_true (by first | (with_reducible assumption) | assumption)
                          obtain ⟨ad250, e250, hx250_0⟩ := Kd.at_int (by repeat (first | (with_reducible exact HR249_0.out) | (with_reducible refine Kd.C_alloc ?_ _) | (with_reducible refine Kd.C_drewN ?_ _) | (with_reducible refine Kd.C_drew ?_) | exact HR249_0.out)) 0 p250 q250
                          cases e250
                          have qi250 : (0 < (rd_L1 t203 (ji135)).length) = True := eq_true (by omega)
                          (try rw [show ((0 : Int)).toNat = 0 from rfl] at hx250_0)
                          (try rw [Addr.add_zero'] at hx250_0)
                          replace p250 := eq_true p250
                          replace q250 := eq_true q250
                          have p251 : 0 ≤ (0 : Int) := (by omega)
                          have q251 : 0 < ((rd_L1 t203 x230_2).length : Int) := of_decide_eq_true (by first | (with_reducible assumption) | assumption)
                          obtain ⟨ad251, e251, hx251_0⟩ := Kd.at_int (by repeat (first | (with_reducible exact HR241_0.out) | (with_reducible refine Kd.C_alloc ?_ _) | (with_reducible refine Kd.C_drewN ?_ _) | (with_reducible refine Kd.C_drew ?_) | exact HR241_0.out)) 0 p251 q251
                          obtain rfl : ad242 = ad251 := (by injection e251)
                          have qi251 : (0 < (rd_L1 t203 x230_2).length) = True := eq_true (by omega)
                          (try rw [show ((0 : Int)).toNat = 0 from rfl] at hx251_0)
                          (try rw [Addr.add_zero'] at hx251_0)
                          replace p251 := eq_true p251
                          replace q251 := eq_true q251
                          have p252 : 0 ≤ (0 : Int) := (by omega)
                          have q252 : 0 < ((rd_L1 t203 x230_2).length : Int) := of_decide_eq_true (by first | (with_reducible assumption) | assumption)
                          obtain ⟨ad252, e252, hx252_0⟩ := Kd.at_int (by repeat (first | (with_reducible exact HR241_0.out) | (with_reducible refine Kd.C_alloc ?_ _) | (with_reducible refine Kd.C_drewN ?_ _) | (with_reducible refine Kd.C_drew ?_) | exact HR241_0.out)) 0 p252 q252
                          obtain rfl : ad242 = ad252 := (by injection e252)
                          have qi252 : (0 < (rd_L1 t203 x230_2).length) = True := eq_true (by omega)
                          (try rw [show ((0 : Int)).toNat = 0 from rfl] at hx252_0)
                          (try rw [Addr.add_zero'] at hx252_0)
                          replace p252 := eq_true p252
                          replace q252 := eq_true q252
                          go_wp2
                          repeat (go_quiet (fail); try go_wp2)
                          go_roundg k2
                          case measure => have := HJ16.out; have := HK2.out; omega
                          case rel => exact ⟨(wrap64 (x33_2 + 4)), (wrap64 (x230_2 + 1)), (by first | rfl | (simp; done) | (simp [*]; done)), (by first | rfl | (simp; done) | (simp [*]; done)), H', ⟨by have := HJ16.out; have := HK2.out; omega⟩, ⟨by (with_reducible repeat (first | apply Kd.S_alloc | apply Kd.S_drewN | apply Kd.S_drew)); exact HO_5.out⟩, ⟨by (with_reducible repeat (first | apply Kd.R_alloc | apply Kd.R_drewN | apply Kd.R_drew)); exact HO_21.out⟩, ⟨by (with_reducible repeat (first | apply Kd.S_alloc | apply Kd.S_drewN | apply Kd.S_drew)); exact HO_228.out⟩, ⟨by repeat (first | (with_reducible first | exact HB.out | apply below_alloc | apply pw_below_drewN | apply below_drew1))⟩⟩
                        rw [if_neg c140] at H
                        have c140b0 : ((rd (rd_L1 t203 x230_2) 0) == 0) = false := beq_eq_false_iff_ne.mpr c140
                        have c140b1 : ((rd (rd_L1 t203 x230_2) 0) != 0) = true := bne_iff_ne.mpr c140
                        by_cases c141 : (rd (rd_L1 t203 x230_2) 0) = (rd (rd_L1 t203 x230_2) 1)
                        ·
                         as_aux_lemma =>
                          rw [if_pos c141] at H
                          have c141b0 : ((rd (rd_L1 t203 x230_2) 0) == (rd (rd_L1 t203 x230_2) 1)) = true := beq_iff_eq.mpr c141
                          have c141b1 : ((rd (rd_L1 t203 x230_2) 0) != (rd (rd_L1 t203 x230_2) 1)) = false := bne_eq_false_iff_eq.mpr c141
                          clear c141
                          have H' := Aside0.mk H
                          clear H
                          have p241 : 0 ≤ (x230_2 : Int) := of_decide_eq_true (by first | (with_reducible assumption) | assumption)
                          have q241 : x230_2 < (t203.length : Int) := of_decide_eq_true (by first | (with_reducible assumption) | assumption)
                          obtain ⟨ad241, A241_0, c241_0, e241, hx241_0, hl241_0, hi241_0⟩ := at_L1 (Kd.S_reads' HO_228.out).2.2 x230_2 p241 q241
                          cases e241
                          obtain ⟨ce241, hce241, hMe241, hcc241⟩ := Kd.S_get HO_228.out [] x230_2 p241 (by first | exact q241 | exact of_decide_eq_true (by first | (with_reducible assumption) | assumption) | (have e_ := (Kd.S_reads' HO_228.out).1; omega))
                          obtain ⟨ve241_0, rfl, ge241_0⟩ := hMe241
                          have hv241_0 := hcc241 0 _ rfl
                          rw [Nat.add_zero, show ((Kd.slice 3 (Kd.int .i64))).sz = 1 from rfl, Nat.mul_one] at hv241_0
                          replace hv241_0 := Option.some.inj (hv241_0.symm.trans hx241_0)
                          rw [hv241_0] at ge241_0
                          have HL241_0 := Aside0.mk (show Kd.R (Kd.int .i64) 3 _ _ _ _ (rd_L1 t203 x230_2) from ge241_0)
                          clear hv241_0 ge241_0
                          clear hcc241 hce241
                          have HR241_0 := Aside0.mk hi241_0
                          have HC241_0 := Aside0.mk hl241_0
                          clear hi241_0 hl241_0
                          replace p241 := eq_true p241
                          replace q241 := eq_true q241
                          have p242 : 0 ≤ (0 : Int) := (by omega)
                          have q242 : 0 < ((rd_L1 t203 x230_2).length : Int) := of_decide_eq_true (by first | (with_reducible assumption) | assumption)
                          obtain ⟨ad242, e242, hx242_0⟩ := Kd.at_int (by repeat (first | (with_reducible exact HR241_0.out) | (with_reducible refine Kd.C_alloc ?_ _) | (with_reducible refine Kd.C_drewN ?_ _) | (with_reducible refine Kd.C_drew ?_) | exact HR241_0.out)) 0 p242 q242
                          cases e242
                          have qi242 : (0 < (rd_L1 t203 x230_2).length) = True := eq_true (by omega)
                          (try rw [show ((0 : Int)).toNat = 0 from rfl] at hx242_0)
                          (try rw [Addr.add_zero'] at hx242_0)
                          replace p242 := eq_true p242
                          replace q242 := eq_true q242
                          have p243 : 0 ≤ (0 : Int) := (by omega)
                          have q243 : 0 < ((rd_L1 t203 x230_2).length : Int) := of_decide_eq_true (by first | (with_reducible assumption) | assumption)
                          obtain ⟨ad243, e243, hx243_0⟩ := Kd.at_int (by repeat (first | (with_reducible exact HR241_0.out) | (with_reducible refine Kd.C_alloc ?_ _) | (with_reducible refine Kd.C_drewN ?_ _) | (with_reducible refine Kd.C_drew ?_) | exact HR241_0.out)) 0 p243 q243
                          obtain rfl : ad242 = ad243 := (by injection e243)
                          have qi243 : (0 < (rd_L1 t203 x230_2).length) = True := eq_true (by omega)
                          (try rw [show ((0 : Int)).toNat = 0 from rfl] at hx243_0)
                          (try rw [Addr.add_zero'] at hx243_0)
                          replace p243 := eq_true p243
                          replace q243 := eq_true q243
                          have p244 : 0 ≤ (1 : Int) := (by omega)
                          have q244 : 1 < ((rd_L1 t203 x230_2).length : Int) := of_decide_eq_true (by first | (with_reducible assumption) | assumption)
                          obtain ⟨ad244, e244, hx244_0⟩ := Kd.at_int (by repeat (first | (with_reducible exact HR241_0.out) | (with_reducible refine Kd.C_alloc ?_ _) | (with_reducible refine Kd.C_drewN ?_ _) | (with_reducible refine Kd.C_drew ?_) | exact HR241_0.out)) 1 p244 q244
                          obtain rfl : ad242 = ad244 := (by injection e244)
                          (try simp only [show (1 : Int).toNat = 1 from rfl, Nat.reduceMul, Nat.reduceEqDiff, Go.Addr.add, ↓reduceIte] at hx244_0)
                          have qi244 : (1 < (rd_L1 t203 x230_2).length) = True := eq_true (by omega)
                          (try rw [show ((1 : Int)).toNat = 1 from rfl] at hx244_0)
                          replace p244 := eq_true p244
                          replace q244 := eq_true q244
                          have p245 : 0 ≤ (0 : Int) := (by omega)
                          have q245 : 0 < ((rd_L1 t203 x230_2).length : Int) := of_decide_eq_true (by first | (with_reducible assumption) | assumption)
                          obtain ⟨ad245, e245, hx245_0⟩ := Kd.at_int (by repeat (first | (with_reducible exact HR241_0.out) | (with_reducible refine Kd.C_alloc ?_ _) | (with_reducible refine Kd.C_drewN ?_ _) | (with_reducible refine Kd.C_drew ?_) | exact HR241_0.out)) 0 p245 q245
                          obtain rfl : ad242 = ad245 := (by injection e245)
                          have qi245 : (0 < (rd_L1 t203 x230_2).length) = True := eq_true (by omega)
                          (try rw [show ((0 : Int)).toNat = 0 from rfl] at hx245_0)
                          (try rw [Addr.add_zero'] at hx245_0)
                          replace p245 := eq_true p245
                          replace q245 := eq_true q245
                          have p246 : 0 ≤ (0 : Int) := (by omega)
                          have q246 : 0 < ((rd_L1 t203 x230_2).length : Int) := of_decide_eq_true (by first | (with_reducible assumption) | assumption)
                          obtain ⟨ad246, e246, hx246_0⟩ := Kd.at_int (by repeat (first | (with_reducible exact HR241_0.out) | (with_reducible refine Kd.C_alloc ?_ _) | (with_reducible refine Kd.C_drewN ?_ _) | (with_reducible refine Kd.C_drew ?_) | exact HR241_0.out)) 0 p246 q246
                          obtain rfl : ad242 = ad246 := (by injection e246)
                          have qi246 : (0 < (rd_L1 t203 x230_2).length) = True := eq_true (by omega)
                          (try rw [show ((0 : Int)).toNat = 0 from rfl] at hx246_0)
                          (try rw [Addr.add_zero'] at hx246_0)
                          replace p246 := eq_true p246
                          replace q246 := eq_true q246
                          have p247 : 0 ≤ (1 : Int) := (by omega)
                          have q247 : 1 < ((rd_L1 t203 x230_2).length : Int) := of_decide_eq_true (by first | (with_reducible assumption) | assumption)
                          obtain ⟨ad247, e247, hx247_0⟩ := Kd.at_int (by repeat (first | (with_reducible exact HR241_0.out) | (with_reducible refine Kd.C_alloc ?_ _) | (with_reducible refine Kd.C_drewN ?_ _) | (with_reducible refine Kd.C_drew ?_) | exact HR241_0.out)) 1 p247 q247
                          obtain rfl : ad242 = ad247 := (by injection e247)
                          (try simp only [show (1 : Int).toNat = 1 from rfl, Nat.reduceMul, Nat.reduceEqDiff, Go.Addr.add, ↓reduceIte] at hx247_0)
                          have qi247 : (1 < (rd_L1 t203 x230_2).length) = True := eq_true (by omega)
                          (try rw [show ((1 : Int)).toNat = 1 from rfl] at hx247_0)
                          replace p247 := eq_true p247
                          replace q247 := eq_true q247
                          have p248 : 0 ≤ (1 : Int) := (by omega)
                          have q248 : 1 < ((rd_L1 t203 x230_2).length : Int) := of_decide_eq_true (by first | (with_reducible assumption) | assumption)
                          obtain ⟨ad248, e248, hx248_0⟩ := Kd.at_int (by repeat (first | (with_reducible exact HR241_0.out) | (with_reducible refine Kd.C_alloc ?_ _) | (with_reducible refine Kd.C_drewN ?_ _) | (with_reducible refine Kd.C_drew ?_) | exact HR241_0.out)) 1 p248 q248
                          obtain rfl : ad242 = ad248 := (by injection e248)
                          (try simp only [show (1 : Int).toNat = 1 from rfl, Nat.reduceMul, Nat.reduceEqDiff, Go.Addr.add, ↓reduceIte] at hx248_0)
                          have qi248 : (1 < (rd_L1 t203 x230_2).length) = True := eq_true (by omega)
                          (try rw [show ((1 : Int)).toNat = 1 from rfl] at hx248_0)
                          replace p248 := eq_true p248
                          replace q248 := eq_true q248
                          have p249 : 0 ≤ ((ji135) : Int) := of_decide_eq_true (by first | (with_reducible assumption) | assumption)
                          have q249 : (ji135) < (t203.length : Int) := of_decide_eq_true (by first | (with_reducible assumption) | assumption)
                          obtain ⟨ad249, A249_0, c249_0, e249, hx249_0, hl249_0, hi249_0⟩ := at_L1 (Kd.S_reads' HO_5.out).2.2 (ji135) p249 q249
                          obtain rfl : ad241 = ad249 := (by injection e249)
                          obtain ⟨ce249, hce249, hMe249, hcc249⟩ := Kd.S_get HO_5.out [] (ji135) p249 (by first | exact q249 | exact of_decide_eq_true (by first | (with_reducible assumption) | assumption) | (have e_ := (Kd.S_reads' HO_5.out).1; omega))
                          obtain ⟨ve249_0, rfl, ge249_0⟩ := hMe249
                          have hv249_0 := hcc249 0 _ rfl
                          rw [Nat.add_zero, show ((Kd.slice 3 (Kd.int .i64))).sz = 1 from rfl, Nat.mul_one] at hv249_0
                          replace hv249_0 := Option.some.inj (hv249_0.symm.trans hx249_0)
                          rw [hv249_0] at ge249_0
                          have HL249_0 := Aside0.mk (show Kd.R (Kd.int .i64) 3 _ _ _ _ (rd_L1 t203 (ji135)) from ge249_0)
                          clear hv249_0 ge249_0
                          clear hcc249 hce249
                          have HR249_0 := Aside0.mk hi249_0
                          have HC249_0 := Aside0.mk hl249_0
                          clear hi249_0 hl249_0
                          replace p249 := eq_true p249
                          replace q249 := eq_true q249
                          have p250 : 0 ≤ (0 : Int) := (by omega)
                          have q250 : 0 < ((rd_L1 t203 (ji135)).length : Int) := of_decide_eq_true (by first | (with_reducible assumption) | assumption)
                          obtain ⟨ad250, e250, hx250_0⟩ := Kd.at_int (by repeat (first | (with_reducible exact HR249_0.out) | (with_reducible refine Kd.C_alloc ?_ _) | (with_reducible refine Kd.C_drewN ?_ _) | (with_reducible refine Kd.C_drew ?_) | exact HR249_0.out)) 0 p250 q250
                          cases e250
                          have qi250 : (0 < (rd_L1 t203 (ji135)).length) = True := eq_true (by omega)
                          (try rw [show ((0 : Int)).toNat = 0 from rfl] at hx250_0)
                          (try rw [Addr.add_zero'] at hx250_0)
                          replace p250 := eq_true p250
                          replace q250 := eq_true q250
                          have p251 : 0 ≤ (0 : Int) := (by omega)
                          have q251 : 0 < ((rd_L1 t203 x230_2).length : Int) := of_decide_eq_true (by first | (with_reducible assumption) | assumption)
                          obtain ⟨ad251, e251, hx251_0⟩ := Kd.at_int (by repeat (first | (with_reducible exact HR241_0.out) | (with_reducible refine Kd.C_alloc ?_ _) | (with_reducible refine Kd.C_drewN ?_ _) | (with_reducible refine Kd.C_drew ?_) | exact HR241_0.out)) 0 p251 q251
                          obtain rfl : ad242 = ad251 := (by injection e251)
                          have qi251 : (0 < (rd_L1 t203 x230_2).length) = True := eq_true (by omega)
                          (try rw [show ((0 : Int)).toNat = 0 from rfl] at hx251_0)
                          (try rw [Addr.add_zero'] at hx251_0)
                          replace p251 := eq_true p251
                          replace q251 := eq_true q251
                          have p252 : 0 ≤ (0 : Int) := (by omega)
                          have q252 : 0 < ((rd_L1 t203 x230_2).length : Int) := of_decide_eq_true (by first | (with_reducible assumption) | assumption)
                          obtain ⟨ad252, e252, hx252_0⟩ := Kd.at_int (by repeat (first | (with_reducible exact HR241_0.out) | (with_reducible refine Kd.C_alloc ?_ _) | (with_reducible refine Kd.C_drewN ?_ _) | (with_reducible refine Kd.C_drew ?_) | exact HR241_0.out)) 0 p252 q252
                          obtain rfl : ad242 = ad252 := (by injection e252)
                          have qi252 : (0 < (rd_L1 t203 x230_2).length) = True := eq_true (by omega)
                          (try rw [show ((0 : Int)).toNat = 0 from rfl] at hx252_0)
                          (try rw [Addr.add_zero'] at hx252_0)
                          replace p252 := eq_true p252
                          replace q252 := eq_true q252
                          have p253 : 0 ≤ (0 : Int) := (by omega)
                          have q253 : 0 < ((rd_L1 t203 x230_2).length : Int) := of_decide_eq_true (by first | (with_reducible assumption) | assumption)
                          obtain ⟨ad253, e253, hx253_0⟩ := Kd.at_int (by repeat (first | (with_reducible exact HR241_0.out) | (with_reducible refine Kd.C_alloc ?_ _) | (with_reducible refine Kd.C_drewN ?_ _) | (with_reducible refine Kd.C_drew ?_) | exact HR241_0.out)) 0 p253 q253
                          obtain rfl : ad242 = ad253 := (by injection e253)
                          have qi253 : (0 < (rd_L1 t203 x230_2).length) = True := eq_true (by omega)
                          (try rw [show ((0 : Int)).toNat = 0 from rfl] at hx253_0)
                          (try rw [Addr.add_zero'] at hx253_0)
                          replace p253 := eq_true p253
                          replace q253 := eq_true q253
                          have p254 : 0 ≤ (1 : Int) := (by omega)
                          have q254 : 1 < ((rd_L1 t203 x230_2).length : Int) := of_decide_eq_true (by first | (with_reducible assumption) | assumption)
                          obtain ⟨ad254, e254, hx254_0⟩ := Kd.at_int (by repeat (first | (with_reducible exact HR241_0.out) | (with_reducible refine Kd.C_alloc ?_ _) | (with_reducible refine Kd.C_drewN ?_ _) | (with_reducible refine Kd.C_drew ?_) | exact HR241_0.out)) 1 p254 q254
                          obtain rfl : ad242 = ad254 := (by injection e254)
                          (try simp only [show (1 : Int).toNat = 1 from rfl, Nat.reduceMul, Nat.reduceEqDiff, Go.Addr.add, ↓reduceIte] at hx254_0)
                          have qi254 : (1 < (rd_L1 t203 x230_2).length) = True := eq_true (by omega)
                          (try rw [show ((1 : Int)).toNat = 1 from rfl] at hx254_0)
                          replace p254 := eq_true p254
                          replace q254 := eq_true q254
                          go_wp2
                          repeat (go_quiet (fail); try go_wp2)
                          go_roundg k2
                          case measure => have := HJ16.out; have := HK2.out; omega
                          case rel => exact ⟨(wrap64 (x33_2 + 4)), (wrap64 (x230_2 + 1)), (by first | rfl | (simp; done) | (simp [*]; done)), (by first | rfl | (simp; done) | (simp [*]; done)), H', ⟨by have := HJ16.out; have := HK2.out; omega⟩, ⟨by (with_reducible repeat (first | apply Kd.S_alloc | apply Kd.S_drewN | apply Kd.S_drew)); exact HO_5.out⟩, ⟨by (with_reducible repeat (first | apply Kd.R_alloc | apply Kd.R_drewN | apply Kd.R_drew)); exact HO_21.out⟩, ⟨by (with_reducible repeat (first | apply Kd.S_alloc | apply Kd.S_drewN | apply Kd.S_drew)); exact HO_228.out⟩, ⟨by repeat (first | (with_reducible first | exact HB.out | apply below_alloc | apply pw_below_drewN | apply below_drew1))⟩⟩
                        rw [if_neg c141] at H
                        have c141b0 : ((rd (rd_L1 t203 x230_2) 0) == (rd (rd_L1 t203 x230_2) 1)) = false := beq_eq_false_iff_ne.mpr c141
                        have c141b1 : ((rd (rd_L1 t203 x230_2) 0) != (rd (rd_L1 t203 x230_2) 1)) = true := bne_iff_ne.mpr c141
                        have H' := Aside0.mk H
                        clear H
                        have p241 : 0 ≤ (x230_2 : Int) := of_decide_eq_true (by first | (with_reducible assumption) | assumption)
                        have q241 : x230_2 < (t203.length : Int) := of_decide_eq_true (by first | (with_reducible assumption) | assumption)
                        obtain ⟨ad241, A241_0, c241_0, e241, hx241_0, hl241_0, hi241_0⟩ := at_L1 (Kd.S_reads' HO_228.out).2.2 x230_2 p241 q241
                        cases e241
                        obtain ⟨ce241, hce241, hMe241, hcc241⟩ := Kd.S_get HO_228.out [] x230_2 p241 (by first | exact q241 | exact of_decide_eq_true (by first | (with_reducible assumption) | assumption) | (have e_ := (Kd.S_reads' HO_228.out).1; omega))
                        obtain ⟨ve241_0, rfl, ge241_0⟩ := hMe241
                        have hv241_0 := hcc241 0 _ rfl
                        rw [Nat.add_zero, show ((Kd.slice 3 (Kd.int .i64))).sz = 1 from rfl, Nat.mul_one] at hv241_0
                        replace hv241_0 := Option.some.inj (hv241_0.symm.trans hx241_0)
                        rw [hv241_0] at ge241_0
                        have HL241_0 := Aside0.mk (show Kd.R (Kd.int .i64) 3 _ _ _ _ (rd_L1 t203 x230_2) from ge241_0)
                        clear hv241_0 ge241_0
                        clear hcc241 hce241
                        have HR241_0 := Aside0.mk hi241_0
                        have HC241_0 := Aside0.mk hl241_0
                        clear hi241_0 hl241_0
                        replace p241 := eq_true p241
                        replace q241 := eq_true q241
                        have p242 : 0 ≤ (0 : Int) := (by omega)
                        have q242 : 0 < ((rd_L1 t203 x230_2).length : Int) := of_decide_eq_true (by first | (with_reducible assumption) | assumption)
                        obtain ⟨ad242, e242, hx242_0⟩ := Kd.at_int (by repeat (first | (with_reducible exact HR241_0.out) | (with_reducible refine Kd.C_alloc ?_ _) | (with_reducible refine Kd.C_drewN ?_ _) | (with_reducible refine Kd.C_drew ?_) | exact HR241_0.out)) 0 p242 q242
                        cases e242
                        have qi242 : (0 < (rd_L1 t203 x230_2).length) = True := eq_true (by omega)
                        (try rw [show ((0 : Int)).toNat = 0 from rfl] at hx242_0)
                        (try rw [Addr.add_zero'] at hx242_0)
                        replace p242 := eq_true p242
                        replace q242 := eq_true q242
                        have p243 : 0 ≤ (0 : Int) := (by omega)
                        have q243 : 0 < ((rd_L1 t203 x230_2).length : Int) := of_decide_eq_true (by first | (with_reducible assumption) | assumption)
                        obtain ⟨ad243, e243, hx243_0⟩ := Kd.at_int (by repeat (first | (with_reducible exact HR241_0.out) | (with_reducible refine Kd.C_alloc ?_ _) | (with_reducible refine Kd.C_drewN ?_ _) | (with_reducible refine Kd.C_drew ?_) | exact HR241_0.out)) 0 p243 q243
                        obtain rfl : ad242 = ad243 := (by injection e243)
                        have qi243 : (0 < (rd_L1 t203 x230_2).length) = True := eq_true (by omega)
                        (try rw [show ((0 : Int)).toNat = 0 from rfl] at hx243_0)
                        (try rw [Addr.add_zero'] at hx243_0)
                        replace p243 := eq_true p243
                        replace q243 := eq_true q243
                        have p244 : 0 ≤ (1 : Int) := (by omega)
                        have q244 : 1 < ((rd_L1 t203 x230_2).length : Int) := of_decide_eq_true (by first | (with_reducible assumption) | assumption)
                        obtain ⟨ad244, e244, hx244_0⟩ := Kd.at_int (by repeat (first | (with_reducible exact HR241_0.out) | (with_reducible refine Kd.C_alloc ?_ _) | (with_reducible refine Kd.C_drewN ?_ _) | (with_reducible refine Kd.C_drew ?_) | exact HR241_0.out)) 1 p244 q244
                        obtain rfl : ad242 = ad244 := (by injection e244)
                        (try simp only [show (1 : Int).toNat = 1 from rfl, Nat.reduceMul, Nat.reduceEqDiff, Go.Addr.add, ↓reduceIte] at hx244_0)
                        have qi244 : (1 < (rd_L1 t203 x230_2).length) = True := eq_true (by omega)
                        (try rw [show ((1 : Int)).toNat = 1 from rfl] at hx244_0)
                        replace p244 := eq_true p244
                        replace q244 := eq_true q244
                        have p245 : 0 ≤ (0 : Int) := (by omega)
                        have q245 : 0 < ((rd_L1 t203 x230_2).length : Int) := of_decide_eq_true (by first | (with_reducible assumption) | assumption)
                        obtain ⟨ad245, e245, hx245_0⟩ := Kd.at_int (by repeat (first | (with_reducible exact HR241_0.out) | (with_reducible refine Kd.C_alloc ?_ _) | (with_reducible refine Kd.C_drewN ?_ _) | (with_reducible refine Kd.C_drew ?_) | exact HR241_0.out)) 0 p245 q245
                        obtain rfl : ad242 = ad245 := (by injection e245)
                        have qi245 : (0 < (rd_L1 t203 x230_2).length) = True := eq_true (by omega)
                        (try rw [show ((0 : Int)).toNat = 0 from rfl] at hx245_0)
                        (try rw [Addr.add_zero'] at hx245_0)
                        replace p245 := eq_true p245
                        replace q245 := eq_true q245
                        have p246 : 0 ≤ (0 : Int) := (by omega)
                        have q246 : 0 < ((rd_L1 t203 x230_2).length : Int) := of_decide_eq_true (by first | (with_reducible assumption) | assumption)
                        obtain ⟨ad246, e246, hx246_0⟩ := Kd.at_int (by repeat (first | (with_reducible exact HR241_0.out) | (with_reducible refine Kd.C_alloc ?_ _) | (with_reducible refine Kd.C_drewN ?_ _) | (with_reducible refine Kd.C_drew ?_) | exact HR241_0.out)) 0 p246 q246
                        obtain rfl : ad242 = ad246 := (by injection e246)
                        have qi246 : (0 < (rd_L1 t203 x230_2).length) = True := eq_true (by omega)
                        (try rw [show ((0 : Int)).toNat = 0 from rfl] at hx246_0)
                        (try rw [Addr.add_zero'] at hx246_0)
                        replace p246 := eq_true p246
                        replace q246 := eq_true q246
                        have p247 : 0 ≤ (1 : Int) := (by omega)
                        have q247 : 1 < ((rd_L1 t203 x230_2).length : Int) := of_decide_eq_true (by first | (with_reducible assumption) | assumption)
                        obtain ⟨ad247, e247, hx247_0⟩ := Kd.at_int (by repeat (first | (with_reducible exact HR241_0.out) | (with_reducible refine Kd.C_alloc ?_ _) | (with_reducible refine Kd.C_drewN ?_ _) | (with_reducible refine Kd.C_drew ?_) | exact HR241_0.out)) 1 p247 q247
                        obtain rfl : ad242 = ad247 := (by injection e247)
                        (try simp only [show (1 : Int).toNat = 1 from rfl, Nat.reduceMul, Nat.reduceEqDiff, Go.Addr.add, ↓reduceIte] at hx247_0)
                        have qi247 : (1 < (rd_L1 t203 x230_2).length) = True := eq_true (by omega)
                        (try rw [show ((1 : Int)).toNat = 1 from rfl] at hx247_0)
                        replace p247 := eq_true p247
                        replace q247 := eq_true q247
                        have p248 : 0 ≤ (1 : Int) := (by omega)
                        have q248 : 1 < ((rd_L1 t203 x230_2).length : Int) := of_decide_eq_true (by first | (with_reducible assumption) | assumption)
                        obtain ⟨ad248, e248, hx248_0⟩ := Kd.at_int (by repeat (first | (with_reducible exact HR241_0.out) | (with_reducible refine Kd.C_alloc ?_ _) | (with_reducible refine Kd.C_drewN ?_ _) | (with_reducible refine Kd.C_drew ?_) | exact HR241_0.out)) 1 p248 q248
                        obtain rfl : ad242 = ad248 := (by injection e248)
                        (try simp only [show (1 : Int).toNat = 1 from rfl, Nat.reduceMul, Nat.reduceEqDiff, Go.Addr.add, ↓reduceIte] at hx248_0)
                        have qi248 : (1 < (rd_L1 t203 x230_2).length) = True := eq_true (by omega)
                        (try rw [show ((1 : Int)).toNat = 1 from rfl] at hx248_0)
                        replace p248 := eq_true p248
                        replace q248 := eq_true q248
                        have p249 : 0 ≤ ((ji135) : Int) := of_decide_eq_true (by first | (with_reducible assumption) | assumption)
                        have q249 : (ji135) < (t203.length : Int) := of_decide_eq_true (by first | (with_reducible assumption) | assumption)
                        obtain ⟨ad249, A249_0, c249_0, e249, hx249_0, hl249_0, hi249_0⟩ := at_L1 (Kd.S_reads' HO_5.out).2.2 (ji135) p249 q249
                        obtain rfl : ad241 = ad249 := (by injection e249)
                        obtain ⟨ce249, hce249, hMe249, hcc249⟩ := Kd.S_get HO_5.out [] (ji135) p249 (by first | exact q249 | exact of_decide_eq_true (by first | (with_reducible assumption) | assumption) | (have e_ := (Kd.S_reads' HO_5.out).1; omega))
                        obtain ⟨ve249_0, rfl, ge249_0⟩ := hMe249
                        have hv249_0 := hcc249 0 _ rfl
                        rw [Nat.add_zero, show ((Kd.slice 3 (Kd.int .i64))).sz = 1 from rfl, Nat.mul_one] at hv249_0
                        replace hv249_0 := Option.some.inj (hv249_0.symm.trans hx249_0)
                        rw [hv249_0] at ge249_0
                        have HL249_0 := Aside0.mk (show Kd.R (Kd.int .i64) 3 _ _ _ _ (rd_L1 t203 (ji135)) from ge249_0)
                        clear hv249_0 ge249_0
                        clear hcc249 hce249
                        have HR249_0 := Aside0.mk hi249_0
                        have HC249_0 := Aside0.mk hl249_0
                        clear hi249_0 hl249_0
                        replace p249 := eq_true p249
                        replace q249 := eq_true q249
                        have p250 : 0 ≤ (0 : Int) := (by omega)
                        have q250 : 0 < ((rd_L1 t203 (ji135)).length : Int) := of_decide_eq_true (by first | (with_reducible assumption) | assumption)
                        obtain ⟨ad250, e250, hx250_0⟩ := Kd.at_int (by repeat (first | (with_reducible exact HR249_0.out) | (with_reducible refine Kd.C_alloc ?_ _) | (with_reducible refine Kd.C_drewN ?_ _) | (with_reducible refine Kd.C_drew ?_) | exact HR249_0.out)) 0 p250 q250
                        cases e250
                        have qi250 : (0 < (rd_L1 t203 (ji135)).length) = True := eq_true (by omega)
                        (try rw [show ((0 : Int)).toNat = 0 from rfl] at hx250_0)
                        (try rw [Addr.add_zero'] at hx250_0)
                        replace p250 := eq_true p250
                        replace q250 := eq_true q250
                        have p251 : 0 ≤ (0 : Int) := (by omega)
                        have q251 : 0 < ((rd_L1 t203 x230_2).length : Int) := of_decide_eq_true (by first | (with_reducible assumption) | assumption)
                        obtain ⟨ad251, e251, hx251_0⟩ := Kd.at_int (by repeat (first | (with_reducible exact HR241_0.out) | (with_reducible refine Kd.C_alloc ?_ _) | (with_reducible refine Kd.C_drewN ?_ _) | (with_reducible refine Kd.C_drew ?_) | exact HR241_0.out)) 0 p251 q251
                        obtain rfl : ad242 = ad251 := (by injection e251)
                        have qi251 : (0 < (rd_L1 t203 x230_2).length) = True := eq_true (by omega)
                        (try rw [show ((0 : Int)).toNat = 0 from rfl] at hx251_0)
                        (try rw [Addr.add_zero'] at hx251_0)
                        replace p251 := eq_true p251
                        replace q251 := eq_true q251
                        have p252 : 0 ≤ (0 : Int) := (by omega)
                        have q252 : 0 < ((rd_L1 t203 x230_2).length : Int) := of_decide_eq_true (by first | (with_reducible assumption) | assumption)
                        obtain ⟨ad252, e252, hx252_0⟩ := Kd.at_int (by repeat (first | (with_reducible exact HR241_0.out) | (with_reducible refine Kd.C_alloc ?_ _) | (with_reducible refine Kd.C_drewN ?_ _) | (with_reducible refine Kd.C_drew ?_) | exact HR241_0.out)) 0 p252 q252
                        obtain rfl : ad242 = ad252 := (by injection e252)
                        have qi252 : (0 < (rd_L1 t203 x230_2).length) = True := eq_true (by omega)
                        (try rw [show ((0 : Int)).toNat = 0 from rfl] at hx252_0)
                        (try rw [Addr.add_zero'] at hx252_0)
                        replace p252 := eq_true p252
                        replace q252 := eq_true q252
                        have p253 : 0 ≤ (0 : Int) := (by omega)
                        have q253 : 0 < ((rd_L1 t203 x230_2).length : Int) := of_decide_eq_true (by first | (with_reducible assumption) | assumption)
                        obtain ⟨ad253, e253, hx253_0⟩ := Kd.at_int (by repeat (first | (with_reducible exact HR241_0.out) | (with_reducible refine Kd.C_alloc ?_ _) | (with_reducible refine Kd.C_drewN ?_ _) | (with_reducible refine Kd.C_drew ?_) | exact HR241_0.out)) 0 p253 q253
                        obtain rfl : ad242 = ad253 := (by injection e253)
                        have qi253 : (0 < (rd_L1 t203 x230_2).length) = True := eq_true (by omega)
                        (try rw [show ((0 : Int)).toNat = 0 from rfl] at hx253_0)
                        (try rw [Addr.add_zero'] at hx253_0)
                        replace p253 := eq_true p253
                        replace q253 := eq_true q253
                        have p254 : 0 ≤ (1 : Int) := (by omega)
                        have q254 : 1 < ((rd_L1 t203 x230_2).length : Int) := of_decide_eq_true (by first | (with_reducible assumption) | assumption)
                        obtain ⟨ad254, e254, hx254_0⟩ := Kd.at_int (by repeat (first | (with_reducible exact HR241_0.out) | (with_reducible refine Kd.C_alloc ?_ _) | (with_reducible refine Kd.C_drewN ?_ _) | (with_reducible refine Kd.C_drew ?_) | exact HR241_0.out)) 1 p254 q254
                        obtain rfl : ad242 = ad254 := (by injection e254)
                        (try simp only [show (1 : Int).toNat = 1 from rfl, Nat.reduceMul, Nat.reduceEqDiff, Go.Addr.add, ↓reduceIte] at hx254_0)
                        have qi254 : (1 < (rd_L1 t203 x230_2).length) = True := eq_true (by omega)
                        (try rw [show ((1 : Int)).toNat = 1 from rfl] at hx254_0)
                        replace p254 := eq_true p254
                        replace q254 := eq_true q254
                        go_wp2
                        repeat (go_quiet (fail); try go_wp2)
                        go_roundg k2
                        case measure => have := HJ16.out; have := HK2.out; omega
                        case rel => exact ⟨(wrap64 (x33_2 + 8)), (wrap64 (x230_2 + 1)), (by first | rfl | (simp; done) | (simp [*]; done)), (by first | rfl | (simp; done) | (simp [*]; done)), H', ⟨by have := HJ16.out; have := HK2.out; omega⟩, ⟨by (with_reducible repeat (first | apply Kd.S_alloc | apply Kd.S_drewN | apply Kd.S_drew)); exact HO_5.out⟩, ⟨by (with_reducible repeat (first | apply Kd.R_alloc | apply Kd.R_drewN | apply Kd.R_drew)); exact HO_21.out⟩, ⟨by (with_reducible repeat (first | apply Kd.S_alloc | apply Kd.S_drewN | apply Kd.S_drew)); exact HO_228.out⟩, ⟨by repeat (first | (with_reducible first | exact HB.out | apply below_alloc | apply pw_below_drewN | apply below_drew1))⟩⟩
                      rw [if_neg c138] at H
                      exact absurd H (by simp)
                     rw [if_neg c137] at H
                     exact absurd H (by simp)
                    rw [if_neg c136] at H
                    exact absurd H (by simp)
                   rw [if_neg c134] at H
                   have c134b0 : decide (0 < x230_2) = false := decide_eq_false c134
                   clear c134
                   by_cases c142 : (rd (rd_L1 t203 x230_2) 0) = 0
                   ·
                    rw [if_pos c142] at H
                    have c142b0 : ((rd (rd_L1 t203 x230_2) 0) == 0) = true := beq_iff_eq.mpr c142
                    have c142b1 : ((rd (rd_L1 t203 x230_2) 0) != 0) = false := bne_eq_false_iff_eq.mpr c142
                    clear c142
                    have H' := Aside0.mk H
                    clear H
                    have p241 : 0 ≤ (x230_2 : Int) := of_decide_eq_true (by first | (with_reducible assumption) | assumption)
                    have q241 : x230_2 < (t203.length : Int) := of_decide_eq_true (by first | (with_reducible assumption) | assumption)
                    obtain ⟨ad241, A241_0, c241_0, e241, hx241_0, hl241_0, hi241_0⟩ := at_L1 (Kd.S_reads' HO_228.out).2.2 x230_2 p241 q241
                    cases e241
                    obtain ⟨ce241, hce241, hMe241, hcc241⟩ := Kd.S_get HO_228.out [] x230_2 p241 (by first | exact q241 | exact of_decide_eq_true (by first | (with_reducible assumption) | assumption) | (have e_ := (Kd.S_reads' HO_228.out).1; omega))
                    obtain ⟨ve241_0, rfl, ge241_0⟩ := hMe241
                    have hv241_0 := hcc241 0 _ rfl
                    rw [Nat.add_zero, show ((Kd.slice 3 (Kd.int .i64))).sz = 1 from rfl, Nat.mul_one] at hv241_0
                    replace hv241_0 := Option.some.inj (hv241_0.symm.trans hx241_0)
                    rw [hv241_0] at ge241_0
                    have HL241_0 := Aside0.mk (show Kd.R (Kd.int .i64) 3 _ _ _ _ (rd_L1 t203 x230_2) from ge241_0)
                    clear hv241_0 ge241_0
                    clear hcc241 hce241
                    have HR241_0 := Aside0.mk hi241_0
                    have HC241_0 := Aside0.mk hl241_0
                    clear hi241_0 hl241_0
                    replace p241 := eq_true p241
                    replace q241 := eq_true q241
                    have p242 : 0 ≤ (0 : Int) := (by omega)
                    have q242 : 0 < ((rd_L1 t203 x230_2).length : Int) := of_decide_eq_true (by first | (with_reducible assumption) | assumption)
                    obtain ⟨ad242, e242, hx242_0⟩ := Kd.at_int (by repeat (first | (with_reducible exact HR241_0.out) | (with_reducible refine Kd.C_alloc ?_ _) | (with_reducible refine Kd.C_drewN ?_ _) | (with_reducible refine Kd.C_drew ?_) | exact HR241_0.out)) 0 p242 q242
                    cases e242
                    have qi242 : (0 < (rd_L1 t203 x230_2).length) = True := eq_true (by omega)
                    (try rw [show ((0 : Int)).toNat = 0 from rfl] at hx242_0)
                    (try rw [Addr.add_zero'] at hx242_0)
                    replace p242 := eq_true p242
                    replace q242 := eq_true q242
                    have p243 : 0 ≤ (0 : Int) := (by omega)
                    have q243 : 0 < ((rd_L1 t203 x230_2).length : Int) := of_decide_eq_true (by first | (with_reducible assumption) | assumption)
                    obtain ⟨ad243, e243, hx243_0⟩ := Kd.at_int (by repeat (first | (with_reducible exact HR241_0.out) | (with_reducible refine Kd.C_alloc ?_ _) | (with_reducible refine Kd.C_drewN ?_ _) | (with_reducible refine Kd.C_drew ?_) | exact HR241_0.out)) 0 p243 q243
                    obtain rfl : ad242 = ad243 := (by injection e243)
                    have qi243 : (0 < (rd_L1 t203 x230_2).length) = True := eq_true (by omega)
                    (try rw [show ((0 : Int)).toNat = 0 from rfl] at hx243_0)
                    (try rw [Addr.add_zero'] at hx243_0)
                    replace p243 := eq_true p243
                    replace q243 := eq_true q243
                    have p244 : 0 ≤ (1 : Int) := (by omega)
                    have q244 : 1 < ((rd_L1 t203 x230_2).length : Int) := of_decide_eq_true (by first | (with_reducible assumption) | assumption)
                    obtain ⟨ad244, e244, hx244_0⟩ := Kd.at_int (by repeat (first | (with_reducible exact HR241_0.out) | (with_reducible refine Kd.C_alloc ?_ _) | (with_reducible refine Kd.C_drewN ?_ _) | (with_reducible refine Kd.C_drew ?_) | exact HR241_0.out)) 1 p244 q244
                    obtain rfl : ad242 = ad244 := (by injection e244)
                    (try simp only [show (1 : Int).toNat = 1 from rfl, Nat.reduceMul, Nat.reduceEqDiff, Go.Addr.add, ↓reduceIte] at hx244_0)
                    have qi244 : (1 < (rd_L1 t203 x230_2).length) = True := eq_true (by omega)
                    (try rw [show ((1 : Int)).toNat = 1 from rfl] at hx244_0)
                    replace p244 := eq_true p244
                    replace q244 := eq_true q244
                    have p245 : 0 ≤ (0 : Int) := (by omega)
                    have q245 : 0 < ((rd_L1 t203 x230_2).length : Int) := of_decide_eq_true (by first | (with_reducible assumption) | assumption)
                    obtain ⟨ad245, e245, hx245_0⟩ := Kd.at_int (by repeat (first | (with_reducible exact HR241_0.out) | (with_reducible refine Kd.C_alloc ?_ _) | (with_reducible refine Kd.C_drewN ?_ _) | (with_reducible refine Kd.C_drew ?_) | exact HR241_0.out)) 0 p245 q245
                    obtain rfl : ad242 = ad245 := (by injection e245)
                    have qi245 : (0 < (rd_L1 t203 x230_2).length) = True := eq_true (by omega)
                    (try rw [show ((0 : Int)).toNat = 0 from rfl] at hx245_0)
                    (try rw [Addr.add_zero'] at hx245_0)
                    replace p245 := eq_true p245
                    replace q245 := eq_true q245
                    have p246 : 0 ≤ (0 : Int) := (by omega)
                    have q246 : 0 < ((rd_L1 t203 x230_2).length : Int) := of_decide_eq_true (by first | (with_reducible assumption) | assumption)
                    obtain ⟨ad246, e246, hx246_0⟩ := Kd.at_int (by repeat (first | (with_reducible exact HR241_0.out) | (with_reducible refine Kd.C_alloc ?_ _) | (with_reducible refine Kd.C_drewN ?_ _) | (with_reducible refine Kd.C_drew ?_) | exact HR241_0.out)) 0 p246 q246
                    obtain rfl : ad242 = ad246 := (by injection e246)
                    have qi246 : (0 < (rd_L1 t203 x230_2).length) = True := eq_true (by omega)
                    (try rw [show ((0 : Int)).toNat = 0 from rfl] at hx246_0)
                    (try rw [Addr.add_zero'] at hx246_0)
                    replace p246 := eq_true p246
                    replace q246 := eq_true q246
                    have p247 : 0 ≤ (1 : Int) := (by omega)
                    have q247 : 1 < ((rd_L1 t203 x230_2).length : Int) := of_decide_eq_true (by first | (with_reducible assumption) | assumption)
                    obtain ⟨ad247, e247, hx247_0⟩ := Kd.at_int (by repeat (first | (with_reducible exact HR241_0.out) | (with_reducible refine Kd.C_alloc ?_ _) | (with_reducible refine Kd.C_drewN ?_ _) | (with_reducible refine Kd.C_drew ?_) | exact HR241_0.out)) 1 p247 q247
                    obtain rfl : ad242 = ad247 := (by injection e247)
                    (try simp only [show (1 : Int).toNat = 1 from rfl, Nat.reduceMul, Nat.reduceEqDiff, Go.Addr.add, ↓reduceIte] at hx247_0)
                    have qi247 : (1 < (rd_L1 t203 x230_2).length) = True := eq_true (by omega)
                    (try rw [show ((1 : Int)).toNat = 1 from rfl] at hx247_0)
                    replace p247 := eq_true p247
                    replace q247 := eq_true q247
                    have p248 : 0 ≤ (1 : Int) := (by omega)
                    have q248 : 1 < ((rd_L1 t203 x230_2).length : Int) := of_decide_eq_true (by first | (with_reducible assumption) | assumption)
                    obtain ⟨ad248, e248, hx248_0⟩ := Kd.at_int (by repeat (first | (with_reducible exact HR241_0.out) | (with_reducible refine Kd.C_alloc ?_ _) | (with_reducible refine Kd.C_drewN ?_ _) | (with_reducible refine Kd.C_drew ?_) | exact HR241_0.out)) 1 p248 q248
                    obtain rfl : ad242 = ad248 := (by injection e248)
                    (try simp only [show (1 : Int).toNat = 1 from rfl, Nat.reduceMul, Nat.reduceEqDiff, Go.Addr.add, ↓reduceIte] at hx248_0)
                    have qi248 : (1 < (rd_L1 t203 x230_2).length) = True := eq_true (by omega)
                    (try rw [show ((1 : Int)).toNat = 1 from rfl] at hx248_0)
                    replace p248 := eq_true p248
                    replace q248 := eq_true q248
                    have p255 : 0 ≤ (0 : Int) := (by omega)
                    have q255 : 0 < ((rd_L1 t203 x230_2).length : Int) := of_decide_eq_true (by first | (with_reducible assumption) | assumption)
                    obtain ⟨ad255, e255, hx255_0⟩ := Kd.at_int (by repeat (first | (with_reducible exact HR241_0.out) | (with_reducible refine Kd.C_alloc ?_ _) | (with_reducible refine Kd.C_drewN ?_ _) | (with_reducible refine Kd.C_drew ?_) | exact HR241_0.out)) 0 p255 q255
                    obtain rfl : ad242 = ad255 := (by injection e255)
                    have qi255 : (0 < (rd_L1 t203 x230_2).length) = True := eq_true (by omega)
                    (try rw [show ((0 : Int)).toNat = 0 from rfl] at hx255_0)
                    (try rw [Addr.add_zero'] at hx255_0)
                    replace p255 := eq_true p255
                    replace q255 := eq_true q255
                    go_wp2
                    repeat (go_quiet (fail); try go_wp2)
                    go_roundg k2
                    case measure => have := HJ16.out; have := HK2.out; omega
                    case rel => exact ⟨(wrap64 (x33_2 + 4)), (wrap64 (x230_2 + 1)), (by first | rfl | (simp; done) | (simp [*]; done)), (by first | rfl | (simp; done) | (simp [*]; done)), H', ⟨by have := HJ16.out; have := HK2.out; omega⟩, ⟨by (with_reducible repeat (first | apply Kd.S_alloc | apply Kd.S_drewN | apply Kd.S_drew)); exact HO_5.out⟩, ⟨by (with_reducible repeat (first | apply Kd.R_alloc | apply Kd.R_drewN | apply Kd.R_drew)); exact HO_21.out⟩, ⟨by (with_reducible repeat (first | apply Kd.S_alloc | apply Kd.S_drewN | apply Kd.S_drew)); exact HO_228.out⟩, ⟨by repeat (first | (with_reducible first | exact HB.out | apply below_alloc | apply pw_below_drewN | apply below_drew1))⟩⟩
                   rw [if_neg c142] at H
                   have c142b0 : ((rd (rd_L1 t203 x230_2) 0) == 0) = false := beq_eq_false_iff_ne.mpr c142
                   have c142b1 : ((rd (rd_L1 t203 x230_2) 0) != 0) = true := bne_iff_ne.mpr c142
                   by_cases c143 : (rd (rd_L1 t203 x230_2) 0) = (rd (rd_L1 t203 x230_2) 1)
                   ·
                    rw [if_pos c143] at H
                    have c143b0 : ((rd (rd_L1 t203 x230_2) 0) == (rd (rd_L1 t203 x230_2) 1)) = true := beq_iff_eq.mpr c143
                    have c143b1 : ((rd (rd_L1 t203 x230_2) 0) != (rd (rd_L1 t203 x230_2) 1)) = false := bne_eq_false_iff_eq.mpr c143
                    clear c143
                    have H' := Aside0.mk H
                    clear H
                    have p241 : 0 ≤ (x230_2 : Int) := of_decide_eq_true (by first | (with_reducible assumption) | assumption)
                    have q241 : x230_2 < (t203.length : Int) := of_decide_eq_true (by first | (with_reducible assumption) | assumption)
                    obtain ⟨ad241, A241_0, c241_0, e241, hx241_0, hl241_0, hi241_0⟩ := at_L1 (Kd.S_reads' HO_228.out).2.2 x230_2 p241 q241
                    cases e241
                    obtain ⟨ce241, hce241, hMe241, hcc241⟩ := Kd.S_get HO_228.out [] x230_2 p241 (by first | exact q241 | exact of_decide_eq_true (by first | (with_reducible assumption) | assumption) | (have e_ := (Kd.S_reads' HO_228.out).1; omega))
                    obtain ⟨ve241_0, rfl, ge241_0⟩ := hMe241
                    have hv241_0 := hcc241 0 _ rfl
                    rw [Nat.add_zero, show ((Kd.slice 3 (Kd.int .i64))).sz = 1 from rfl, Nat.mul_one] at hv241_0
                    replace hv241_0 := Option.some.inj (hv241_0.symm.trans hx241_0)
                    rw [hv241_0] at ge241_0
                    have HL241_0 := Aside0.mk (show Kd.R (Kd.int .i64) 3 _ _ _ _ (rd_L1 t203 x230_2) from ge241_0)
                    clear hv241_0 ge241_0
                    clear hcc241 hce241
                    have HR241_0 := Aside0.mk hi241_0
                    have HC241_0 := Aside0.mk hl241_0
                    clear hi241_0 hl241_0
                    replace p241 := eq_true p241
                    replace q241 := eq_true q241
                    have p242 : 0 ≤ (0 : Int) := (by omega)
                    have q242 : 0 < ((rd_L1 t203 x230_2).length : Int) := of_decide_eq_true (by first | (with_reducible assumption) | assumption)
                    obtain ⟨ad242, e242, hx242_0⟩ := Kd.at_int (by repeat (first | (with_reducible exact HR241_0.out) | (with_reducible refine Kd.C_alloc ?_ _) | (with_reducible refine Kd.C_drewN ?_ _) | (with_reducible refine Kd.C_drew ?_) | exact HR241_0.out)) 0 p242 q242
                    cases e242
                    have qi242 : (0 < (rd_L1 t203 x230_2).length) = True := eq_true (by omega)
                    (try rw [show ((0 : Int)).toNat = 0 from rfl] at hx242_0)
                    (try rw [Addr.add_zero'] at hx242_0)
                    replace p242 := eq_true p242
                    replace q242 := eq_true q242
                    have p243 : 0 ≤ (0 : Int) := (by omega)
                    have q243 : 0 < ((rd_L1 t203 x230_2).length : Int) := of_decide_eq_true (by first | (with_reducible assumption) | assumption)
                    obtain ⟨ad243, e243, hx243_0⟩ := Kd.at_int (by repeat (first | (with_reducible exact HR241_0.out) | (with_reducible refine Kd.C_alloc ?_ _) | (with_reducible refine Kd.C_drewN ?_ _) | (with_reducible refine Kd.C_drew ?_) | exact HR241_0.out)) 0 p243 q243
                    obtain rfl : ad242 = ad243 := (by injection e243)
                    have qi243 : (0 < (rd_L1 t203 x230_2).length) = True := eq_true (by omega)
                    (try rw [show ((0 : Int)).toNat = 0 from rfl] at hx243_0)
                    (try rw [Addr.add_zero'] at hx243_0)
                    replace p243 := eq_true p243
                    replace q243 := eq_true q243
                    have p244 : 0 ≤ (1 : Int) := (by omega)
                    have q244 : 1 < ((rd_L1 t203 x230_2).length : Int) := of_decide_eq_true (by first | (with_reducible assumption) | assumption)
                    obtain ⟨ad244, e244, hx244_0⟩ := Kd.at_int (by repeat (first | (with_reducible exact HR241_0.out) | (with_reducible refine Kd.C_alloc ?_ _) | (with_reducible refine Kd.C_drewN ?_ _) | (with_reducible refine Kd.C_drew ?_) | exact HR241_0.out)) 1 p244 q244
                    obtain rfl : ad242 = ad244 := (by injection e244)
                    (try simp only [show (1 : Int).toNat = 1 from rfl, Nat.reduceMul, Nat.reduceEqDiff, Go.Addr.add, ↓reduceIte] at hx244_0)
                    have qi244 : (1 < (rd_L1 t203 x230_2).length) = True := eq_true (by omega)
                    (try rw [show ((1 : Int)).toNat = 1 from rfl] at hx244_0)
                    replace p244 := eq_true p244
                    replace q244 := eq_true q244
                    have p245 : 0 ≤ (0 : Int) := (by omega)
                    have q245 : 0 < ((rd_L1 t203 x230_2).length : Int) := of_decide_eq_true (by first | (with_reducible assumption) | assumption)
                    obtain ⟨ad245, e245, hx245_0⟩ := Kd.at_int (by repeat (first | (with_reducible exact HR241_0.out) | (with_reducible refine Kd.C_alloc ?_ _) | (with_reducible refine Kd.C_drewN ?_ _) | (with_reducible refine Kd.C_drew ?_) | exact HR241_0.out)) 0 p245 q245
                    obtain rfl : ad242 = ad245 := (by injection e245)
                    have qi245 : (0 < (rd_L1 t203 x230_2).length) = True := eq_true (by omega)
                    (try rw [show ((0 : Int)).toNat = 0 from rfl] at hx245_0)
                    (try rw [Addr.add_zero'] at hx245_0)
                    replace p245 := eq_true p245
                    replace q245 := eq_true q245
                    have p246 : 0 ≤ (0 : Int) := (by omega)
                    have q246 : 0 < ((rd_L1 t203 x230_2).length : Int) := of_decide_eq_true (by first | (with_reducible assumption) | assumption)
                    obtain ⟨ad246, e246, hx246_0⟩ := Kd.at_int (by repeat (first | (with_reducible exact HR241_0.out) | (with_reducible refine Kd.C_alloc ?_ _) | (with_reducible refine Kd.C_drewN ?_ _) | (with_reducible refine Kd.C_drew ?_) | exact HR241_0.out)) 0 p246 q246
                    obtain rfl : ad242 = ad246 := (by injection e246)
                    have qi246 : (0 < (rd_L1 t203 x230_2).length) = True := eq_true (by omega)
                    (try rw [show ((0 : Int)).toNat = 0 from rfl] at hx246_0)
                    (try rw [Addr.add_zero'] at hx246_0)
                    replace p246 := eq_true p246
                    replace q246 := eq_true q246
                    have p247 : 0 ≤ (1 : Int) := (by omega)
                    have q247 : 1 < ((rd_L1 t203 x230_2).length : Int) := of_decide_eq_true (by first | (with_reducible assumption) | assumption)
                    obtain ⟨ad247, e247, hx247_0⟩ := Kd.at_int (by repeat (first | (with_reducible exact HR241_0.out) | (with_reducible refine Kd.C_alloc ?_ _) | (with_reducible refine Kd.C_drewN ?_ _) | (with_reducible refine Kd.C_drew ?_) | exact HR241_0.out)) 1 p247 q247
                    obtain rfl : ad242 = ad247 := (by injection e247)
                    (try simp only [show (1 : Int).toNat = 1 from rfl, Nat.reduceMul, Nat.reduceEqDiff, Go.Addr.add, ↓reduceIte] at hx247_0)
                    have qi247 : (1 < (rd_L1 t203 x230_2).length) = True := eq_true (by omega)
                    (try rw [show ((1 : Int)).toNat = 1 from rfl] at hx247_0)
                    replace p247 := eq_true p247
                    replace q247 := eq_true q247
                    have p248 : 0 ≤ (1 : Int) := (by omega)
                    have q248 : 1 < ((rd_L1 t203 x230_2).length : Int) := of_decide_eq_true (by first | (with_reducible assumption) | assumption)
                    obtain ⟨ad248, e248, hx248_0⟩ := Kd.at_int (by repeat (first | (with_reducible exact HR241_0.out) | (with_reducible refine Kd.C_alloc ?_ _) | (with_reducible refine Kd.C_drewN ?_ _) | (with_reducible refine Kd.C_drew ?_) | exact HR241_0.out)) 1 p248 q248
                    obtain rfl : ad242 = ad248 := (by injection e248)
                    (try simp only [show (1 : Int).toNat = 1 from rfl, Nat.reduceMul, Nat.reduceEqDiff, Go.Addr.add, ↓reduceIte] at hx248_0)
                    have qi248 : (1 < (rd_L1 t203 x230_2).length) = True := eq_true (by omega)
                    (try rw [show ((1 : Int)).toNat = 1 from rfl] at hx248_0)
                    replace p248 := eq_true p248
                    replace q248 := eq_true q248
                    have p255 : 0 ≤ (0 : Int) := (by omega)
                    have q255 : 0 < ((rd_L1 t203 x230_2).length : Int) := of_decide_eq_true (by first | (with_reducible assumption) | assumption)
                    obtain ⟨ad255, e255, hx255_0⟩ := Kd.at_int (by repeat (first | (with_reducible exact HR241_0.out) | (with_reducible refine Kd.C_alloc ?_ _) | (with_reducible refine Kd.C_drewN ?_ _) | (with_reducible refine Kd.C_drew ?_) | exact HR241_0.out)) 0 p255 q255
                    obtain rfl : ad242 = ad255 := (by injection e255)
                    have qi255 : (0 < (rd_L1 t203 x230_2).length) = True := eq_true (by omega)
                    (try rw [show ((0 : Int)).toNat = 0 from rfl] at hx255_0)
                    (try rw [Addr.add_zero'] at hx255_0)
                    replace p255 := eq_true p255
                    replace q255 := eq_true q255
                    have p256 : 0 ≤ (0 : Int) := (by omega)
                    have q256 : 0 < ((rd_L1 t203 x230_2).length : Int) := of_decide_eq_true (by first | (with_reducible assumption) | assumption)
                    obtain ⟨ad256, e256, hx256_0⟩ := Kd.at_int (by repeat (first | (with_reducible exact HR241_0.out) | (with_reducible refine Kd.C_alloc ?_ _) | (with_reducible refine Kd.C_drewN ?_ _) | (with_reducible refine Kd.C_drew ?_) | exact HR241_0.out)) 0 p256 q256
                    obtain rfl : ad242 = ad256 := (by injection e256)
                    have qi256 : (0 < (rd_L1 t203 x230_2).length) = True := eq_true (by omega)
                    (try rw [show ((0 : Int)).toNat = 0 from rfl] at hx256_0)
                    (try rw [Addr.add_zero'] at hx256_0)
                    replace p256 := eq_true p256
                    replace q256 := eq_true q256
                    have p257 : 0 ≤ (1 : Int) := (by omega)
                    have q257 : 1 < ((rd_L1 t203 x230_2).length : Int) := of_decide_eq_true (by first | (with_reducible assumption) | assumption)
                    obtain ⟨ad257, e257, hx257_0⟩ := Kd.at_int (by repeat (first | (with_reducible exact HR241_0.out) | (with_reducible refine Kd.C_alloc ?_ _) | (with_reducible refine Kd.C_drewN ?_ _) | (with_reducible refine Kd.C_drew ?_) | exact HR241_0.out)) 1 p257 q257
                    obtain rfl : ad242 = ad257 := (by injection e257)
                    (try simp only [show (1 : Int).toNat = 1 from rfl, Nat.reduceMul, Nat.reduceEqDiff, Go.Addr.add, ↓reduceIte] at hx257_0)
                    have qi257 : (1 < (rd_L1 t203 x230_2).length) = True := eq_true (by omega)
                    (try rw [show ((1 : Int)).toNat = 1 from rfl] at hx257_0)
                    replace p257 := eq_true p257
                    replace q257 := eq_true q257
                    go_wp2
                    repeat (go_quiet (fail); try go_wp2)
                    go_roundg k2
                    case measure => have := HJ16.out; have := HK2.out; omega
                    case rel => exact ⟨(wrap64 (x33_2 + 4)), (wrap64 (x230_2 + 1)), (by first | rfl | (simp; done) | (simp [*]; done)), (by first | rfl | (simp; done) | (simp [*]; done)), H', ⟨by have := HJ16.out; have := HK2.out; omega⟩, ⟨by (with_reducible repeat (first | apply Kd.S_alloc | apply Kd.S_drewN | apply Kd.S_drew)); exact HO_5.out⟩, ⟨by (with_reducible repeat (first | apply Kd.R_alloc | apply Kd.R_drewN | apply Kd.R_drew)); exact HO_21.out⟩, ⟨by (with_reducible repeat (first | apply Kd.S_alloc | apply Kd.S_drewN | apply Kd.S_drew)); exact HO_228.out⟩, ⟨by repeat (first | (with_reducible first | exact HB.out | apply below_alloc | apply pw_below_drewN | apply below_drew1))⟩⟩
                   rw [if_neg c143] at H
                   have c143b0 : ((rd (rd_L1 t203 x230_2) 0) == (rd (rd_L1 t203 x230_2) 1)) = false := beq_eq_false_iff_ne.mpr c143
                   have c143b1 : ((rd (rd_L1 t203 x230_2) 0) != (rd (rd_L1 t203 x230_2) 1)) = true := bne_iff_ne.mpr c143
                   have H' := Aside0.mk H
                   clear H
                   have p241 : 0 ≤ (x230_2 : Int) := of_decide_eq_true (by first | (with_reducible assumption) | assumption)
                   have q241 : x230_2 < (t203.length : Int) := of_decide_eq_true (by first | (with_reducible assumption) | assumption)
                   obtain ⟨ad241, A241_0, c241_0, e241, hx241_0, hl241_0, hi241_0⟩ := at_L1 (Kd.S_reads' HO_228.out).2.2 x230_2 p241 q241
                   cases e241
                   obtain ⟨ce241, hce241, hMe241, hcc241⟩ := Kd.S_get HO_228.out [] x230_2 p241 (by first | exact q241 | exact of_decide_eq_true (by first | (with_reducible assumption) | assumption) | (have e_ := (Kd.S_reads' HO_228.out).1; omega))
                   obtain ⟨ve241_0, rfl, ge241_0⟩ := hMe241
                   have hv241_0 := hcc241 0 _ rfl
                   rw [Nat.add_zero, show ((Kd.slice 3 (Kd.int .i64))).sz = 1 from rfl, Nat.mul_one] at hv241_0
                   replace hv241_0 := Option.some.inj (hv241_0.symm.trans hx241_0)
                   rw [hv241_0] at ge241_0
                   have HL241_0 := Aside0.mk (show Kd.R (Kd.int .i64) 3 _ _ _ _ (rd_L1 t203 x230_2) from ge241_0)
                   clear hv241_0 ge241_0
                   clear hcc241 hce241
                   have HR241_0 := Aside0.mk hi241_0
                   have HC241_0 := Aside0.mk hl241_0
                   clear hi241_0 hl241_0
                   replace p241 := eq_true p241
                   replace q241 := eq_true q241
                   have p242 : 0 ≤ (0 : Int) := (by omega)
                   have q242 : 0 < ((rd_L1 t203 x230_2).length : Int) := of_decide_eq_true (by first | (with_reducible assumption) | assumption)
                   obtain ⟨ad242, e242, hx242_0⟩ := Kd.at_int (by repeat (first | (with_reducible exact HR241_0.out) | (with_reducible refine Kd.C_alloc ?_ _) | (with_reducible refine Kd.C_drewN ?_ _) | (with_reducible refine Kd.C_drew ?_) | exact HR241_0.out)) 0 p242 q242
                   cases e242
                   have qi242 : (0 < (rd_L1 t203 x230_2).length) = True := eq_true (by omega)
                   (try rw [show ((0 : Int)).toNat = 0 from rfl] at hx242_0)
                   (try rw [Addr.add_zero'] at hx242_0)
                   replace p242 := eq_true p242
                   replace q242 := eq_true q242
                   have p243 : 0 ≤ (0 : Int) := (by omega)
                   have q243 : 0 < ((rd_L1 t203 x230_2).length : Int) := of_decide_eq_true (by first | (with_reducible assumption) | assumption)
                   obtain ⟨ad243, e243, hx243_0⟩ := Kd.at_int (by repeat (first | (with_reducible exact HR241_0.out) | (with_reducible refine Kd.C_alloc ?_ _) | (with_reducible refine Kd.C_drewN ?_ _) | (with_reducible refine Kd.C_drew ?_) | exact HR241_0.out)) 0 p243 q243
                   obtain rfl : ad242 = ad243 := (by injection e243)
                   have qi243 : (0 < (rd_L1 t203 x230_2).length) = True := eq_true (by omega)
                   (try rw [show ((0 : Int)).toNat = 0 from rfl] at hx243_0)
                   (try rw [Addr.add_zero'] at hx243_0)
                   replace p243 := eq_true p243
                   replace q243 := eq_true q243
                   have p244 : 0 ≤ (1 : Int) := (by omega)
                   have q244 : 1 < ((rd_L1 t203 x230_2).length : Int) := of_decide_eq_true (by first | (with_reducible assumption) | assumption)
                   obtain ⟨ad244, e244, hx244_0⟩ := Kd.at_int (by repeat (first | (with_reducible exact HR241_0.out) | (with_reducible refine Kd.C_alloc ?_ _) | (with_reducible refine Kd.C_drewN ?_ _) | (with_reducible refine Kd.C_drew ?_) | exact HR241_0.out)) 1 p244 q244
                   obtain rfl : ad242 = ad244 := (by injection e244)
                   (try simp only [show (1 : Int).toNat = 1 from rfl, Nat.reduceMul, Nat.reduceEqDiff, Go.Addr.add, ↓reduceIte] at hx244_0)
                   have qi244 : (1 < (rd_L1 t203 x230_2).length) = True := eq_true (by omega)
                   (try rw [show ((1 : Int)).toNat = 1 from rfl] at hx244_0)
                   replace p244 := eq_true p244
                   replace q244 := eq_true q244
                   have p245 : 0 ≤ (0 : Int) := (by omega)
                   have q245 : 0 < ((rd_L1 t203 x230_2).length : Int) := of_decide_eq_true (by first | (with_reducible assumption) | assumption)
                   obtain ⟨ad245, e245, hx245_0⟩ := Kd.at_int (by repeat (first | (with_reducible exact HR241_0.out) | (with_reducible refine Kd.C_alloc ?_ _) | (with_reducible refine Kd.C_drewN ?_ _) | (with_reducible refine Kd.C_drew ?_) | exact HR241_0.out)) 0 p245 q245
                   obtain rfl : ad242 = ad245 := (by injection e245)
                   have qi245 : (0 < (rd_L1 t203 x230_2).length) = True := eq_true (by omega)
                   (try rw [show ((0 : Int)).toNat = 0 from rfl] at hx245_0)
                   (try rw [Addr.add_zero'] at hx245_0)
                   replace p245 := eq_true p245
                   replace q245 := eq_true q245
                   have p246 : 0 ≤ (0 : Int) := (by omega)
                   have q246 : 0 < ((rd_L1 t203 x230_2).length : Int) := of_decide_eq_true (by first | (with_reducible assumption) | assumption)
                   obtain ⟨ad246, e246, hx246_0⟩ := Kd.at_int (by repeat (first | (with_reducible exact HR241_0.out) | (with_reducible refine Kd.C_alloc ?_ _) | (with_reducible refine Kd.C_drewN ?_ _) | (with_reducible refine Kd.C_drew ?_) | exact HR241_0.out)) 0 p246 q246
                   obtain rfl : ad242 = ad246 := (by injection e246)
                   have qi246 : (0 < (rd_L1 t203 x230_2).length) = True := eq_true (by omega)
                   (try rw [show ((0 : Int)).toNat = 0 from rfl] at hx246_0)
                   (try rw [Addr.add_zero'] at hx246_0)
                   replace p246 := eq_true p246
                   replace q246 := eq_true q246
                   have p247 : 0 ≤ (1 : Int) := (by omega)
                   have q247 : 1 < ((rd_L1 t203 x230_2).length : Int) := of_decide_eq_true (by first | (with_reducible assumption) | assumption)
                   obtain ⟨ad247, e247, hx247_0⟩ := Kd.at_int (by repeat (first | (with_reducible exact HR241_0.out) | (with_reducible refine Kd.C_alloc ?_ _) | (with_reducible refine Kd.C_drewN ?_ _) | (with_reducible refine Kd.C_drew ?_) | exact HR241_0.out)) 1 p247 q247
                   obtain rfl : ad242 = ad247 := (by injection e247)
                   (try simp only [show (1 : Int).toNat = 1 from rfl, Nat.reduceMul, Nat.reduceEqDiff, Go.Addr.add, ↓reduceIte] at hx247_0)
                   have qi247 : (1 < (rd_L1 t203 x230_2).length) = True := eq_true (by omega)
                   (try rw [show ((1 : Int)).toNat = 1 from rfl] at hx247_0)
                   replace p247 := eq_true p247
                   replace q247 := eq_true q247
                   have p248 : 0 ≤ (1 : Int) := (by omega)
                   have q248 : 1 < ((rd_L1 t203 x230_2).length : Int) := of_decide_eq_true (by first | (with_reducible assumption) | assumption)
                   obtain ⟨ad248, e248, hx248_0⟩ := Kd.at_int (by repeat (first | (with_reducible exact HR241_0.out) | (with_reducible refine Kd.C_alloc ?_ _) | (with_reducible refine Kd.C_drewN ?_ _) | (with_reducible refine Kd.C_drew ?_) | exact HR241_0.out)) 1 p248 q248
                   obtain rfl : ad242 = ad248 := (by injection e248)
                   (try simp only [show (1 : Int).toNat = 1 from rfl, Nat.reduceMul, Nat.reduceEqDiff, Go.Addr.add, ↓reduceIte] at hx248_0)
                   have qi248 : (1 < (rd_L1 t203 x230_2).length) = True := eq_true (by omega)
                   (try rw [show ((1 : Int)).toNat = 1 from rfl] at hx248_0)
                   replace p248 := eq_true p248
                   replace q248 := eq_true q248
                   have p255 : 0 ≤ (0 : Int) := (by omega)
                   have q255 : 0 < ((rd_L1 t203 x230_2).length : Int) := of_decide_eq_true (by first | (with_reducible assumption) | assumption)
                   obtain ⟨ad255, e255, hx255_0⟩ := Kd.at_int (by repeat (first | (with_reducible exact HR241_0.out) | (with_reducible refine Kd.C_alloc ?_ _) | (with_reducible refine Kd.C_drewN ?_ _) | (with_reducible refine Kd.C_drew ?_) | exact HR241_0.out)) 0 p255 q255
                   obtain rfl : ad242 = ad255 := (by injection e255)
                   have qi255 : (0 < (rd_L1 t203 x230_2).length) = True := eq_true (by omega)
                   (try rw [show ((0 : Int)).toNat = 0 from rfl] at hx255_0)
                   (try rw [Addr.add_zero'] at hx255_0)
                   replace p255 := eq_true p255
                   replace q255 := eq_true q255
                   have p256 : 0 ≤ (0 : Int) := (by omega)
                   have q256 : 0 < ((rd_L1 t203 x230_2).length : Int) := of_decide_eq_true (by first | (with_reducible assumption) | assumption)
                   obtain ⟨ad256, e256, hx256_0⟩ := Kd.at_int (by repeat (first | (with_reducible exact HR241_0.out) | (with_reducible refine Kd.C_alloc ?_ _) | (with_reducible refine Kd.C_drewN ?_ _) | (with_reducible refine Kd.C_drew ?_) | exact HR241_0.out)) 0 p256 q256
                   obtain rfl : ad242 = ad256 := (by injection e256)
                   have qi256 : (0 < (rd_L1 t203 x230_2).length) = True := eq_true (by omega)
                   (try rw [show ((0 : Int)).toNat = 0 from rfl] at hx256_0)
                   (try rw [Addr.add_zero'] at hx256_0)
                   replace p256 := eq_true p256
                   replace q256 := eq_true q256
                   have p257 : 0 ≤ (1 : Int) := (by omega)
                   have q257 : 1 < ((rd_L1 t203 x230_2).length : Int) := of_decide_eq_true (by first | (with_reducible assumption) | assumption)
                   obtain ⟨ad257, e257, hx257_0⟩ := Kd.at_int (by repeat (first | (with_reducible exact HR241_0.out) | (with_reducible refine Kd.C_alloc ?_ _) | (with_reducible refine Kd.C_drewN ?_ _) | (with_reducible refine Kd.C_drew ?_) | exact HR241_0.out)) 1 p257 q257
                   obtain rfl : ad242 = ad257 := (by injection e257)
                   (try simp only [show (1 : Int).toNat = 1 from rfl, Nat.reduceMul, Nat.reduceEqDiff, Go.Addr.add, ↓reduceIte] at hx257_0)
                   have qi257 : (1 < (rd_L1 t203 x230_2).length) = True := eq_true (by omega)
                   (try rw [show ((1 : Int)).toNat = 1 from rfl] at hx257_0)
                   replace p257 := eq_true p257
                   replace q257 := eq_true q257
                   go_wp2
                   repeat (go_quiet (fail); try go_wp2)
                   go_roundg k2
                   case measure => have := HJ16.out; have := HK2.out; omega
                   case rel => exact ⟨(wrap64 (x33_2 + 8)), (wrap64 (x230_2 + 1)), (by first | rfl | (simp; done) | (simp [*]; done)), (by first | rfl | (simp; done) | (simp [*]; done)), H', ⟨by have := HJ16.out; have := HK2.out; omega⟩, ⟨by (with_reducible repeat (first | apply Kd.S_alloc | apply Kd.S_drewN | apply Kd.S_drew)); exact HO_5.out⟩, ⟨by (with_reducible repeat (first | apply Kd.R_alloc | apply Kd.R_drewN | apply Kd.R_drew)); exact HO_21.out⟩, ⟨by (with_reducible repeat (first | apply Kd.S_alloc | apply Kd.S_drewN | apply Kd.S_drew)); exact HO_228.out⟩, ⟨by repeat (first | (with_reducible first | exact HB.out | apply below_alloc | apply pw_below_drewN | apply below_drew1))⟩⟩
                 rw [if_neg c133] at H
                 have c133b0 : ((wrap64 ((wrap64 ((rd (rd_L1 t203 x230_2) 0) * (rd (rd_L1 t203 x230_2) 0))) + (wrap64 ((rd (rd_L1 t203 x230_2) 1) * (rd (rd_L1 t203 x230_2) 1))))) == a0) = false := beq_eq_false_iff_ne.mpr c133
                 have c133b1 : ((wrap64 ((wrap64 ((rd (rd_L1 t203 x230_2) 0) * (rd (rd_L1 t203 x230_2) 0))) + (wrap64 ((rd (rd_L1 t203 x230_2) 1) * (rd (rd_L1 t203 x230_2) 1))))) != a0) = true := bne_iff_ne.mpr c133
                 first
                 | exact absurd (Option.some.inj (H.trans (congrArg some HRT.out))) Bool.false_ne_true
                 |
                  obtain rfl := Option.some.inj H
                  have p241 : 0 ≤ (x230_2 : Int) := of_decide_eq_true (by first | (with_reducible assumption) | assumption)
                  have q241 : x230_2 < (t203.length : Int) := of_decide_eq_true (by first | (with_reducible assumption) | assumption)
                  obtain ⟨ad241, A241_0, c241_0, e241, hx241_0, hl241_0, hi241_0⟩ := at_L1 (Kd.S_reads' HO_228.out).2.2 x230_2 p241 q241
                  cases e241
                  obtain ⟨ce241, hce241, hMe241, hcc241⟩ := Kd.S_get HO_228.out [] x230_2 p241 (by first | exact q241 | exact of_decide_eq_true (by first | (with_reducible assumption) | assumption) | (have e_ := (Kd.S_reads' HO_228.out).1; omega))
                  obtain ⟨ve241_0, rfl, ge241_0⟩ := hMe241
                  have hv241_0 := hcc241 0 _ rfl
                  rw [Nat.add_zero, show ((Kd.slice 3 (Kd.int .i64))).sz = 1 from rfl, Nat.mul_one] at hv241_0
                  replace hv241_0 := Option.some.inj (hv241_0.symm.trans hx241_0)
                  rw [hv241_0] at ge241_0
                  have HL241_0 := Aside0.mk (show Kd.R (Kd.int .i64) 3 _ _ _ _ (rd_L1 t203 x230_2) from ge241_0)
                  clear hv241_0 ge241_0
                  clear hcc241 hce241
                  have HR241_0 := Aside0.mk hi241_0
                  have HC241_0 := Aside0.mk hl241_0
                  clear hi241_0 hl241_0
                  replace p241 := eq_true p241
                  replace q241 := eq_true q241
                  have p242 : 0 ≤ (0 : Int) := (by omega)
                  have q242 : 0 < ((rd_L1 t203 x230_2).length : Int) := of_decide_eq_true (by first | (with_reducible assumption) | assumption)
                  obtain ⟨ad242, e242, hx242_0⟩ := Kd.at_int (by repeat (first | (with_reducible exact HR241_0.out) | (with_reducible refine Kd.C_alloc ?_ _) | (with_reducible refine Kd.C_drewN ?_ _) | (with_reducible refine Kd.C_drew ?_) | exact HR241_0.out)) 0 p242 q242
                  cases e242
                  have qi242 : (0 < (rd_L1 t203 x230_2).length) = True := eq_true (by omega)
                  (try rw [show ((0 : Int)).toNat = 0 from rfl] at hx242_0)
                  (try rw [Addr.add_zero'] at hx242_0)
                  replace p242 := eq_true p242
                  replace q242 := eq_true q242
                  have p243 : 0 ≤ (0 : Int) := (by omega)
                  have q243 : 0 < ((rd_L1 t203 x230_2).length : Int) := of_decide_eq_true (by first | (with_reducible assumption) | assumption)
                  obtain ⟨ad243, e243, hx243_0⟩ := Kd.at_int (by repeat (first | (with_reducible exact HR241_0.out) | (with_reducible refine Kd.C_alloc ?_ _) | (with_reducible refine Kd.C_drewN ?_ _) | (with_reducible refine Kd.C_drew ?_) | exact HR241_0.out)) 0 p243 q243
                  obtain rfl : ad242 = ad243 := (by injection e243)
                  have qi243 : (0 < (rd_L1 t203 x230_2).length) = True := eq_true (by omega)
                  (try rw [show ((0 : Int)).toNat = 0 from rfl] at hx243_0)
                  (try rw [Addr.add_zero'] at hx243_0)
                  replace p243 := eq_true p243
                  replace q243 := eq_true q243
                  have p244 : 0 ≤ (1 : Int) := (by omega)
                  have q244 : 1 < ((rd_L1 t203 x230_2).length : Int) := of_decide_eq_true (by first | (with_reducible assumption) | assumption)
                  obtain ⟨ad244, e244, hx244_0⟩ := Kd.at_int (by repeat (first | (with_reducible exact HR241_0.out) | (with_reducible refine Kd.C_alloc ?_ _) | (with_reducible refine Kd.C_drewN ?_ _) | (with_reducible refine Kd.C_drew ?_) | exact HR241_0.out)) 1 p244 q244
                  obtain rfl : ad242 = ad244 := (by injection e244)
                  (try simp only [show (1 : Int).toNat = 1 from rfl, Nat.reduceMul, Nat.reduceEqDiff, Go.Addr.add, ↓reduceIte] at hx244_0)
                  have qi244 : (1 < (rd_L1 t203 x230_2).length) = True := eq_true (by omega)
                  (try rw [show ((1 : Int)).toNat = 1 from rfl] at hx244_0)
                  replace p244 := eq_true p244
                  replace q244 := eq_true q244
                  have p245 : 0 ≤ (0 : Int) := (by omega)
                  have q245 : 0 < ((rd_L1 t203 x230_2).length : Int) := of_decide_eq_true (by first | (with_reducible assumption) | assumption)
                  obtain ⟨ad245, e245, hx245_0⟩ := Kd.at_int (by repeat (first | (with_reducible exact HR241_0.out) | (with_reducible refine Kd.C_alloc ?_ _) | (with_reducible refine Kd.C_drewN ?_ _) | (with_reducible refine Kd.C_drew ?_) | exact HR241_0.out)) 0 p245 q245
                  obtain rfl : ad242 = ad245 := (by injection e245)
                  have qi245 : (0 < (rd_L1 t203 x230_2).length) = True := eq_true (by omega)
                  (try rw [show ((0 : Int)).toNat = 0 from rfl] at hx245_0)
                  (try rw [Addr.add_zero'] at hx245_0)
                  replace p245 := eq_true p245
                  replace q245 := eq_true q245
                  have p246 : 0 ≤ (0 : Int) := (by omega)
                  have q246 : 0 < ((rd_L1 t203 x230_2).length : Int) := of_decide_eq_true (by first | (with_reducible assumption) | assumption)
                  obtain ⟨ad246, e246, hx246_0⟩ := Kd.at_int (by repeat (first | (with_reducible exact HR241_0.out) | (with_reducible refine Kd.C_alloc ?_ _) | (with_reducible refine Kd.C_drewN ?_ _) | (with_reducible refine Kd.C_drew ?_) | exact HR241_0.out)) 0 p246 q246
                  obtain rfl : ad242 = ad246 := (by injection e246)
                  have qi246 : (0 < (rd_L1 t203 x230_2).length) = True := eq_true (by omega)
                  (try rw [show ((0 : Int)).toNat = 0 from rfl] at hx246_0)
                  (try rw [Addr.add_zero'] at hx246_0)
                  replace p246 := eq_true p246
                  replace q246 := eq_true q246
                  have p247 : 0 ≤ (1 : Int) := (by omega)
                  have q247 : 1 < ((rd_L1 t203 x230_2).length : Int) := of_decide_eq_true (by first | (with_reducible assumption) | assumption)
                  obtain ⟨ad247, e247, hx247_0⟩ := Kd.at_int (by repeat (first | (with_reducible exact HR241_0.out) | (with_reducible refine Kd.C_alloc ?_ _) | (with_reducible refine Kd.C_drewN ?_ _) | (with_reducible refine Kd.C_drew ?_) | exact HR241_0.out)) 1 p247 q247
                  obtain rfl : ad242 = ad247 := (by injection e247)
                  (try simp only [show (1 : Int).toNat = 1 from rfl, Nat.reduceMul, Nat.reduceEqDiff, Go.Addr.add, ↓reduceIte] at hx247_0)
                  have qi247 : (1 < (rd_L1 t203 x230_2).length) = True := eq_true (by omega)
                  (try rw [show ((1 : Int)).toNat = 1 from rfl] at hx247_0)
                  replace p247 := eq_true p247
                  replace q247 := eq_true q247
                  have p248 : 0 ≤ (1 : Int) := (by omega)
                  have q248 : 1 < ((rd_L1 t203 x230_2).length : Int) := of_decide_eq_true (by first | (with_reducible assumption) | assumption)
                  obtain ⟨ad248, e248, hx248_0⟩ := Kd.at_int (by repeat (first | (with_reducible exact HR241_0.out) | (with_reducible refine Kd.C_alloc ?_ _) | (with_reducible refine Kd.C_drewN ?_ _) | (with_reducible refine Kd.C_drew ?_) | exact HR241_0.out)) 1 p248 q248
                  obtain rfl : ad242 = ad248 := (by injection e248)
                  (try simp only [show (1 : Int).toNat = 1 from rfl, Nat.reduceMul, Nat.reduceEqDiff, Go.Addr.add, ↓reduceIte] at hx248_0)
                  have qi248 : (1 < (rd_L1 t203 x230_2).length) = True := eq_true (by omega)
                  (try rw [show ((1 : Int)).toNat = 1 from rfl] at hx248_0)
                  replace p248 := eq_true p248
                  replace q248 := eq_true q248
                  go_wp2
                  repeat (go_quiet (fail); try go_wp2)
                  go_ret
                  exact ⟨by first | rfl | (simp [errW_none, errW_some] <;> rfl) | (simp [*, errW_none, errW_some] <;> rfl), by repeat (first | (with_reducible first | exact HB.out | apply below_alloc | apply pw_below_drewN | apply below_drew1))⟩
               rw [if_neg c131] at H
               exact absurd H (by simp)
              rw [if_neg c129] at H
              exact absurd H (by simp)
             rw [if_neg c128] at H
             have c128b0 : (((rd_L1 t203 x230_2).length : Int) == 2) = false := beq_eq_false_iff_ne.mpr c128
             have c128b1 : (((rd_L1 t203 x230_2).length : Int) != 2) = true := bne_iff_ne.mpr c128
             first
             | exact absurd (Option.some.inj (H.trans (congrArg some HRT.out))) Bool.false_ne_true
             |
              obtain rfl := Option.some.inj H
              have p241 : 0 ≤ (x230_2 : Int) := of_decide_eq_true (by first | (with_reducible assumption) | assumption)
              have q241 : x230_2 < (t203.length : Int) := of_decide_eq_true (by first | (with_reducible assumption) | assumption)
              obtain ⟨ad241, A241_0, c241_0, e241, hx241_0, hl241_0, hi241_0⟩ := at_L1 (Kd.S_reads' HO_228.out).2.2 x230_2 p241 q241
              cases e241
              obtain ⟨ce241, hce241, hMe241, hcc241⟩ := Kd.S_get HO_228.out [] x230_2 p241 (by first | exact q241 | exact of_decide_eq_true (by first | (with_reducible assumption) | assumption) | (have e_ := (Kd.S_reads' HO_228.out).1; omega))
              obtain ⟨ve241_0, rfl, ge241_0⟩ := hMe241
              have hv241_0 := hcc241 0 _ rfl
              rw [Nat.add_zero, show ((Kd.slice 3 (Kd.int .i64))).sz = 1 from rfl, Nat.mul_one] at hv241_0
              replace hv241_0 := Option.some.inj (hv241_0.symm.trans hx241_0)
              rw [hv241_0] at ge241_0
              have HL241_0 := Aside0.mk (show Kd.R (Kd.int .i64) 3 _ _ _ _ (rd_L1 t203 x230_2) from ge241_0)
              clear hv241_0 ge241_0
              clear hcc241 hce241
              have HR241_0 := Aside0.mk hi241_0
              have HC241_0 := Aside0.mk hl241_0
              clear hi241_0 hl241_0
              replace p241 := eq_true p241
              replace q241 := eq_true q241
              go_wp2
              repeat (go_quiet (fail); try go_wp2)
              go_ret
              exact ⟨by first | rfl | (simp [errW_none, errW_some] <;> rfl) | (simp [*, errW_none, errW_some] <;> rfl), by repeat (first | (with_reducible first | exact HB.out | apply below_alloc | apply pw_below_drewN | apply below_drew1))⟩
            rw [if_neg c127] at H
            exact absurd H (by simp)
           rw [if_neg c126] at H
           exact absurd H (by simp)
          rw [if_neg c125] at H
          have c125b0 : decide (x230_2 < (t203.length : Int)) = false := decide_eq_false c125
          clear c125
          (first | rw [c125b0] | (simp only [i64_w, i32_w]; rw [c125b0]) | skip)
          have HC144 := Aside0.mk H
          clear H
          go_upto_region 29 with (fail)
          repeat (go_quiet (fail); go_upto_region 29 with (fail))
          refine cutF mk0 [] (fun u_ wc => ∃ (kq : Nat) (x326_143 : Bool), (u_ 326) = .bool x326_143 ∧ Aside0 (j2 kq a0 a1 true t211 t215 t219 t223 t224 t235 x326_143 = some r) ∧ Aside0 (kq ≤ k2) ∧ Aside0 (Kd.R (Kd.int .i64) 3 wc w.heap.size (fun _ => True) v225 t223) ∧ Aside0 (Below w.heap.size w wc)) ?_ ?_
          ·
           as_aux_lemma =>
            intro J_ K_ hJ_ hK_
            have H := HC144.out
            clear HC144
            by_cases c145 : x33_2 = t211
            ·
             rw [if_pos c145] at H
             have c145b0 : (x33_2 == t211) = true := beq_iff_eq.mpr c145
             have c145b1 : (x33_2 != t211) = false := bne_eq_false_iff_eq.mpr c145
             clear c145
             (first | rw [c145b0] | (simp only [i64_w, i32_w]; rw [c145b0]) | skip)
             by_cases c146 : (t215 != (decide ((t203.length : Int) > 0))) = true
             ·
              rw [if_pos c146] at H
              exact (laws_FnSumsOfSquaresOfAll.j2_no _ _ _ _ _ _ _ _ _ _ (H.trans (congrArg some HRT.out))).elim
             rw [if_neg c146] at H
             have c146b0 : (t215 != (decide ((t203.length : Int) > 0))) = false := by simpa using c146
             (try (have c146b1 : decide (t215 = (decide ((t203.length : Int) > 0))) = true := by simpa using c146))
             (try (have c146b2 : (t215 == (decide ((t203.length : Int) > 0))) = true := by simpa using c146))
             clear c146
             by_cases c147 : t215 = true
             ·
              subst c147
              have H1 : (if t219 = true then (j2 k2 a0 a1 true t211 true t219 t223 t224 t235 (decide (t231 < 8))) else (j2 k2 a0 a1 true t211 true t219 t223 t224 t235 true)) = some r := by rw [if_pos rfl] at H; exact H
              clear H
              have H := H1
              clear H1
              by_cases c148 : t219 = true
              ·
               subst c148
               have H1 : (j2 k2 a0 a1 true t211 true true t223 t224 t235 (decide (t231 < 8))) = some r := by rw [if_pos rfl] at H; exact H
               clear H
               have H := H1
               clear H1
               have H' := Aside0.mk H
               clear H
               have hL_ : 0 < t203.length := by simpa using c146b0
               go_wp2
               all_goals (try exact absurd ‹0 < t203.length› ‹¬ 0 < t203.length›)
               repeat (go_quiet (fail); try go_wp2)
               all_goals (try exact absurd ‹0 < t203.length› ‹¬ 0 < t203.length›)
               refine cutMeet hJ_ ?_ (by kernel_rfl)
               exact ⟨_, (decide (t231 < 8)), (by first | rfl | (simp; done) | (simp [*]; done)), H', ⟨by have := HJ16.out; have := HK2.out; first | omega | exact Nat.le_refl _⟩, ⟨by (with_reducible repeat (first | apply Kd.R_alloc | apply Kd.R_drewN | apply Kd.R_drew)); exact HO_21.out⟩, ⟨by repeat (first | (with_reducible first | exact HB.out | apply below_alloc | apply pw_below_drewN | apply below_drew1))⟩⟩
              replace c148 := Bool.eq_false_iff.mpr c148
              subst c148
              have H1 : (j2 k2 a0 a1 true t211 true false t223 t224 t235 true) = some r := by rw [if_neg (show ¬ (false = true) by decide)] at H; exact H
              clear H
              have H := H1
              clear H1
              exact (laws_FnSumsOfSquaresOfAll.j2_no _ _ _ _ _ _ _ _ _ _ (H.trans (congrArg some HRT.out))).elim
             replace c147 := Bool.eq_false_iff.mpr c147
             subst c147
             have H1 : (j2 k2 a0 a1 true t211 false t219 t223 t224 t235 (decide (t231 < 8))) = some r := by rw [if_neg (show ¬ (false = true) by decide)] at H; exact H
             clear H
             have H := H1
             clear H1
             have H' := Aside0.mk H
             clear H
             have hL_ : ¬ 0 < t203.length := by simpa using c146b0
             go_wp2
             all_goals (try exact absurd ‹0 < t203.length› ‹¬ 0 < t203.length›)
             repeat (go_quiet (fail); try go_wp2)
             all_goals (try exact absurd ‹0 < t203.length› ‹¬ 0 < t203.length›)
             refine cutMeet hJ_ ?_ (by kernel_rfl)
             exact ⟨_, (decide (t231 < 8)), (by first | rfl | (simp; done) | (simp [*]; done)), H', ⟨by have := HJ16.out; have := HK2.out; first | omega | exact Nat.le_refl _⟩, ⟨by (with_reducible repeat (first | apply Kd.R_alloc | apply Kd.R_drewN | apply Kd.R_drew)); exact HO_21.out⟩, ⟨by repeat (first | (with_reducible first | exact HB.out | apply below_alloc | apply pw_below_drewN | apply below_drew1))⟩⟩
            rw [if_neg c145] at H
            exact (laws_FnSumsOfSquaresOfAll.j2_no _ _ _ _ _ _ _ _ _ _ (H.trans (congrArg some HRT.out))).elim
          intro u_ wc hcut
          clear HC144
          obtain ⟨kq, x326_143, e_326, HA, HJ143, HO_21, HB⟩ := hcut
          dsimp only [cutFgt, mk0]
          rw [e_326]
          cases kq with
          | zero => exact absurd HA.out (by simp [j2])
          | succ kj143 =>
           have H := HA.out
           clear HA
           simp only [j2] at H
           by_cases c149 : x326_143 = true
           ·
            subst c149
            have H1 : (some false) = some r := by rw [if_pos rfl] at H; exact H
            clear H
            have H := H1
            clear H1
            first
            | exact absurd (Option.some.inj (H.trans (congrArg some HRT.out))) Bool.false_ne_true
            |
             obtain rfl := Option.some.inj H
             go_wp2
             repeat (go_quiet (fail); try go_wp2)
             go_ret
             exact ⟨by first | rfl | (simp [errW_none, errW_some] <;> rfl) | (simp [*, errW_none, errW_some] <;> rfl), by repeat (first | (with_reducible first | exact HB.out | apply below_alloc | apply pw_below_drewN | apply below_drew1))⟩
           replace c149 := Bool.eq_false_iff.mpr c149
           subst c149
           have H1 : (if a0 > 1 then ((impl_CountInCircle.f kj143 (wrap64 (a0 - 1))).bind fun bt258 => (if bt258.2 = true then (if (wrap64 (t235 - bt258.1)) = t211 then (j3 kj143 a0 a1 true t215 t219 t223 t224) else (some false)) else (some false))) else (if t235 = 5 then (j3 kj143 a0 a1 true t215 t219 t223 t224) else (some false))) = some r := by rw [if_neg (show ¬ (false = true) by decide)] at H; exact H
           clear H
           have H := H1
           clear H1
           by_cases c150 : a0 > 1
           ·
            rw [if_pos c150] at H
            have c150b0 : decide (1 < a0) = true := decide_eq_true c150
            clear c150
            replace H := Option.bind_eq_some_iff.mp H
            obtain ⟨⟨t258, t259⟩, A1510, H⟩ := H
            replace H : (if t259 = true then (if (wrap64 (t235 - t258)) = t211 then (j3 kj143 a0 a1 true t215 t219 t223 t224) else (some false)) else (some false)) = some r := H
            have A151 := Aside0.mk A1510
            clear A1510
            by_cases c152 : t259 = true
            ·
             subst c152
             have H1 : (if (wrap64 (t235 - t258)) = t211 then (j3 kj143 a0 a1 true t215 t219 t223 t224) else (some false)) = some r := by rw [if_pos rfl] at H; exact H
             clear H
             have H := H1
             clear H1
             by_cases c153 : (wrap64 (t235 - t258)) = t211
             ·
              rw [if_pos c153] at H
              have c153b0 : ((wrap64 (t235 - t258)) == t211) = true := beq_iff_eq.mpr c153
              have c153b1 : ((wrap64 (t235 - t258)) != t211) = false := bne_eq_false_iff_eq.mpr c153
              clear c153
              have H' := Aside0.mk H
              clear H
              go_wp2_with (first | (go_at_call 116; (with_reducible refine (impl_CountInCircle.calls kj143 (wrap64 (a0 - 1)) t258 true _ A151.out).mono ?_); rintro e w' ⟨rfl, ⟨nd, rfl⟩⟩; (try first | exact ⟨rfl, _, World.drewN_drewN _ _ _⟩ | exact ⟨rfl, _, Eq.trans (World.drewN_drewN _ _ _) (congrArg (World.drewN _) (Nat.add_assoc _ _ _))⟩)))
              repeat (go_quiet (first | (go_at_call 116; (with_reducible refine (impl_CountInCircle.calls kj143 (wrap64 (a0 - 1)) t258 true _ A151.out).mono ?_); rintro e w' ⟨rfl, ⟨nd, rfl⟩⟩; (try first | exact ⟨rfl, _, World.drewN_drewN _ _ _⟩ | exact ⟨rfl, _, Eq.trans (World.drewN_drewN _ _ _) (congrArg (World.drewN _) (Nat.add_assoc _ _ _))⟩))); try go_wp2_with (first | (go_at_call 116; (with_reducible refine (impl_CountInCircle.calls kj143 (wrap64 (a0 - 1)) t258 true _ A151.out).mono ?_); rintro e w' ⟨rfl, ⟨nd, rfl⟩⟩; (try first | exact ⟨rfl, _, World.drewN_drewN _ _ _⟩ | exact ⟨rfl, _, Eq.trans (World.drewN_drewN _ _ _) (congrArg (World.drewN _) (Nat.add_assoc _ _ _))⟩))))
              refine cutMeet hJ_ ?_ (by kernel_rfl)
              exact ⟨_, H', ⟨by have := HJ16.out; have := HK2.out; have := HJ143.out; first | omega | exact Nat.le_refl _⟩, ⟨by (with_reducible repeat (first | apply Kd.R_alloc | apply Kd.R_drewN | apply Kd.R_drew)); exact HO_21.out⟩, ⟨by repeat (first | (with_reducible first | exact HB.out | apply below_alloc | apply pw_below_drewN | apply below_drew1))⟩⟩
             rw [if_neg c153] at H
             have c153b0 : ((wrap64 (t235 - t258)) == t211) = false := beq_eq_false_iff_ne.mpr c153
             have c153b1 : ((wrap64 (t235 - t258)) != t211) = true := bne_iff_ne.mpr c153
             first
             | exact absurd (Option.some.inj (H.trans (congrArg some HRT.out))) Bool.false_ne_true
             |
              obtain rfl := Option.some.inj H
              go_wp2_with (first | (go_at_call 116; (with_reducible refine (impl_CountInCircle.calls kj143 (wrap64 (a0 - 1)) t258 true _ A151.out).mono ?_); rintro e w' ⟨rfl, ⟨nd, rfl⟩⟩; (try first | exact ⟨rfl, _, World.drewN_drewN _ _ _⟩ | exact ⟨rfl, _, Eq.trans (World.drewN_drewN _ _ _) (congrArg (World.drewN _) (Nat.add_assoc _ _ _))⟩)))
              repeat (go_quiet (first | (go_at_call 116; (with_reducible refine (impl_CountInCircle.calls kj143 (wrap64 (a0 - 1)) t258 true _ A151.out).mono ?_); rintro e w' ⟨rfl, ⟨nd, rfl⟩⟩; (try first | exact ⟨rfl, _, World.drewN_drewN _ _ _⟩ | exact ⟨rfl, _, Eq.trans (World.drewN_drewN _ _ _) (congrArg (World.drewN _) (Nat.add_assoc _ _ _))⟩))); try go_wp2_with (first | (go_at_call 116; (with_reducible refine (impl_CountInCircle.calls kj143 (wrap64 (a0 - 1)) t258 true _ A151.out).mono ?_); rintro e w' ⟨rfl, ⟨nd, rfl⟩⟩; (try first | exact ⟨rfl, _, World.drewN_drewN _ _ _⟩ | exact ⟨rfl, _, Eq.trans (World.drewN_drewN _ _ _) (congrArg (World.drewN _) (Nat.add_assoc _ _ _))⟩))))
              go_ret
              exact ⟨by first | rfl | (simp [errW_none, errW_some] <;> rfl) | (simp [*, errW_none, errW_some] <;> rfl), by repeat (first | (with_reducible first | exact HB.out | apply below_alloc | apply pw_below_drewN | apply below_drew1))⟩
            replace c152 := Bool.eq_false_iff.mpr c152
            subst c152
            have H1 : (some false) = some r := by rw [if_neg (show ¬ (false = true) by decide)] at H; exact H
            clear H
            have H := H1
            clear H1
            first
            | exact absurd (Option.some.inj (H.trans (congrArg some HRT.out))) Bool.false_ne_true
            |
             obtain rfl := Option.some.inj H
             go_wp2_with (first | (go_at_call 116; (with_reducible refine (impl_CountInCircle.calls kj143 (wrap64 (a0 - 1)) t258 false _ A151.out).mono ?_); rintro e w' ⟨rfl, ⟨nd, rfl⟩⟩; (try first | exact ⟨rfl, _, World.drewN_drewN _ _ _⟩ | exact ⟨rfl, _, Eq.trans (World.drewN_drewN _ _ _) (congrArg (World.drewN _) (Nat.add_assoc _ _ _))⟩)))
             repeat (go_quiet (first | (go_at_call 116; (with_reducible refine (impl_CountInCircle.calls kj143 (wrap64 (a0 - 1)) t258 false _ A151.out).mono ?_); rintro e w' ⟨rfl, ⟨nd, rfl⟩⟩; (try first | exact ⟨rfl, _, World.drewN_drewN _ _ _⟩ | exact ⟨rfl, _, Eq.trans (World.drewN_drewN _ _ _) (congrArg (World.drewN _) (Nat.add_assoc _ _ _))⟩))); try go_wp2_with (first | (go_at_call 116; (with_reducible refine (impl_CountInCircle.calls kj143 (wrap64 (a0 - 1)) t258 false _ A151.out).mono ?_); rintro e w' ⟨rfl, ⟨nd, rfl⟩⟩; (try first | exact ⟨rfl, _, World.drewN_drewN _ _ _⟩ | exact ⟨rfl, _, Eq.trans (World.drewN_drewN _ _ _) (congrArg (World.drewN _) (Nat.add_assoc _ _ _))⟩))))
             go_ret
             exact ⟨by first | rfl | (simp [errW_none, errW_some] <;> rfl) | (simp [*, errW_none, errW_some] <;> rfl), by repeat (first | (with_reducible first | exact HB.out | apply below_alloc | apply pw_below_drewN | apply below_drew1))⟩
           rw [if_neg c150] at H
           have c150b0 : decide (1 < a0) = false := decide_eq_false c150
           clear c150
           by_cases c154 : t235 = 5
           ·
            rw [if_pos c154] at H
            have c154b0 : (t235 == 5) = true := beq_iff_eq.mpr c154
            have c154b1 : (t235 != 5) = false := bne_eq_false_iff_eq.mpr c154
            clear c154
            have H' := Aside0.mk H
            clear H
            go_wp2
            repeat (go_quiet (fail); try go_wp2)
            refine cutMeet hJ_ ?_ (by kernel_rfl)
            exact ⟨_, H', ⟨by have := HJ16.out; have := HK2.out; have := HJ143.out; first | omega | exact Nat.le_refl _⟩, ⟨by (with_reducible repeat (first | apply Kd.R_alloc | apply Kd.R_drewN | apply Kd.R_drew)); exact HO_21.out⟩, ⟨by repeat (first | (with_reducible first | exact HB.out | apply below_alloc | apply pw_below_drewN | apply below_drew1))⟩⟩
           rw [if_neg c154] at H
           have c154b0 : (t235 == 5) = false := beq_eq_false_iff_ne.mpr c154
           have c154b1 : (t235 != 5) = true := bne_iff_ne.mpr c154
           first
           | exact absurd (Option.some.inj (H.trans (congrArg some HRT.out))) Bool.false_ne_true
           |
            obtain rfl := Option.some.inj H
            go_wp2
            repeat (go_quiet (fail); try go_wp2)
            go_ret
            exact ⟨by first | rfl | (simp [errW_none, errW_some] <;> rfl) | (simp [*, errW_none, errW_some] <;> rfl), by repeat (first | (with_reducible first | exact HB.out | apply below_alloc | apply pw_below_drewN | apply below_drew1))⟩
      replace c123 := Bool.eq_false_iff.mpr c123
      subst c123
      have H1 : (j3 kj16 a0 a1 false t215 t219 t223 t224) = some r := by rw [if_neg (show ¬ (false = true) by decide)] at H; exact H
      clear H
      have H := H1
      clear H1
      have H' := Aside0.mk H
      clear H
      go_wp2
      repeat (go_quiet (fail); try go_wp2)
      refine cutMeet hJ_ ?_ (by kernel_rfl)
      exact ⟨_, H', ⟨by have := HJ16.out; first | omega | exact Nat.le_refl _⟩, ⟨by (with_reducible repeat (first | apply Kd.R_alloc | apply Kd.R_drewN | apply Kd.R_drew)); exact HO_21.out⟩, ⟨by repeat (first | (with_reducible first | exact HB.out | apply below_alloc | apply pw_below_drewN | apply below_drew1))⟩⟩
    intro u_ wc hcut
    clear HC122
    obtain ⟨kq, HA, HJ121, HO_21, HB⟩ := hcut
    dsimp only [cutFgt, mk0]
    cases kq with
    | zero => exact absurd HA.out (by simp [j3])
    | succ kj121 =>
     have H := HA.out
     clear HA
     simp only [j3] at H
     have HC155 := Aside0.mk H
     clear H
     go_upto_if 346 with (fail)
     repeat (go_quiet (fail); go_upto_if 346 with (fail))
     refine cutF mk0 [none, none, none, none, some 4, none, none, none, none, none, none, none, none, none, none, none, none, none, none, none, none, none, none, none, none, none, none, none, none, none, none, none, none, none, none, none, none, none, none, some 39, some 40, some 41, none, none, none, none, none, none, none, none, none, none, none, none, none, none, none, none, none, none, none, none, none, none, none, none, none, none, none, none, none, none, none, none, none, none, none, none, none, none, none, none, none, none, none, none, none, none, none, none, none, none, none, none, none, none, none, none, none, none, none, none, none, none, none, none, none, none, none, none, none, none, none, none, none, none, none, none, none, none, none, none, none, none, none, none, none, none, none, none, none, none, none, none, none, none, none, none, none, none, none, none, none, none, none, none, none, none, none, none, none, none, none, none, none, none, none, none, none, none, none, none, none, none, none, none, none, none, none, none, none, none, none, none, none, none, none, none, none, none, none, none, none, none, none, none, none, none, none, none, none, none, none, none, none, none, none, none, none, none, none, none, none, none, none, none, none, none, none, none, none, none, none, none, none, none, none, none, none, none, none, none, none, none, none, none, none, none, none, none, none, none, none, none, none, none, none, none, none, none, none, none, none, none, none, none, none, none, none, none, none, none, none, none, none, none, none, none, none, none, none, none, none, none, none, none, none, none, none, none, none, none, none, none, none, none, none, none, none, none, none, none, none, none, none, none, none, none, none, none, none, none, none, none, none, none, none, none, none, none, none, none, none, none, none, none, none, none, none, none, none, none, none, none, none, none, none, none, none, none, none, none, none, none, none, none, none, none, none, none, none, none, none, none, none, none, none, none, none, none, none, none, none, none, none, none, none, some 347, some 348, some 349] (fun u_ wc => ∃ (kq : Nat), Aside0 (j5 kq a0 a1 t204 t215 = some r) ∧ Aside0 (kq ≤ kj121) ∧ Aside0 (Below w.heap.size w wc)) ?_ ?_
     ·
      as_aux_lemma =>
       intro J_ K_ hJ_ hK_
       have H := HC155.out
       clear HC155
       by_cases c156 : t224 = true
       ·
        subst c156
        have H1 : (laws_FnSumsOfSquaresOfAll.l1 kj121 a0 a1 t204 t215 t219 t223 0 t223 (t223.length : Int) 0) = some r := by rw [if_pos rfl] at H; exact H
        clear H
        have H := H1
        clear H1
        have H' := Aside0.mk H
        clear H
        obtain ⟨Ao157, co157, eo157⟩ := Kd.R_slice HO_21.out
        subst eo157
        go_wp2
        repeat (go_quiet (fail); try go_wp2)
        go_loopg [39, 349] kj121 (fun kq v39 v349 w' => ∃ (x39_3 : Int) (x349_3 : Int), v39 = .int .i64 x39_3 ∧ v349 = .int .i64 x349_3 ∧ Aside0 (laws_FnSumsOfSquaresOfAll.l1 kq a0 a1 t204 t215 t219 t223 x39_3 t223 (t223.length : Int) x349_3 = some r) ∧ Aside0 (kq ≤ kj121) ∧ Aside0 (Kd.R (Kd.int .i64) 3 w' w.heap.size (fun _ => True) (.slice Ao157 t223.length co157) t223) ∧ Aside0 (Kd.R (Kd.int .i64) 3 w' w.heap.size (fun _ => True) (.slice Ao157 t223.length co157) t223) ∧ Aside0 (Below w.heap.size w w'))
        case atStart => exact ⟨(0), (0), (by first | rfl | (simp; done) | (simp [*]; done)), (by first | rfl | (simp; done) | (simp [*]; done)), H', ⟨Nat.le_refl _⟩, ⟨by (with_reducible repeat (first | apply Kd.R_alloc | apply Kd.R_drewN | apply Kd.R_drew)); exact HO_21.out⟩, ⟨by (with_reducible repeat (first | apply Kd.R_alloc | apply Kd.R_drewN | apply Kd.R_drew)); exact HO_21.out⟩, ⟨by repeat (first | (with_reducible first | exact HB.out | apply below_alloc | apply pw_below_drewN | apply below_drew1))⟩⟩
        case round =>
         as_aux_lemma =>
          clear H'
          obtain ⟨x39_3, x349_3, rfl, rfl, HA, HK3, HO_21, HO_347, HB⟩ := hrel
          cases gk with
          | zero => exact absurd HA.out (by simp [laws_FnSumsOfSquaresOfAll.l1])
          | succ k3 =>
           have H := HA.out
           clear HA
           simp only [laws_FnSumsOfSquaresOfAll.l1] at H
           by_cases c158 : x349_3 < (t223.length : Int)
           ·
            rw [if_pos c158] at H
            have c158b0 : decide (x349_3 < (t223.length : Int)) = true := decide_eq_true c158
            clear c158
            (first | rw [c158b0] | (simp only [i64_w, i32_w]; rw [c158b0]) | skip)
            by_cases c159 : 0 ≤ x349_3
            ·
             rw [if_pos c159] at H
             have c159b0 : decide (0 ≤ x349_3) = true := decide_eq_true c159
             clear c159
             by_cases c160 : x349_3 < (t223.length : Int)
             ·
              rw [if_pos c160] at H
              have c160b0 : decide (x349_3 < (t223.length : Int)) = true := decide_eq_true c160
              clear c160
              by_cases c161 : (rd t223 x349_3) < 0
              ·
               rw [if_pos c161] at H
               have c161b0 : decide ((rd t223 x349_3) < 0) = true := decide_eq_true c161
               clear c161
               first
               | exact absurd (Option.some.inj (H.trans (congrArg some HRT.out))) Bool.false_ne_true
               |
                obtain rfl := Option.some.inj H
                have p260 : 0 ≤ (x349_3 : Int) := of_decide_eq_true (by first | (with_reducible assumption) | assumption)
                have q260 : x349_3 < (t223.length : Int) := of_decide_eq_true (by first | (with_reducible assumption) | assumption)
                obtain ⟨ad260, e260, hx260_0⟩ := Kd.at_int (Kd.R_reads' HO_347.out).2.2 x349_3 p260 q260
                cases e260
                replace p260 := eq_true p260
                replace q260 := eq_true q260
                go_wp2
                repeat (go_quiet (fail); try go_wp2)
                go_ret
                exact ⟨by first | rfl | (simp [errW_none, errW_some] <;> rfl) | (simp [*, errW_none, errW_some] <;> rfl), by repeat (first | (with_reducible first | exact HB.out | apply below_alloc | apply pw_below_drewN | apply below_drew1))⟩
              rw [if_neg c161] at H
              have c161b0 : decide ((rd t223 x349_3) < 0) = false := decide_eq_false c161
              clear c161
              by_cases c162 : x349_3 > 0
              ·
               rw [if_pos c162] at H
               have c162b0 : decide (0 < x349_3) = true := decide_eq_true c162
               clear c162
               obtain ⟨ji163, hji163⟩ : ∃ j_ : Int, (wrap64 (x349_3 - 1)) = j_ := ⟨_, rfl⟩
               replace H : (if 0 ≤ (ji163) then (if (ji163) < (t223.length : Int) then (if (rd t223 (ji163)) > (rd t223 x349_3) then (some false) else (laws_FnSumsOfSquaresOfAll.l1 k3 a0 a1 t204 t215 t219 t223 (wrap64 (x39_3 + (wrap64 ((rd t223 x349_3) * (rd t223 x349_3))))) t223 (t223.length : Int) (wrap64 (x349_3 + 1)))) else (none)) else (none)) = some r := by first | (rw [hji163] at H; exact H) | (simp only [hji163] at H ⊢; exact H)
               have hji163w : (IntKind.i64.wrap (x349_3 - 1)) = ji163 := (i64_w _).trans hji163
               by_cases c164 : 0 ≤ (ji163)
               ·
                rw [if_pos c164] at H
                have c164b0 : decide (0 ≤ (ji163)) = true := decide_eq_true c164
                clear c164
                by_cases c165 : (ji163) < (t223.length : Int)
                ·
                 rw [if_pos c165] at H
                 have c165b0 : decide ((ji163) < (t223.length : Int)) = true := decide_eq_true c165
                 clear c165
                 by_cases c166 : (rd t223 (ji163)) > (rd t223 x349_3)
                 ·
                  rw [if_pos c166] at H
                  have c166b0 : decide ((rd t223 x349_3) < (rd t223 (ji163))) = true := decide_eq_true c166
                  clear c166
                  first
                  | exact absurd (Option.some.inj (H.trans (congrArg some HRT.out))) Bool.false_ne_true
                  |
                   obtain rfl := Option.some.inj H
                   have p260 : 0 ≤ (x349_3 : Int) := of_decide_eq_true (by first | (with_reducible assumption) | assumption)
                   have q260 : x349_3 < (t223.length : Int) := of_decide_eq_true (by first | (with_reducible assumption) | assumption)
                   obtain ⟨ad260, e260, hx260_0⟩ := Kd.at_int (Kd.R_reads' HO_347.out).2.2 x349_3 p260 q260
                   cases e260
                   replace p260 := eq_true p260
                   replace q260 := eq_true q260
                   have p261 : 0 ≤ ((ji163) : Int) := of_decide_eq_true (by first | (with_reducible assumption) | assumption)
                   have q261 : (ji163) < (t223.length : Int) := of_decide_eq_true (by first | (with_reducible assumption) | assumption)
                   obtain ⟨ad261, e261, hx261_0⟩ := Kd.at_int (Kd.R_reads' HO_21.out).2.2 (ji163) p261 q261
                   obtain rfl : ad260 = ad261 := (by injection e261)
                   replace p261 := eq_true p261
                   replace q261 := eq_true q261
                   go_wp2
                   repeat (go_quiet (fail); try go_wp2)
                   go_ret
                   exact ⟨by first | rfl | (simp [errW_none, errW_some] <;> rfl) | (simp only [← hji163]; first | rfl | (simp [errW_none, errW_some] <;> rfl)) | (simp [*, errW_none, errW_some] <;> rfl), by repeat (first | (with_reducible first | exact HB.out | apply below_alloc | apply pw_below_drewN | apply below_drew1))⟩
                 rw [if_neg c166] at H
                 have c166b0 : decide ((rd t223 x349_3) < (rd t223 (ji163))) = false := decide_eq_false c166
                 clear c166
                 have H' := Aside0.mk H
                 clear H
                 have p260 : 0 ≤ (x349_3 : Int) := of_decide_eq_true (by first | (with_reducible assumption) | assumption)
                 have q260 : x349_3 < (t223.length : Int) := of_decide_eq_true (by first | (with_reducible assumption) | assumption)
                 obtain ⟨ad260, e260, hx260_0⟩ := Kd.at_int (Kd.R_reads' HO_347.out).2.2 x349_3 p260 q260
                 cases e260
                 replace p260 := eq_true p260
                 replace q260 := eq_true q260
                 have p261 : 0 ≤ ((ji163) : Int) := of_decide_eq_true (by first | (with_reducible assumption) | assumption)
                 have q261 : (ji163) < (t223.length : Int) := of_decide_eq_true (by first | (with_reducible assumption) | assumption)
                 obtain ⟨ad261, e261, hx261_0⟩ := Kd.at_int (Kd.R_reads' HO_21.out).2.2 (ji163) p261 q261
                 obtain rfl : ad260 = ad261 := (by injection e261)
                 replace p261 := eq_true p261
                 replace q261 := eq_true q261
                 go_wp2
                 repeat (go_quiet (fail); try go_wp2)
                 go_roundg k3
                 case measure => have := HJ16.out; have := HJ121.out; have := HK3.out; omega
                 case rel => exact ⟨(wrap64 (x39_3 + (wrap64 ((rd t223 x349_3) * (rd t223 x349_3))))), (wrap64 (x349_3 + 1)), (by first | rfl | (simp; done) | (simp [*]; done)), (by first | rfl | (simp; done) | (simp [*]; done)), H', ⟨by have := HJ16.out; have := HJ121.out; have := HK3.out; omega⟩, ⟨by (with_reducible repeat (first | apply Kd.R_alloc | apply Kd.R_drewN | apply Kd.R_drew)); exact HO_21.out⟩, ⟨by (with_reducible repeat (first | apply Kd.R_alloc | apply Kd.R_drewN | apply Kd.R_drew)); exact HO_347.out⟩, ⟨by repeat (first | (with_reducible first | exact HB.out | apply below_alloc | apply pw_below_drewN | apply below_drew1))⟩⟩
                rw [if_neg c165] at H
                exact absurd H (by simp)
               rw [if_neg c164] at H
               exact absurd H (by simp)
              rw [if_neg c162] at H
              have c162b0 : decide (0 < x349_3) = false := decide_eq_false c162
              clear c162
              have H' := Aside0.mk H
              clear H
              have p260 : 0 ≤ (x349_3 : Int) := of_decide_eq_true (by first | (with_reducible assumption) | assumption)
              have q260 : x349_3 < (t223.length : Int) := of_decide_eq_true (by first | (with_reducible assumption) | assumption)
              obtain ⟨ad260, e260, hx260_0⟩ := Kd.at_int (Kd.R_reads' HO_347.out).2.2 x349_3 p260 q260
              cases e260
              replace p260 := eq_true p260
              replace q260 := eq_true q260
              go_wp2
              repeat (go_quiet (fail); try go_wp2)
              go_roundg k3
              case measure => have := HJ16.out; have := HJ121.out; have := HK3.out; omega
              case rel => exact ⟨(wrap64 (x39_3 + (wrap64 ((rd t223 x349_3) * (rd t223 x349_3))))), (wrap64 (x349_3 + 1)), (by first | rfl | (simp; done) | (simp [*]; done)), (by first | rfl | (simp; done) | (simp [*]; done)), H', ⟨by have := HJ16.out; have := HJ121.out; have := HK3.out; omega⟩, ⟨by (with_reducible repeat (first | apply Kd.R_alloc | apply Kd.R_drewN | apply Kd.R_drew)); exact HO_21.out⟩, ⟨by (with_reducible repeat (first | apply Kd.R_alloc | apply Kd.R_drewN | apply Kd.R_drew)); exact HO_347.out⟩, ⟨by repeat (first | (with_reducible first | exact HB.out | apply below_alloc | apply pw_below_drewN | apply below_drew1))⟩⟩
             rw [if_neg c160] at H
             exact absurd H (by simp)
            rw [if_neg c159] at H
            exact absurd H (by simp)
           rw [if_neg c158] at H
           have c158b0 : decide (x349_3 < (t223.length : Int)) = false := decide_eq_false c158
           clear c158
           (first | rw [c158b0] | (simp only [i64_w, i32_w]; rw [c158b0]) | skip)
           by_cases c167 : (t223.length : Int) = 4
           ·
            rw [if_pos c167] at H
            have c167b0 : ((t223.length : Int) == 4) = true := beq_iff_eq.mpr c167
            have c167b1 : ((t223.length : Int) != 4) = false := bne_eq_false_iff_eq.mpr c167
            clear c167
            by_cases c168 : x39_3 = a0
            ·
             rw [if_pos c168] at H
             have c168b0 : (x39_3 == a0) = true := beq_iff_eq.mpr c168
             have c168b1 : (x39_3 != a0) = false := bne_eq_false_iff_eq.mpr c168
             clear c168
             by_cases c169 : 0 < (t223.length : Int)
             ·
              rw [if_pos c169] at H
              have c169b0 : decide (0 < (t223.length : Int)) = true := decide_eq_true c169
              have c169b1 : decide (0 < t223.length) = true := decide_eq_true (by omega)
              clear c169
              by_cases c170 : (t219 != ((rd t223 0) == 0)) = true
              ·
               rw [if_pos c170] at H
               have c170b0 : (t219 != ((rd t223 0) == 0)) = true := c170
               (try (have c170b1 : decide (t219 = ((rd t223 0) == 0)) = false := by simpa using c170))
               (try (have c170b2 : (t219 == ((rd t223 0) == 0)) = false := by simpa using c170))
               (try (have c170b3 : ¬ (t219 = ((rd t223 0) == 0)) := by simpa using c170))
               clear c170
               first
               | exact absurd (Option.some.inj (H.trans (congrArg some HRT.out))) Bool.false_ne_true
               |
                obtain rfl := Option.some.inj H
                have p262 : 0 ≤ (0 : Int) := (by omega)
                have q262 : 0 < (t223.length : Int) := of_decide_eq_true (by first | (with_reducible assumption) | assumption)
                obtain ⟨ad262, e262, hx262_0⟩ := Kd.at_int (Kd.R_reads' HO_21.out).2.2 0 p262 q262
                cases e262
                have qi262 : (0 < t223.length) = True := eq_true (by omega)
                (try rw [show ((0 : Int)).toNat = 0 from rfl] at hx262_0)
                (try rw [Addr.add_zero'] at hx262_0)
                replace p262 := eq_true p262
                replace q262 := eq_true q262
                go_wp2
                repeat (go_quiet (fail); try go_wp2)
                go_ret
                exact ⟨by first | rfl | (simp [errW_none, errW_some] <;> rfl) | (simp [*, errW_none, errW_some] <;> rfl), by repeat (first | (with_reducible first | exact HB.out | apply below_alloc | apply pw_below_drewN | apply below_drew1))⟩
              rw [if_neg c170] at H
              have c170b0 : (t219 != ((rd t223 0) == 0)) = false := by simpa using c170
              (try (have c170b1 : decide (t219 = ((rd t223 0) == 0)) = true := by simpa using c170))
              (try (have c170b2 : (t219 == ((rd t223 0) == 0)) = true := by simpa using c170))
              clear c170
              have H' := Aside0.mk H
              clear H
              have p262 : 0 ≤ (0 : Int) := (by omega)
              have q262 : 0 < (t223.length : Int) := of_decide_eq_true (by first | (with_reducible assumption) | assumption)
              obtain ⟨ad262, e262, hx262_0⟩ := Kd.at_int (Kd.R_reads' HO_21.out).2.2 0 p262 q262
              cases e262
              have qi262 : (0 < t223.length) = True := eq_true (by omega)
              (try rw [show ((0 : Int)).toNat = 0 from rfl] at hx262_0)
              (try rw [Addr.add_zero'] at hx262_0)
              replace p262 := eq_true p262
              replace q262 := eq_true q262
              go_wp2
              repeat (go_quiet (fail); try go_wp2)
              refine cutMeet hJ_ ?_ (by kernel_rfl)
              exact ⟨_, H', ⟨by have := HJ16.out; have := HJ121.out; have := HK3.out; first | omega | exact Nat.le_refl _⟩, ⟨by repeat (first | (with_reducible first | exact HB.out | apply below_alloc | apply pw_below_drewN | apply below_drew1))⟩⟩
             rw [if_neg c169] at H
             exact absurd H (by simp)
            rw [if_neg c168] at H
            have c168b0 : (x39_3 == a0) = false := beq_eq_false_iff_ne.mpr c168
            have c168b1 : (x39_3 != a0) = true := bne_iff_ne.mpr c168
            first
            | exact absurd (Option.some.inj (H.trans (congrArg some HRT.out))) Bool.false_ne_true
            |
             obtain rfl := Option.some.inj H
             go_wp2
             repeat (go_quiet (fail); try go_wp2)
             go_ret
             exact ⟨by first | rfl | (simp [errW_none, errW_some] <;> rfl) | (simp [*, errW_none, errW_some] <;> rfl), by repeat (first | (with_reducible first | exact HB.out | apply below_alloc | apply pw_below_drewN | apply below_drew1))⟩
           rw [if_neg c167] at H
           have c167b0 : ((t223.length : Int) == 4) = false := beq_eq_false_iff_ne.mpr c167
           have c167b1 : ((t223.length : Int) != 4) = true := bne_iff_ne.mpr c167
           first
           | exact absurd (Option.some.inj (H.trans (congrArg some HRT.out))) Bool.false_ne_true
           |
            obtain rfl := Option.some.inj H
            go_wp2
            repeat (go_quiet (fail); try go_wp2)
            go_ret
            exact ⟨by first | rfl | (simp [errW_none, errW_some] <;> rfl) | (simp [*, errW_none, errW_some] <;> rfl), by repeat (first | (with_reducible first | exact HB.out | apply below_alloc | apply pw_below_drewN | apply below_drew1))⟩
       replace c156 := Bool.eq_false_iff.mpr c156
       subst c156
       have H1 : (j5 kj121 a0 a1 t204 t215) = some r := by rw [if_neg (show ¬ (false = true) by decide)] at H; exact H
       clear H
       have H := H1
       clear H1
       have H' := Aside0.mk H
       clear H
       go_wp2
       repeat (go_quiet (fail); try go_wp2)
       refine cutMeet hJ_ ?_ (by kernel_rfl)
       exact ⟨_, H', ⟨by have := HJ16.out; have := HJ121.out; first | omega | exact Nat.le_refl _⟩, ⟨by repeat (first | (with_reducible first | exact HB.out | apply below_alloc | apply pw_below_drewN | apply below_drew1))⟩⟩
     intro u_ wc hcut
     clear HC155
     obtain ⟨kq, HA, HJ154, HB⟩ := hcut
     dsimp only [cutFgt, mk0]
     cases kq with
     | zero => exact absurd HA.out (by simp [j5])
     | succ kj154 =>
      have H := HA.out
      clear HA
      simp only [j5] at H
      replace H := Option.bind_eq_some_iff.mp H
      obtain ⟨⟨t263, t264⟩, A1710, H⟩ := H
      replace H : ((spec_SumsOfTwoUpTo.f kj154 a1).bind fun bt267 => (if (t264 != bt267.2) = true then (j6 kj154 a0 a1 t204 t215 t263 t264 true) else ((laws_tSame.f kj154 t263 bt267.1).bind fun t271 => (j6 kj154 a0 a1 t204 t215 t263 t264 (!t271))))) = some r := H
      have A171 := Aside0.mk A1710
      clear A1710
      replace H := Option.bind_eq_some_iff.mp H
      obtain ⟨⟨t267, t268⟩, A1720, H⟩ := H
      replace H : (if (t264 != t268) = true then (j6 kj154 a0 a1 t204 t215 t263 t264 true) else ((laws_tSame.f kj154 t263 t267).bind fun t271 => (j6 kj154 a0 a1 t204 t215 t263 t264 (!t271)))) = some r := H
      have A172 := Aside0.mk A1720
      clear A1720
      have HC173 := Aside0.mk H
      clear H
      go_upto_region 50 with (first | (go_at_call 118; (with_reducible refine (impl_SumsOfTwoUpTo.calls kj154 a1 t263 t264 _ A171.out).mono ?_); rintro e w174 ⟨v265, rfl, ho0, hb⟩; have n0_ := Aside0.mk (Kd.R_lower ho0 (below_size (by repeat (first | (with_reducible first | exact HB.out | apply below_alloc | apply pw_below_drewN | apply below_drew1))))); have n1_ := Aside0.mk (below_step (by repeat (first | (with_reducible first | exact HB.out | apply below_alloc | apply pw_below_drewN | apply below_drew1))) hb); clear HB; have HO266 := n0_; have HB := n1_; clear n0_ n1_; (try clear hb); (try clear ho0)) | (go_at_call 119; (with_reducible refine (spec_SumsOfTwoUpTo.calls kj154 a1 t267 t268 _ A172.out).mono ?_); rintro e w175 ⟨v269, rfl, ho0, hb⟩; have n0_ := Aside0.mk (Kd.R_elder' (by (with_reducible repeat (first | apply Kd.R_alloc | apply Kd.R_drewN | apply Kd.R_drew)); exact HO266.out) (Kd.R_base ho0) hb); have n1_ := Aside0.mk (Kd.R_lower (Kd.R_new' ho0 (Kd.R_lt (by (with_reducible repeat (first | apply Kd.R_alloc | apply Kd.R_drewN | apply Kd.R_drew)); exact HO266.out))) (below_size (by repeat (first | (with_reducible first | exact HB.out | apply below_alloc | apply pw_below_drewN | apply below_drew1))))); have n2_ := Aside0.mk (below_step (by repeat (first | (with_reducible first | exact HB.out | apply below_alloc | apply pw_below_drewN | apply below_drew1))) hb); clear HO266; clear HB; have HO266 := n0_; have HO270 := n1_; have HB := n2_; clear n0_ n1_ n2_; (try clear hb); (try clear ho0)))
      repeat (go_quiet (first | (go_at_call 118; (with_reducible refine (impl_SumsOfTwoUpTo.calls kj154 a1 t263 t264 _ A171.out).mono ?_); rintro e w174 ⟨v265, rfl, ho0, hb⟩; have n0_ := Aside0.mk (Kd.R_lower ho0 (below_size (by repeat (first | (with_reducible first | exact HB.out | apply below_alloc | apply pw_below_drewN | apply below_drew1))))); have n1_ := Aside0.mk (below_step (by repeat (first | (with_reducible first | exact HB.out | apply below_alloc | apply pw_below_drewN | apply below_drew1))) hb); clear HB; have HO266 := n0_; have HB := n1_; clear n0_ n1_; (try clear hb); (try clear ho0)) | (go_at_call 119; (with_reducible refine (spec_SumsOfTwoUpTo.calls kj154 a1 t267 t268 _ A172.out).mono ?_); rintro e w175 ⟨v269, rfl, ho0, hb⟩; have n0_ := Aside0.mk (Kd.R_elder' (by (with_reducible repeat (first | apply Kd.R_alloc | apply Kd.R_drewN | apply Kd.R_drew)); exact HO266.out) (Kd.R_base ho0) hb); have n1_ := Aside0.mk (Kd.R_lower (Kd.R_new' ho0 (Kd.R_lt (by (with_reducible repeat (first | apply Kd.R_alloc | apply Kd.R_drewN | apply Kd.R_drew)); exact HO266.out))) (below_size (by repeat (first | (with_reducible first | exact HB.out | apply below_alloc | apply pw_below_drewN | apply below_drew1))))); have n2_ := Aside0.mk (below_step (by repeat (first | (with_reducible first | exact HB.out | apply below_alloc | apply pw_below_drewN | apply below_drew1))) hb); clear HO266; clear HB; have HO266 := n0_; have HO270 := n1_; have HB := n2_; clear n0_ n1_ n2_; (try clear hb); (try clear ho0))); go_upto_region 50 with (first | (go_at_call 118; (with_reducible refine (impl_SumsOfTwoUpTo.calls kj154 a1 t263 t264 _ A171.out).mono ?_); rintro e w174 ⟨v265, rfl, ho0, hb⟩; have n0_ := Aside0.mk (Kd.R_lower ho0 (below_size (by repeat (first | (with_reducible first | exact HB.out | apply below_alloc | apply pw_below_drewN | apply below_drew1))))); have n1_ := Aside0.mk (below_step (by repeat (first | (with_reducible first | exact HB.out | apply below_alloc | apply pw_below_drewN | apply below_drew1))) hb); clear HB; have HO266 := n0_; have HB := n1_; clear n0_ n1_; (try clear hb); (try clear ho0)) | (go_at_call 119; (with_reducible refine (spec_SumsOfTwoUpTo.calls kj154 a1 t267 t268 _ A172.out).mono ?_); rintro e w175 ⟨v269, rfl, ho0, hb⟩; have n0_ := Aside0.mk (Kd.R_elder' (by (with_reducible repeat (first | apply Kd.R_alloc | apply Kd.R_drewN | apply Kd.R_drew)); exact HO266.out) (Kd.R_base ho0) hb); have n1_ := Aside0.mk (Kd.R_lower (Kd.R_new' ho0 (Kd.R_lt (by (with_reducible repeat (first | apply Kd.R_alloc | apply Kd.R_drewN | apply Kd.R_drew)); exact HO266.out))) (below_size (by repeat (first | (with_reducible first | exact HB.out | apply below_alloc | apply pw_below_drewN | apply below_drew1))))); have n2_ := Aside0.mk (below_step (by repeat (first | (with_reducible first | exact HB.out | apply below_alloc | apply pw_below_drewN | apply below_drew1))) hb); clear HO266; clear HB; have HO266 := n0_; have HO270 := n1_; have HB := n2_; clear n0_ n1_ n2_; (try clear hb); (try clear ho0))))
      (try simp only [Act.put, List.setIfInBounds_toArray, List.set_cons_zero, List.set_cons_succ])
      refine cutF mk0 [] (fun u_ wc => ∃ (kq : Nat) (x409_172 : Bool), (u_ 409) = .bool x409_172 ∧ Aside0 (j6 kq a0 a1 t204 t215 t263 t264 x409_172 = some r) ∧ Aside0 (kq ≤ kj154) ∧ Aside0 (Kd.R (Kd.int .i64) 3 wc w.heap.size (fun _ => True) v265 t263) ∧ Aside0 (Below w.heap.size w wc)) ?_ ?_
      ·
       as_aux_lemma =>
        intro J_ K_ hJ_ hK_
        have H := HC173.out
        clear HC173
        by_cases c176 : (t264 != t268) = true
        ·
         rw [if_pos c176] at H
         exact (laws_FnSumsOfSquaresOfAll.j6_no _ _ _ _ _ _ _ (H.trans (congrArg some HRT.out))).elim
        rw [if_neg c176] at H
        have c176b0 : (t264 != t268) = false := by simpa using c176
        (try (have c176b1 : decide (t264 = t268) = true := by simpa using c176))
        (try (have c176b2 : (t264 == t268) = true := by simpa using c176))
        clear c176
        (first | rw [c176b0] | (simp only [i64_w, i32_w]; rw [c176b0]) | skip)
        replace H := Option.bind_eq_some_iff.mp H
        obtain ⟨t271, A1770, H⟩ := H
        replace H : (j6 kj154 a0 a1 t204 t215 t263 t264 (!t271)) = some r := H
        have A177 := Aside0.mk A1770
        clear A1770
        have H' := Aside0.mk H
        clear H
        obtain ⟨Ao178, co178, eo178⟩ := Kd.R_slice HO266.out
        subst eo178
        obtain ⟨Ao179, co179, eo179⟩ := Kd.R_slice HO270.out
        subst eo179
        go_wp2_with (first | (go_at_call 19; (with_reducible refine (laws_tSame.calls kj154 _ _ t263 _ _ t267 t271 _ ?side1 ?side2 ?side3 ?side4 A177.out).mono ?_); (case side1 => repeat (first | exact (Kd.R_reads' HO266.out).2.2 | (with_reducible refine Kd.C_alloc ?_ _) | (with_reducible refine Kd.C_drewN ?_ _) | (with_reducible refine Kd.C_drew ?_))); (case side2 => exact (Kd.R_reads' HO266.out).2.1); (case side3 => repeat (first | exact (Kd.R_reads' HO270.out).2.2 | (with_reducible refine Kd.C_alloc ?_ _) | (with_reducible refine Kd.C_drewN ?_ _) | (with_reducible refine Kd.C_drew ?_))); (case side4 => exact (Kd.R_reads' HO270.out).2.1); rintro e w' ⟨rfl, ⟨nd, rfl⟩⟩; (try first | exact ⟨rfl, _, World.drewN_drewN _ _ _⟩ | exact ⟨rfl, _, Eq.trans (World.drewN_drewN _ _ _) (congrArg (World.drewN _) (Nat.add_assoc _ _ _))⟩)))
        repeat (go_quiet (first | (go_at_call 19; (with_reducible refine (laws_tSame.calls kj154 _ _ t263 _ _ t267 t271 _ ?side1 ?side2 ?side3 ?side4 A177.out).mono ?_); (case side1 => repeat (first | exact (Kd.R_reads' HO266.out).2.2 | (with_reducible refine Kd.C_alloc ?_ _) | (with_reducible refine Kd.C_drewN ?_ _) | (with_reducible refine Kd.C_drew ?_))); (case side2 => exact (Kd.R_reads' HO266.out).2.1); (case side3 => repeat (first | exact (Kd.R_reads' HO270.out).2.2 | (with_reducible refine Kd.C_alloc ?_ _) | (with_reducible refine Kd.C_drewN ?_ _) | (with_reducible refine Kd.C_drew ?_))); (case side4 => exact (Kd.R_reads' HO270.out).2.1); rintro e w' ⟨rfl, ⟨nd, rfl⟩⟩; (try first | exact ⟨rfl, _, World.drewN_drewN _ _ _⟩ | exact ⟨rfl, _, Eq.trans (World.drewN_drewN _ _ _) (congrArg (World.drewN _) (Nat.add_assoc _ _ _))⟩))); try go_wp2_with (first | (go_at_call 19; (with_reducible refine (laws_tSame.calls kj154 _ _ t263 _ _ t267 t271 _ ?side1 ?side2 ?side3 ?side4 A177.out).mono ?_); (case side1 => repeat (first | exact (Kd.R_reads' HO266.out).2.2 | (with_reducible refine Kd.C_alloc ?_ _) | (with_reducible refine Kd.C_drewN ?_ _) | (with_reducible refine Kd.C_drew ?_))); (case side2 => exact (Kd.R_reads' HO266.out).2.1); (case side3 => repeat (first | exact (Kd.R_reads' HO270.out).2.2 | (with_reducible refine Kd.C_alloc ?_ _) | (with_reducible refine Kd.C_drewN ?_ _) | (with_reducible refine Kd.C_drew ?_))); (case side4 => exact (Kd.R_reads' HO270.out).2.1); rintro e w' ⟨rfl, ⟨nd, rfl⟩⟩; (try first | exact ⟨rfl, _, World.drewN_drewN _ _ _⟩ | exact ⟨rfl, _, Eq.trans (World.drewN_drewN _ _ _) (congrArg (World.drewN _) (Nat.add_assoc _ _ _))⟩))))
        refine cutMeet hJ_ ?_ (by kernel_rfl)
        exact ⟨_, (!t271), (by first | rfl | (simp; done) | (simp [*]; done)), H', ⟨by have := HJ16.out; have := HJ121.out; have := HJ154.out; first | omega | exact Nat.le_refl _⟩, ⟨by (with_reducible repeat (first | apply Kd.R_alloc | apply Kd.R_drewN | apply Kd.R_drew)); exact Kd.R_mono HO266.out (fun _ hk => trivial)⟩, ⟨by repeat (first | (with_reducible first | exact HB.out | apply below_alloc | apply pw_below_drewN | apply below_drew1))⟩⟩
      intro u_ wc hcut
      clear HC173
      obtain ⟨kq, x409_172, e_409, HA, HJ172, HO_42, HB⟩ := hcut
      dsimp only [cutFgt, mk0]
      rw [e_409]
      cases kq with
      | zero => exact absurd HA.out (by simp [j6])
      | succ kj172 =>
       have H := HA.out
       clear HA
       simp only [j6] at H
       by_cases c180 : x409_172 = true
       ·
        subst c180
        have H1 : (some false) = some r := by rw [if_pos rfl] at H; exact H
        clear H
        have H := H1
        clear H1
        first
        | exact absurd (Option.some.inj (H.trans (congrArg some HRT.out))) Bool.false_ne_true
        |
         obtain rfl := Option.some.inj H
         go_wp2
         repeat (go_quiet (fail); try go_wp2)
         go_ret
         exact ⟨by first | rfl | (simp [errW_none, errW_some] <;> rfl) | (simp [*, errW_none, errW_some] <;> rfl), by repeat (first | (with_reducible first | exact HB.out | apply below_alloc | apply pw_below_drewN | apply below_drew1))⟩
       replace c180 := Bool.eq_false_iff.mpr c180
       subst c180
       have H1 : (if t264 = true then (laws_FnSumsOfSquaresOfAll.l2 kj172 a0 a1 t204 t215 t263 1) else (some true)) = some r := by rw [if_neg (show ¬ (false = true) by decide)] at H; exact H
       clear H
       have H := H1
       clear H1
       by_cases c181 : t264 = true
       ·
        subst c181
        have H1 : (laws_FnSumsOfSquaresOfAll.l2 kj172 a0 a1 t204 t215 t263 1) = some r := by rw [if_pos rfl] at H; exact H
        clear H
        have H := H1
        clear H1
        have H' := Aside0.mk H
        clear H
        go_wp2
        repeat (go_quiet (fail); try go_wp2)
        go_loopg [46] kj172 (fun kq v46 w' => ∃ (x46_5 : Int), v46 = .int .i64 x46_5 ∧ Aside0 (laws_FnSumsOfSquaresOfAll.l2 kq a0 a1 t204 t215 t263 x46_5 = some r) ∧ Aside0 (kq ≤ kj172) ∧ Aside0 (Kd.R (Kd.int .i64) 3 w' w.heap.size (fun _ => True) v265 t263) ∧ Aside0 (Below w.heap.size w w'))
        case atStart => exact ⟨(1), (by first | rfl | (simp; done) | (simp [*]; done)), H', ⟨Nat.le_refl _⟩, ⟨by (with_reducible repeat (first | apply Kd.R_alloc | apply Kd.R_drewN | apply Kd.R_drew)); exact HO_42.out⟩, ⟨by repeat (first | (with_reducible first | exact HB.out | apply below_alloc | apply pw_below_drewN | apply below_drew1))⟩⟩
        case round =>
         clear H'
         obtain ⟨x46_5, rfl, HA, HK5, HO_42, HB⟩ := hrel
         cases gk with
         | zero => exact absurd HA.out (by simp [laws_FnSumsOfSquaresOfAll.l2])
         | succ k5 =>
          have H := HA.out
          clear HA
          simp only [laws_FnSumsOfSquaresOfAll.l2] at H
          by_cases c182 : x46_5 ≤ a1
          ·
           rw [if_pos c182] at H
           have c182b0 : decide (x46_5 ≤ a1) = true := decide_eq_true c182
           clear c182
           replace H := Option.bind_eq_some_iff.mp H
           obtain ⟨⟨t272, t273⟩, A1830, H⟩ := H
           replace H : (if t273 = true then ((laws_tHas.f k5 t263 x46_5).bind fun t274 => (if (t272 != t274) = true then (some false) else (laws_FnSumsOfSquaresOfAll.l2 k5 a0 a1 t204 t215 t263 (wrap64 (x46_5 + 1))))) else (some false)) = some r := H
           have A183 := Aside0.mk A1830
           clear A1830
           by_cases c184 : t273 = true
           ·
            subst c184
            have H1 : ((laws_tHas.f k5 t263 x46_5).bind fun t274 => (if (t272 != t274) = true then (some false) else (laws_FnSumsOfSquaresOfAll.l2 k5 a0 a1 t204 t215 t263 (wrap64 (x46_5 + 1))))) = some r := by rw [if_pos rfl] at H; exact H
            clear H
            have H := H1
            clear H1
            replace H := Option.bind_eq_some_iff.mp H
            obtain ⟨t274, A1850, H⟩ := H
            replace H : (if (t272 != t274) = true then (some false) else (laws_FnSumsOfSquaresOfAll.l2 k5 a0 a1 t204 t215 t263 (wrap64 (x46_5 + 1)))) = some r := H
            have A185 := Aside0.mk A1850
            clear A1850
            by_cases c186 : (t272 != t274) = true
            ·
             rw [if_pos c186] at H
             have c186b0 : (t272 != t274) = true := c186
             (try (have c186b1 : decide (t272 = t274) = false := by simpa using c186))
             (try (have c186b2 : (t272 == t274) = false := by simpa using c186))
             (try (have c186b3 : ¬ (t272 = t274) := by simpa using c186))
             clear c186
             first
             | exact absurd (Option.some.inj (H.trans (congrArg some HRT.out))) Bool.false_ne_true
             |
              obtain rfl := Option.some.inj H
              go_wp2_with (first | (go_at_call 108; (with_reducible refine (impl_IsSumOfTwo.calls k5 x46_5 t272 true _ A183.out).mono ?_); rintro e w187 ⟨rfl, hb⟩; have n0_ := Aside0.mk (Kd.R_below (by (with_reducible repeat (first | apply Kd.R_alloc | apply Kd.R_drewN | apply Kd.R_drew)); exact HO_42.out) hb); have n1_ := Aside0.mk (below_step (by repeat (first | (with_reducible first | exact HB.out | apply below_alloc | apply pw_below_drewN | apply below_drew1))) hb); clear HO_42; clear HB; have HO_42 := n0_; have HB := n1_; clear n0_ n1_; (try clear hb); obtain ⟨Ao188, co188, eo188⟩ := Kd.R_slice HO_42.out; subst eo188) | (go_at_call 24; (with_reducible refine (laws_tHas.calls k5 _ _ t263 x46_5 t274 _ ?side1 ?side2 A185.out).mono ?_); (case side1 => repeat (first | exact (Kd.R_reads' HO_42.out).2.2 | (with_reducible refine Kd.C_alloc ?_ _) | (with_reducible refine Kd.C_drewN ?_ _) | (with_reducible refine Kd.C_drew ?_))); (case side2 => exact (Kd.R_reads' HO_42.out).2.1); rintro e w' ⟨rfl, ⟨nd, rfl⟩⟩; (try first | exact ⟨rfl, _, World.drewN_drewN _ _ _⟩ | exact ⟨rfl, _, Eq.trans (World.drewN_drewN _ _ _) (congrArg (World.drewN _) (Nat.add_assoc _ _ _))⟩)))
              repeat (go_quiet (first | (go_at_call 108; (with_reducible refine (impl_IsSumOfTwo.calls k5 x46_5 t272 true _ A183.out).mono ?_); rintro e w187 ⟨rfl, hb⟩; have n0_ := Aside0.mk (Kd.R_below (by (with_reducible repeat (first | apply Kd.R_alloc | apply Kd.R_drewN | apply Kd.R_drew)); exact HO_42.out) hb); have n1_ := Aside0.mk (below_step (by repeat (first | (with_reducible first | exact HB.out | apply below_alloc | apply pw_below_drewN | apply below_drew1))) hb); clear HO_42; clear HB; have HO_42 := n0_; have HB := n1_; clear n0_ n1_; (try clear hb); obtain ⟨Ao188, co188, eo188⟩ := Kd.R_slice HO_42.out; subst eo188) | (go_at_call 24; (with_reducible refine (laws_tHas.calls k5 _ _ t263 x46_5 t274 _ ?side1 ?side2 A185.out).mono ?_); (case side1 => repeat (first | exact (Kd.R_reads' HO_42.out).2.2 | (with_reducible refine Kd.C_alloc ?_ _) | (with_reducible refine Kd.C_drewN ?_ _) | (with_reducible refine Kd.C_drew ?_))); (case side2 => exact (Kd.R_reads' HO_42.out).2.1); rintro e w' ⟨rfl, ⟨nd, rfl⟩⟩; (try first | exact ⟨rfl, _, World.drewN_drewN _ _ _⟩ | exact ⟨rfl, _, Eq.trans (World.drewN_drewN _ _ _) (congrArg (World.drewN _) (Nat.add_assoc _ _ _))⟩))); try go_wp2_with (first | (go_at_call 108; (with_reducible refine (impl_IsSumOfTwo.calls k5 x46_5 t272 true _ A183.out).mono ?_); rintro e w187 ⟨rfl, hb⟩; have n0_ := Aside0.mk (Kd.R_below (by (with_reducible repeat (first | apply Kd.R_alloc | apply Kd.R_drewN | apply Kd.R_drew)); exact HO_42.out) hb); have n1_ := Aside0.mk (below_step (by repeat (first | (with_reducible first | exact HB.out | apply below_alloc | apply pw_below_drewN | apply below_drew1))) hb); clear HO_42; clear HB; have HO_42 := n0_; have HB := n1_; clear n0_ n1_; (try clear hb); obtain ⟨Ao188, co188, eo188⟩ := Kd.R_slice HO_42.out; subst eo188) | (go_at_call 24; (with_reducible refine (laws_tHas.calls k5 _ _ t263 x46_5 t274 _ ?side1 ?side2 A185.out).mono ?_); (case side1 => repeat (first | exact (Kd.R_reads' HO_42.out).2.2 | (with_reducible refine Kd.C_alloc ?_ _) | (with_reducible refine Kd.C_drewN ?_ _) | (with_reducible refine Kd.C_drew ?_))); (case side2 => exact (Kd.R_reads' HO_42.out).2.1); rintro e w' ⟨rfl, ⟨nd, rfl⟩⟩; (try first | exact ⟨rfl, _, World.drewN_drewN _ _ _⟩ | exact ⟨rfl, _, Eq.trans (World.drewN_drewN _ _ _) (congrArg (World.drewN _) (Nat.add_assoc _ _ _))⟩))))
              go_ret
              exact ⟨by first | rfl | (simp [errW_none, errW_some] <;> rfl) | (simp [*, errW_none, errW_some] <;> rfl), by repeat (first | (with_reducible first | exact HB.out | apply below_alloc | apply pw_below_drewN | apply below_drew1))⟩
            rw [if_neg c186] at H
            have c186b0 : (t272 != t274) = false := by simpa using c186
            (try (have c186b1 : decide (t272 = t274) = true := by simpa using c186))
            (try (have c186b2 : (t272 == t274) = true := by simpa using c186))
            clear c186
            have H' := Aside0.mk H
            clear H
            go_wp2_with (first | (go_at_call 108; (with_reducible refine (impl_IsSumOfTwo.calls k5 x46_5 t272 true _ A183.out).mono ?_); rintro e w189 ⟨rfl, hb⟩; have n0_ := Aside0.mk (Kd.R_below (by (with_reducible repeat (first | apply Kd.R_alloc | apply Kd.R_drewN | apply Kd.R_drew)); exact HO_42.out) hb); have n1_ := Aside0.mk (below_step (by repeat (first | (with_reducible first | exact HB.out | apply below_alloc | apply pw_below_drewN | apply below_drew1))) hb); clear HO_42; clear HB; have HO_42 := n0_; have HB := n1_; clear n0_ n1_; (try clear hb); obtain ⟨Ao190, co190, eo190⟩ := Kd.R_slice HO_42.out; subst eo190) | (go_at_call 24; (with_reducible refine (laws_tHas.calls k5 _ _ t263 x46_5 t274 _ ?side1 ?side2 A185.out).mono ?_); (case side1 => repeat (first | exact (Kd.R_reads' HO_42.out).2.2 | (with_reducible refine Kd.C_alloc ?_ _) | (with_reducible refine Kd.C_drewN ?_ _) | (with_reducible refine Kd.C_drew ?_))); (case side2 => exact (Kd.R_reads' HO_42.out).2.1); rintro e w' ⟨rfl, ⟨nd, rfl⟩⟩; (try first | exact ⟨rfl, _, World.drewN_drewN _ _ _⟩ | exact ⟨rfl, _, Eq.trans (World.drewN_drewN _ _ _) (congrArg (World.drewN _) (Nat.add_assoc _ _ _))⟩)))
            repeat (go_quiet (first | (go_at_call 108; (with_reducible refine (impl_IsSumOfTwo.calls k5 x46_5 t272 true _ A183.out).mono ?_); rintro e w189 ⟨rfl, hb⟩; have n0_ := Aside0.mk (Kd.R_below (by (with_reducible repeat (first | apply Kd.R_alloc | apply Kd.R_drewN | apply Kd.R_drew)); exact HO_42.out) hb); have n1_ := Aside0.mk (below_step (by repeat (first | (with_reducible first | exact HB.out | apply below_alloc | apply pw_below_drewN | apply below_drew1))) hb); clear HO_42; clear HB; have HO_42 := n0_; have HB := n1_; clear n0_ n1_; (try clear hb); obtain ⟨Ao190, co190, eo190⟩ := Kd.R_slice HO_42.out; subst eo190) | (go_at_call 24; (with_reducible refine (laws_tHas.calls k5 _ _ t263 x46_5 t274 _ ?side1 ?side2 A185.out).mono ?_); (case side1 => repeat (first | exact (Kd.R_reads' HO_42.out).2.2 | (with_reducible refine Kd.C_alloc ?_ _) | (with_reducible refine Kd.C_drewN ?_ _) | (with_reducible refine Kd.C_drew ?_))); (case side2 => exact (Kd.R_reads' HO_42.out).2.1); rintro e w' ⟨rfl, ⟨nd, rfl⟩⟩; (try first | exact ⟨rfl, _, World.drewN_drewN _ _ _⟩ | exact ⟨rfl, _, Eq.trans (World.drewN_drewN _ _ _) (congrArg (World.drewN _) (Nat.add_assoc _ _ _))⟩))); try go_wp2_with (first | (go_at_call 108; (with_reducible refine (impl_IsSumOfTwo.calls k5 x46_5 t272 true _ A183.out).mono ?_); rintro e w189 ⟨rfl, hb⟩; have n0_ := Aside0.mk (Kd.R_below (by (with_reducible repeat (first | apply Kd.R_alloc | apply Kd.R_drewN | apply Kd.R_drew)); exact HO_42.out) hb); have n1_ := Aside0.mk (below_step (by repeat (first | (with_reducible first | exact HB.out | apply below_alloc | apply pw_below_drewN | apply below_drew1))) hb); clear HO_42; clear HB; have HO_42 := n0_; have HB := n1_; clear n0_ n1_; (try clear hb); obtain ⟨Ao190, co190, eo190⟩ := Kd.R_slice HO_42.out; subst eo190) | (go_at_call 24; (with_reducible refine (laws_tHas.calls k5 _ _ t263 x46_5 t274 _ ?side1 ?side2 A185.out).mono ?_); (case side1 => repeat (first | exact (Kd.R_reads' HO_42.out).2.2 | (with_reducible refine Kd.C_alloc ?_ _) | (with_reducible refine Kd.C_drewN ?_ _) | (with_reducible refine Kd.C_drew ?_))); (case side2 => exact (Kd.R_reads' HO_42.out).2.1); rintro e w' ⟨rfl, ⟨nd, rfl⟩⟩; (try first | exact ⟨rfl, _, World.drewN_drewN _ _ _⟩ | exact ⟨rfl, _, Eq.trans (World.drewN_drewN _ _ _) (congrArg (World.drewN _) (Nat.add_assoc _ _ _))⟩))))
            go_roundg k5
            case measure => have := HJ16.out; have := HJ121.out; have := HJ154.out; have := HJ172.out; have := HK5.out; omega
            case rel => exact ⟨(wrap64 (x46_5 + 1)), (by first | rfl | (simp; done) | (simp [*]; done)), H', ⟨by have := HJ16.out; have := HJ121.out; have := HJ154.out; have := HJ172.out; have := HK5.out; omega⟩, ⟨by (with_reducible repeat (first | apply Kd.R_alloc | apply Kd.R_drewN | apply Kd.R_drew)); exact HO_42.out⟩, ⟨by repeat (first | (with_reducible first | exact HB.out | apply below_alloc | apply pw_below_drewN | apply below_drew1))⟩⟩
           replace c184 := Bool.eq_false_iff.mpr c184
           subst c184
           have H1 : (some false) = some r := by rw [if_neg (show ¬ (false = true) by decide)] at H; exact H
           clear H
           have H := H1
           clear H1
           first
           | exact absurd (Option.some.inj (H.trans (congrArg some HRT.out))) Bool.false_ne_true
           |
            obtain rfl := Option.some.inj H
            go_wp2_with (first | (go_at_call 108; (with_reducible refine (impl_IsSumOfTwo.calls k5 x46_5 t272 false _ A183.out).mono ?_); rintro e w191 ⟨rfl, hb⟩; have n0_ := Aside0.mk (Kd.R_below (by (with_reducible repeat (first | apply Kd.R_alloc | apply Kd.R_drewN | apply Kd.R_drew)); exact HO_42.out) hb); have n1_ := Aside0.mk (below_step (by repeat (first | (with_reducible first | exact HB.out | apply below_alloc | apply pw_below_drewN | apply below_drew1))) hb); clear HO_42; clear HB; have HO_42 := n0_; have HB := n1_; clear n0_ n1_; (try clear hb)))
            repeat (go_quiet (first | (go_at_call 108; (with_reducible refine (impl_IsSumOfTwo.calls k5 x46_5 t272 false _ A183.out).mono ?_); rintro e w191 ⟨rfl, hb⟩; have n0_ := Aside0.mk (Kd.R_below (by (with_reducible repeat (first | apply Kd.R_alloc | apply Kd.R_drewN | apply Kd.R_drew)); exact HO_42.out) hb); have n1_ := Aside0.mk (below_step (by repeat (first | (with_reducible first | exact HB.out | apply below_alloc | apply pw_below_drewN | apply below_drew1))) hb); clear HO_42; clear HB; have HO_42 := n0_; have HB := n1_; clear n0_ n1_; (try clear hb))); try go_wp2_with (first | (go_at_call 108; (with_reducible refine (impl_IsSumOfTwo.calls k5 x46_5 t272 false _ A183.out).mono ?_); rintro e w191 ⟨rfl, hb⟩; have n0_ := Aside0.mk (Kd.R_below (by (with_reducible repeat (first | apply Kd.R_alloc | apply Kd.R_drewN | apply Kd.R_drew)); exact HO_42.out) hb); have n1_ := Aside0.mk (below_step (by repeat (first | (with_reducible first | exact HB.out | apply below_alloc | apply pw_below_drewN | apply below_drew1))) hb); clear HO_42; clear HB; have HO_42 := n0_; have HB := n1_; clear n0_ n1_; (try clear hb))))
            go_ret
            exact ⟨by first | rfl | (simp [errW_none, errW_some] <;> rfl) | (simp [*, errW_none, errW_some] <;> rfl), by repeat (first | (with_reducible first | exact HB.out | apply below_alloc | apply pw_below_drewN | apply below_drew1))⟩
          rw [if_neg c182] at H
          have c182b0 : decide (x46_5 ≤ a1) = false := decide_eq_false c182
          clear c182
          have H' := Aside0.mk H
          clear H
          obtain ⟨Ao192, co192, eo192⟩ := Kd.R_slice HO_42.out
          subst eo192
          go_wp2
          repeat (go_quiet (fail); try go_wp2)
          go_loopg [432] k5 (fun kq v432 w' => ∃ (x432_6 : Int), v432 = .int .i64 x432_6 ∧ Aside0 (laws_FnSumsOfSquaresOfAll.l3 kq a0 t204 t215 t263 (t263.length : Int) x432_6 = some r) ∧ Aside0 (kq ≤ k5) ∧ Aside0 (Kd.R (Kd.int .i64) 3 w' w.heap.size (fun _ => True) (.slice Ao192 t263.length co192) t263) ∧ Aside0 (Below w.heap.size w w'))
          case atStart => exact ⟨(0), (by first | rfl | (simp; done) | (simp [*]; done)), H', ⟨Nat.le_refl _⟩, ⟨by (with_reducible repeat (first | apply Kd.R_alloc | apply Kd.R_drewN | apply Kd.R_drew)); exact HO_42.out⟩, ⟨by repeat (first | (with_reducible first | exact HB.out | apply below_alloc | apply pw_below_drewN | apply below_drew1))⟩⟩
          case round =>
           clear H'
           obtain ⟨x432_6, rfl, HA, HK6, HO_430, HB⟩ := hrel
           cases gk with
           | zero => exact absurd HA.out (by simp [laws_FnSumsOfSquaresOfAll.l3])
           | succ k6 =>
            have H := HA.out
            clear HA
            simp only [laws_FnSumsOfSquaresOfAll.l3] at H
            by_cases c193 : x432_6 < (t263.length : Int)
            ·
             rw [if_pos c193] at H
             have c193b0 : decide (x432_6 < (t263.length : Int)) = true := decide_eq_true c193
             clear c193
             by_cases c194 : 0 ≤ x432_6
             ·
              as_aux_lemma =>
               rw [if_pos c194] at H
               have c194b0 : decide (0 ≤ x432_6) = true := decide_eq_true c194
               clear c194
               by_cases c195 : x432_6 < (t263.length : Int)
               ·
                rw [if_pos c195] at H
                have c195b0 : decide (x432_6 < (t263.length : Int)) = true := decide_eq_true c195
                clear c195
                have HC196 := Aside0.mk H
                clear H
                have p275 : 0 ≤ (x432_6 : Int) := of_decide_eq_true (by first | (with_reducible assumption) | assumption)
                have q275 : x432_6 < (t263.length : Int) := of_decide_eq_true (by first | (with_reducible assumption) | assumption)
                obtain ⟨ad275, e275, hx275_0⟩ := Kd.at_int (Kd.R_reads' HO_430.out).2.2 x432_6 p275 q275
                cases e275
                replace p275 := eq_true p275
                replace q275 := eq_true q275
                go_upto_region 62 with (fail)
                repeat (go_quiet (fail); go_upto_region 62 with (fail))
                refine cutF mk1 [] (fun u_ wc => ∃ (kq : Nat) (x455_195 : Bool), (u_ 455) = .bool x455_195 ∧ Aside0 (j9 kq a0 t204 t215 (rd t263 x432_6) t263 (t263.length : Int) x432_6 x455_195 = some r) ∧ Aside0 (kq ≤ k6) ∧ Aside0 (Kd.R (Kd.int .i64) 3 wc w.heap.size (fun _ => True) (.slice (some ad275) t263.length co192) t263) ∧ Aside0 (Below w.heap.size w wc)) ?_ ?_
                ·
                 as_aux_lemma =>
                  intro J_ K_ hJ_ hK_
                  have H := HC196.out
                  clear HC196
                  by_cases c197 : x432_6 > 6
                  ·
                   rw [if_pos c197] at H
                   have c197b0 : decide (6 < x432_6) = true := decide_eq_true c197
                   clear c197
                   (first | rw [c197b0] | (simp only [i64_w, i32_w]; rw [c197b0]) | skip)
                   have H' := Aside0.mk H
                   clear H
                   go_wp2
                   repeat (go_quiet (fail); try go_wp2)
                   refine cutMeet hJ_ ?_ (by kernel_rfl)
                   exact ⟨_, (true), (by first | rfl | (simp; done) | (simp [*]; done)), H', ⟨by have := HJ16.out; have := HJ121.out; have := HJ154.out; have := HJ172.out; have := HK5.out; have := HK6.out; first | omega | exact Nat.le_refl _⟩, ⟨by (with_reducible repeat (first | apply Kd.R_alloc | apply Kd.R_drewN | apply Kd.R_drew)); exact HO_430.out⟩, ⟨by repeat (first | (with_reducible first | exact HB.out | apply below_alloc | apply pw_below_drewN | apply below_drew1))⟩⟩
                  rw [if_neg c197] at H
                  have c197b0 : decide (6 < x432_6) = false := decide_eq_false c197
                  clear c197
                  (first | rw [c197b0] | (simp only [i64_w, i32_w]; rw [c197b0]) | skip)
                  by_cases c198 : t204 = true
                  ·
                   subst c198
                   have H1 : (if t215 = true then (if a0 < 1 then (j9 k6 a0 true t215 (rd t263 x432_6) t263 (t263.length : Int) x432_6 true) else (if (rd t263 x432_6) = 0 then (none) else (j9 k6 a0 true t215 (rd t263 x432_6) t263 (t263.length : Int) x432_6 (decide (a0 > (wrap64 (Int.tdiv 100000 (rd t263 x432_6)))))))) else (j9 k6 a0 true t215 (rd t263 x432_6) t263 (t263.length : Int) x432_6 true)) = some r := by rw [if_pos rfl] at H; exact H
                   clear H
                   have H := H1
                   clear H1
                   by_cases c199 : t215 = true
                   ·
                    subst c199
                    have H1 : (if a0 < 1 then (j9 k6 a0 true true (rd t263 x432_6) t263 (t263.length : Int) x432_6 true) else (if (rd t263 x432_6) = 0 then (none) else (j9 k6 a0 true true (rd t263 x432_6) t263 (t263.length : Int) x432_6 (decide (a0 > (wrap64 (Int.tdiv 100000 (rd t263 x432_6)))))))) = some r := by rw [if_pos rfl] at H; exact H
                    clear H
                    have H := H1
                    clear H1
                    by_cases c200 : a0 < 1
                    ·
                     rw [if_pos c200] at H
                     have c200b0 : decide (a0 < 1) = true := decide_eq_true c200
                     clear c200
                     have H' := Aside0.mk H
                     clear H
                     go_wp2
                     repeat (go_quiet (fail); try go_wp2)
                     refine cutMeet hJ_ ?_ (by kernel_rfl)
                     exact ⟨_, (true), (by first | rfl | (simp; done) | (simp [*]; done)), H', ⟨by have := HJ16.out; have := HJ121.out; have := HJ154.out; have := HJ172.out; have := HK5.out; have := HK6.out; first | omega | exact Nat.le_refl _⟩, ⟨by (with_reducible repeat (first | apply Kd.R_alloc | apply Kd.R_drewN | apply Kd.R_drew)); exact HO_430.out⟩, ⟨by repeat (first | (with_reducible first | exact HB.out | apply below_alloc | apply pw_below_drewN | apply below_drew1))⟩⟩
                    rw [if_neg c200] at H
                    have c200b0 : decide (a0 < 1) = false := decide_eq_false c200
                    clear c200
                    by_cases c201 : (rd t263 x432_6) = 0
                    ·
                     rw [if_pos c201] at H
                     exact absurd H (by simp)
                    rw [if_neg c201] at H
                    have c201b0 : ((rd t263 x432_6) == 0) = false := beq_eq_false_iff_ne.mpr c201
                    have c201b1 : ((rd t263 x432_6) != 0) = true := bne_iff_ne.mpr c201
                    have H' := Aside0.mk H
                    clear H
                    go_wp2
                    repeat (go_quiet (fail); try go_wp2)
                    refine cutMeet hJ_ ?_ (by kernel_rfl)
                    exact ⟨_, (decide (a0 > (wrap64 (Int.tdiv 100000 (rd t263 x432_6))))), (by first | rfl | (simp; done) | (simp [*]; done)), H', ⟨by have := HJ16.out; have := HJ121.out; have := HJ154.out; have := HJ172.out; have := HK5.out; have := HK6.out; first | omega | exact Nat.le_refl _⟩, ⟨by (with_reducible repeat (first | apply Kd.R_alloc | apply Kd.R_drewN | apply Kd.R_drew)); exact HO_430.out⟩, ⟨by repeat (first | (with_reducible first | exact HB.out | apply below_alloc | apply pw_below_drewN | apply below_drew1))⟩⟩
                   replace c199 := Bool.eq_false_iff.mpr c199
                   subst c199
                   have H1 : (j9 k6 a0 true false (rd t263 x432_6) t263 (t263.length : Int) x432_6 true) = some r := by rw [if_neg (show ¬ (false = true) by decide)] at H; exact H
                   clear H
                   have H := H1
                   clear H1
                   have H' := Aside0.mk H
                   clear H
                   go_wp2
                   repeat (go_quiet (fail); try go_wp2)
                   refine cutMeet hJ_ ?_ (by kernel_rfl)
                   exact ⟨_, (true), (by first | rfl | (simp; done) | (simp [*]; done)), H', ⟨by have := HJ16.out; have := HJ121.out; have := HJ154.out; have := HJ172.out; have := HK5.out; have := HK6.out; first | omega | exact Nat.le_refl _⟩, ⟨by (with_reducible repeat (first | apply Kd.R_alloc | apply Kd.R_drewN | apply Kd.R_drew)); exact HO_430.out⟩, ⟨by repeat (first | (with_reducible first | exact HB.out | apply below_alloc | apply pw_below_drewN | apply below_drew1))⟩⟩
                  replace c198 := Bool.eq_false_iff.mpr c198
                  subst c198
                  have H1 : (if a0 < 1 then (j9 k6 a0 false t215 (rd t263 x432_6) t263 (t263.length : Int) x432_6 true) else (if (rd t263 x432_6) = 0 then (none) else (j9 k6 a0 false t215 (rd t263 x432_6) t263 (t263.length : Int) x432_6 (decide (a0 > (wrap64 (Int.tdiv 100000 (rd t263 x432_6)))))))) = some r := by rw [if_neg (show ¬ (false = true) by decide)] at H; exact H
                  clear H
                  have H := H1
                  clear H1
                  by_cases c202 : a0 < 1
                  ·
                   rw [if_pos c202] at H
                   have c202b0 : decide (a0 < 1) = true := decide_eq_true c202
                   clear c202
                   have H' := Aside0.mk H
                   clear H
                   go_wp2
                   repeat (go_quiet (fail); try go_wp2)
                   refine cutMeet hJ_ ?_ (by kernel_rfl)
                   exact ⟨_, (true), (by first | rfl | (simp; done) | (simp [*]; done)), H', ⟨by have := HJ16.out; have := HJ121.out; have := HJ154.out; have := HJ172.out; have := HK5.out; have := HK6.out; first | omega | exact Nat.le_refl _⟩, ⟨by (with_reducible repeat (first | apply Kd.R_alloc | apply Kd.R_drewN | apply Kd.R_drew)); exact HO_430.out⟩, ⟨by repeat (first | (with_reducible first | exact HB.out | apply below_alloc | apply pw_below_drewN | apply below_drew1))⟩⟩
                  rw [if_neg c202] at H
                  have c202b0 : decide (a0 < 1) = false := decide_eq_false c202
                  clear c202
                  by_cases c203 : (rd t263 x432_6) = 0
                  ·
                   rw [if_pos c203] at H
                   exact absurd H (by simp)
                  rw [if_neg c203] at H
                  have c203b0 : ((rd t263 x432_6) == 0) = false := beq_eq_false_iff_ne.mpr c203
                  have c203b1 : ((rd t263 x432_6) != 0) = true := bne_iff_ne.mpr c203
                  have H' := Aside0.mk H
                  clear H
                  go_wp2
                  repeat (go_quiet (fail); try go_wp2)
                  refine cutMeet hJ_ ?_ (by kernel_rfl)
                  exact ⟨_, (decide (a0 > (wrap64 (Int.tdiv 100000 (rd t263 x432_6))))), (by first | rfl | (simp; done) | (simp [*]; done)), H', ⟨by have := HJ16.out; have := HJ121.out; have := HJ154.out; have := HJ172.out; have := HK5.out; have := HK6.out; first | omega | exact Nat.le_refl _⟩, ⟨by (with_reducible repeat (first | apply Kd.R_alloc | apply Kd.R_drewN | apply Kd.R_drew)); exact HO_430.out⟩, ⟨by repeat (first | (with_reducible first | exact HB.out | apply below_alloc | apply pw_below_drewN | apply below_drew1))⟩⟩
                intro u_ wc hcut
                clear HC196
                obtain ⟨kq, x455_195, e_455, HA, HJ195, HO_430, HB⟩ := hcut
                dsimp only [cutFgt, mk1]
                rw [e_455]
                cases kq with
                | zero => exact absurd HA.out (by simp [j9])
                | succ kj195 =>
                 have H := HA.out
                 clear HA
                 simp only [j9] at H
                 by_cases c204 : x455_195 = true
                 ·
                  subst c204
                  have H1 : (some true) = some r := by rw [if_pos rfl] at H; exact H
                  clear H
                  have H := H1
                  clear H1
                  first
                  | exact absurd (Option.some.inj (H.trans (congrArg some HRT.out))) Bool.false_ne_true
                  |
                   obtain rfl := Option.some.inj H
                   go_wp2
                   repeat (go_quiet (fail); try go_wp2)
                   go_ret
                   exact ⟨by first | rfl | (simp [errW_none, errW_some] <;> rfl) | (simp [*, errW_none, errW_some] <;> rfl), by repeat (first | (with_reducible first | exact HB.out | apply below_alloc | apply pw_below_drewN | apply below_drew1))⟩
                 replace c204 := Bool.eq_false_iff.mpr c204
                 subst c204
                 have H1 : ((impl_IsSumOfTwo.f kj195 (wrap64 ((rd t263 x432_6) * a0))).bind fun bt276 => (if t204 = true then (if bt276.2 = true then (if bt276.1 = true then (laws_FnSumsOfSquaresOfAll.l3 kj195 a0 t204 t215 t263 (t263.length : Int) (wrap64 (x432_6 + 1))) else (some false)) else (some false)) else (laws_FnSumsOfSquaresOfAll.l3 kj195 a0 t204 t215 t263 (t263.length : Int) (wrap64 (x432_6 + 1))))) = some r := by rw [if_neg (show ¬ (false = true) by decide)] at H; exact H
                 clear H
                 have H := H1
                 clear H1
                 replace H := Option.bind_eq_some_iff.mp H
                 obtain ⟨⟨t276, t277⟩, A2050, H⟩ := H
                 replace H : (if t204 = true then (if t277 = true then (if t276 = true then (laws_FnSumsOfSquaresOfAll.l3 kj195 a0 t204 t215 t263 (t263.length : Int) (wrap64 (x432_6 + 1))) else (some false)) else (some false)) else (laws_FnSumsOfSquaresOfAll.l3 kj195 a0 t204 t215 t263 (t263.length : Int) (wrap64 (x432_6 + 1)))) = some r := H
                 have A205 := Aside0.mk A2050
                 clear A2050
                 by_cases c206 : t204 = true
                 ·
                  subst c206
                  have H1 : (if t277 = true then (if t276 = true then (laws_FnSumsOfSquaresOfAll.l3 kj195 a0 true t215 t263 (t263.length : Int) (wrap64 (x432_6 + 1))) else (some false)) else (some false)) = some r := by rw [if_pos rfl] at H; exact H
                  clear H
                  have H := H1
                  clear H1
                  by_cases c207 : t277 = true
                  ·
                   subst c207
                   have H1 : (if t276 = true then (laws_FnSumsOfSquaresOfAll.l3 kj195 a0 true t215 t263 (t263.length : Int) (wrap64 (x432_6 + 1))) else (some false)) = some r := by rw [if_pos rfl] at H; exact H
                   clear H
                   have H := H1
                   clear H1
                   by_cases c208 : t276 = true
                   ·
                    subst c208
                    have H1 : (laws_FnSumsOfSquaresOfAll.l3 kj195 a0 true t215 t263 (t263.length : Int) (wrap64 (x432_6 + 1))) = some r := by rw [if_pos rfl] at H; exact H
                    clear H
                    have H := H1
                    clear H1
                    have H' := Aside0.mk H
                    clear H
                    go_wp2_with (first | (go_at_call 108; (with_reducible refine (impl_IsSumOfTwo.calls kj195 (wrap64 ((rd t263 x432_6) * a0)) true true _ A205.out).mono ?_); rintro e w209 ⟨rfl, hb⟩; have n0_ := Aside0.mk (Kd.R_below (by (with_reducible repeat (first | apply Kd.R_alloc | apply Kd.R_drewN | apply Kd.R_drew)); exact HO_430.out) hb); have n1_ := Aside0.mk (below_step (by repeat (first | (with_reducible first | exact HB.out | apply below_alloc | apply pw_below_drewN | apply below_drew1))) hb); clear HO_430; clear HB; have HO_430 := n0_; have HB := n1_; clear n0_ n1_; (try clear hb)))
                    repeat (go_quiet (first | (go_at_call 108; (with_reducible refine (impl_IsSumOfTwo.calls kj195 (wrap64 ((rd t263 x432_6) * a0)) true true _ A205.out).mono ?_); rintro e w209 ⟨rfl, hb⟩; have n0_ := Aside0.mk (Kd.R_below (by (with_reducible repeat (first | apply Kd.R_alloc | apply Kd.R_drewN | apply Kd.R_drew)); exact HO_430.out) hb); have n1_ := Aside0.mk (below_step (by repeat (first | (with_reducible first | exact HB.out | apply below_alloc | apply pw_below_drewN | apply below_drew1))) hb); clear HO_430; clear HB; have HO_430 := n0_; have HB := n1_; clear n0_ n1_; (try clear hb))); try go_wp2_with (first | (go_at_call 108; (with_reducible refine (impl_IsSumOfTwo.calls kj195 (wrap64 ((rd t263 x432_6) * a0)) true true _ A205.out).mono ?_); rintro e w209 ⟨rfl, hb⟩; have n0_ := Aside0.mk (Kd.R_below (by (with_reducible repeat (first | apply Kd.R_alloc | apply Kd.R_drewN | apply Kd.R_drew)); exact HO_430.out) hb); have n1_ := Aside0.mk (below_step (by repeat (first | (with_reducible first | exact HB.out | apply below_alloc | apply pw_below_drewN | apply below_drew1))) hb); clear HO_430; clear HB; have HO_430 := n0_; have HB := n1_; clear n0_ n1_; (try clear hb))))
                    go_roundg kj195
                    case measure => have := HJ16.out; have := HJ121.out; have := HJ154.out; have := HJ172.out; have := HK5.out; have := HK6.out; have := HJ195.out; omega
                    case rel => exact ⟨(wrap64 (x432_6 + 1)), (by first | rfl | (simp; done) | (simp [*]; done)), H', ⟨by have := HJ16.out; have := HJ121.out; have := HJ154.out; have := HJ172.out; have := HK5.out; have := HK6.out; have := HJ195.out; omega⟩, ⟨by (with_reducible repeat (first | apply Kd.R_alloc | apply Kd.R_drewN | apply Kd.R_drew)); exact HO_430.out⟩, ⟨by repeat (first | (with_reducible first | exact HB.out | apply below_alloc | apply pw_below_drewN | apply below_drew1))⟩⟩
                   replace c208 := Bool.eq_false_iff.mpr c208
                   subst c208
                   have H1 : (some false) = some r := by rw [if_neg (show ¬ (false = true) by decide)] at H; exact H
                   clear H
                   have H := H1
                   clear H1
                   first
                   | exact absurd (Option.some.inj (H.trans (congrArg some HRT.out))) Bool.false_ne_true
                   |
                    obtain rfl := Option.some.inj H
                    go_wp2_with (first | (go_at_call 108; (with_reducible refine (impl_IsSumOfTwo.calls kj195 (wrap64 ((rd t263 x432_6) * a0)) false true _ A205.out).mono ?_); rintro e w210 ⟨rfl, hb⟩; have n0_ := Aside0.mk (Kd.R_below (by (with_reducible repeat (first | apply Kd.R_alloc | apply Kd.R_drewN | apply Kd.R_drew)); exact HO_430.out) hb); have n1_ := Aside0.mk (below_step (by repeat (first | (with_reducible first | exact HB.out | apply below_alloc | apply pw_below_drewN | apply below_drew1))) hb); clear HO_430; clear HB; have HO_430 := n0_; have HB := n1_; clear n0_ n1_; (try clear hb)))
                    repeat (go_quiet (first | (go_at_call 108; (with_reducible refine (impl_IsSumOfTwo.calls kj195 (wrap64 ((rd t263 x432_6) * a0)) false true _ A205.out).mono ?_); rintro e w210 ⟨rfl, hb⟩; have n0_ := Aside0.mk (Kd.R_below (by (with_reducible repeat (first | apply Kd.R_alloc | apply Kd.R_drewN | apply Kd.R_drew)); exact HO_430.out) hb); have n1_ := Aside0.mk (below_step (by repeat (first | (with_reducible first | exact HB.out | apply below_alloc | apply pw_below_drewN | apply below_drew1))) hb); clear HO_430; clear HB; have HO_430 := n0_; have HB := n1_; clear n0_ n1_; (try clear hb))); try go_wp2_with (first | (go_at_call 108; (with_reducible refine (impl_IsSumOfTwo.calls kj195 (wrap64 ((rd t263 x432_6) * a0)) false true _ A205.out).mono ?_); rintro e w210 ⟨rfl, hb⟩; have n0_ := Aside0.mk (Kd.R_below (by (with_reducible repeat (first | apply Kd.R_alloc | apply Kd.R_drewN | apply Kd.R_drew)); exact HO_430.out) hb); have n1_ := Aside0.mk (below_step (by repeat (first | (with_reducible first | exact HB.out | apply below_alloc | apply pw_below_drewN | apply below_drew1))) hb); clear HO_430; clear HB; have HO_430 := n0_; have HB := n1_; clear n0_ n1_; (try clear hb))))
                    go_ret
                    exact ⟨by first | rfl | (simp [errW_none, errW_some] <;> rfl) | (simp [*, errW_none, errW_some] <;> rfl), by repeat (first | (with_reducible first | exact HB.out | apply below_alloc | apply pw_below_drewN | apply below_drew1))⟩
                  replace c207 := Bool.eq_false_iff.mpr c207
                  subst c207
                  have H1 : (some false) = some r := by rw [if_neg (show ¬ (false = true) by decide)] at H; exact H
                  clear H
                  have H := H1
                  clear H1
                  first
                  | exact absurd (Option.some.inj (H.trans (congrArg some HRT.out))) Bool.false_ne_true
                  |
                   obtain rfl := Option.some.inj H
                   go_wp2_with (first | (go_at_call 108; (with_reducible refine (impl_IsSumOfTwo.calls kj195 (wrap64 ((rd t263 x432_6) * a0)) t276 false _ A205.out).mono ?_); rintro e w211 ⟨rfl, hb⟩; have n0_ := Aside0.mk (Kd.R_below (by (with_reducible repeat (first | apply Kd.R_alloc | apply Kd.R_drewN | apply Kd.R_drew)); exact HO_430.out) hb); have n1_ := Aside0.mk (below_step (by repeat (first | (with_reducible first | exact HB.out | apply below_alloc | apply pw_below_drewN | apply below_drew1))) hb); clear HO_430; clear HB; have HO_430 := n0_; have HB := n1_; clear n0_ n1_; (try clear hb)))
                   repeat (go_quiet (first | (go_at_call 108; (with_reducible refine (impl_IsSumOfTwo.calls kj195 (wrap64 ((rd t263 x432_6) * a0)) t276 false _ A205.out).mono ?_); rintro e w211 ⟨rfl, hb⟩; have n0_ := Aside0.mk (Kd.R_below (by (with_reducible repeat (first | apply Kd.R_alloc | apply Kd.R_drewN | apply Kd.R_drew)); exact HO_430.out) hb); have n1_ := Aside0.mk (below_step (by repeat (first | (with_reducible first | exact HB.out | apply below_alloc | apply pw_below_drewN | apply below_drew1))) hb); clear HO_430; clear HB; have HO_430 := n0_; have HB := n1_; clear n0_ n1_; (try clear hb))); try go_wp2_with (first | (go_at_call 108; (with_reducible refine (impl_IsSumOfTwo.calls kj195 (wrap64 ((rd t263 x432_6) * a0)) t276 false _ A205.out).mono ?_); rintro e w211 ⟨rfl, hb⟩; have n0_ := Aside0.mk (Kd.R_below (by (with_reducible repeat (first | apply Kd.R_alloc | apply Kd.R_drewN | apply Kd.R_drew)); exact HO_430.out) hb); have n1_ := Aside0.mk (below_step (by repeat (first | (with_reducible first | exact HB.out | apply below_alloc | apply pw_below_drewN | apply below_drew1))) hb); clear HO_430; clear HB; have HO_430 := n0_; have HB := n1_; clear n0_ n1_; (try clear hb))))
                   go_ret
                   exact ⟨by first | rfl | (simp [errW_none, errW_some] <;> rfl) | (simp [*, errW_none, errW_some] <;> rfl), by repeat (first | (with_reducible first | exact HB.out | apply below_alloc | apply pw_below_drewN | apply below_drew1))⟩
                 replace c206 := Bool.eq_false_iff.mpr c206
                 subst c206
                 have H1 : (laws_FnSumsOfSquaresOfAll.l3 kj195 a0 false t215 t263 (t263.length : Int) (wrap64 (x432_6 + 1))) = some r := by rw [if_neg (show ¬ (false = true) by decide)] at H; exact H
                 clear H
                 have H := H1
                 clear H1
                 have H' := Aside0.mk H
                 clear H
                 go_wp2_with (first | (go_at_call 108; (with_reducible refine (impl_IsSumOfTwo.calls kj195 (wrap64 ((rd t263 x432_6) * a0)) t276 t277 _ A205.out).mono ?_); rintro e w212 ⟨rfl, hb⟩; have n0_ := Aside0.mk (Kd.R_below (by (with_reducible repeat (first | apply Kd.R_alloc | apply Kd.R_drewN | apply Kd.R_drew)); exact HO_430.out) hb); have n1_ := Aside0.mk (below_step (by repeat (first | (with_reducible first | exact HB.out | apply below_alloc | apply pw_below_drewN | apply below_drew1))) hb); clear HO_430; clear HB; have HO_430 := n0_; have HB := n1_; clear n0_ n1_; (try clear hb)))
                 repeat (go_quiet (first | (go_at_call 108; (with_reducible refine (impl_IsSumOfTwo.calls kj195 (wrap64 ((rd t263 x432_6) * a0)) t276 t277 _ A205.out).mono ?_); rintro e w212 ⟨rfl, hb⟩; have n0_ := Aside0.mk (Kd.R_below (by (with_reducible repeat (first | apply Kd.R_alloc | apply Kd.R_drewN | apply Kd.R_drew)); exact HO_430.out) hb); have n1_ := Aside0.mk (below_step (by repeat (first | (with_reducible first | exact HB.out | apply below_alloc | apply pw_below_drewN | apply below_drew1))) hb); clear HO_430; clear HB; have HO_430 := n0_; have HB := n1_; clear n0_ n1_; (try clear hb))); try go_wp2_with (first | (go_at_call 108; (with_reducible refine (impl_IsSumOfTwo.calls kj195 (wrap64 ((rd t263 x432_6) * a0)) t276 t277 _ A205.out).mono ?_); rintro e w212 ⟨rfl, hb⟩; have n0_ := Aside0.mk (Kd.R_below (by (with_reducible repeat (first | apply Kd.R_alloc | apply Kd.R_drewN | apply Kd.R_drew)); exact HO_430.out) hb); have n1_ := Aside0.mk (below_step (by repeat (first | (with_reducible first | exact HB.out | apply below_alloc | apply pw_below_drewN | apply below_drew1))) hb); clear HO_430; clear HB; have HO_430 := n0_; have HB := n1_; clear n0_ n1_; (try clear hb))))
                 go_roundg kj195
                 case measure => have := HJ16.out; have := HJ121.out; have := HJ154.out; have := HJ172.out; have := HK5.out; have := HK6.out; have := HJ195.out; omega
                 case rel => exact ⟨(wrap64 (x432_6 + 1)), (by first | rfl | (simp; done) | (simp [*]; done)), H', ⟨by have := HJ16.out; have := HJ121.out; have := HJ154.out; have := HJ172.out; have := HK5.out; have := HK6.out; have := HJ195.out; omega⟩, ⟨by (with_reducible repeat (first | apply Kd.R_alloc | apply Kd.R_drewN | apply Kd.R_drew)); exact HO_430.out⟩, ⟨by repeat (first | (with_reducible first | exact HB.out | apply below_alloc | apply pw_below_drewN | apply below_drew1))⟩⟩
               rw [if_neg c195] at H
               exact absurd H (by simp)
             rw [if_neg c194] at H
             exact absurd H (by simp)
            rw [if_neg c193] at H
            have c193b0 : decide (x432_6 < (t263.length : Int)) = false := decide_eq_false c193
            clear c193
            first
            | exact absurd (Option.some.inj (H.trans (congrArg some HRT.out))) Bool.false_ne_true
            |
             obtain rfl := Option.some.inj H
             go_wp2
             repeat (go_quiet (fail); try go_wp2)
             go_ret
             exact ⟨by first | rfl | (simp [errW_none, errW_some] <;> rfl) | (simp [*, errW_none, errW_some] <;> rfl), by repeat (first | (with_reducible first | exact HB.out | apply below_alloc | apply pw_below_drewN | apply below_drew1))⟩
       replace c181 := Bool.eq_false_iff.mpr c181
       subst c181
       have H1 : (some true) = some r := by rw [if_neg (show ¬ (false = true) by decide)] at H; exact H
       clear H
       have H := H1
       clear H1
       first
       | exact absurd (Option.some.inj (H.trans (congrArg some HRT.out))) Bool.false_ne_true
       |
        obtain rfl := Option.some.inj H
        go_wp2
        repeat (go_quiet (fail); try go_wp2)
        go_ret
        exact ⟨by first | rfl | (simp [errW_none, errW_some] <;> rfl) | (simp [*, errW_none, errW_some] <;> rfl), by repeat (first | (with_reducible first | exact HB.out | apply below_alloc | apply pw_below_drewN | apply below_drew1))⟩
/-- THE ONE PURE STATEMENT of laws_FnSumsOfSquaresOfAll: yours. -/
def laws_FnSumsOfSquaresOfAll.Pure : Prop := ∀ (a0 : Int) (a1 : Int), (Lit.int .i64 a0).wf = true → (Lit.int .i64 a1).wf = true → ∃ k, laws_FnSumsOfSquaresOfAll.f k a0 a1 = some true
theorem laws_FnSumsOfSquaresOfAll.walk (P : laws_FnSumsOfSquaresOfAll.Pure) (a0 : Int) (a1 : Int) (w : World) (w0 : (Lit.int .i64 a0).wf = true) (w1 : (Lit.int .i64 a1).wf = true) :
  Calls Try.prog 9 #[.int .i64 a0, .int .i64 a1] w fun e w' => e = .returned (.bool true) ∧ Below w.heap.size w w' := by
 obtain ⟨k, h⟩ := P a0 a1 w0 w1
 refine (laws_FnSumsOfSquaresOfAll.calls k a0 a1 true w h rfl).mono ?_
 rintro e w' ⟨rfl, hd⟩
 exact ⟨rfl, hd⟩

end Go.Proofs.Ytfhfbicejddoiaa.PFnSumsOfSquaresOfAll
