-- Written for this claim by a program of this session, out of the translation and given contracts.
import Derived.Test.YtbdapgjgjllojaaPFnPatternsOpenOfAllx0
import Derived.Test.YtbdapgjgjllojaaPFnPatternsOpenOfAllx1
import Derived.Test.YtbdapgjgjllojaaPFnPatternsOpenOfAllx2
import Derived.Test.YtbdapgjgjllojaaPFnPatternsOpenOfAllx5
namespace Go.Proofs.Ytbdapgjgjllojaa.PFnPatternsOpenOfAll
open Go.RowKit Go.Proofs.YtbdapgjgjllojaaW.PrintWords Go.Proofs.YtbdapgjgjllojaaW.PrintLast Go.Proofs.YtbdapgjgjllojaaW.PrintMore
attribute [local go_sem] max2_int min2_int max_two min_two max_three min_three max_four min_four   -- for this text's walks alone
set_option linter.unusedVariables false
set_option linter.unusedSimpArgs false

/-! ### spec_reAll: function 42 (its contract is proved by hand) -/
def rlLoop (k : Nat) (g : List Int → List (List Int) → Option (List (List Int))) (begin_ : List Int) : Nat → Int → List (List Int) → Option (List (List Int))
  | 0, _, out => some out
  | c + 1, x, out => (spec_reClosing.f k (begin_ ++ [x])).bind fun r => (if r = 0 then g (begin_ ++ [x]) out else some out).bind fun out' => rlLoop k g begin_ c (x + 1) out'
def rlLook (k : Nat) (width : Int) : Nat → List Int → List (List Int) → Option (List (List Int))
  | 0, b, out => if rd b ((b.length : Int) - 1) = width then (if out.length < 1000000000000 then some (out ++ [b]) else none) else some out
  | l + 1, b, out => rlLoop k (rlLook k width l) b (width + 1 - (l : Int) - (if l = 0 then mx (rd b ((b.length : Int) - 1) + 1) width else rd b ((b.length : Int) - 1) + 1)).toNat (if l = 0 then mx (rd b ((b.length : Int) - 1) + 1) width else rd b ((b.length : Int) - 1) + 1) out
def spec_reAll.f (k : Nat) (a0 : Int) (a1 : Int) : Option (List (List Int)) := if 1 ≤ a0 ∧ a0 ≤ 6 ∧ 0 ≤ a1 ∧ a1 ≤ 60 then rlLook k a1 (a0 - 1).toNat [0] [] else none
theorem rlLoop_mono (k : Nat) {g g' : List Int → List (List Int) → Option (List (List Int))} (hg : ∀ a b, LeO (g a b) (g' a b)) (b : List Int) : ∀ c o out, LeO (rlLoop k g b c o out) (rlLoop (k + 1) g' b c o out)
  | 0, _, _ => LeO.refl _
  | c + 1, o, out => by
    unfold rlLoop
    exact LeO.bind (spec_reClosing.mono _ _) fun _ => LeO.bind (LeO.ite (hg _ _) (LeO.refl _)) fun _ => rlLoop_mono k hg b c _ _
theorem rlLook_mono (k : Nat) (width : Int) : ∀ l b out, LeO (rlLook k width l b out) (rlLook (k + 1) width l b out)
  | 0, b, out => LeO.refl _
  | l + 1, b, out => rlLoop_mono k (rlLook_mono k width l) _ _ _ _
theorem spec_reAll.mono : ∀ a0 a1 k, LeO (spec_reAll.f k a0 a1) (spec_reAll.f (k + 1) a0 a1) := by
  intro a0 a1 k
  unfold spec_reAll.f
  exact LeO.ite (rlLook_mono _ _ _ _ _) (LeO.refl _)
theorem info_R : (Try.prog.info? 22).map (fun i => (i.zero, i.size, i.bytes)) = some (some (.slice none 0 0), 1, 24) := by kernel_rfl
/-- A box that holds rows, all of them made since w0. -/
structure RSt (w0 w : World) (go : Nat) (vo : Value) (out : List (List Int)) : Prop where
  box : w.heap[go]? = some (.cells #[vo] 36 (0, 0))
  row : Kd.S (Kd.slice 3 (Kd.int .i64)) 22 w w0.heap.size (fun _ => True) vo out
  bel : Below w0.heap.size w0 w
  ge : w0.heap.size ≤ go
theorem RSt.below {w0 w w1 : World} {go : Nat} {vo : Value} {out : List (List Int)} (h : RSt w0 w go vo out) (hb : Below w.heap.size w w1) : RSt w0 w1 go vo out := ⟨(hb.block go (blk_lt h.box)).trans h.box, Kd.S_below h.row hb, below_step h.bel hb, h.ge⟩
theorem RSt.put {w0 w : World} {go : Nat} {vo v1 : Value} {out : List (List Int)} (hbox : w.heap[go]? = some (.cells #[vo] 36 (0, 0))) (hr : Kd.S (Kd.slice 3 (Kd.int .i64)) 22 w w0.heap.size (fun _ => True) v1 out) (hb : Below w0.heap.size w0 w) (hge : w0.heap.size ≤ go) : RSt w0 (w.setCell ⟨go, 0, none⟩ v1) go v1 out :=
  ⟨by simpa using blk_set hbox 0 v1, Kd.S_set hr hbox (by decide) 0 v1, below_set hb hge, hge⟩
/-- What has been written since: the box, and its row. -/
def RMv (w w' : World) (go : Nat) (vo vo' : Value) : Prop := KeepBut w w' go vo.ownBlock ∧ (vo'.ownBlock = vo.ownBlock ∨ ∃ b, vo'.ownBlock = some b ∧ w.heap.size ≤ b)
theorem RMv.refl (w : World) (go : Nat) (vo : Value) : RMv w w go vo vo := ⟨KeepBut.refl _ _ _, .inl rfl⟩
theorem RMv.trans {w w1 w2 : World} {go : Nat} {vo v1 v2 : Value} (h : RMv w w1 go vo v1) (k : RMv w1 w2 go v1 v2) : RMv w w2 go vo v2 := by
  refine ⟨h.1.trans k.1 h.2, ?_⟩
  rcases k.2 with e | ⟨b, e, hb⟩
  · rw [e]; exact h.2
  · exact .inr ⟨b, e, Nat.le_trans h.1.1 hb⟩
theorem RMv.below {w w1 w2 : World} {go : Nat} {vo v1 : Value} (h : RMv w w1 go vo v1) (hb : Below w1.heap.size w1 w2) : RMv w w2 go vo v1 := h.trans ⟨KeepBut.of_below hb go _, .inl rfl⟩
/-- Another block stays. -/
theorem RMv.block {w w1 : World} {go : Nat} {vo v1 : Value} (h : RMv w w1 go vo v1) {w0 : World} {out : List (List Int)} (hS : RSt w0 w go vo out) {g t : Nat} {cs : Array Value} (hg : w.heap[g]? = some (.cells cs t (0, 0))) (h1 : t ≠ 36) (h2 : t ≠ 22) : w1.heap[g]? = some (.cells cs t (0, 0)) :=
  (h.1.2 g (blk_lt hg) (blk_ne hg hS.box h1) (Kd.S_ne hS.row hg (Ne.symm h2))).trans hg
/-- A row of numbers stays. -/
theorem RMv.rowI {w w1 : World} {go : Nat} {vo v1 : Value} (h : RMv w w1 go vo v1) {w0 : World} {out : List (List Int)} (hS : RSt w0 w go vo out) {base : Nat} {v : Value} {xs : List Int} (hr : Kd.R (Kd.int .i64) 3 w base (fun _ => True) v xs) : Kd.R (Kd.int .i64) 3 w1 base (fun _ => True) v xs :=
  Kd.R_mono (Kd.R_step (Kd.R_types (Kd.R_apartR hr (Kd.S_R hS.row) (by decide)) hS.box (by decide)) fun k hk hlt => h.1.2 k hlt hk.2 hk.1.2) fun _ _ => trivial
theorem rd_snoc_R (xs : List Int) (x : Int) : rd (xs ++ [x]) (((xs ++ [x]).length : Int) - 1) = x := by
  have e : (((xs ++ [x]).length : Int) - 1).toNat = xs.length := by rw [List.length_append, List.length_singleton]; omega
  unfold rd
  rw [e]
  simp
theorem own_some_R (b : List Int) (hb : b.length ≤ 8) : spec_l1Own.f b = some b := by
  unfold spec_l1Own.f
  rw [Option.bind_some, if_pos (by simp only [List.length_nil]; omega), List.nil_append]
theorem most_some_R (a b : Int) : spec_l1Most.f a b = some (mx a b) := by
  unfold spec_l1Most.f mx
  by_cases h : a < b
  · rw [if_neg (by omega), if_pos h]
  · rw [if_neg h]
    by_cases h2 : a > b
    · rw [if_pos h2]
    · rw [if_neg h2]
      congr 1
      omega
set_option maxHeartbeats 8000000 in
set_option maxRecDepth 100000 in
theorem rlLook_calls (k : Nat) (w0 : World) (go : Nat) (width : Int) (hw0 : 0 ≤ width) (hw1 : width ≤ 60) : ∀ (l : Nat) (lf : Int) (b : List Int) (out r : List (List Int)) (A : Option Addr) (c : Nat) (vo : Value) (w : World), lf = (l : Int) → b.length + l ≤ 8 → 1 ≤ b.length → 0 ≤ rd b ((b.length : Int) - 1) → rd b ((b.length : Int) - 1) ≤ 60 →
    RSt w0 w go vo out → Kd.R (Kd.int .i64) 3 w w0.heap.size (fun _ => True) (.slice A b.length c) b → rlLook k width l b out = some r →
    Calls Try.prog 60 #[.slice A b.length c, .int .i64 lf, .int .i64 width, .pointer (some ⟨go, 0, none⟩)] w fun e w' => e = .returned (.tuple #[]) ∧ ∃ vo', RSt w0 w' go vo' r ∧ RMv w w' go vo vo' := by
  intro l
  induction l with
  | zero =>
    intro lf b out r A c vo w hlf h8 h1 hl0 hl1 hS hA h
    have h2 : (if rd b ((b.length : Int) - 1) = width then (if out.length < 1000000000000 then some (out ++ [b]) else none) else some out) = some r := h
    clear h
    obtain ⟨i1, hi1⟩ : ∃ i : Int, i = (b.length : Int) - 1 := ⟨_, rfl⟩
    rw [← hi1] at h2 hl0 hl1
    have hco : w.cell? ⟨go, 0, none⟩ = some vo := (blk_cell hS.box 0).trans rfl
    obtain ⟨ad, ea, hx0⟩ := Kd.at_int (Kd.R_reads' hA).2.2 i1 (by omega) (by omega)
    subst ea
    have HC := Aside0.mk (Kd.R_reads' hA).2.1
    have HA := Aside0.mk hA
    have HS := Aside0.mk hS
    have HB := Aside0.mk (Below.refl w.heap.size w)
    have hL : b.length ≤ 8 := by omega
    have q1 : IntKind.i64.wrap ((b.length : Int) - 1) = i1 := by rw [hi1]; exact IntWalk.i64_in _ (by omega)
    have p1 := eq_true (show 0 ≤ i1 by omega)
    have p2 := eq_true (show i1 < (b.length : Int) by omega)
    have HI1 := Aside0.mk hi1
    clear hi1 hA hS
    generalize rd b i1 = la at *
    have c0 : (lf == 0) = true := beq_iff_eq.2 (by omega)
    clear hlf
    by_cases cw : la = width
    · rw [if_pos cw] at h2
      have c2 : (la == width) = true := beq_iff_eq.2 cw
      by_cases cl : out.length < 1000000000000
      · rw [if_pos cl] at h2
        obtain rfl := Option.some.inj h2
        have LM := Aside0.mk cl
        clear cl h2 cw
        go_enter Try.func60, Try.ntmps60
        go_wp2
        refine start_ (n := 10) (S := fun w' => w'.cell? ⟨go, 0, none⟩ = some vo) (ds := [9]) #[false, false, false, false, false, false, false, false, false, false] (by kernel_rfl) rfl rfl hco (fun hHeld => ?_)
        have HBD := Aside0.mk (below_drew (Below.refl w.heap.size w))
        generalize w.drew = wd at hHeld HBD ⊢
        refine pure_ (i := 0) (N := some 21) (v := ?_) (a' := ?_) #[true, false, false, false, false, false, false, false, false, false] rfl rfl (by kernel_rfl) (fun _ _ _ h => h) (Or.inl ⟨by rfl, ?_⟩) ?_ ?_
        rotate_left
        · intro w'
          go_simp
          with_reducible rfl
        rotate_left
        · simp only [Act.put, List.setIfInBounds_toArray, List.set_cons_zero, List.set_cons_succ, i64_w, i32_w]
          rfl
        refine pure_ (i := 1) (N := some 22) (v := ?_) (a' := ?_) #[true, true, false, false, false, false, false, false, false, false] rfl rfl (by kernel_rfl) (fun _ _ _ h => h) (Or.inl ⟨by rfl, ?_⟩) ?_ ?_
        rotate_left
        · intro w'
          go_simp
          with_reducible rfl
        rotate_left
        · simp only [Act.put, List.setIfInBounds_toArray, List.set_cons_zero, List.set_cons_succ, i64_w, i32_w]
          rfl
        refine pure_ (i := 2) (N := some 23) (v := ?_) (a' := ?_) #[true, true, true, false, false, false, false, false, false, false] rfl rfl (by kernel_rfl) (fun _ _ _ h => h) (Or.inl ⟨by rfl, ?_⟩) ?_ ?_
        rotate_left
        · intro w'
          go_simp
          with_reducible rfl
        rotate_left
        · simp only [Act.put, List.setIfInBounds_toArray, List.set_cons_zero, List.set_cons_succ, i64_w, i32_w]
          rfl
        refine pure_ (i := 4) (N := some 25) (v := ?_) (a' := ?_) #[true, true, true, false, true, false, false, false, false, false] rfl rfl (by kernel_rfl) (fun _ _ _ h => h) (Or.inl ⟨by rfl, ?_⟩) ?_ ?_
        rotate_left
        · intro w'
          go_simp
          with_reducible rfl
        rotate_left
        · simp only [Act.put, List.setIfInBounds_toArray, List.set_cons_zero, List.set_cons_succ, i64_w, i32_w]
          rfl
        refine take_ (i := 3) (N := some 24) (v := ?_) (a' := ?_) #[true, true, true, true, true, false, false, false, false, false] rfl rfl (by kernel_rfl) (fun _ _ _ h => h) (Or.inl ⟨by rfl, ?_⟩) hHeld ?_ ?_
        rotate_left
        · intro w' s0
          go_simp
          with_reducible rfl
        rotate_left
        · simp only [Act.put, List.setIfInBounds_toArray, List.set_cons_zero, List.set_cons_succ, i64_w, i32_w]
          rfl
        refine one_ (i := 5) (N := some 26) #[true, true, true, true, true, true, false, false, false, false] rfl rfl (by kernel_rfl) (by decide) (fun K hK => ?_)
        refine goes_ Try.func46 (by kernel_rfl) rfl #[.slice (some ad) b.length c] (by rfl) rfl rfl (by (try simp only [List.map_toArray, List.map_cons, List.map_nil]); first | done | rfl) ?_
        refine (spec_l1Own.calls (some ad) c b b _ (Kd.C_below (Kd.R_reads' HA.out).2.2 HBD.out) HC.out (own_some_R b hL)).mono ?_
        rintro e w1 ⟨v26, rfl, ho26, hb26⟩
        obtain ⟨A26, c26, e26⟩ := Kd.R_slice ho26
        subst e26
        refine ⟨_, rfl, ?_⟩
        have HB1 := Aside0.mk (below_step HBD.out hb26)
        have HD := Aside0.mk (Kd.S_mono (ok' := fun k_ => True ∧ ¬ (some k_ = (Value.slice A26 b.length c26).ownBlock ∧ some k_ ≠ vo.ownBlock)) (Kd.S_elder' (HS.out.below HBD.out).row (fun k_ e_ => Kd.R_base ho26 k_ e_) hb26) (fun _ h_ => ⟨trivial, fun h2_ => h_.2 h2_.1⟩))
        have H26 := Aside0.mk (Kd.R_lower ho26 HBD.out.size)
        clear ho26
        refine hK.out _ _ ((hb26.cell (World.block_lt_of_cell? _ _ hHeld)).trans hHeld) (fun hHeld => ?_)
        clear hK K
        refine norm_ (a' := ?_) ?_ ?_
        rotate_left
        · show Act.put _ (some 26) _ = _
          simp only [Act.put, List.setIfInBounds_toArray, List.set_cons_zero, List.set_cons_succ, i64_w, i32_w]
          rfl
        refine one_ (i := 6) (N := some 27) #[true, true, true, true, true, true, true, false, false, false] rfl rfl (by kernel_rfl) (by decide) (fun K hK => ?_)
        refine value_ (w1 := ?_) (v := ?_) (by rfl) rfl ?_ ?_
        rotate_left 2
        · go_simp
          constructor
          · rfl
          · rfl
        refine hK.out _ _ ((World.cell?_alloc_lt _ _ _ (World.block_lt_of_cell? _ _ hHeld)).trans hHeld) (fun hHeld => ?_)
        clear hK K
        refine norm_ (a' := ?_) ?_ ?_
        rotate_left
        · show Act.put _ (some 27) _ = _
          simp only [Act.put, List.setIfInBounds_toArray, List.set_cons_zero, List.set_cons_succ, i64_w, i32_w]
          rfl
        refine one_ (i := 7) (N := some 28) #[true, true, true, true, true, true, true, true, false, false] rfl rfl (by kernel_rfl) (by decide) (fun K hK => ?_)
        refine Kd.S_append_step (Kd.slice 3 (Kd.int .i64)) (w0 := w0) w0.heap.size (by rfl) (.tmp 24) (.tmp 27) 36 22 (.slice none 0 0) 24 rfl Try.underlying36 info_R rfl (by decide) (by omega) vo out b [.slice A26 b.length c26] (fun _ => True) (fun k_ => some k_ = (Value.slice A26 b.length c26).ownBlock ∧ some k_ ≠ vo.ownBlock) rfl rfl ?aP (fun _ hk => ⟨trivial, hk.2⟩) (fun _ _ => trivial) HD.out (below_step HS.out.bel HB1.out) (below_step HS.out.bel HB1.out).size (by have := LM.out; omega) ?_
        case aP => exact ⟨_, rfl, Kd.R_mono (Kd.R_tight2 rfl (Kd.R_lower (Kd.R_new' H26.out (Kd.S_lt HS.out.row)) HS.out.bel.size)) (fun _ h_ => ⟨h_.1, h_.2.2⟩)⟩
        intro v28 wA ho28 hb28 hg28 hat28
        have hbxA : wA.heap[go]? = some (.cells #[vo] 36 (0, 0)) := blk_grown ((HB1.out.block go (blk_lt HS.out.box)).trans HS.out.box) hg28 (Kd.S_ne HS.out.row HS.out.box (by decide))
        refine hK.out _ _ ((blk_cell hbxA 0).trans rfl) (fun hHeld => ?_)
        clear hK K
        refine norm_ (a' := ?_) ?_ ?_
        rotate_left
        · show Act.put _ (some 28) _ = _
          simp only [Act.put, List.setIfInBounds_toArray, List.set_cons_zero, List.set_cons_succ, i64_w, i32_w]
          rfl
        obtain ⟨Av, cv, ev⟩ := Kd.S_slice ho28
        subst ev
        rw [List.length_append, List.length_singleton] at ho28 hat28
        have hfoA : wA.frozen? ⟨go, 0, none⟩ = false := blk_frozen hbxA 0
        refine pure_ (i := 8) (N := some 29) (v := ?_) (a' := ?_) #[true, true, true, true, true, true, true, true, true, false] rfl rfl (by kernel_rfl) (fun _ _ _ h => h) (Or.inl ⟨by rfl, ?_⟩) ?_ ?_
        rotate_left
        · intro w'
          go_simp
          with_reducible rfl
        rotate_left
        · simp only [Act.put, List.setIfInBounds_toArray, List.set_cons_zero, List.set_cons_succ, i64_w, i32_w]
          rfl
        refine last_ (i := 9) (N := none) #[true, true, true, true, true, true, true, true, true, true] rfl rfl (by kernel_rfl) (by decide) (fun K hK => ?_)
        refine skip_ (w1 := ?_) (by rfl) rfl ?_ ?_
        rotate_left
        · go_simp
          rfl
        refine hK.out _ _ ?_
        clear hK K
        refine done_ (by kernel_rfl) ?_
        try go_wp2
        (try simp only [Exit.inBlock, Exit.then])
        refine bodyPost_ret (results_none rfl _ _ _) rfl ?_
        exact ⟨by first | rfl | simp, _, RSt.put hbxA ho28 hb28 HS.out.ge, ⟨KeepBut.set_ (KeepBut.trans (KeepBut.of_below HB1.out go _) (KeepBut.of_grown hg28 go) (.inl rfl)) 0 _, hat28.imp id fun ⟨b_, e_, hb_⟩ => ⟨b_, e_, Nat.le_trans HB1.out.size hb_⟩⟩⟩
      · rw [if_neg cl] at h2; cases h2
    · rw [if_neg cw] at h2
      have c2 : (la == width) = false := beq_eq_false_iff_ne.2 cw
      obtain rfl := Option.some.inj h2
      clear cw
      go_enter Try.func60, Try.ntmps60
      go_wp2
      (try simp only [Exit.inBlock, Exit.then])
      refine bodyPost_ret (results_none rfl _ _ _) rfl ?_
      exact ⟨by first | rfl | simp, _, HS.out.below (by repeat (first | (with_reducible first | exact HB.out | apply below_alloc | apply pw_below_drewN | apply below_drew1) | exact HB.out)), ⟨KeepBut.of_below (by repeat (first | (with_reducible first | exact HB.out | apply below_alloc | apply pw_below_drewN | apply below_drew1) | exact HB.out)) go _, .inl rfl⟩⟩
  | succ l ih =>
    intro lf b out r A c vo w hlf h8 h1 hl0 hl1 hS hA h
    have h2 : rlLoop k (rlLook k width l) b (width + 1 - (l : Int) - (if l = 0 then mx (rd b ((b.length : Int) - 1) + 1) width else rd b ((b.length : Int) - 1) + 1)).toNat (if l = 0 then mx (rd b ((b.length : Int) - 1) + 1) width else rd b ((b.length : Int) - 1) + 1) out = some r := h
    clear h
    obtain ⟨i1, hi1⟩ : ∃ i : Int, i = (b.length : Int) - 1 := ⟨_, rfl⟩
    rw [← hi1] at h2 hl0 hl1
    have hco : w.cell? ⟨go, 0, none⟩ = some vo := (blk_cell hS.box 0).trans rfl
    obtain ⟨ad, ea, hx0⟩ := Kd.at_int (Kd.R_reads' hA).2.2 i1 (by omega) (by omega)
    subst ea
    have HC := Aside0.mk (Kd.R_reads' hA).2.1
    have HA := Aside0.mk hA
    have HS := Aside0.mk hS
    have HB := Aside0.mk (Below.refl w.heap.size w)
    have hL : b.length ≤ 8 := by omega
    have q1 : IntKind.i64.wrap ((b.length : Int) - 1) = i1 := by rw [hi1]; exact IntWalk.i64_in _ (by omega)
    have p1 := eq_true (show 0 ≤ i1 by omega)
    have p2 := eq_true (show i1 < (b.length : Int) by omega)
    have HI1 := Aside0.mk hi1
    clear hi1 hA hS
    generalize rd b i1 = la at *
    have c0 : (lf == 0) = false := beq_eq_false_iff_ne.2 (by omega)
    have w1_ : IntKind.i64.wrap (la + 1) = la + 1 := IntWalk.i64_in _ (by omega)
    by_cases hl_ : l = 0
    · rw [if_pos hl_] at h2
      have c1 : (lf == 1) = true := beq_iff_eq.2 (by omega)
      have hm0 : 0 ≤ mx (la + 1) width ∧ mx (la + 1) width ≤ 62 := by unfold mx; constructor <;> split <;> omega
      have H2 := Aside0.mk h2
      have HLF := Aside0.mk hlf
      clear h2 hl_ hlf
      go_enter Try.func60, Try.ntmps60
      go_wp2_with (first | (go_at_call 70; refine (spec_l1Most.calls (la + 1) width (mx (la + 1) width) _ (most_some_R _ _)).mono ?_; rintro e w' ⟨rfl, ⟨nd, rfl⟩⟩))
      go_loopg [9] (width + 1 - (l : Int) - (mx (la + 1) width)).toNat (fun kq v9 w' => ∃ (x : Int) (vo' : Value) (out' : List (List Int)), v9 = .int .i64 x ∧ (0 ≤ x ∧ x ≤ 62 ∧ kq = (width + 1 - (l : Int) - x).toNat) ∧ Aside0 (rlLoop k (rlLook k width l) b kq x out' = some r) ∧ Aside0 (RSt w0 w' go vo' out') ∧ Aside0 (RMv w w' go vo vo'))
      case atStart => exact ⟨(mx (la + 1) width), vo, out, by first | rfl | (simp [*]; done) | go_num, ⟨by omega, by omega, by omega⟩, H2, ⟨HS.out.below (by repeat (first | (with_reducible first | exact HB.out | apply below_alloc | apply pw_below_drewN | apply below_drew1) | exact HB.out))⟩, ⟨(RMv.refl w go vo).below (by repeat (first | (with_reducible first | exact HB.out | apply below_alloc | apply pw_below_drewN | apply below_drew1) | exact HB.out))⟩⟩
      case round =>
        clear H2 HB
        obtain ⟨x, vo', out', rfl, ⟨ho1, ho2, hk⟩, HA2, HS2, HM⟩ := hrel
        have HB := Aside0.mk (Below.refl wr.heap.size wr)
        have hlf := HLF.out
        have HA' := Aside0.mk (HM.out.rowI HS.out HA.out)
        have q2 : IntKind.i64.wrap (x + lf) = x + lf := IntWalk.i64_in _ (by omega)
        have q3 : IntKind.i64.wrap (x + lf - 1) = x + lf - 1 := IntWalk.i64_in _ (by omega)
        have q4 : IntKind.i64.wrap (x + 1) = x + 1 := IntWalk.i64_in _ (by omega)
        have q5 : IntKind.i64.wrap (lf - 1) = lf - 1 := IntWalk.i64_in _ (by omega)
        cases gk with
        | zero =>
          have c3 : decide (x + lf - 1 ≤ width) = false := decide_eq_false (by omega)
          have e_ : some out' = some r := HA2.out
          obtain rfl := Option.some.inj e_
          clear hk hlf
          go_wp2
          (try simp only [Exit.inBlock, Exit.then])
          refine bodyPost_end (results_none rfl _ _ _) rfl ?_
          exact ⟨by first | rfl | simp, _, HS2.out.below (by repeat (first | (with_reducible first | exact HB.out | apply below_alloc | apply pw_below_drewN | apply below_drew1) | exact HB.out)), HM.out.below (by repeat (first | (with_reducible first | exact HB.out | apply below_alloc | apply pw_below_drewN | apply below_drew1) | exact HB.out))⟩
        | succ g =>
          have c3 : decide (x + lf - 1 ≤ width) = true := decide_eq_true (by omega)
          have hA2 : ((spec_reClosing.f k (b ++ [x])).bind fun r_ => (if r_ = 0 then rlLook k width l (b ++ [x]) out' else some out').bind fun o_ => rlLoop k (rlLook k width l) b g (x + 1) o_) = some r := HA2.out
          clear HA2
          obtain ⟨y, hy⟩ : ∃ y_ : List Int, y_ = b ++ [x] := ⟨_, rfl⟩
          rw [← hy] at hA2
          have NY := Aside0.mk hy
          have hyl : y.length = b.length + 1 := by rw [hy, List.length_append, List.length_singleton]
          have IA := Aside0.mk (show lf - 1 = (l : Int) by omega)
          have IB := Aside0.mk (show y.length + l ≤ 8 by omega)
          have IC := Aside0.mk (show 1 ≤ y.length by omega)
          have ID := Aside0.mk (show 0 ≤ rd y ((y.length : Int) - 1) by rw [hy, rd_snoc_R]; exact ho1)
          have IE := Aside0.mk (show rd y ((y.length : Int) - 1) ≤ 60 by rw [hy, rd_snoc_R]; omega)
          clear hy hyl hlf
          obtain ⟨cl, hcl, hA2⟩ := Option.bind_eq_some_iff.mp hA2
          have AC := Aside0.mk hcl
          obtain ⟨r1, hg, hA2⟩ := Option.bind_eq_some_iff.mp hA2
          have HA2 := Aside0.mk hA2
          clear hcl hA2
          by_cases h0_ : cl = 0
          · rw [if_pos h0_] at hg
            have AG := Aside0.mk hg
            have c6 : (cl == 0) = true := beq_iff_eq.2 h0_
            clear hg h0_
            go_wp2_with (first | (go_at_call 46; refine (spec_l1Own.calls (some ad) c b b _ ?sideP HC.out (own_some_R b hL)).mono ?_; (case sideP => exact Kd.C_below (Kd.R_reads' HA'.out).2.2 (by repeat (first | (with_reducible first | exact HB.out | apply below_alloc | apply pw_below_drewN | apply below_drew1) | exact HB.out))); rintro e w5 ⟨v5, rfl, ho, hb⟩; have HO := Aside0.mk (Kd.R_lower ho (below_size (by repeat (first | (with_reducible first | exact HB.out | apply below_alloc | apply pw_below_drewN | apply below_drew1) | exact HB.out)))); have n0_ := Aside0.mk (below_step (by repeat (first | (with_reducible first | exact HB.out | apply below_alloc | apply pw_below_drewN | apply below_drew1) | exact HB.out)) hb); clear HB; have HB := n0_; clear n0_ ho hb) | ((with_reducible refine gate_builtin (b := .append) (xs := #[.tmp 52, .tmp 54]) rfl ?_); at_builtin; refine Kd.R_append (Kd.int .i64) wr.heap.size rfl (.tmp 52) (.tmp 54) 22 3 (.int .i64 0) 8 rfl Try.underlying22 info3 rfl (by decide) (by omega) v5 b x [.int .i64 x] (fun _ => True) (fun _ => False) rfl rfl ?aP (fun _ hk => hk.elim) ?aF ?aO (w0 := wr) ?aB ?aS ?aL ?_; (case aP => exact rfl); (case aF => exact fun _ _ => trivial); (case aO => exact (by (with_reducible repeat (first | apply Kd.R_alloc | apply Kd.R_drewN | apply Kd.R_drew)); exact HO.out)); (case aB => exact (by repeat (first | (with_reducible first | exact HB.out | apply below_alloc | apply pw_below_drewN | apply below_drew1) | exact HB.out))); (case aS => exact Below.size (B := wr.heap.size) (w := wr) (by repeat (first | (with_reducible first | exact HB.out | apply below_alloc | apply pw_below_drewN | apply below_drew1) | exact HB.out))); (case aL => omega); intro v6 w6 ho hb hg hat; rw [← NY.out] at ho; have n0_ := Aside0.mk hb; have n1_ := Aside0.mk ho; clear HB HO; have HB := n0_; have HO := n1_; clear n0_ n1_ ho hb hg hat; obtain ⟨A6, c6, e6⟩ := Kd.R_slice HO.out; subst e6) | (go_at_call 36; refine (spec_reClosing.calls k A6 c6 y cl _ ?sideP ?sideL AC.out).mono ?_; (case sideP => repeat (first | exact (Kd.R_reads' HO.out).2.2 | (with_reducible refine Kd.C_alloc ?_ _) | (with_reducible refine Kd.C_drewN ?_ _) | (with_reducible refine Kd.C_drew ?_))); (case sideL => exact (Kd.R_reads' HO.out).2.1); rintro e w7 ⟨rfl, hb⟩; have n0_ := Aside0.mk (below_step (by repeat (first | (with_reducible first | exact HB.out | apply below_alloc | apply pw_below_drewN | apply below_drew1) | exact HB.out)) hb); have n1_ := Aside0.mk (Kd.R_below (by (with_reducible repeat (first | apply Kd.R_alloc | apply Kd.R_drewN | apply Kd.R_drew)); exact HO.out) hb); clear HB HO; have HB := n0_; have HO := n1_; clear n0_ n1_ hb) | (go_at_call 60; refine (ih (lf - 1) y out' r1 A6 c6 vo' w7 IA.out IB.out IC.out ID.out IE.out (HS2.out.below HB.out) (Kd.R_lower HO.out HS2.out.bel.size) AG.out).mono ?_; rintro e w8 ⟨rfl, vo2, hS8, hM8⟩; have HS8 := Aside0.mk hS8; have HM8 := Aside0.mk (RMv.trans (RMv.below HM.out HB.out) hM8); clear hS8 hM8 HB))
            go_roundg g
            case measure => omega
            case rel => exact ⟨x + 1, vo2, r1, by first | rfl | (simp [*]; done) | go_num, ⟨by omega, by omega, by omega⟩, HA2, ⟨HS8.out.below (by repeat (first | (with_reducible first | exact Below.refl _ _ | apply below_alloc | apply pw_below_drewN | apply below_drew1) | exact Below.refl _ _))⟩, ⟨HM8.out.below (by repeat (first | (with_reducible first | exact Below.refl _ _ | apply below_alloc | apply pw_below_drewN | apply below_drew1) | exact Below.refl _ _))⟩⟩
          · rw [if_neg h0_] at hg
            obtain rfl := Option.some.inj hg
            have c6 : (cl == 0) = false := beq_eq_false_iff_ne.2 h0_
            clear hg h0_
            go_wp2_with (first | (go_at_call 46; refine (spec_l1Own.calls (some ad) c b b _ ?sideP HC.out (own_some_R b hL)).mono ?_; (case sideP => exact Kd.C_below (Kd.R_reads' HA'.out).2.2 (by repeat (first | (with_reducible first | exact HB.out | apply below_alloc | apply pw_below_drewN | apply below_drew1) | exact HB.out))); rintro e w5 ⟨v5, rfl, ho, hb⟩; have HO := Aside0.mk (Kd.R_lower ho (below_size (by repeat (first | (with_reducible first | exact HB.out | apply below_alloc | apply pw_below_drewN | apply below_drew1) | exact HB.out)))); have n0_ := Aside0.mk (below_step (by repeat (first | (with_reducible first | exact HB.out | apply below_alloc | apply pw_below_drewN | apply below_drew1) | exact HB.out)) hb); clear HB; have HB := n0_; clear n0_ ho hb) | ((with_reducible refine gate_builtin (b := .append) (xs := #[.tmp 52, .tmp 54]) rfl ?_); at_builtin; refine Kd.R_append (Kd.int .i64) wr.heap.size rfl (.tmp 52) (.tmp 54) 22 3 (.int .i64 0) 8 rfl Try.underlying22 info3 rfl (by decide) (by omega) v5 b x [.int .i64 x] (fun _ => True) (fun _ => False) rfl rfl ?aP (fun _ hk => hk.elim) ?aF ?aO (w0 := wr) ?aB ?aS ?aL ?_; (case aP => exact rfl); (case aF => exact fun _ _ => trivial); (case aO => exact (by (with_reducible repeat (first | apply Kd.R_alloc | apply Kd.R_drewN | apply Kd.R_drew)); exact HO.out)); (case aB => exact (by repeat (first | (with_reducible first | exact HB.out | apply below_alloc | apply pw_below_drewN | apply below_drew1) | exact HB.out))); (case aS => exact Below.size (B := wr.heap.size) (w := wr) (by repeat (first | (with_reducible first | exact HB.out | apply below_alloc | apply pw_below_drewN | apply below_drew1) | exact HB.out))); (case aL => omega); intro v6 w6 ho hb hg hat; rw [← NY.out] at ho; have n0_ := Aside0.mk hb; have n1_ := Aside0.mk ho; clear HB HO; have HB := n0_; have HO := n1_; clear n0_ n1_ ho hb hg hat; obtain ⟨A6, c6, e6⟩ := Kd.R_slice HO.out; subst e6) | (go_at_call 36; refine (spec_reClosing.calls k A6 c6 y cl _ ?sideP ?sideL AC.out).mono ?_; (case sideP => repeat (first | exact (Kd.R_reads' HO.out).2.2 | (with_reducible refine Kd.C_alloc ?_ _) | (with_reducible refine Kd.C_drewN ?_ _) | (with_reducible refine Kd.C_drew ?_))); (case sideL => exact (Kd.R_reads' HO.out).2.1); rintro e w7 ⟨rfl, hb⟩; have n0_ := Aside0.mk (below_step (by repeat (first | (with_reducible first | exact HB.out | apply below_alloc | apply pw_below_drewN | apply below_drew1) | exact HB.out)) hb); have n1_ := Aside0.mk (Kd.R_below (by (with_reducible repeat (first | apply Kd.R_alloc | apply Kd.R_drewN | apply Kd.R_drew)); exact HO.out) hb); clear HB HO; have HB := n0_; have HO := n1_; clear n0_ n1_ hb))
            go_roundg g
            case measure => omega
            case rel => exact ⟨x + 1, vo', out', by first | rfl | (simp [*]; done) | go_num, ⟨by omega, by omega, by omega⟩, HA2, ⟨HS2.out.below (by repeat (first | (with_reducible first | exact HB.out | apply below_alloc | apply pw_below_drewN | apply below_drew1) | exact HB.out))⟩, ⟨HM.out.below (by repeat (first | (with_reducible first | exact HB.out | apply below_alloc | apply pw_below_drewN | apply below_drew1) | exact HB.out))⟩⟩
    · rw [if_neg hl_] at h2
      have c1 : (lf == 1) = false := beq_eq_false_iff_ne.2 (by omega)
      have H2 := Aside0.mk h2
      have HLF := Aside0.mk hlf
      clear h2 hlf
      go_enter Try.func60, Try.ntmps60
      go_wp2
      go_loopg [9] (width + 1 - (l : Int) - (la + 1)).toNat (fun kq v9 w' => ∃ (x : Int) (vo' : Value) (out' : List (List Int)), v9 = .int .i64 x ∧ (0 ≤ x ∧ x ≤ 62 ∧ kq = (width + 1 - (l : Int) - x).toNat) ∧ Aside0 (rlLoop k (rlLook k width l) b kq x out' = some r) ∧ Aside0 (RSt w0 w' go vo' out') ∧ Aside0 (RMv w w' go vo vo'))
      case atStart => exact ⟨(la + 1), vo, out, by first | rfl | (simp [*]; done) | go_num, ⟨by omega, by omega, by omega⟩, H2, ⟨HS.out.below (by repeat (first | (with_reducible first | exact HB.out | apply below_alloc | apply pw_below_drewN | apply below_drew1) | exact HB.out))⟩, ⟨(RMv.refl w go vo).below (by repeat (first | (with_reducible first | exact HB.out | apply below_alloc | apply pw_below_drewN | apply below_drew1) | exact HB.out))⟩⟩
      case round =>
        clear H2 HB
        obtain ⟨x, vo', out', rfl, ⟨ho1, ho2, hk⟩, HA2, HS2, HM⟩ := hrel
        have HB := Aside0.mk (Below.refl wr.heap.size wr)
        have hlf := HLF.out
        have HA' := Aside0.mk (HM.out.rowI HS.out HA.out)
        have q2 : IntKind.i64.wrap (x + lf) = x + lf := IntWalk.i64_in _ (by omega)
        have q3 : IntKind.i64.wrap (x + lf - 1) = x + lf - 1 := IntWalk.i64_in _ (by omega)
        have q4 : IntKind.i64.wrap (x + 1) = x + 1 := IntWalk.i64_in _ (by omega)
        have q5 : IntKind.i64.wrap (lf - 1) = lf - 1 := IntWalk.i64_in _ (by omega)
        cases gk with
        | zero =>
          have c3 : decide (x + lf - 1 ≤ width) = false := decide_eq_false (by omega)
          have e_ : some out' = some r := HA2.out
          obtain rfl := Option.some.inj e_
          clear hk hlf
          go_wp2
          (try simp only [Exit.inBlock, Exit.then])
          refine bodyPost_end (results_none rfl _ _ _) rfl ?_
          exact ⟨by first | rfl | simp, _, HS2.out.below (by repeat (first | (with_reducible first | exact HB.out | apply below_alloc | apply pw_below_drewN | apply below_drew1) | exact HB.out)), HM.out.below (by repeat (first | (with_reducible first | exact HB.out | apply below_alloc | apply pw_below_drewN | apply below_drew1) | exact HB.out))⟩
        | succ g =>
          have c3 : decide (x + lf - 1 ≤ width) = true := decide_eq_true (by omega)
          have hA2 : ((spec_reClosing.f k (b ++ [x])).bind fun r_ => (if r_ = 0 then rlLook k width l (b ++ [x]) out' else some out').bind fun o_ => rlLoop k (rlLook k width l) b g (x + 1) o_) = some r := HA2.out
          clear HA2
          obtain ⟨y, hy⟩ : ∃ y_ : List Int, y_ = b ++ [x] := ⟨_, rfl⟩
          rw [← hy] at hA2
          have NY := Aside0.mk hy
          have hyl : y.length = b.length + 1 := by rw [hy, List.length_append, List.length_singleton]
          have IA := Aside0.mk (show lf - 1 = (l : Int) by omega)
          have IB := Aside0.mk (show y.length + l ≤ 8 by omega)
          have IC := Aside0.mk (show 1 ≤ y.length by omega)
          have ID := Aside0.mk (show 0 ≤ rd y ((y.length : Int) - 1) by rw [hy, rd_snoc_R]; exact ho1)
          have IE := Aside0.mk (show rd y ((y.length : Int) - 1) ≤ 60 by rw [hy, rd_snoc_R]; omega)
          clear hy hyl hlf
          obtain ⟨cl, hcl, hA2⟩ := Option.bind_eq_some_iff.mp hA2
          have AC := Aside0.mk hcl
          obtain ⟨r1, hg, hA2⟩ := Option.bind_eq_some_iff.mp hA2
          have HA2 := Aside0.mk hA2
          clear hcl hA2
          by_cases h0_ : cl = 0
          · rw [if_pos h0_] at hg
            have AG := Aside0.mk hg
            have c6 : (cl == 0) = true := beq_iff_eq.2 h0_
            clear hg h0_
            go_wp2_with (first | (go_at_call 46; refine (spec_l1Own.calls (some ad) c b b _ ?sideP HC.out (own_some_R b hL)).mono ?_; (case sideP => exact Kd.C_below (Kd.R_reads' HA'.out).2.2 (by repeat (first | (with_reducible first | exact HB.out | apply below_alloc | apply pw_below_drewN | apply below_drew1) | exact HB.out))); rintro e w5 ⟨v5, rfl, ho, hb⟩; have HO := Aside0.mk (Kd.R_lower ho (below_size (by repeat (first | (with_reducible first | exact HB.out | apply below_alloc | apply pw_below_drewN | apply below_drew1) | exact HB.out)))); have n0_ := Aside0.mk (below_step (by repeat (first | (with_reducible first | exact HB.out | apply below_alloc | apply pw_below_drewN | apply below_drew1) | exact HB.out)) hb); clear HB; have HB := n0_; clear n0_ ho hb) | ((with_reducible refine gate_builtin (b := .append) (xs := #[.tmp 52, .tmp 54]) rfl ?_); at_builtin; refine Kd.R_append (Kd.int .i64) wr.heap.size rfl (.tmp 52) (.tmp 54) 22 3 (.int .i64 0) 8 rfl Try.underlying22 info3 rfl (by decide) (by omega) v5 b x [.int .i64 x] (fun _ => True) (fun _ => False) rfl rfl ?aP (fun _ hk => hk.elim) ?aF ?aO (w0 := wr) ?aB ?aS ?aL ?_; (case aP => exact rfl); (case aF => exact fun _ _ => trivial); (case aO => exact (by (with_reducible repeat (first | apply Kd.R_alloc | apply Kd.R_drewN | apply Kd.R_drew)); exact HO.out)); (case aB => exact (by repeat (first | (with_reducible first | exact HB.out | apply below_alloc | apply pw_below_drewN | apply below_drew1) | exact HB.out))); (case aS => exact Below.size (B := wr.heap.size) (w := wr) (by repeat (first | (with_reducible first | exact HB.out | apply below_alloc | apply pw_below_drewN | apply below_drew1) | exact HB.out))); (case aL => omega); intro v6 w6 ho hb hg hat; rw [← NY.out] at ho; have n0_ := Aside0.mk hb; have n1_ := Aside0.mk ho; clear HB HO; have HB := n0_; have HO := n1_; clear n0_ n1_ ho hb hg hat; obtain ⟨A6, c6, e6⟩ := Kd.R_slice HO.out; subst e6) | (go_at_call 36; refine (spec_reClosing.calls k A6 c6 y cl _ ?sideP ?sideL AC.out).mono ?_; (case sideP => repeat (first | exact (Kd.R_reads' HO.out).2.2 | (with_reducible refine Kd.C_alloc ?_ _) | (with_reducible refine Kd.C_drewN ?_ _) | (with_reducible refine Kd.C_drew ?_))); (case sideL => exact (Kd.R_reads' HO.out).2.1); rintro e w7 ⟨rfl, hb⟩; have n0_ := Aside0.mk (below_step (by repeat (first | (with_reducible first | exact HB.out | apply below_alloc | apply pw_below_drewN | apply below_drew1) | exact HB.out)) hb); have n1_ := Aside0.mk (Kd.R_below (by (with_reducible repeat (first | apply Kd.R_alloc | apply Kd.R_drewN | apply Kd.R_drew)); exact HO.out) hb); clear HB HO; have HB := n0_; have HO := n1_; clear n0_ n1_ hb) | (go_at_call 60; refine (ih (lf - 1) y out' r1 A6 c6 vo' w7 IA.out IB.out IC.out ID.out IE.out (HS2.out.below HB.out) (Kd.R_lower HO.out HS2.out.bel.size) AG.out).mono ?_; rintro e w8 ⟨rfl, vo2, hS8, hM8⟩; have HS8 := Aside0.mk hS8; have HM8 := Aside0.mk (RMv.trans (RMv.below HM.out HB.out) hM8); clear hS8 hM8 HB))
            go_roundg g
            case measure => omega
            case rel => exact ⟨x + 1, vo2, r1, by first | rfl | (simp [*]; done) | go_num, ⟨by omega, by omega, by omega⟩, HA2, ⟨HS8.out.below (by repeat (first | (with_reducible first | exact Below.refl _ _ | apply below_alloc | apply pw_below_drewN | apply below_drew1) | exact Below.refl _ _))⟩, ⟨HM8.out.below (by repeat (first | (with_reducible first | exact Below.refl _ _ | apply below_alloc | apply pw_below_drewN | apply below_drew1) | exact Below.refl _ _))⟩⟩
          · rw [if_neg h0_] at hg
            obtain rfl := Option.some.inj hg
            have c6 : (cl == 0) = false := beq_eq_false_iff_ne.2 h0_
            clear hg h0_
            go_wp2_with (first | (go_at_call 46; refine (spec_l1Own.calls (some ad) c b b _ ?sideP HC.out (own_some_R b hL)).mono ?_; (case sideP => exact Kd.C_below (Kd.R_reads' HA'.out).2.2 (by repeat (first | (with_reducible first | exact HB.out | apply below_alloc | apply pw_below_drewN | apply below_drew1) | exact HB.out))); rintro e w5 ⟨v5, rfl, ho, hb⟩; have HO := Aside0.mk (Kd.R_lower ho (below_size (by repeat (first | (with_reducible first | exact HB.out | apply below_alloc | apply pw_below_drewN | apply below_drew1) | exact HB.out)))); have n0_ := Aside0.mk (below_step (by repeat (first | (with_reducible first | exact HB.out | apply below_alloc | apply pw_below_drewN | apply below_drew1) | exact HB.out)) hb); clear HB; have HB := n0_; clear n0_ ho hb) | ((with_reducible refine gate_builtin (b := .append) (xs := #[.tmp 52, .tmp 54]) rfl ?_); at_builtin; refine Kd.R_append (Kd.int .i64) wr.heap.size rfl (.tmp 52) (.tmp 54) 22 3 (.int .i64 0) 8 rfl Try.underlying22 info3 rfl (by decide) (by omega) v5 b x [.int .i64 x] (fun _ => True) (fun _ => False) rfl rfl ?aP (fun _ hk => hk.elim) ?aF ?aO (w0 := wr) ?aB ?aS ?aL ?_; (case aP => exact rfl); (case aF => exact fun _ _ => trivial); (case aO => exact (by (with_reducible repeat (first | apply Kd.R_alloc | apply Kd.R_drewN | apply Kd.R_drew)); exact HO.out)); (case aB => exact (by repeat (first | (with_reducible first | exact HB.out | apply below_alloc | apply pw_below_drewN | apply below_drew1) | exact HB.out))); (case aS => exact Below.size (B := wr.heap.size) (w := wr) (by repeat (first | (with_reducible first | exact HB.out | apply below_alloc | apply pw_below_drewN | apply below_drew1) | exact HB.out))); (case aL => omega); intro v6 w6 ho hb hg hat; rw [← NY.out] at ho; have n0_ := Aside0.mk hb; have n1_ := Aside0.mk ho; clear HB HO; have HB := n0_; have HO := n1_; clear n0_ n1_ ho hb hg hat; obtain ⟨A6, c6, e6⟩ := Kd.R_slice HO.out; subst e6) | (go_at_call 36; refine (spec_reClosing.calls k A6 c6 y cl _ ?sideP ?sideL AC.out).mono ?_; (case sideP => repeat (first | exact (Kd.R_reads' HO.out).2.2 | (with_reducible refine Kd.C_alloc ?_ _) | (with_reducible refine Kd.C_drewN ?_ _) | (with_reducible refine Kd.C_drew ?_))); (case sideL => exact (Kd.R_reads' HO.out).2.1); rintro e w7 ⟨rfl, hb⟩; have n0_ := Aside0.mk (below_step (by repeat (first | (with_reducible first | exact HB.out | apply below_alloc | apply pw_below_drewN | apply below_drew1) | exact HB.out)) hb); have n1_ := Aside0.mk (Kd.R_below (by (with_reducible repeat (first | apply Kd.R_alloc | apply Kd.R_drewN | apply Kd.R_drew)); exact HO.out) hb); clear HB HO; have HB := n0_; have HO := n1_; clear n0_ n1_ hb))
            go_roundg g
            case measure => omega
            case rel => exact ⟨x + 1, vo', out', by first | rfl | (simp [*]; done) | go_num, ⟨by omega, by omega, by omega⟩, HA2, ⟨HS2.out.below (by repeat (first | (with_reducible first | exact HB.out | apply below_alloc | apply pw_below_drewN | apply below_drew1) | exact HB.out))⟩, ⟨HM.out.below (by repeat (first | (with_reducible first | exact HB.out | apply below_alloc | apply pw_below_drewN | apply below_drew1) | exact HB.out))⟩⟩
set_option maxHeartbeats 8000000 in
set_option maxRecDepth 100000 in
theorem spec_reAll.calls (k : Nat) (a0 a1 : Int) (r : List (List Int)) (w : World) (h : spec_reAll.f k a0 a1 = some r) :
    Calls Try.prog 42 #[.int .i64 a0, .int .i64 a1] w fun e w' => ∃ v0_ : Value, e = .returned v0_ ∧ Kd.S (Kd.slice 3 (Kd.int .i64)) 22 w' w.heap.size (fun _ => True) v0_ r ∧ Below w.heap.size w w' := by
  unfold spec_reAll.f at h
  by_cases hg : 1 ≤ a0 ∧ a0 ≤ 6 ∧ 0 ≤ a1 ∧ a1 ≤ 60
  · rw [if_pos hg] at h
    obtain ⟨g1, g2, g3, g4⟩ := hg
    have AH := Aside0.mk h
    clear h
    have HB := Aside0.mk (Below.refl w.heap.size w)
    have qa : IntKind.i64.wrap (a0 - 1) = a0 - 1 := IntWalk.i64_in _ (by omega)
    go_enter Try.func42, Try.ntmps42
    go_wp2_with (first | ((with_reducible refine gate_dst (N := 5) rfl ?_); refine box_event ?hg (N := 5) ?hd (cs := #[.slice none 0 0]) (t := 36) ?hr ?_; (case hd => rfl); (case hg => rfl); (case hr => first | (go_simp; done) | (go_simp; rfl)); intro go hg_ w5 hbx hb; have n0_ := Aside0.mk (show RSt w w5 go (.slice none 0 0) [] from ⟨hbx, Kd.S_nil _ _ _ _ _, below_step (by repeat (first | (with_reducible first | exact HB.out | apply below_alloc | apply pw_below_drewN | apply below_drew1) | exact HB.out)) hb, by rw [hg_]; exact below_size (by repeat (first | (with_reducible first | exact HB.out | apply below_alloc | apply pw_below_drewN | apply below_drew1) | exact HB.out))⟩); clear HB; have HS := n0_; clear n0_ hb hbx hg_; have HB := Aside0.mk (Below.refl w5.heap.size w5)) | ((with_reducible refine gate_dst (N := 6) rfl ?_); refine Kd.R_lit (Kd.int .i64) _ 3 ?hg (N := 6) ?hd (xs := ([0] : List Int)) (inner := [.int .i64 0]) (ok := fun _ => True) (okp := fun _ => True) ?hr ?hp (fun _ hk => hk) trivial (Below.refl _ _) (Nat.le_refl _) (by simp) ?_; (case hd => rfl); (case hg => rfl); (case hr => first | (go_simp; done) | (go_simp; rfl)); (case hp => exact (Reps.one (show Kd.M (Kd.int .i64) _ _ _ 0 [.int .i64 0] from rfl) (Reps.none _ _))); intro v10 wU ho hb hg_ hnew_; clear hg_ hnew_; have hb2 := below_step (by repeat (first | (with_reducible first | exact HB.out | apply below_alloc | apply pw_below_drewN | apply below_drew1) | exact HB.out)) hb; have HO := Aside0.mk (Kd.R_lower ho (Nat.le_trans HS.out.bel.size (below_size (by repeat (first | (with_reducible first | exact HB.out | apply below_alloc | apply pw_below_drewN | apply below_drew1) | exact HB.out))))); have n0_ := Aside0.mk (HS.out.below hb2); clear HS; have HS := n0_; clear n0_; clear HB hb hb2 ho; obtain ⟨A10, c10, e10⟩ := Kd.R_slice HO.out; subst e10; have HB := Aside0.mk (Below.refl wU.heap.size wU)) | (go_at_call 60; refine (rlLook_calls k w go a1 g3 g4 (a0 - 1).toNat (a0 - 1) [0] [] r A10 c10 _ _ (by omega) (by simp; omega) (by simp) (by decide) (by decide) (HS.out.below HB.out) (Kd.R_below HO.out HB.out) AH.out).mono ?_; rintro e wV ⟨rfl, voV, hSV, _⟩; have HSV := Aside0.mk hSV; have hcV : wV.cell? ⟨go, 0, none⟩ = some voV := (blk_cell hSV.box 0).trans rfl; clear hSV))
    go_ret
    exact ⟨_, rfl, by (with_reducible repeat (first | apply Kd.R_alloc | apply Kd.R_drewN | apply Kd.R_drew)); exact HSV.out.row, by exact HSV.out.bel⟩
  · rw [if_neg hg] at h; cases h

/-! ### spec_NarrowestOpen: function 18 -/
def spec_NarrowestOpen.l0 : Nat → Int → Int → Option (List Int × Bool)
  | 0, _, _ => none
  | k + 1, x0, x4 => if x4 ≤ 30 then ((spec_reAll.f k x0 x4).bind fun t196 => (if (t196.length : Int) > 0 then (if 0 < (t196.length : Int) then (some (rd_L1 t196 0, true)) else (none)) else (spec_NarrowestOpen.l0 k x0 (wrap64 (x4 + 1))))) else (some (([] : List Int), false))
def spec_NarrowestOpen.f (k : Nat) (a0 : Int) : Option (List Int × Bool) := (spec_l1In.f a0 1 6).bind fun t195 => (if t195 = true then (spec_NarrowestOpen.l0 k a0 0) else (some (([] : List Int), false)))
theorem spec_NarrowestOpen.mono_l : ∀ k, (∀ y0 y1, LeO (spec_NarrowestOpen.l0 k y0 y1) (spec_NarrowestOpen.l0 (k + 1) y0 y1))
  | 0 => fun _ _ r h => by simp [spec_NarrowestOpen.l0] at h
  | k + 1 => by
    have ih0 := spec_NarrowestOpen.mono_l k
    · intro y0 y1
      unfold spec_NarrowestOpen.l0
      repeat' first
      | (with_reducible exact ih0 _ _)
      | (with_reducible exact spec_reAll.mono _ _ _)
      | (with_reducible exact LeO.refl _)
      | (with_reducible exact LeO.none _)
      | (with_reducible refine LeO.ite ?_ ?_)
      | (with_reducible refine LeO.bind ?_ (fun _ => ?_))
      | exact ih0 _ _
      | exact spec_reAll.mono _ _ _
      | exact LeO.none _
      | refine LeO.ite ?_ ?_
      | refine LeO.bind ?_ (fun _ => ?_)
theorem spec_NarrowestOpen.mono : ∀ a0 k, LeO (spec_NarrowestOpen.f k a0) (spec_NarrowestOpen.f (k + 1) a0) := by
  intro a0 k
  have ih0 := spec_NarrowestOpen.mono_l k
  unfold spec_NarrowestOpen.f
  repeat' first
      | (with_reducible exact ih0 _ _)
      | (with_reducible exact spec_reAll.mono _ _ _)
      | (with_reducible exact LeO.refl _)
      | (with_reducible exact LeO.none _)
      | (with_reducible refine LeO.ite ?_ ?_)
      | (with_reducible refine LeO.bind ?_ (fun _ => ?_))
      | exact ih0 _ _
      | exact spec_reAll.mono _ _ _
      | exact LeO.none _
      | refine LeO.ite ?_ ?_
      | refine LeO.bind ?_ (fun _ => ?_)
set_option maxHeartbeats 8000000 in
set_option maxRecDepth 100000 in
theorem spec_NarrowestOpen.calls (k : Nat) (a0 : Int) (r1 : List Int) (r2 : Bool) (w : World) (h : spec_NarrowestOpen.f k a0 = some (r1, r2)) :
    Calls Try.prog 18 #[.int .i64 a0] w fun e w' => ∃ v0_ : Value, e = .returned (.tuple #[v0_, .bool r2]) ∧ Kd.R (Kd.int .i64) 3 w' w.heap.size (fun _ => True) v0_ r1 ∧ Below w.heap.size w w' := by
  have HB := Aside0.mk (Below.refl w.heap.size w)
  have H : ((spec_l1In.f a0 1 6).bind fun t195 => (if t195 = true then (spec_NarrowestOpen.l0 k a0 0) else (some (([] : List Int), false)))) = some (r1, r2) := h
  clear h
  replace H := Option.bind_eq_some_iff.mp H
  obtain ⟨t195, A20, H⟩ := H
  replace H : (if t195 = true then (spec_NarrowestOpen.l0 k a0 0) else (some (([] : List Int), false))) = some (r1, r2) := H
  have A2 := Aside0.mk A20
  clear A20
  by_cases c3 : t195 = true
  · subst c3
    have H1 : (spec_NarrowestOpen.l0 k a0 0) = some (r1, r2) := by rw [if_pos rfl] at H; exact H
    clear H
    have H := H1
    clear H1
    have H' := Aside0.mk H
    clear H
    go_enter Try.func18, Try.ntmps18
    go_wp2_with (first | ((with_reducible refine gate_callee (f := 41) rfl ?_); refine goesL_ (some 7) rfl rfl Try.func41 (by kernel_rfl) rfl #[.int .i64 a0, .int .i64 1, .int .i64 6] rfl (by (try simp only [List.map_toArray, List.map_cons, List.map_nil]); first | done | rfl | (simp only [List.length_drop, List.length_take]; rfl)) ?_; (with_reducible refine (spec_l1In.calls a0 1 6 true _ A2.out).mono ?_); rintro e w' ⟨rfl, ⟨nd, rfl⟩⟩; refine ⟨_, rfl, ?_⟩))
    go_loopg [4] k (fun kq v4 w' => ∃ (x4_1 : Int), v4 = .int .i64 x4_1 ∧ Aside0 (spec_NarrowestOpen.l0 kq a0 x4_1 = some (r1, r2)) ∧ Aside0 (kq ≤ k) ∧ Aside0 (Below w.heap.size w w'))
    case atStart => exact ⟨(0), (by first | rfl | (simp; done) | (simp [*]; done)), H', ⟨Nat.le_refl _⟩, ⟨by repeat (first | (with_reducible first | exact HB.out | apply below_alloc | apply pw_below_drewN | apply below_drew1) | exact HB.out)⟩⟩
    case round =>
      clear H'
      try clear c1
      try clear p2
      try clear c3
      obtain ⟨x4_1, rfl, HA, HK1, HB⟩ := hrel
      cases gk with
      | zero => exact absurd HA.out (by simp [spec_NarrowestOpen.l0])
      | succ k1 =>
        have H := HA.out
        clear HA
        simp only [spec_NarrowestOpen.l0] at H
        by_cases c4 : x4_1 ≤ 30
        · rw [if_pos c4] at H
          have c4b0 : decide (x4_1 ≤ 30) = true := decide_eq_true c4
          clear c4
          replace H := Option.bind_eq_some_iff.mp H
          obtain ⟨t196, A50, H⟩ := H
          replace H : (if (t196.length : Int) > 0 then (if 0 < (t196.length : Int) then (some (rd_L1 t196 0, true)) else (none)) else (spec_NarrowestOpen.l0 k1 a0 (wrap64 (x4_1 + 1)))) = some (r1, r2) := H
          have A5 := Aside0.mk A50
          clear A50
          by_cases c6 : (t196.length : Int) > 0
          · rw [if_pos c6] at H
            have c6b0 : decide (0 < (t196.length : Int)) = true := decide_eq_true c6
            have c6b1 : decide (0 < t196.length) = true := decide_eq_true (by omega)
            clear c6
            by_cases c7 : 0 < (t196.length : Int)
            · rw [if_pos c7] at H
              have c7b0 : decide (0 < (t196.length : Int)) = true := decide_eq_true c7
              have c7b1 : decide (0 < t196.length) = true := decide_eq_true (by omega)
              clear c7
              simp only [Option.some.injEq, Prod.mk.injEq] at H
              obtain ⟨rfl, rfl⟩ := H
              go_wp2_with (first | ((with_reducible refine gate_callee (f := 42) rfl ?_); refine goesL_ (some 15) rfl rfl Try.func42 (by kernel_rfl) rfl #[.int .i64 a0, .int .i64 x4_1] rfl (by (try simp only [List.map_toArray, List.map_cons, List.map_nil]); first | done | rfl | (simp only [List.length_drop, List.length_take]; rfl)) ?_; (with_reducible refine (spec_reAll.calls k1 a0 x4_1 t196 _ A5.out).mono ?_); rintro e w8 ⟨v197, rfl, ho0, hb⟩; refine ⟨_, rfl, ?_⟩; have n0_ := Aside0.mk (Kd.S_lower ho0 (below_size (by repeat (first | (with_reducible first | exact HB.out | apply below_alloc | apply pw_below_drewN | apply below_drew1) | exact HB.out)))); have n1_ := Aside0.mk (below_step (by repeat (first | (with_reducible first | exact HB.out | apply below_alloc | apply pw_below_drewN | apply below_drew1) | exact HB.out)) hb); clear HB; have HO198 := n0_; have HB := n1_; clear n0_ n1_; (try clear hb); (try clear hb2); (try clear hk); (try clear hi); (try clear ho0); obtain ⟨Ao9, co9, eo9⟩ := Kd.S_slice HO198.out; subst eo9; have p199 : 0 ≤ (0 : Int) := (by omega); have q199 : 0 < (t196.length : Int) := of_decide_eq_true (by first | (with_reducible assumption) | assumption); obtain ⟨ad199, A199_0, c199_0, e199, hx199_0, hl199_0, hi199_0⟩ := at_L1 (Kd.S_reads' HO198.out).2.2 0 p199 q199; cases e199; obtain ⟨ce199, hce199, hMe199, hcc199⟩ := Kd.S_get HO198.out [] 0 p199 (by first | exact q199 | exact of_decide_eq_true (by first | (with_reducible assumption) | assumption) | (have e_ := (Kd.S_reads' HO198.out).1; omega)); obtain ⟨ve199_0, rfl, ge199_0⟩ := hMe199; have hv199_0 := hcc199 0 _ rfl; rw [Nat.add_zero, show ((Kd.slice 3 (Kd.int .i64))).sz = 1 from rfl, Nat.mul_one] at hv199_0; replace hv199_0 := Option.some.inj (hv199_0.symm.trans hx199_0); rw [hv199_0] at ge199_0; have HL199_0 := Aside0.mk (show Kd.R (Kd.int .i64) 3 _ _ _ _ (rd_L1 t196 0) from ge199_0); clear hv199_0 ge199_0; clear hcc199 hce199; have qi199 : (0 < t196.length) = True := eq_true (by omega); (try rw [show ((0 : Int)).toNat = 0 from rfl] at hx199_0); (try rw [Addr.add_zero'] at hx199_0); have HR199_0 := Aside0.mk hi199_0; have HC199_0 := Aside0.mk hl199_0; clear hi199_0 hl199_0; replace p199 := eq_true p199; replace q199 := eq_true q199))
              go_ret2
              exact ⟨_, by first | rfl | (simp [errW_none, errW_some] <;> rfl) | (simp [*, errW_none, errW_some] <;> rfl), by (with_reducible repeat (first | apply Kd.R_alloc | apply Kd.R_drewN | apply Kd.R_drew)); exact Kd.R_mono HL199_0.out (fun _ hk => trivial), by repeat (first | (with_reducible first | exact HB.out | apply below_alloc | apply pw_below_drewN | apply below_drew1) | exact HB.out)⟩
            · rw [if_neg c7] at H
              exact absurd H (by simp)
          · rw [if_neg c6] at H
            have c6b0 : decide (0 < (t196.length : Int)) = false := decide_eq_false c6
            have c6b1 : decide (0 < t196.length) = false := decide_eq_false (by omega)
            clear c6
            have H' := Aside0.mk H
            clear H
            go_wp2_with (first | ((with_reducible refine gate_callee (f := 42) rfl ?_); refine goesL_ (some 15) rfl rfl Try.func42 (by kernel_rfl) rfl #[.int .i64 a0, .int .i64 x4_1] rfl (by (try simp only [List.map_toArray, List.map_cons, List.map_nil]); first | done | rfl | (simp only [List.length_drop, List.length_take]; rfl)) ?_; (with_reducible refine (spec_reAll.calls k1 a0 x4_1 t196 _ A5.out).mono ?_); rintro e w10 ⟨v197, rfl, ho0, hb⟩; refine ⟨_, rfl, ?_⟩; have n0_ := Aside0.mk (Kd.S_lower ho0 (below_size (by repeat (first | (with_reducible first | exact HB.out | apply below_alloc | apply pw_below_drewN | apply below_drew1) | exact HB.out)))); have n1_ := Aside0.mk (below_step (by repeat (first | (with_reducible first | exact HB.out | apply below_alloc | apply pw_below_drewN | apply below_drew1) | exact HB.out)) hb); clear HB; have HO198 := n0_; have HB := n1_; clear n0_ n1_; (try clear hb); (try clear hb2); (try clear hk); (try clear hi); (try clear ho0); obtain ⟨Ao11, co11, eo11⟩ := Kd.S_slice HO198.out; subst eo11))
            go_roundg k1
            case measure => have := HK1.out; omega
            case rel => exact ⟨(wrap64 (x4_1 + 1)), (by first | rfl | (simp; done) | (simp [*]; done)), H', ⟨by have := HK1.out; omega⟩, ⟨by repeat (first | (with_reducible first | exact HB.out | apply below_alloc | apply pw_below_drewN | apply below_drew1) | exact HB.out)⟩⟩
        · rw [if_neg c4] at H
          have c4b0 : decide (x4_1 ≤ 30) = false := decide_eq_false c4
          clear c4
          simp only [Option.some.injEq, Prod.mk.injEq] at H
          obtain ⟨rfl, rfl⟩ := H
          go_wp2
          go_ret2
          exact ⟨_, by first | rfl | (simp [errW_none, errW_some] <;> rfl) | (simp [*, errW_none, errW_some] <;> rfl), by first | exact Kd.R_nil _ _ _ _ _ | exact Kd.N_nil _ _ _ _ _ | exact Kd.V_nil _ _ _ _ _ | exact Kd.Q_nil _ _ _ _ _ | exact Kd.S_nil _ _ _ _ _, by repeat (first | (with_reducible first | exact HB.out | apply below_alloc | apply pw_below_drewN | apply below_drew1) | exact HB.out)⟩
  · replace c3 := Bool.eq_false_iff.mpr c3
    subst c3
    have H1 : (some (([] : List Int), false)) = some (r1, r2) := by rw [if_neg (show ¬ (false = true) by decide)] at H; exact H
    clear H
    have H := H1
    clear H1
    simp only [Option.some.injEq, Prod.mk.injEq] at H
    obtain ⟨rfl, rfl⟩ := H
    go_enter Try.func18, Try.ntmps18
    go_wp2_with (first | ((with_reducible refine gate_callee (f := 41) rfl ?_); refine goesL_ (some 7) rfl rfl Try.func41 (by kernel_rfl) rfl #[.int .i64 a0, .int .i64 1, .int .i64 6] rfl (by (try simp only [List.map_toArray, List.map_cons, List.map_nil]); first | done | rfl | (simp only [List.length_drop, List.length_take]; rfl)) ?_; (with_reducible refine (spec_l1In.calls a0 1 6 false _ A2.out).mono ?_); rintro e w' ⟨rfl, ⟨nd, rfl⟩⟩; refine ⟨_, rfl, ?_⟩))
    go_ret2
    exact ⟨_, by first | rfl | (simp [errW_none, errW_some] <;> rfl) | (simp [*, errW_none, errW_some] <;> rfl), by first | exact Kd.R_nil _ _ _ _ _ | exact Kd.N_nil _ _ _ _ _ | exact Kd.V_nil _ _ _ _ _ | exact Kd.Q_nil _ _ _ _ _ | exact Kd.S_nil _ _ _ _ _, by repeat (first | (with_reducible first | exact HB.out | apply below_alloc | apply pw_below_drewN | apply below_drew1) | exact HB.out)⟩

/-! ### impl_CountOpen: function 19 -/
def impl_CountOpen.f (k : Nat) (a0 : Int) (a1 : Int) : Option (Int × Bool) := if a0 < 1 then (some (0, false)) else (if a0 > 6 then (some (0, false)) else (if a1 < 0 then (some (0, false)) else (if a1 > 30 then (some (0, false)) else ((impl_openPatterns.f k a0 a1).bind fun t200 => (some ((t200.length : Int), true))))))
theorem impl_CountOpen.mono : ∀ a0 a1 k, LeO (impl_CountOpen.f k a0 a1) (impl_CountOpen.f (k + 1) a0 a1) := by
  intro a0 a1 k
  unfold impl_CountOpen.f
  repeat' first
      | (with_reducible exact impl_openPatterns.mono _ _ _)
      | (with_reducible exact LeO.refl _)
      | (with_reducible exact LeO.none _)
      | (with_reducible refine LeO.ite ?_ ?_)
      | (with_reducible refine LeO.bind ?_ (fun _ => ?_))
      | exact impl_openPatterns.mono _ _ _
      | exact LeO.none _
      | refine LeO.ite ?_ ?_
      | refine LeO.bind ?_ (fun _ => ?_)
set_option maxHeartbeats 8000000 in
set_option maxRecDepth 100000 in
theorem impl_CountOpen.calls (k : Nat) (a0 : Int) (a1 : Int) (r1 : Int) (r2 : Bool) (w : World) (h : impl_CountOpen.f k a0 a1 = some (r1, r2)) :
    Calls Try.prog 19 #[.int .i64 a0, .int .i64 a1] w fun e w' => e = .returned (.tuple #[.int .i64 r1, .bool r2]) ∧ Below w.heap.size w w' := by
  have HB := Aside0.mk (Below.refl w.heap.size w)
  have H : (if a0 < 1 then (some (0, false)) else (if a0 > 6 then (some (0, false)) else (if a1 < 0 then (some (0, false)) else (if a1 > 30 then (some (0, false)) else ((impl_openPatterns.f k a0 a1).bind fun t200 => (some ((t200.length : Int), true))))))) = some (r1, r2) := h
  clear h
  by_cases c3 : a0 < 1
  · rw [if_pos c3] at H
    have c3b0 : decide (a0 < 1) = true := decide_eq_true c3
    clear c3
    simp only [Option.some.injEq, Prod.mk.injEq] at H
    obtain ⟨rfl, rfl⟩ := H
    go_enter Try.func19, Try.ntmps19
    go_wp2
    go_ret2
    exact ⟨by first | rfl | (simp [errW_none, errW_some] <;> rfl) | (simp [*, errW_none, errW_some] <;> rfl), by repeat (first | (with_reducible first | exact HB.out | apply below_alloc | apply pw_below_drewN | apply below_drew1) | exact HB.out)⟩
  · rw [if_neg c3] at H
    have c3b0 : decide (a0 < 1) = false := decide_eq_false c3
    clear c3
    by_cases c4 : a0 > 6
    · rw [if_pos c4] at H
      have c4b0 : decide (6 < a0) = true := decide_eq_true c4
      clear c4
      simp only [Option.some.injEq, Prod.mk.injEq] at H
      obtain ⟨rfl, rfl⟩ := H
      go_enter Try.func19, Try.ntmps19
      go_wp2
      go_ret2
      exact ⟨by first | rfl | (simp [errW_none, errW_some] <;> rfl) | (simp [*, errW_none, errW_some] <;> rfl), by repeat (first | (with_reducible first | exact HB.out | apply below_alloc | apply pw_below_drewN | apply below_drew1) | exact HB.out)⟩
    · rw [if_neg c4] at H
      have c4b0 : decide (6 < a0) = false := decide_eq_false c4
      clear c4
      by_cases c5 : a1 < 0
      · rw [if_pos c5] at H
        have c5b0 : decide (a1 < 0) = true := decide_eq_true c5
        clear c5
        simp only [Option.some.injEq, Prod.mk.injEq] at H
        obtain ⟨rfl, rfl⟩ := H
        go_enter Try.func19, Try.ntmps19
        go_wp2
        go_ret2
        exact ⟨by first | rfl | (simp [errW_none, errW_some] <;> rfl) | (simp [*, errW_none, errW_some] <;> rfl), by repeat (first | (with_reducible first | exact HB.out | apply below_alloc | apply pw_below_drewN | apply below_drew1) | exact HB.out)⟩
      · rw [if_neg c5] at H
        have c5b0 : decide (a1 < 0) = false := decide_eq_false c5
        clear c5
        by_cases c6 : a1 > 30
        · rw [if_pos c6] at H
          have c6b0 : decide (30 < a1) = true := decide_eq_true c6
          clear c6
          simp only [Option.some.injEq, Prod.mk.injEq] at H
          obtain ⟨rfl, rfl⟩ := H
          go_enter Try.func19, Try.ntmps19
          go_wp2
          go_ret2
          exact ⟨by first | rfl | (simp [errW_none, errW_some] <;> rfl) | (simp [*, errW_none, errW_some] <;> rfl), by repeat (first | (with_reducible first | exact HB.out | apply below_alloc | apply pw_below_drewN | apply below_drew1) | exact HB.out)⟩
        · rw [if_neg c6] at H
          have c6b0 : decide (30 < a1) = false := decide_eq_false c6
          clear c6
          replace H := Option.bind_eq_some_iff.mp H
          obtain ⟨t200, A70, H⟩ := H
          replace H : (some ((t200.length : Int), true)) = some (r1, r2) := H
          have A7 := Aside0.mk A70
          clear A70
          simp only [Option.some.injEq, Prod.mk.injEq] at H
          obtain ⟨rfl, rfl⟩ := H
          go_enter Try.func19, Try.ntmps19
          go_wp2_with (first | ((with_reducible refine gate_callee (f := 40) rfl ?_); refine goesL_ (some 22) rfl rfl Try.func40 (by kernel_rfl) rfl #[.int .i64 a0, .int .i64 a1] rfl (by (try simp only [List.map_toArray, List.map_cons, List.map_nil]); first | done | rfl | (simp only [List.length_drop, List.length_take]; rfl)) ?_; (with_reducible refine (impl_openPatterns.calls k a0 a1 t200 _ A7.out).mono ?_); rintro e w8 ⟨v201, rfl, ho0, hb⟩; refine ⟨_, rfl, ?_⟩; have n0_ := Aside0.mk (Kd.S_lower ho0 (below_size (by repeat (first | (with_reducible first | exact HB.out | apply below_alloc | apply pw_below_drewN | apply below_drew1) | exact HB.out)))); have n1_ := Aside0.mk (below_step (by repeat (first | (with_reducible first | exact HB.out | apply below_alloc | apply pw_below_drewN | apply below_drew1) | exact HB.out)) hb); clear HB; have HO202 := n0_; have HB := n1_; clear n0_ n1_; (try clear hb); (try clear hb2); (try clear hk); (try clear hi); (try clear ho0); obtain ⟨Ao9, co9, eo9⟩ := Kd.S_slice HO202.out; subst eo9))
          go_ret2
          exact ⟨by first | rfl | (simp [errW_none, errW_some] <;> rfl) | (simp [*, errW_none, errW_some] <;> rfl), by repeat (first | (with_reducible first | exact HB.out | apply below_alloc | apply pw_below_drewN | apply below_drew1) | exact HB.out)⟩

/-! ### impl_AllOpen: function 20 -/
def impl_AllOpen.j0 : Nat → Int → Int → Bool → Option ((List (List Int)) × Bool)
  | 0, _, _, _ => none
  | k + 1, x0, x1, x20 => if x20 = true then (some (([] : List (List Int)), false)) else ((impl_openPatterns.f k x0 x1).bind fun t203 => (if (t203.length : Int) > 300 then (some (([] : List (List Int)), false)) else (some (t203, true))))
def impl_AllOpen.f (k : Nat) (a0 : Int) (a1 : Int) : Option ((List (List Int)) × Bool) := if a0 < 1 then (impl_AllOpen.j0 k a0 a1 true) else (if a0 > 6 then (impl_AllOpen.j0 k a0 a1 true) else (if a1 < 0 then (impl_AllOpen.j0 k a0 a1 true) else (impl_AllOpen.j0 k a0 a1 (decide (a1 > 30)))))
theorem impl_AllOpen.mono_l : ∀ k, (∀ y0 y1 y2, LeO (impl_AllOpen.j0 k y0 y1 y2) (impl_AllOpen.j0 (k + 1) y0 y1 y2))
  | 0 => fun _ _ _ r h => by simp [impl_AllOpen.j0] at h
  | k + 1 => by
    have ih0 := impl_AllOpen.mono_l k
    · intro y0 y1 y2
      unfold impl_AllOpen.j0
      repeat' first
      | (with_reducible exact ih0 _ _ _)
      | (with_reducible exact impl_openPatterns.mono _ _ _)
      | (with_reducible exact LeO.refl _)
      | (with_reducible exact LeO.none _)
      | (with_reducible refine LeO.ite ?_ ?_)
      | (with_reducible refine LeO.bind ?_ (fun _ => ?_))
      | exact ih0 _ _ _
      | exact impl_openPatterns.mono _ _ _
      | exact LeO.none _
      | refine LeO.ite ?_ ?_
      | refine LeO.bind ?_ (fun _ => ?_)
theorem impl_AllOpen.mono : ∀ a0 a1 k, LeO (impl_AllOpen.f k a0 a1) (impl_AllOpen.f (k + 1) a0 a1) := by
  intro a0 a1 k
  have ih0 := impl_AllOpen.mono_l k
  unfold impl_AllOpen.f
  repeat' first
      | (with_reducible exact ih0 _ _ _)
      | (with_reducible exact impl_openPatterns.mono _ _ _)
      | (with_reducible exact LeO.refl _)
      | (with_reducible exact LeO.none _)
      | (with_reducible refine LeO.ite ?_ ?_)
      | (with_reducible refine LeO.bind ?_ (fun _ => ?_))
      | exact ih0 _ _ _
      | exact impl_openPatterns.mono _ _ _
      | exact LeO.none _
      | refine LeO.ite ?_ ?_
      | refine LeO.bind ?_ (fun _ => ?_)
set_option maxHeartbeats 8000000 in
set_option maxRecDepth 100000 in
theorem impl_AllOpen.calls (k : Nat) (a0 : Int) (a1 : Int) (r1 : List (List Int)) (r2 : Bool) (w : World) (h : impl_AllOpen.f k a0 a1 = some (r1, r2)) :
    Calls Try.prog 20 #[.int .i64 a0, .int .i64 a1] w fun e w' => ∃ v0_ : Value, e = .returned (.tuple #[v0_, .bool r2]) ∧ Kd.S (Kd.slice 3 (Kd.int .i64)) 22 w' w.heap.size (fun _ => True) v0_ r1 ∧ Below w.heap.size w w' := by
  have HB := Aside0.mk (Below.refl w.heap.size w)
  have H : (if a0 < 1 then (impl_AllOpen.j0 k a0 a1 true) else (if a0 > 6 then (impl_AllOpen.j0 k a0 a1 true) else (if a1 < 0 then (impl_AllOpen.j0 k a0 a1 true) else (impl_AllOpen.j0 k a0 a1 (decide (a1 > 30)))))) = some (r1, r2) := h
  clear h
  have HC3 := Aside0.mk H
  clear H
  go_enter Try.func20, Try.ntmps20
  go_upto_region 1 with (fail)
  go_cut [20] (fun v20 wc => ∃ (kq : Nat) (x20_2 : Bool), v20 = .bool x20_2 ∧ Aside0 (impl_AllOpen.j0 kq a0 a1 x20_2 = some (r1, r2)) ∧ Aside0 (kq ≤ k) ∧ Aside0 (Below w.heap.size w wc))
  case first =>
    have H := HC3.out
    clear HC3
    by_cases c4 : a0 < 1
    · rw [if_pos c4] at H
      have c4b0 : decide (a0 < 1) = true := decide_eq_true c4
      clear c4
      (first | rw [c4b0] | (simp only [i64_w, i32_w]; rw [c4b0]) | skip)
      have H' := Aside0.mk H
      clear H
      go_wp2
      go_meet
      case rel => exact ⟨_, (true), (by first | rfl | (simp; done) | (simp [*]; done)), H', ⟨by first | omega | exact Nat.le_refl _⟩, ⟨by repeat (first | (with_reducible first | exact HB.out | apply below_alloc | apply pw_below_drewN | apply below_drew1) | exact HB.out)⟩⟩
    · rw [if_neg c4] at H
      have c4b0 : decide (a0 < 1) = false := decide_eq_false c4
      clear c4
      (first | rw [c4b0] | (simp only [i64_w, i32_w]; rw [c4b0]) | skip)
      by_cases c5 : a0 > 6
      · rw [if_pos c5] at H
        have c5b0 : decide (6 < a0) = true := decide_eq_true c5
        clear c5
        have H' := Aside0.mk H
        clear H
        go_wp2
        go_meet
        case rel => exact ⟨_, (true), (by first | rfl | (simp; done) | (simp [*]; done)), H', ⟨by first | omega | exact Nat.le_refl _⟩, ⟨by repeat (first | (with_reducible first | exact HB.out | apply below_alloc | apply pw_below_drewN | apply below_drew1) | exact HB.out)⟩⟩
      · rw [if_neg c5] at H
        have c5b0 : decide (6 < a0) = false := decide_eq_false c5
        clear c5
        by_cases c6 : a1 < 0
        · rw [if_pos c6] at H
          have c6b0 : decide (a1 < 0) = true := decide_eq_true c6
          clear c6
          have H' := Aside0.mk H
          clear H
          go_wp2
          go_meet
          case rel => exact ⟨_, (true), (by first | rfl | (simp; done) | (simp [*]; done)), H', ⟨by first | omega | exact Nat.le_refl _⟩, ⟨by repeat (first | (with_reducible first | exact HB.out | apply below_alloc | apply pw_below_drewN | apply below_drew1) | exact HB.out)⟩⟩
        · rw [if_neg c6] at H
          have c6b0 : decide (a1 < 0) = false := decide_eq_false c6
          clear c6
          have H' := Aside0.mk H
          clear H
          go_wp2
          go_meet
          case rel => exact ⟨_, (decide (a1 > 30)), (by first | rfl | (simp; done) | (simp [*]; done)), H', ⟨by first | omega | exact Nat.le_refl _⟩, ⟨by repeat (first | (with_reducible first | exact HB.out | apply below_alloc | apply pw_below_drewN | apply below_drew1) | exact HB.out)⟩⟩
  case rest =>
    clear HC3
    try clear c2
    try clear p2
    try clear c4
    try clear c4b0
    try clear c5
    try clear c5b0
    try clear c6
    try clear c6b0
    obtain ⟨kq, x20_2, rfl, HA, HJ2, HB⟩ := hcut
    cases kq with
    | zero => exact absurd HA.out (by simp [impl_AllOpen.j0])
    | succ kj2 =>
      have H := HA.out
      clear HA
      simp only [impl_AllOpen.j0] at H
      by_cases c7 : x20_2 = true
      · subst c7
        have H1 : (some (([] : List (List Int)), false)) = some (r1, r2) := by rw [if_pos rfl] at H; exact H
        clear H
        have H := H1
        clear H1
        simp only [Option.some.injEq, Prod.mk.injEq] at H
        obtain ⟨rfl, rfl⟩ := H
        go_wp2
        go_ret2
        exact ⟨_, by first | rfl | (simp [errW_none, errW_some] <;> rfl) | (simp [*, errW_none, errW_some] <;> rfl), by first | exact Kd.S_nil _ _ _ _ _ | exact Kd.N_nil _ _ _ _ _ | exact Kd.V_nil _ _ _ _ _ | exact Kd.Q_nil _ _ _ _ _ | exact Kd.R_nil _ _ _ _ _, by repeat (first | (with_reducible first | exact HB.out | apply below_alloc | apply pw_below_drewN | apply below_drew1) | exact HB.out)⟩
      · replace c7 := Bool.eq_false_iff.mpr c7
        subst c7
        have H1 : ((impl_openPatterns.f kj2 a0 a1).bind fun t203 => (if (t203.length : Int) > 300 then (some (([] : List (List Int)), false)) else (some (t203, true)))) = some (r1, r2) := by rw [if_neg (show ¬ (false = true) by decide)] at H; exact H
        clear H
        have H := H1
        clear H1
        replace H := Option.bind_eq_some_iff.mp H
        obtain ⟨t203, A80, H⟩ := H
        replace H : (if (t203.length : Int) > 300 then (some (([] : List (List Int)), false)) else (some (t203, true))) = some (r1, r2) := H
        have A8 := Aside0.mk A80
        clear A80
        by_cases c9 : (t203.length : Int) > 300
        · rw [if_pos c9] at H
          have c9b0 : decide (300 < (t203.length : Int)) = true := decide_eq_true c9
          have c9b1 : decide (300 < t203.length) = true := decide_eq_true (by omega)
          clear c9
          simp only [Option.some.injEq, Prod.mk.injEq] at H
          obtain ⟨rfl, rfl⟩ := H
          go_wp2_with (first | ((with_reducible refine gate_callee (f := 40) rfl ?_); refine goesL_ (some 23) rfl rfl Try.func40 (by kernel_rfl) rfl #[.int .i64 a0, .int .i64 a1] rfl (by (try simp only [List.map_toArray, List.map_cons, List.map_nil]); first | done | rfl | (simp only [List.length_drop, List.length_take]; rfl)) ?_; (with_reducible refine (impl_openPatterns.calls kj2 a0 a1 t203 _ A8.out).mono ?_); rintro e w10 ⟨v204, rfl, ho0, hb⟩; refine ⟨_, rfl, ?_⟩; have n0_ := Aside0.mk (Kd.S_lower ho0 (below_size (by repeat (first | (with_reducible first | exact HB.out | apply below_alloc | apply pw_below_drewN | apply below_drew1) | exact HB.out)))); have n1_ := Aside0.mk (below_step (by repeat (first | (with_reducible first | exact HB.out | apply below_alloc | apply pw_below_drewN | apply below_drew1) | exact HB.out)) hb); clear HB; have HO205 := n0_; have HB := n1_; clear n0_ n1_; (try clear hb); (try clear hb2); (try clear hk); (try clear hi); (try clear ho0); obtain ⟨Ao11, co11, eo11⟩ := Kd.S_slice HO205.out; subst eo11))
          go_ret2
          exact ⟨_, by first | rfl | (simp [errW_none, errW_some] <;> rfl) | (simp [*, errW_none, errW_some] <;> rfl), by first | exact Kd.S_nil _ _ _ _ _ | exact Kd.N_nil _ _ _ _ _ | exact Kd.V_nil _ _ _ _ _ | exact Kd.Q_nil _ _ _ _ _ | exact Kd.R_nil _ _ _ _ _, by repeat (first | (with_reducible first | exact HB.out | apply below_alloc | apply pw_below_drewN | apply below_drew1) | exact HB.out)⟩
        · rw [if_neg c9] at H
          have c9b0 : decide (300 < (t203.length : Int)) = false := decide_eq_false c9
          have c9b1 : decide (300 < t203.length) = false := decide_eq_false (by omega)
          clear c9
          simp only [Option.some.injEq, Prod.mk.injEq] at H
          obtain ⟨rfl, rfl⟩ := H
          go_wp2_with (first | ((with_reducible refine gate_callee (f := 40) rfl ?_); refine goesL_ (some 23) rfl rfl Try.func40 (by kernel_rfl) rfl #[.int .i64 a0, .int .i64 a1] rfl (by (try simp only [List.map_toArray, List.map_cons, List.map_nil]); first | done | rfl | (simp only [List.length_drop, List.length_take]; rfl)) ?_; (with_reducible refine (impl_openPatterns.calls kj2 a0 a1 t203 _ A8.out).mono ?_); rintro e w12 ⟨v204, rfl, ho0, hb⟩; refine ⟨_, rfl, ?_⟩; have n0_ := Aside0.mk (Kd.S_lower ho0 (below_size (by repeat (first | (with_reducible first | exact HB.out | apply below_alloc | apply pw_below_drewN | apply below_drew1) | exact HB.out)))); have n1_ := Aside0.mk (below_step (by repeat (first | (with_reducible first | exact HB.out | apply below_alloc | apply pw_below_drewN | apply below_drew1) | exact HB.out)) hb); clear HB; have HO205 := n0_; have HB := n1_; clear n0_ n1_; (try clear hb); (try clear hb2); (try clear hk); (try clear hi); (try clear ho0); obtain ⟨Ao13, co13, eo13⟩ := Kd.S_slice HO205.out; subst eo13))
          go_ret2
          exact ⟨_, by first | rfl | (simp [errW_none, errW_some] <;> rfl) | (simp [*, errW_none, errW_some] <;> rfl), by (with_reducible repeat (first | apply Kd.S_alloc | apply Kd.S_drewN | apply Kd.S_drew)); exact HO205.out, by repeat (first | (with_reducible first | exact HB.out | apply below_alloc | apply pw_below_drewN | apply below_drew1) | exact HB.out)⟩

end Go.Proofs.Ytbdapgjgjllojaa.PFnPatternsOpenOfAll
