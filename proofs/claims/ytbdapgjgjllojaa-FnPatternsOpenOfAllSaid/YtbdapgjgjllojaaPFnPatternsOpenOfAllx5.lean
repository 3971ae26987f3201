-- Written for this claim by a program of this session, out of the translation and given contracts.
import Derived.Test.YtbdapgjgjllojaaPFnPatternsOpenOfAllx0
import Derived.Test.YtbdapgjgjllojaaPFnPatternsOpenOfAllx1
namespace Go.Proofs.Ytbdapgjgjllojaa.PFnPatternsOpenOfAll
open Go.RowKit Go.Proofs.YtbdapgjgjllojaaW.PrintWords Go.Proofs.YtbdapgjgjllojaaW.PrintLast Go.Proofs.YtbdapgjgjllojaaW.PrintMore
attribute [local go_sem] max2_int min2_int max_two min_two max_three min_three max_four min_four   -- for this text's walks alone
set_option linter.unusedVariables false
set_option linter.unusedSimpArgs false

/-! ### impl_openPatterns: function 40 (its contract is proved by hand) -/
def opLeaf (k : Nat) (width : Int) (offs : List Int) (out : List (List Int)) : Option (List (List Int)) :=
  if rd offs ((offs.length : Int) - 1) = width then (impl_isOpen.f k offs).bind fun b => if b = true then (if out.length < 1000000000000 then some (out ++ [offs]) else none) else some out else some out
def opLoop (g : List Int → List (List Int) → Option (List (List Int))) (last : Bool) (width : Int) (offs : List Int) : Nat → Int → List (List Int) → Option (List (List Int))
  | 0, _, out => some out
  | c + 1, o, out => (if last = true ∧ o ≠ width then some out else g (offs ++ [o]) out).bind fun r => opLoop g last width offs c (o + 1) r
def opGrow (k : Nat) (width : Int) : Nat → List Int → List (List Int) → Option (List (List Int))
  | 0, offs, out => opLeaf k width offs out
  | l + 1, offs, out => opLoop (opGrow k width l) (l == 0) width offs (width - rd offs ((offs.length : Int) - 1)).toNat (rd offs ((offs.length : Int) - 1) + 1) out
def impl_openPatterns.f (k : Nat) (a0 : Int) (a1 : Int) : Option (List (List Int)) := if 1 ≤ a0 ∧ a0 ≤ 6 ∧ 0 ≤ a1 ∧ a1 ≤ 60 then opGrow k a1 (a0 - 1).toNat [0] [] else none
theorem opLeaf_mono (k : Nat) (width : Int) (offs : List Int) (out : List (List Int)) : LeO (opLeaf k width offs out) (opLeaf (k + 1) width offs out) := by
  unfold opLeaf
  exact LeO.ite (LeO.bind (impl_isOpen.mono _ _) fun _ => LeO.refl _) (LeO.refl _)
theorem opLoop_mono {g g' : List Int → List (List Int) → Option (List (List Int))} (hg : ∀ a b, LeO (g a b) (g' a b)) (last : Bool) (width : Int) (offs : List Int) : ∀ c o out, LeO (opLoop g last width offs c o out) (opLoop g' last width offs c o out)
  | 0, _, _ => LeO.refl _
  | c + 1, o, out => by
    unfold opLoop
    exact LeO.bind (LeO.ite (LeO.refl _) (hg _ _)) fun _ => opLoop_mono hg last width offs c _ _
theorem opGrow_mono (k : Nat) (width : Int) : ∀ l offs out, LeO (opGrow k width l offs out) (opGrow (k + 1) width l offs out)
  | 0, offs, out => opLeaf_mono k width offs out
  | l + 1, offs, out => opLoop_mono (opGrow_mono k width l) _ _ _ _ _ _
theorem impl_openPatterns.mono : ∀ a0 a1 k, LeO (impl_openPatterns.f k a0 a1) (impl_openPatterns.f (k + 1) a0 a1) := by
  intro a0 a1 k
  unfold impl_openPatterns.f
  exact LeO.ite (opGrow_mono _ _ _ _ _) (LeO.refl _)
theorem info_O : (Try.prog.info? 22).map (fun i => (i.zero, i.size, i.bytes)) = some (some (.slice none 0 0), 1, 24) := by kernel_rfl
/-- A box that holds rows, all of them made since w0. -/
structure OSt (w0 w : World) (go : Nat) (vo : Value) (out : List (List Int)) : Prop where
  box : w.heap[go]? = some (.cells #[vo] 36 (0, 0))
  row : Kd.S (Kd.slice 3 (Kd.int .i64)) 22 w w0.heap.size (fun _ => True) vo out
  bel : Below w0.heap.size w0 w
  ge : w0.heap.size ≤ go
theorem OSt.below {w0 w w1 : World} {go : Nat} {vo : Value} {out : List (List Int)} (h : OSt w0 w go vo out) (hb : Below w.heap.size w w1) : OSt w0 w1 go vo out := ⟨(hb.block go (blk_lt h.box)).trans h.box, Kd.S_below h.row hb, below_step h.bel hb, h.ge⟩
theorem OSt.put {w0 w : World} {go : Nat} {vo v1 : Value} {out : List (List Int)} (hbox : w.heap[go]? = some (.cells #[vo] 36 (0, 0))) (hr : Kd.S (Kd.slice 3 (Kd.int .i64)) 22 w w0.heap.size (fun _ => True) v1 out) (hb : Below w0.heap.size w0 w) (hge : w0.heap.size ≤ go) : OSt w0 (w.setCell ⟨go, 0, none⟩ v1) go v1 out :=
  ⟨by simpa using blk_set hbox 0 v1, Kd.S_set hr hbox (by decide) 0 v1, below_set hb hge, hge⟩
/-- What has been written since: the box, and its row. -/
def OMv (w w' : World) (go : Nat) (vo vo' : Value) : Prop := KeepBut w w' go vo.ownBlock ∧ (vo'.ownBlock = vo.ownBlock ∨ ∃ b, vo'.ownBlock = some b ∧ w.heap.size ≤ b)
theorem OMv.refl (w : World) (go : Nat) (vo : Value) : OMv w w go vo vo := ⟨KeepBut.refl _ _ _, .inl rfl⟩
theorem OMv.trans {w w1 w2 : World} {go : Nat} {vo v1 v2 : Value} (h : OMv w w1 go vo v1) (k : OMv w1 w2 go v1 v2) : OMv w w2 go vo v2 := by
  refine ⟨h.1.trans k.1 h.2, ?_⟩
  rcases k.2 with e | ⟨b, e, hb⟩
  · rw [e]; exact h.2
  · exact .inr ⟨b, e, Nat.le_trans h.1.1 hb⟩
theorem OMv.below {w w1 w2 : World} {go : Nat} {vo v1 : Value} (h : OMv w w1 go vo v1) (hb : Below w1.heap.size w1 w2) : OMv w w2 go vo v1 := h.trans ⟨KeepBut.of_below hb go _, .inl rfl⟩
/-- Another block stays. -/
theorem OMv.block {w w1 : World} {go : Nat} {vo v1 : Value} (h : OMv w w1 go vo v1) {w0 : World} {out : List (List Int)} (hS : OSt w0 w go vo out) {g t : Nat} {cs : Array Value} (hg : w.heap[g]? = some (.cells cs t (0, 0))) (h1 : t ≠ 36) (h2 : t ≠ 22) : w1.heap[g]? = some (.cells cs t (0, 0)) :=
  (h.1.2 g (blk_lt hg) (blk_ne hg hS.box h1) (Kd.S_ne hS.row hg (Ne.symm h2))).trans hg
/-- A row of numbers stays. -/
theorem OMv.rowI {w w1 : World} {go : Nat} {vo v1 : Value} (h : OMv w w1 go vo v1) {w0 : World} {out : List (List Int)} (hS : OSt w0 w go vo out) {base : Nat} {v : Value} {xs : List Int} (hr : Kd.R (Kd.int .i64) 3 w base (fun _ => True) v xs) : Kd.R (Kd.int .i64) 3 w1 base (fun _ => True) v xs :=
  Kd.R_mono (Kd.R_step (Kd.R_types (Kd.R_apartR hr (Kd.S_R hS.row) (by decide)) hS.box (by decide)) fun k hk hlt => h.1.2 k hlt hk.2 hk.1.2) fun _ _ => trivial
theorem rd_snoc_O (xs : List Int) (x : Int) : rd (xs ++ [x]) (((xs ++ [x]).length : Int) - 1) = x := by
  have e : (((xs ++ [x]).length : Int) - 1).toNat = xs.length := by rw [List.length_append, List.length_singleton]; omega
  unfold rd
  rw [e]
  simp
set_option maxHeartbeats 8000000 in
set_option maxRecDepth 100000 in
theorem opGrow_calls (k : Nat) (w0 : World) (gn gw go gg : Nat) (n width : Int) (hw0 : 0 ≤ width) (hw1 : width ≤ 60) (hn6 : n ≤ 6) : ∀ (l : Nat) (offs : List Int) (out r : List (List Int)) (A : Option Addr) (c : Nat) (vo : Value) (w : World), (offs.length : Int) + (l : Int) = n → 1 ≤ offs.length → 0 ≤ rd offs ((offs.length : Int) - 1) → rd offs ((offs.length : Int) - 1) ≤ 60 →
    w.heap[gn]? = some (.cells #[.int .i64 n] 3 (0, 0)) → w.heap[gw]? = some (.cells #[.int .i64 width] 3 (0, 0)) → w.heap[gg]? = some (.cells #[.func (.func 59) #[] #[.pointer (some ⟨gn, 0, none⟩), .pointer (some ⟨gw, 0, none⟩), .pointer (some ⟨go, 0, none⟩), .pointer (some ⟨gg, 0, none⟩)]] 63 (0, 0)) → OSt w0 w go vo out → Kd.R (Kd.int .i64) 3 w w0.heap.size (fun _ => True) (.slice A offs.length c) offs → Kd.S (Kd.slice 3 (Kd.int .i64)) 22 w w0.heap.size (fun k_ => some k_ ≠ (Value.slice A offs.length c).ownBlock) vo out → opGrow k width l offs out = some r →
    Calls Try.prog 59 #[.slice A offs.length c, .pointer (some ⟨gn, 0, none⟩), .pointer (some ⟨gw, 0, none⟩), .pointer (some ⟨go, 0, none⟩), .pointer (some ⟨gg, 0, none⟩)] w fun e w' => e = .returned (.tuple #[]) ∧ ∃ vo', OSt w0 w' go vo' r ∧ OMv w w' go vo vo' := by
  intro l
  induction l with
  | zero =>
    intro offs out r A c vo w hn h1 hl0 hl1 hbn hbw hbg hS hA hD h
    have h2 : opLeaf k width offs out = some r := h
    clear h
    unfold opLeaf at h2
    obtain ⟨i1, hi1⟩ : ∃ i : Int, i = (offs.length : Int) - 1 := ⟨_, rfl⟩
    rw [← hi1] at h2 hl0 hl1
    have hcn : w.cell? ⟨gn, 0, none⟩ = some (.int .i64 n) := (blk_cell hbn 0).trans rfl
    have hcw : w.cell? ⟨gw, 0, none⟩ = some (.int .i64 width) := (blk_cell hbw 0).trans rfl
    have hcg : w.cell? ⟨gg, 0, none⟩ = some (.func (.func 59) #[] #[.pointer (some ⟨gn, 0, none⟩), .pointer (some ⟨gw, 0, none⟩), .pointer (some ⟨go, 0, none⟩), .pointer (some ⟨gg, 0, none⟩)]) := (blk_cell hbg 0).trans rfl
    have hco : w.cell? ⟨go, 0, none⟩ = some vo := (blk_cell hS.box 0).trans rfl
    obtain ⟨ad, ea, hx0⟩ := Kd.at_int (Kd.R_reads' hA).2.2 i1 (by omega) (by omega)
    subst ea
    have HC := Aside0.mk (Kd.R_reads' hA).2.1
    have HA := Aside0.mk hA
    have HD := Aside0.mk hD
    have HS := Aside0.mk hS
    have HB := Aside0.mk (Below.refl w.heap.size w)
    have HBX := Aside0.mk (And.intro hbn (And.intro hbw hbg))
    have hL : offs.length ≤ 8 := by omega
    have q1 : IntKind.i64.wrap ((offs.length : Int) - 1) = i1 := by rw [hi1]; exact IntWalk.i64_in _ (by omega)
    have p1 := eq_true (show 0 ≤ i1 by omega)
    have p2 := eq_true (show i1 < (offs.length : Int) by omega)
    have HI1 := Aside0.mk hi1
    clear hi1 hA hS hD hbn hbw hbg
    generalize rd offs i1 = la at *
    have c1 : ((offs.length : Int) == n) = true := beq_iff_eq.2 (by omega)
    by_cases cw : la = width
    · rw [if_pos cw] at h2
      have c2 : (la == width) = true := beq_iff_eq.2 cw
      obtain ⟨b, ho, h2⟩ := Option.bind_eq_some_iff.mp h2
      have AO := Aside0.mk ho
      clear ho cw
      cases b with
      | true =>
        rw [if_pos rfl] at h2
        by_cases cl : out.length < 1000000000000
        · rw [if_pos cl] at h2
          obtain rfl := Option.some.inj h2
          have LM := Aside0.mk cl
          clear cl h2
          go_enter Try.func59, Try.ntmps59
          go_wp2_with (first | (go_at_call 34; refine (impl_isOpen.calls k _ c offs true _ ?sideP HC.out AO.out).mono ?_; (case sideP => exact Kd.C_below (Kd.R_reads' HA.out).2.2 (by repeat (first | (with_reducible first | exact HB.out | apply below_alloc | apply pw_below_drewN | apply below_drew1) | exact HB.out))); rintro e w1 ⟨rfl, hb⟩; have n0_ := Aside0.mk (below_step (by repeat (first | (with_reducible first | exact HB.out | apply below_alloc | apply pw_below_drewN | apply below_drew1) | exact HB.out)) hb); clear HB hb; have HB := n0_; clear n0_; have hco1 := (HB.out.cell (World.block_lt_of_cell? w _ hco)).trans hco) | ((with_reducible refine gate_builtin (b := .append) (xs := #[.tmp 25, .tmp 27]) rfl ?_); at_builtin; refine Kd.S_append (Kd.slice 3 (Kd.int .i64)) w0.heap.size rfl (.tmp 25) (.tmp 27) 36 22 (.slice none 0 0) 24 rfl Try.underlying36 info_O rfl (by decide) (by omega) vo out offs [.slice (some ad) offs.length c] (fun _ => True) (fun k_ => some k_ = (Value.slice (some ad) offs.length c).ownBlock ∧ some k_ ≠ vo.ownBlock) rfl rfl ?aP (fun _ hk => ⟨trivial, hk.2⟩) ?aF ?aO (below_step HS.out.bel HB.out) ?aS ?aL ?_; (case aP => exact ⟨_, rfl, Kd.R_mono (Kd.R_tight2 rfl (Kd.R_below (Kd.R_apartR HA.out (Kd.S_R HS.out.row) (by decide)) HB.out)) (fun _ h_ => ⟨h_.1, h_.2.2⟩)⟩); (case aF => exact fun _ _ => trivial); (case aO => exact Kd.S_mono (Kd.S_below HD.out HB.out) (fun _ hk => ⟨trivial, fun h_ => hk h_.1⟩)); (case aS => exact (below_step HS.out.bel HB.out).size); (case aL => have := LM.out; omega); intro v1 wA ho hb hg hat; have HO := Aside0.mk ho; have HB2 := Aside0.mk hb; have HG := Aside0.mk (And.intro hg hat); have hbxA : wA.heap[go]? = some (.cells #[vo] 36 (0, 0)) := blk_grown ((HB.out.block go (blk_lt HS.out.box)).trans HS.out.box) hg (Kd.S_ne HS.out.row HS.out.box (by decide)); have hcoA : wA.cell? ⟨go, 0, none⟩ = some vo := (blk_cell hbxA 0).trans rfl; have hfoA : wA.frozen? ⟨go, 0, none⟩ = false := blk_frozen hbxA 0; have HXA := Aside0.mk hbxA; clear ho hb hg hat hbxA; obtain ⟨Av, cv, ev⟩ := Kd.S_slice HO.out; subst ev) | ((with_reducible refine gate_store (t := 36) (p := 3) rfl ?_); refine store_event (t := 36) (p := 3) (v := ?vo_w) (w1 := (wA.setCell ⟨go, 0, none⟩ (.slice Av (out ++ [offs]).length cv))) ?hg ?ho ?hn ?hr ?_; (case ho => rfl); (case hg => rfl); (case hn => rfl); (case hr => first | (go_simp; done) | (go_simp; rfl)); intro wS hw))
          (try simp only [Exit.inBlock, Exit.then])
          refine bodyPost_ret (results_none rfl _ _ _) rfl ?_
          rw [hw]
          exact ⟨by first | rfl | simp, _, OSt.put HXA.out HO.out HB2.out HS.out.ge, ⟨KeepBut.set_ (KeepBut.trans (KeepBut.of_below HB.out go _) (KeepBut.of_grown HG.out.1 go) (.inl rfl)) 0 _, HG.out.2.imp id fun ⟨b, e, hb⟩ => ⟨b, e, Nat.le_trans HB.out.size hb⟩⟩⟩
        · rw [if_neg cl] at h2; cases h2
      | false =>
        rw [if_neg (by decide)] at h2
        obtain rfl := Option.some.inj h2
        go_enter Try.func59, Try.ntmps59
        go_wp2_with (first | (go_at_call 34; refine (impl_isOpen.calls k _ c offs false _ ?sideP HC.out AO.out).mono ?_; (case sideP => exact Kd.C_below (Kd.R_reads' HA.out).2.2 (by repeat (first | (with_reducible first | exact HB.out | apply below_alloc | apply pw_below_drewN | apply below_drew1) | exact HB.out))); rintro e w1 ⟨rfl, hb⟩; have n0_ := Aside0.mk (below_step (by repeat (first | (with_reducible first | exact HB.out | apply below_alloc | apply pw_below_drewN | apply below_drew1) | exact HB.out)) hb); clear HB hb; have HB := n0_; clear n0_; have hco1 := (HB.out.cell (World.block_lt_of_cell? w _ hco)).trans hco))
        (try simp only [Exit.inBlock, Exit.then])
        refine bodyPost_ret (results_none rfl _ _ _) rfl ?_
        exact ⟨by first | rfl | simp, _, HS.out.below (by repeat (first | (with_reducible first | exact HB.out | apply below_alloc | apply pw_below_drewN | apply below_drew1) | exact HB.out)), ⟨KeepBut.of_below (by repeat (first | (with_reducible first | exact HB.out | apply below_alloc | apply pw_below_drewN | apply below_drew1) | exact HB.out)) go _, .inl rfl⟩⟩
    · rw [if_neg cw] at h2
      have c2 : (la == width) = false := beq_eq_false_iff_ne.2 cw
      obtain rfl := Option.some.inj h2
      clear cw
      go_enter Try.func59, Try.ntmps59
      go_wp2
      (try simp only [Exit.inBlock, Exit.then])
      refine bodyPost_ret (results_none rfl _ _ _) rfl ?_
      exact ⟨by first | rfl | simp, _, HS.out.below (by repeat (first | (with_reducible first | exact HB.out | apply below_alloc | apply pw_below_drewN | apply below_drew1) | exact HB.out)), ⟨KeepBut.of_below (by repeat (first | (with_reducible first | exact HB.out | apply below_alloc | apply pw_below_drewN | apply below_drew1) | exact HB.out)) go _, .inl rfl⟩⟩
  | succ l ih =>
    intro offs out r A c vo w hn h1 hl0 hl1 hbn hbw hbg hS hA hD h
    have h2 : opLoop (opGrow k width l) (l == 0) width offs (width - rd offs ((offs.length : Int) - 1)).toNat (rd offs ((offs.length : Int) - 1) + 1) out = some r := h
    clear h
    obtain ⟨i1, hi1⟩ : ∃ i : Int, i = (offs.length : Int) - 1 := ⟨_, rfl⟩
    rw [← hi1] at h2 hl0 hl1
    have hcn : w.cell? ⟨gn, 0, none⟩ = some (.int .i64 n) := (blk_cell hbn 0).trans rfl
    have hcw : w.cell? ⟨gw, 0, none⟩ = some (.int .i64 width) := (blk_cell hbw 0).trans rfl
    have hcg : w.cell? ⟨gg, 0, none⟩ = some (.func (.func 59) #[] #[.pointer (some ⟨gn, 0, none⟩), .pointer (some ⟨gw, 0, none⟩), .pointer (some ⟨go, 0, none⟩), .pointer (some ⟨gg, 0, none⟩)]) := (blk_cell hbg 0).trans rfl
    have hco : w.cell? ⟨go, 0, none⟩ = some vo := (blk_cell hS.box 0).trans rfl
    obtain ⟨ad, ea, hx0⟩ := Kd.at_int (Kd.R_reads' hA).2.2 i1 (by omega) (by omega)
    subst ea
    have HC := Aside0.mk (Kd.R_reads' hA).2.1
    have HA := Aside0.mk hA
    have HD := Aside0.mk hD
    have HS := Aside0.mk hS
    have HB := Aside0.mk (Below.refl w.heap.size w)
    have HBX := Aside0.mk (And.intro hbn (And.intro hbw hbg))
    have hL : offs.length ≤ 8 := by omega
    have q1 : IntKind.i64.wrap ((offs.length : Int) - 1) = i1 := by rw [hi1]; exact IntWalk.i64_in _ (by omega)
    have p1 := eq_true (show 0 ≤ i1 by omega)
    have p2 := eq_true (show i1 < (offs.length : Int) by omega)
    have HI1 := Aside0.mk hi1
    clear hi1 hA hS hD hbn hbw hbg
    generalize rd offs i1 = la at *
    have c1 : ((offs.length : Int) == n) = false := beq_eq_false_iff_ne.2 (by omega)
    have w1_ : IntKind.i64.wrap (la + 1) = la + 1 := IntWalk.i64_in _ (by omega)
    have H2 := Aside0.mk h2
    clear h2
    go_enter Try.func59, Try.ntmps59
    go_wp2
    go_loopg [7] (width - la).toNat (fun kq v7 w' => ∃ (o : Int) (vo' : Value) (out' : List (List Int)), v7 = .int .i64 o ∧ (la < o ∧ o ≤ 62 ∧ kq = (width + 1 - o).toNat) ∧ Aside0 (opLoop (opGrow k width l) (l == 0) width offs kq o out' = some r) ∧ Aside0 (OSt w0 w' go vo' out') ∧ Aside0 (OMv w w' go vo vo'))
    case atStart => exact ⟨la + 1, vo, out, by first | rfl | (simp [*]; done) | go_num, ⟨by omega, by omega, by omega⟩, H2, ⟨HS.out.below (by repeat (first | (with_reducible first | exact HB.out | apply below_alloc | apply pw_below_drewN | apply below_drew1) | exact HB.out))⟩, ⟨(OMv.refl w go vo).below (by repeat (first | (with_reducible first | exact HB.out | apply below_alloc | apply pw_below_drewN | apply below_drew1) | exact HB.out))⟩⟩
    case round =>
      clear H2 HB
      obtain ⟨o, vo', out', rfl, ⟨ho1, ho2, hk⟩, HA2, HS2, HM⟩ := hrel
      have hbn' := HM.out.block HS.out HBX.out.1 (by decide) (by decide)
      have hbw' := HM.out.block HS.out HBX.out.2.1 (by decide) (by decide)
      have hbg' := HM.out.block HS.out HBX.out.2.2 (by decide) (by decide)
      have hcn' : wr.cell? ⟨gn, 0, none⟩ = some (.int .i64 n) := (blk_cell hbn' 0).trans rfl
      have hcw' : wr.cell? ⟨gw, 0, none⟩ = some (.int .i64 width) := (blk_cell hbw' 0).trans rfl
      have hcg' : wr.cell? ⟨gg, 0, none⟩ = some (.func (.func 59) #[] #[.pointer (some ⟨gn, 0, none⟩), .pointer (some ⟨gw, 0, none⟩), .pointer (some ⟨go, 0, none⟩), .pointer (some ⟨gg, 0, none⟩)]) := (blk_cell hbg' 0).trans rfl
      have HA' := Aside0.mk (HM.out.rowI HS.out HA.out)
      have q2 : IntKind.i64.wrap (o + 1) = o + 1 := IntWalk.i64_in _ (by omega)
      have q3 : IntKind.i64.wrap ((offs.length : Int) + 1) = (offs.length : Int) + 1 := IntWalk.i64_in _ (by omega)
      cases gk with
      | zero =>
        have c3 : decide (o ≤ width) = false := decide_eq_false (by omega)
        have e_ : some out' = some r := HA2.out
        obtain rfl := Option.some.inj e_
        clear hk
        go_wp2
        (try simp only [Exit.inBlock, Exit.then])
        refine bodyPost_end (results_none rfl _ _ _) rfl ?_
        exact ⟨by first | rfl | simp, _, HS2.out.below (by repeat (first | (with_reducible first | exact Below.refl _ _ | apply below_alloc | apply pw_below_drewN | apply below_drew1) | exact Below.refl _ _)), HM.out.below (by repeat (first | (with_reducible first | exact Below.refl _ _ | apply below_alloc | apply pw_below_drewN | apply below_drew1) | exact Below.refl _ _))⟩
      | succ g =>
        have c3 : decide (o ≤ width) = true := decide_eq_true (by omega)
        have hA2 : ((if (l == 0) = true ∧ o ≠ width then some out' else opGrow k width l (offs ++ [o]) out').bind fun r_ => opLoop (opGrow k width l) (l == 0) width offs g (o + 1) r_) = some r := HA2.out
        clear HA2
        by_cases hs : (l == 0) = true ∧ o ≠ width
        · rw [if_pos hs, Option.bind_some] at hA2
          have HA2 := Aside0.mk hA2
          have hl_ : l = 0 := by simpa using hs.1
          have c4 : decide ((offs.length : Int) + 1 < n) = false := decide_eq_false (by omega)
          have c5 : (o == width) = false := beq_eq_false_iff_ne.2 hs.2
          clear hs hl_ hA2
          go_wp2
          go_roundg g
          case measure => omega
          case rel => exact ⟨o + 1, vo', out', by first | rfl | (simp [*]; done) | go_num, ⟨by omega, by omega, by omega⟩, HA2, ⟨HS2.out.below (by repeat (first | (with_reducible first | exact Below.refl _ _ | apply below_alloc | apply pw_below_drewN | apply below_drew1) | exact Below.refl _ _))⟩, ⟨HM.out.below (by repeat (first | (with_reducible first | exact Below.refl _ _ | apply below_alloc | apply pw_below_drewN | apply below_drew1) | exact Below.refl _ _))⟩⟩
        · rw [if_neg hs] at hA2
          obtain ⟨r1, hg, hA2⟩ := Option.bind_eq_some_iff.mp hA2
          have AG := Aside0.mk hg
          have HA2 := Aside0.mk hA2
          clear hg hA2
          by_cases hl_ : l = 0
          · have ow : o = width := by
              apply Decidable.byContradiction
              intro hne
              exact hs ⟨by simp [hl_], hne⟩
            have c4 : decide ((offs.length : Int) + 1 < n) = false := decide_eq_false (by omega)
            have c5 : (o == width) = true := beq_iff_eq.2 ow
            clear hs ow
            go_wp2
            refine start_ (n := 8) (S := fun w' => w'.cell? ⟨gg, 0, none⟩ = some (.func (.func 59) #[] #[.pointer (some ⟨gn, 0, none⟩), .pointer (some ⟨gw, 0, none⟩), .pointer (some ⟨go, 0, none⟩), .pointer (some ⟨gg, 0, none⟩)])) (ds := []) #[false, false, false, false, false, false, false, false] (by kernel_rfl) rfl rfl hcg' (fun hHeld => ?_)
            have HBD := Aside0.mk (below_drew (Below.refl wr.heap.size wr))
            generalize wr.drew = wd at hHeld HBD ⊢
            refine pure_ (i := 2) (N := some 48) (v := ?_) (a' := ?_) #[false, false, true, false, false, false, false, false] rfl rfl (by kernel_rfl) (fun _ _ _ h => h) (Or.inl ⟨by rfl, ?_⟩) ?_ ?_
            rotate_left
            · intro w'
              go_simp
              with_reducible rfl
            rotate_left
            · simp only [Act.put, List.setIfInBounds_toArray, List.set_cons_zero, List.set_cons_succ, i64_w, i32_w]
              rfl
            refine pure_ (i := 4) (N := some 50) (v := ?_) (a' := ?_) #[false, false, true, false, true, false, false, false] rfl rfl (by kernel_rfl) (fun _ _ _ h => h) (Or.inl ⟨by rfl, ?_⟩) ?_ ?_
            rotate_left
            · intro w'
              go_simp
              with_reducible rfl
            rotate_left
            · simp only [Act.put, List.setIfInBounds_toArray, List.set_cons_zero, List.set_cons_succ, i64_w, i32_w]
              rfl
            refine take_ (i := 0) (N := some 46) (v := ?_) (a' := ?_) #[true, false, true, false, true, false, false, false] rfl rfl (by kernel_rfl) (fun _ _ _ h => h) (Or.inl ⟨by rfl, ?_⟩) hHeld ?_ ?_
            rotate_left
            · intro w' s0
              go_simp
              with_reducible rfl
            rotate_left
            · simp only [Act.put, List.setIfInBounds_toArray, List.set_cons_zero, List.set_cons_succ, i64_w, i32_w]
              rfl
            have hHeld0 := hHeld
            have HAD := Aside0.mk (Kd.R_below HA'.out HBD.out)
            refine join_ (σ := Value × Value × Value) 2 #[true, true, true, true, true, true, false, false] (fun s => [(47, s.1), (49, s.2.1), (51, s.2.2)]) (fun s w' => w'.cell? ⟨gg, 0, none⟩ = some (.func (.func 59) #[] #[.pointer (some ⟨gn, 0, none⟩), .pointer (some ⟨gw, 0, none⟩), .pointer (some ⟨go, 0, none⟩), .pointer (some ⟨gg, 0, none⟩)]) ∧ Below wd.heap.size wd w' ∧ Kd.R (Kd.int .i64) 3 w' wd.heap.size (fun _ => True) s.2.1 offs ∧ Kd.R (Kd.int .i64) 3 w' wd.heap.size (fun k_ => True ∧ some k_ ≠ s.2.1.ownBlock) s.2.2 [o]) ?_ ?_
            rotate_left
            · intro hCont
              refine two_ (i := 1) (j := 5) (Ni := some 47) (Nj := some 51) #[true, true, true, false, true, false, false, false] #[true, false, true, false, true, true, false, false] rfl rfl rfl rfl (by kernel_rfl) (by decide) (by decide) (fun K hK => ?_) (fun K hK => ?_)
              · skip
                refine Kd.R_lit_step (Kd.int .i64) (w0 := wd) wd.heap.size 3 (by rfl) (N := 47) rfl (xs := ([] : List Int)) (inner := []) (ok := fun _ => True) (okp := fun _ => True) ?hr1 (Reps.none _ _) (fun _ hk => hk) trivial (Below.refl _ _) (Nat.le_refl _) (by simp) ?_
                case hr1 => first | (go_simp; done) | (go_simp; rfl)
                intro v47 w1 ho1 hb1 hg1 hn1
                refine hK.out _ _ ((hb1.cell (World.block_lt_of_cell? _ _ hHeld)).trans hHeld) (fun hHeld => ?_)
                clear hK K
                refine norm_ (a' := ?_) ?_ ?_
                rotate_left
                · show Act.put _ (some 47) _ = _
                  simp only [Act.put, List.setIfInBounds_toArray, List.set_cons_zero, List.set_cons_succ, i64_w, i32_w]
                  rfl
                refine two_ (i := 3) (j := 5) (Ni := some 49) (Nj := some 51) #[true, true, true, true, true, false, false, false] #[true, true, true, false, true, true, false, false] rfl rfl rfl rfl (by kernel_rfl) (by decide) (by decide) (fun K hK => ?_) (fun K hK => ?_)
                · skip
                  refine Kd.R_append_rows_step (Kd.int .i64) (w0 := wd) wd.heap.size (by rfl) (.tmp 47) (.tmp 48) 22 3 (.int .i64 0) 8 rfl Try.underlying22 info3 rfl (by decide) (by omega) v47 [] offs (some ad) offs.length c (fun _ => True) (fun _ => False) rfl rfl ho1 (Kd.C_below (Kd.R_reads' HAD.out).2.2 hb1) (fun _ _ h_ => h_) (fun _ h_ => h_.elim) (fun _ _ => trivial) hb1 hb1.size (by simp only [List.length_nil]; omega) ?_
                  intro v49 w3 ho3 hb3 hg3 hat3
                  rw [List.nil_append] at ho3
                  refine hK.out _ _ ((hb3.cell (World.block_lt_of_cell? _ _ hHeld0)).trans hHeld0) (fun hHeld => ?_)
                  clear hK K
                  refine norm_ (a' := ?_) ?_ ?_
                  rotate_left
                  · show Act.put _ (some 49) _ = _
                    simp only [Act.put, List.setIfInBounds_toArray, List.set_cons_zero, List.set_cons_succ, i64_w, i32_w]
                    rfl
                  refine one_ (i := 5) (N := some 51) #[true, true, true, true, true, true, false, false] rfl rfl (by kernel_rfl) (by decide) (fun K hK => ?_)
                  refine Kd.R_lit_step (Kd.int .i64) (w0 := w3) w3.heap.size 3 (by rfl) (N := 51) rfl (xs := ([o] : List Int)) (inner := [.int .i64 o]) (ok := fun _ => True) (okp := fun _ => True) ?hr5 (Reps.one (show Kd.M (Kd.int .i64) _ _ _ o [.int .i64 o] from rfl) (Reps.none _ _)) (fun _ hk => hk) trivial (Below.refl _ _) (Nat.le_refl _) (by simp) ?_
                  case hr5 => first | (go_simp; done) | (go_simp; rfl)
                  intro v51 w5 ho5 hb5 hg5 hn5
                  refine hK.out _ _ ((hb5.cell (World.block_lt_of_cell? _ _ hHeld)).trans hHeld) (fun hHeld => ?_)
                  clear hK K
                  refine norm_ (a' := ?_) ?_ ?_
                  rotate_left
                  · show Act.put _ (some 51) _ = _
                    simp only [Act.put, List.setIfInBounds_toArray, List.set_cons_zero, List.set_cons_succ, i64_w, i32_w]
                    rfl
                  exact norm_ (by simp only [putAll, Act.put, List.setIfInBounds_toArray, List.set_cons_zero, List.set_cons_succ]) (hCont (v47, v49, v51) _ ⟨hHeld, below_step hb3 hb5, Kd.R_below ho3 hb5, Kd.R_lower (Kd.R_new' ho5 (Kd.R_lt ho3)) hb3.size⟩)
                · skip
                  refine Kd.R_lit_step (Kd.int .i64) (w0 := w1) w1.heap.size 3 (by rfl) (N := 51) rfl (xs := ([o] : List Int)) (inner := [.int .i64 o]) (ok := fun _ => True) (okp := fun _ => True) ?hr5 (Reps.one (show Kd.M (Kd.int .i64) _ _ _ o [.int .i64 o] from rfl) (Reps.none _ _)) (fun _ hk => hk) trivial (Below.refl _ _) (Nat.le_refl _) (by simp) ?_
                  case hr5 => first | (go_simp; done) | (go_simp; rfl)
                  intro v51 w5 ho5 hb5 hg5 hn5
                  refine hK.out _ _ ((hb5.cell (World.block_lt_of_cell? _ _ hHeld)).trans hHeld) (fun hHeld => ?_)
                  clear hK K
                  refine norm_ (a' := ?_) ?_ ?_
                  rotate_left
                  · show Act.put _ (some 51) _ = _
                    simp only [Act.put, List.setIfInBounds_toArray, List.set_cons_zero, List.set_cons_succ, i64_w, i32_w]
                    rfl
                  refine one_ (i := 3) (N := some 49) #[true, true, true, true, true, true, false, false] rfl rfl (by kernel_rfl) (by decide) (fun K hK => ?_)
                  refine Kd.R_append_rows_step (Kd.int .i64) (w0 := wd) wd.heap.size (by rfl) (.tmp 47) (.tmp 48) 22 3 (.int .i64 0) 8 rfl Try.underlying22 info3 rfl (by decide) (by omega) v47 [] offs (some ad) offs.length c (fun _ => True) (fun _ => False) rfl rfl (Kd.R_below ho1 hb5) (Kd.C_below (Kd.R_reads' HAD.out).2.2 (below_step hb1 hb5)) (fun _ _ h_ => h_) (fun _ h_ => h_.elim) (fun _ _ => trivial) (below_step hb1 hb5) (below_step hb1 hb5).size (by simp only [List.length_nil]; omega) ?_
                  intro v49 w3 ho3 hb3 hg3 hat3
                  rw [List.nil_append] at ho3
                  refine hK.out _ _ ((hb3.cell (World.block_lt_of_cell? _ _ hHeld0)).trans hHeld0) (fun hHeld => ?_)
                  clear hK K
                  refine norm_ (a' := ?_) ?_ ?_
                  rotate_left
                  · show Act.put _ (some 49) _ = _
                    simp only [Act.put, List.setIfInBounds_toArray, List.set_cons_zero, List.set_cons_succ, i64_w, i32_w]
                    rfl
                  exact norm_ (by simp only [putAll, Act.put, List.setIfInBounds_toArray, List.set_cons_zero, List.set_cons_succ]) (hCont (v47, v49, v51) _ ⟨hHeld, hb3, ho3, Kd.R_after (ok := fun _ => True) (Kd.R_lower (Kd.R_new' ho5 (Kd.R_lt ho1)) hb1.size) hg3 hat3⟩)
              · skip
                refine Kd.R_lit_step (Kd.int .i64) (w0 := wd) wd.heap.size 3 (by rfl) (N := 51) rfl (xs := ([o] : List Int)) (inner := [.int .i64 o]) (ok := fun _ => True) (okp := fun _ => True) ?hr5 (Reps.one (show Kd.M (Kd.int .i64) _ _ _ o [.int .i64 o] from rfl) (Reps.none _ _)) (fun _ hk => hk) trivial (Below.refl _ _) (Nat.le_refl _) (by simp) ?_
                case hr5 => first | (go_simp; done) | (go_simp; rfl)
                intro v51 w5 ho5 hb5 hg5 hn5
                refine hK.out _ _ ((hb5.cell (World.block_lt_of_cell? _ _ hHeld)).trans hHeld) (fun hHeld => ?_)
                clear hK K
                refine norm_ (a' := ?_) ?_ ?_
                rotate_left
                · show Act.put _ (some 51) _ = _
                  simp only [Act.put, List.setIfInBounds_toArray, List.set_cons_zero, List.set_cons_succ, i64_w, i32_w]
                  rfl
                refine one_ (i := 1) (N := some 47) #[true, true, true, false, true, true, false, false] rfl rfl (by kernel_rfl) (by decide) (fun K hK => ?_)
                refine Kd.R_lit_step (Kd.int .i64) (w0 := w5) w5.heap.size 3 (by rfl) (N := 47) rfl (xs := ([] : List Int)) (inner := []) (ok := fun _ => True) (okp := fun _ => True) ?hr1 (Reps.none _ _) (fun _ hk => hk) trivial (Below.refl _ _) (Nat.le_refl _) (by simp) ?_
                case hr1 => first | (go_simp; done) | (go_simp; rfl)
                intro v47 w1 ho1 hb1 hg1 hn1
                refine hK.out _ _ ((hb1.cell (World.block_lt_of_cell? _ _ hHeld)).trans hHeld) (fun hHeld => ?_)
                clear hK K
                refine norm_ (a' := ?_) ?_ ?_
                rotate_left
                · show Act.put _ (some 47) _ = _
                  simp only [Act.put, List.setIfInBounds_toArray, List.set_cons_zero, List.set_cons_succ, i64_w, i32_w]
                  rfl
                refine one_ (i := 3) (N := some 49) #[true, true, true, true, true, true, false, false] rfl rfl (by kernel_rfl) (by decide) (fun K hK => ?_)
                refine Kd.R_append_rows_step (Kd.int .i64) (w0 := wd) wd.heap.size (by rfl) (.tmp 47) (.tmp 48) 22 3 (.int .i64 0) 8 rfl Try.underlying22 info3 rfl (by decide) (by omega) v47 [] offs (some ad) offs.length c (fun _ => True) (fun _ => False) rfl rfl (Kd.R_lower ho1 hb5.size) (Kd.C_below (Kd.R_reads' HAD.out).2.2 (below_step hb5 hb1)) (fun _ _ h_ => h_) (fun _ h_ => h_.elim) (fun _ _ => trivial) (below_step hb5 hb1) (below_step hb5 hb1).size (by simp only [List.length_nil]; omega) ?_
                intro v49 w3 ho3 hb3 hg3 hat3
                rw [List.nil_append] at ho3
                refine hK.out _ _ ((hb3.cell (World.block_lt_of_cell? _ _ hHeld0)).trans hHeld0) (fun hHeld => ?_)
                clear hK K
                refine norm_ (a' := ?_) ?_ ?_
                rotate_left
                · show Act.put _ (some 49) _ = _
                  simp only [Act.put, List.setIfInBounds_toArray, List.set_cons_zero, List.set_cons_succ, i64_w, i32_w]
                  rfl
                exact norm_ (by simp only [putAll, Act.put, List.setIfInBounds_toArray, List.set_cons_zero, List.set_cons_succ]) (hCont (v47, v49, v51) _ ⟨hHeld, hb3, ho3, Kd.R_after (ok := fun _ => True) (Kd.R_elder' ho5 (fun k_ e_ => Kd.R_base ho1 k_ e_) hb1) hg3 hat3⟩)
            rintro ⟨v47, v49, v51⟩ w8 ⟨hHeld, hb8, hr49, hr51⟩
            obtain ⟨A5, c5, e5⟩ := Kd.R_slice hr51
            subst e5
            refine norm_ (a' := ?_) ?_ ?_
            rotate_left
            · simp only [putAll, Act.put, List.setIfInBounds_toArray, List.set_cons_zero, List.set_cons_succ]
              rfl
            refine one_ (i := 6) (N := some 52) #[true, true, true, true, true, true, true, false] rfl rfl (by kernel_rfl) (by decide) (fun K hK => ?_)
            refine Kd.R_append_rows_step (Kd.int .i64) (w0 := wd) wd.heap.size (by rfl) (.tmp 49) (.tmp 51) 22 3 (.int .i64 0) 8 rfl Try.underlying22 info3 rfl (by decide) (by omega) v49 offs [o] A5 [o].length c5 (fun _ => True) (fun _ => False) rfl rfl hr49 (Kd.R_reads' hr51).2.2 (fun _ _ h_ => h_) (fun _ h_ => h_.elim) (fun _ _ => trivial) hb8 hb8.size (by simp only [List.length_singleton]; omega) ?_
            intro v52 w9 ho6 hb6 hg6 hat6
            refine hK.out _ _ ((hb6.cell (World.block_lt_of_cell? _ _ hHeld0)).trans hHeld0) (fun hHeld => ?_)
            clear hK K
            refine norm_ (a' := ?_) ?_ ?_
            rotate_left
            · show Act.put _ (some 52) _ = _
              simp only [Act.put, List.setIfInBounds_toArray, List.set_cons_zero, List.set_cons_succ, i64_w, i32_w]
              rfl
            obtain ⟨A6, c6, e6⟩ := Kd.R_slice ho6
            subst e6
            refine one_ (i := 7) (N := some 53) #[true, true, true, true, true, true, true, true] rfl rfl (by kernel_rfl) (by decide) (fun K hK => ?_)
            have he := enters_ (P := Try.prog) Try.func59 (by kernel_rfl) rfl #[.slice A6 (offs ++ [o]).length c6, .pointer (some ⟨gn, 0, none⟩), .pointer (some ⟨gw, 0, none⟩), .pointer (some ⟨go, 0, none⟩), .pointer (some ⟨gg, 0, none⟩)] w9
            refine call_ 59 #[.slice A6 (offs ++ [o]).length c6, .pointer (some ⟨gn, 0, none⟩), .pointer (some ⟨gw, 0, none⟩), .pointer (some ⟨go, 0, none⟩), .pointer (some ⟨gg, 0, none⟩)] (by rfl) rfl (by unfold execOp; simp [resolve, Deferred.ofValue, invoke, Act.eval, he]) ?_
            have HB9 := Aside0.mk (below_step HBD.out hb6)
            refine (ih (offs ++ [o]) out' r1 A6 c6 vo' w9 (by rw [List.length_append, List.length_singleton]; omega) (by simp) (by rw [rd_snoc_O]; omega) (by rw [rd_snoc_O]; omega) ((HB9.out.block gn (blk_lt hbn')).trans hbn') ((HB9.out.block gw (blk_lt hbw')).trans hbw') ((HB9.out.block gg (blk_lt hbg')).trans hbg') (HS2.out.below HB9.out) (Kd.R_lower ho6 (Nat.le_trans HS2.out.bel.size HBD.out.size)) (Kd.S_mono (Kd.S_elder' (HS2.out.below HBD.out).row (fun k_ e_ => Kd.R_base ho6 k_ e_) hb6) (fun _ h_ => h_.2)) AG.out).mono ?_
            rintro e w10 ⟨rfl, vo2, hS10, hM10⟩
            refine ⟨_, rfl, ?_⟩
            have HS10 := Aside0.mk hS10
            have HM10 := Aside0.mk (OMv.trans (OMv.below HM.out HB9.out) hM10)
            have hcg10 := (blk_cell ((hM10.block (HS2.out.below HB9.out) ((HB9.out.block gg (blk_lt hbg')).trans hbg') (by decide) (by decide))) 0).trans rfl
            have hcw10 := (blk_cell ((hM10.block (HS2.out.below HB9.out) ((HB9.out.block gw (blk_lt hbw')).trans hbw') (by decide) (by decide))) 0).trans rfl
            clear hS10 hM10
            refine hK.out _ _ (hcg10) (fun hHeld => ?_)
            clear hK K
            refine norm_ (a' := ?_) ?_ ?_
            rotate_left
            · show Act.put _ (some 53) _ = _
              simp only [Act.put, List.setIfInBounds_toArray, List.set_cons_zero, List.set_cons_succ, i64_w, i32_w]
              rfl
            refine done_ (by kernel_rfl) ?_
            try go_wp2
            go_roundg g
            case measure => omega
            case rel => exact ⟨o + 1, vo2, r1, by first | rfl | (simp [*]; done) | go_num, ⟨by omega, by omega, by omega⟩, HA2, ⟨HS10.out.below (by repeat (first | (with_reducible first | exact Below.refl _ _ | apply below_alloc | apply pw_below_drewN | apply below_drew1) | exact Below.refl _ _))⟩, ⟨HM10.out.below (by repeat (first | (with_reducible first | exact Below.refl _ _ | apply below_alloc | apply pw_below_drewN | apply below_drew1) | exact Below.refl _ _))⟩⟩
          · have c4 : decide ((offs.length : Int) + 1 < n) = true := decide_eq_true (by omega)
            clear hs
            go_wp2
            refine start_ (n := 8) (S := fun w' => w'.cell? ⟨gg, 0, none⟩ = some (.func (.func 59) #[] #[.pointer (some ⟨gn, 0, none⟩), .pointer (some ⟨gw, 0, none⟩), .pointer (some ⟨go, 0, none⟩), .pointer (some ⟨gg, 0, none⟩)])) (ds := []) #[false, false, false, false, false, false, false, false] (by kernel_rfl) rfl rfl hcg' (fun hHeld => ?_)
            have HBD := Aside0.mk (below_drew (Below.refl wr.heap.size wr))
            generalize wr.drew = wd at hHeld HBD ⊢
            refine pure_ (i := 2) (N := some 48) (v := ?_) (a' := ?_) #[false, false, true, false, false, false, false, false] rfl rfl (by kernel_rfl) (fun _ _ _ h => h) (Or.inl ⟨by rfl, ?_⟩) ?_ ?_
            rotate_left
            · intro w'
              go_simp
              with_reducible rfl
            rotate_left
            · simp only [Act.put, List.setIfInBounds_toArray, List.set_cons_zero, List.set_cons_succ, i64_w, i32_w]
              rfl
            refine pure_ (i := 4) (N := some 50) (v := ?_) (a' := ?_) #[false, false, true, false, true, false, false, false] rfl rfl (by kernel_rfl) (fun _ _ _ h => h) (Or.inl ⟨by rfl, ?_⟩) ?_ ?_
            rotate_left
            · intro w'
              go_simp
              with_reducible rfl
            rotate_left
            · simp only [Act.put, List.setIfInBounds_toArray, List.set_cons_zero, List.set_cons_succ, i64_w, i32_w]
              rfl
            refine take_ (i := 0) (N := some 46) (v := ?_) (a' := ?_) #[true, false, true, false, true, false, false, false] rfl rfl (by kernel_rfl) (fun _ _ _ h => h) (Or.inl ⟨by rfl, ?_⟩) hHeld ?_ ?_
            rotate_left
            · intro w' s0
              go_simp
              with_reducible rfl
            rotate_left
            · simp only [Act.put, List.setIfInBounds_toArray, List.set_cons_zero, List.set_cons_succ, i64_w, i32_w]
              rfl
            have hHeld0 := hHeld
            have HAD := Aside0.mk (Kd.R_below HA'.out HBD.out)
            refine join_ (σ := Value × Value × Value) 2 #[true, true, true, true, true, true, false, false] (fun s => [(47, s.1), (49, s.2.1), (51, s.2.2)]) (fun s w' => w'.cell? ⟨gg, 0, none⟩ = some (.func (.func 59) #[] #[.pointer (some ⟨gn, 0, none⟩), .pointer (some ⟨gw, 0, none⟩), .pointer (some ⟨go, 0, none⟩), .pointer (some ⟨gg, 0, none⟩)]) ∧ Below wd.heap.size wd w' ∧ Kd.R (Kd.int .i64) 3 w' wd.heap.size (fun _ => True) s.2.1 offs ∧ Kd.R (Kd.int .i64) 3 w' wd.heap.size (fun k_ => True ∧ some k_ ≠ s.2.1.ownBlock) s.2.2 [o]) ?_ ?_
            rotate_left
            · intro hCont
              refine two_ (i := 1) (j := 5) (Ni := some 47) (Nj := some 51) #[true, true, true, false, true, false, false, false] #[true, false, true, false, true, true, false, false] rfl rfl rfl rfl (by kernel_rfl) (by decide) (by decide) (fun K hK => ?_) (fun K hK => ?_)
              · skip
                refine Kd.R_lit_step (Kd.int .i64) (w0 := wd) wd.heap.size 3 (by rfl) (N := 47) rfl (xs := ([] : List Int)) (inner := []) (ok := fun _ => True) (okp := fun _ => True) ?hr1 (Reps.none _ _) (fun _ hk => hk) trivial (Below.refl _ _) (Nat.le_refl _) (by simp) ?_
                case hr1 => first | (go_simp; done) | (go_simp; rfl)
                intro v47 w1 ho1 hb1 hg1 hn1
                refine hK.out _ _ ((hb1.cell (World.block_lt_of_cell? _ _ hHeld)).trans hHeld) (fun hHeld => ?_)
                clear hK K
                refine norm_ (a' := ?_) ?_ ?_
                rotate_left
                · show Act.put _ (some 47) _ = _
                  simp only [Act.put, List.setIfInBounds_toArray, List.set_cons_zero, List.set_cons_succ, i64_w, i32_w]
                  rfl
                refine two_ (i := 3) (j := 5) (Ni := some 49) (Nj := some 51) #[true, true, true, true, true, false, false, false] #[true, true, true, false, true, true, false, false] rfl rfl rfl rfl (by kernel_rfl) (by decide) (by decide) (fun K hK => ?_) (fun K hK => ?_)
                · skip
                  refine Kd.R_append_rows_step (Kd.int .i64) (w0 := wd) wd.heap.size (by rfl) (.tmp 47) (.tmp 48) 22 3 (.int .i64 0) 8 rfl Try.underlying22 info3 rfl (by decide) (by omega) v47 [] offs (some ad) offs.length c (fun _ => True) (fun _ => False) rfl rfl ho1 (Kd.C_below (Kd.R_reads' HAD.out).2.2 hb1) (fun _ _ h_ => h_) (fun _ h_ => h_.elim) (fun _ _ => trivial) hb1 hb1.size (by simp only [List.length_nil]; omega) ?_
                  intro v49 w3 ho3 hb3 hg3 hat3
                  rw [List.nil_append] at ho3
                  refine hK.out _ _ ((hb3.cell (World.block_lt_of_cell? _ _ hHeld0)).trans hHeld0) (fun hHeld => ?_)
                  clear hK K
                  refine norm_ (a' := ?_) ?_ ?_
                  rotate_left
                  · show Act.put _ (some 49) _ = _
                    simp only [Act.put, List.setIfInBounds_toArray, List.set_cons_zero, List.set_cons_succ, i64_w, i32_w]
                    rfl
                  refine one_ (i := 5) (N := some 51) #[true, true, true, true, true, true, false, false] rfl rfl (by kernel_rfl) (by decide) (fun K hK => ?_)
                  refine Kd.R_lit_step (Kd.int .i64) (w0 := w3) w3.heap.size 3 (by rfl) (N := 51) rfl (xs := ([o] : List Int)) (inner := [.int .i64 o]) (ok := fun _ => True) (okp := fun _ => True) ?hr5 (Reps.one (show Kd.M (Kd.int .i64) _ _ _ o [.int .i64 o] from rfl) (Reps.none _ _)) (fun _ hk => hk) trivial (Below.refl _ _) (Nat.le_refl _) (by simp) ?_
                  case hr5 => first | (go_simp; done) | (go_simp; rfl)
                  intro v51 w5 ho5 hb5 hg5 hn5
                  refine hK.out _ _ ((hb5.cell (World.block_lt_of_cell? _ _ hHeld)).trans hHeld) (fun hHeld => ?_)
                  clear hK K
                  refine norm_ (a' := ?_) ?_ ?_
                  rotate_left
                  · show Act.put _ (some 51) _ = _
                    simp only [Act.put, List.setIfInBounds_toArray, List.set_cons_zero, List.set_cons_succ, i64_w, i32_w]
                    rfl
                  exact norm_ (by simp only [putAll, Act.put, List.setIfInBounds_toArray, List.set_cons_zero, List.set_cons_succ]) (hCont (v47, v49, v51) _ ⟨hHeld, below_step hb3 hb5, Kd.R_below ho3 hb5, Kd.R_lower (Kd.R_new' ho5 (Kd.R_lt ho3)) hb3.size⟩)
                · skip
                  refine Kd.R_lit_step (Kd.int .i64) (w0 := w1) w1.heap.size 3 (by rfl) (N := 51) rfl (xs := ([o] : List Int)) (inner := [.int .i64 o]) (ok := fun _ => True) (okp := fun _ => True) ?hr5 (Reps.one (show Kd.M (Kd.int .i64) _ _ _ o [.int .i64 o] from rfl) (Reps.none _ _)) (fun _ hk => hk) trivial (Below.refl _ _) (Nat.le_refl _) (by simp) ?_
                  case hr5 => first | (go_simp; done) | (go_simp; rfl)
                  intro v51 w5 ho5 hb5 hg5 hn5
                  refine hK.out _ _ ((hb5.cell (World.block_lt_of_cell? _ _ hHeld)).trans hHeld) (fun hHeld => ?_)
                  clear hK K
                  refine norm_ (a' := ?_) ?_ ?_
                  rotate_left
                  · show Act.put _ (some 51) _ = _
                    simp only [Act.put, List.setIfInBounds_toArray, List.set_cons_zero, List.set_cons_succ, i64_w, i32_w]
                    rfl
                  refine one_ (i := 3) (N := some 49) #[true, true, true, true, true, true, false, false] rfl rfl (by kernel_rfl) (by decide) (fun K hK => ?_)
                  refine Kd.R_append_rows_step (Kd.int .i64) (w0 := wd) wd.heap.size (by rfl) (.tmp 47) (.tmp 48) 22 3 (.int .i64 0) 8 rfl Try.underlying22 info3 rfl (by decide) (by omega) v47 [] offs (some ad) offs.length c (fun _ => True) (fun _ => False) rfl rfl (Kd.R_below ho1 hb5) (Kd.C_below (Kd.R_reads' HAD.out).2.2 (below_step hb1 hb5)) (fun _ _ h_ => h_) (fun _ h_ => h_.elim) (fun _ _ => trivial) (below_step hb1 hb5) (below_step hb1 hb5).size (by simp only [List.length_nil]; omega) ?_
                  intro v49 w3 ho3 hb3 hg3 hat3
                  rw [List.nil_append] at ho3
                  refine hK.out _ _ ((hb3.cell (World.block_lt_of_cell? _ _ hHeld0)).trans hHeld0) (fun hHeld => ?_)
                  clear hK K
                  refine norm_ (a' := ?_) ?_ ?_
                  rotate_left
                  · show Act.put _ (some 49) _ = _
                    simp only [Act.put, List.setIfInBounds_toArray, List.set_cons_zero, List.set_cons_succ, i64_w, i32_w]
                    rfl
                  exact norm_ (by simp only [putAll, Act.put, List.setIfInBounds_toArray, List.set_cons_zero, List.set_cons_succ]) (hCont (v47, v49, v51) _ ⟨hHeld, hb3, ho3, Kd.R_after (ok := fun _ => True) (Kd.R_lower (Kd.R_new' ho5 (Kd.R_lt ho1)) hb1.size) hg3 hat3⟩)
              · skip
                refine Kd.R_lit_step (Kd.int .i64) (w0 := wd) wd.heap.size 3 (by rfl) (N := 51) rfl (xs := ([o] : List Int)) (inner := [.int .i64 o]) (ok := fun _ => True) (okp := fun _ => True) ?hr5 (Reps.one (show Kd.M (Kd.int .i64) _ _ _ o [.int .i64 o] from rfl) (Reps.none _ _)) (fun _ hk => hk) trivial (Below.refl _ _) (Nat.le_refl _) (by simp) ?_
                case hr5 => first | (go_simp; done) | (go_simp; rfl)
                intro v51 w5 ho5 hb5 hg5 hn5
                refine hK.out _ _ ((hb5.cell (World.block_lt_of_cell? _ _ hHeld)).trans hHeld) (fun hHeld => ?_)
                clear hK K
                refine norm_ (a' := ?_) ?_ ?_
                rotate_left
                · show Act.put _ (some 51) _ = _
                  simp only [Act.put, List.setIfInBounds_toArray, List.set_cons_zero, List.set_cons_succ, i64_w, i32_w]
                  rfl
                refine one_ (i := 1) (N := some 47) #[true, true, true, false, true, true, false, false] rfl rfl (by kernel_rfl) (by decide) (fun K hK => ?_)
                refine Kd.R_lit_step (Kd.int .i64) (w0 := w5) w5.heap.size 3 (by rfl) (N := 47) rfl (xs := ([] : List Int)) (inner := []) (ok := fun _ => True) (okp := fun _ => True) ?hr1 (Reps.none _ _) (fun _ hk => hk) trivial (Below.refl _ _) (Nat.le_refl _) (by simp) ?_
                case hr1 => first | (go_simp; done) | (go_simp; rfl)
                intro v47 w1 ho1 hb1 hg1 hn1
                refine hK.out _ _ ((hb1.cell (World.block_lt_of_cell? _ _ hHeld)).trans hHeld) (fun hHeld => ?_)
                clear hK K
                refine norm_ (a' := ?_) ?_ ?_
                rotate_left
                · show Act.put _ (some 47) _ = _
                  simp only [Act.put, List.setIfInBounds_toArray, List.set_cons_zero, List.set_cons_succ, i64_w, i32_w]
                  rfl
                refine one_ (i := 3) (N := some 49) #[true, true, true, true, true, true, false, false] rfl rfl (by kernel_rfl) (by decide) (fun K hK => ?_)
                refine Kd.R_append_rows_step (Kd.int .i64) (w0 := wd) wd.heap.size (by rfl) (.tmp 47) (.tmp 48) 22 3 (.int .i64 0) 8 rfl Try.underlying22 info3 rfl (by decide) (by omega) v47 [] offs (some ad) offs.length c (fun _ => True) (fun _ => False) rfl rfl (Kd.R_lower ho1 hb5.size) (Kd.C_below (Kd.R_reads' HAD.out).2.2 (below_step hb5 hb1)) (fun _ _ h_ => h_) (fun _ h_ => h_.elim) (fun _ _ => trivial) (below_step hb5 hb1) (below_step hb5 hb1).size (by simp only [List.length_nil]; omega) ?_
                intro v49 w3 ho3 hb3 hg3 hat3
                rw [List.nil_append] at ho3
                refine hK.out _ _ ((hb3.cell (World.block_lt_of_cell? _ _ hHeld0)).trans hHeld0) (fun hHeld => ?_)
                clear hK K
                refine norm_ (a' := ?_) ?_ ?_
                rotate_left
                · show Act.put _ (some 49) _ = _
                  simp only [Act.put, List.setIfInBounds_toArray, List.set_cons_zero, List.set_cons_succ, i64_w, i32_w]
                  rfl
                exact norm_ (by simp only [putAll, Act.put, List.setIfInBounds_toArray, List.set_cons_zero, List.set_cons_succ]) (hCont (v47, v49, v51) _ ⟨hHeld, hb3, ho3, Kd.R_after (ok := fun _ => True) (Kd.R_elder' ho5 (fun k_ e_ => Kd.R_base ho1 k_ e_) hb1) hg3 hat3⟩)
            rintro ⟨v47, v49, v51⟩ w8 ⟨hHeld, hb8, hr49, hr51⟩
            obtain ⟨A5, c5, e5⟩ := Kd.R_slice hr51
            subst e5
            refine norm_ (a' := ?_) ?_ ?_
            rotate_left
            · simp only [putAll, Act.put, List.setIfInBounds_toArray, List.set_cons_zero, List.set_cons_succ]
              rfl
            refine one_ (i := 6) (N := some 52) #[true, true, true, true, true, true, true, false] rfl rfl (by kernel_rfl) (by decide) (fun K hK => ?_)
            refine Kd.R_append_rows_step (Kd.int .i64) (w0 := wd) wd.heap.size (by rfl) (.tmp 49) (.tmp 51) 22 3 (.int .i64 0) 8 rfl Try.underlying22 info3 rfl (by decide) (by omega) v49 offs [o] A5 [o].length c5 (fun _ => True) (fun _ => False) rfl rfl hr49 (Kd.R_reads' hr51).2.2 (fun _ _ h_ => h_) (fun _ h_ => h_.elim) (fun _ _ => trivial) hb8 hb8.size (by simp only [List.length_singleton]; omega) ?_
            intro v52 w9 ho6 hb6 hg6 hat6
            refine hK.out _ _ ((hb6.cell (World.block_lt_of_cell? _ _ hHeld0)).trans hHeld0) (fun hHeld => ?_)
            clear hK K
            refine norm_ (a' := ?_) ?_ ?_
            rotate_left
            · show Act.put _ (some 52) _ = _
              simp only [Act.put, List.setIfInBounds_toArray, List.set_cons_zero, List.set_cons_succ, i64_w, i32_w]
              rfl
            obtain ⟨A6, c6, e6⟩ := Kd.R_slice ho6
            subst e6
            refine one_ (i := 7) (N := some 53) #[true, true, true, true, true, true, true, true] rfl rfl (by kernel_rfl) (by decide) (fun K hK => ?_)
            have he := enters_ (P := Try.prog) Try.func59 (by kernel_rfl) rfl #[.slice A6 (offs ++ [o]).length c6, .pointer (some ⟨gn, 0, none⟩), .pointer (some ⟨gw, 0, none⟩), .pointer (some ⟨go, 0, none⟩), .pointer (some ⟨gg, 0, none⟩)] w9
            refine call_ 59 #[.slice A6 (offs ++ [o]).length c6, .pointer (some ⟨gn, 0, none⟩), .pointer (some ⟨gw, 0, none⟩), .pointer (some ⟨go, 0, none⟩), .pointer (some ⟨gg, 0, none⟩)] (by rfl) rfl (by unfold execOp; simp [resolve, Deferred.ofValue, invoke, Act.eval, he]) ?_
            have HB9 := Aside0.mk (below_step HBD.out hb6)
            refine (ih (offs ++ [o]) out' r1 A6 c6 vo' w9 (by rw [List.length_append, List.length_singleton]; omega) (by simp) (by rw [rd_snoc_O]; omega) (by rw [rd_snoc_O]; omega) ((HB9.out.block gn (blk_lt hbn')).trans hbn') ((HB9.out.block gw (blk_lt hbw')).trans hbw') ((HB9.out.block gg (blk_lt hbg')).trans hbg') (HS2.out.below HB9.out) (Kd.R_lower ho6 (Nat.le_trans HS2.out.bel.size HBD.out.size)) (Kd.S_mono (Kd.S_elder' (HS2.out.below HBD.out).row (fun k_ e_ => Kd.R_base ho6 k_ e_) hb6) (fun _ h_ => h_.2)) AG.out).mono ?_
            rintro e w10 ⟨rfl, vo2, hS10, hM10⟩
            refine ⟨_, rfl, ?_⟩
            have HS10 := Aside0.mk hS10
            have HM10 := Aside0.mk (OMv.trans (OMv.below HM.out HB9.out) hM10)
            have hcg10 := (blk_cell ((hM10.block (HS2.out.below HB9.out) ((HB9.out.block gg (blk_lt hbg')).trans hbg') (by decide) (by decide))) 0).trans rfl
            have hcw10 := (blk_cell ((hM10.block (HS2.out.below HB9.out) ((HB9.out.block gw (blk_lt hbw')).trans hbw') (by decide) (by decide))) 0).trans rfl
            clear hS10 hM10
            refine hK.out _ _ (hcg10) (fun hHeld => ?_)
            clear hK K
            refine norm_ (a' := ?_) ?_ ?_
            rotate_left
            · show Act.put _ (some 53) _ = _
              simp only [Act.put, List.setIfInBounds_toArray, List.set_cons_zero, List.set_cons_succ, i64_w, i32_w]
              rfl
            refine done_ (by kernel_rfl) ?_
            try go_wp2
            go_roundg g
            case measure => omega
            case rel => exact ⟨o + 1, vo2, r1, by first | rfl | (simp [*]; done) | go_num, ⟨by omega, by omega, by omega⟩, HA2, ⟨HS10.out.below (by repeat (first | (with_reducible first | exact Below.refl _ _ | apply below_alloc | apply pw_below_drewN | apply below_drew1) | exact Below.refl _ _))⟩, ⟨HM10.out.below (by repeat (first | (with_reducible first | exact Below.refl _ _ | apply below_alloc | apply pw_below_drewN | apply below_drew1) | exact Below.refl _ _))⟩⟩
theorem run_store_func_O {P : Program} {w : World} {a : Addr} {m : Mode} (fn : Fn) (f c : Array Value) : (store a (.func fn f c) m).run P w = stored P w a (.func fn f c) m := run_store P w a _ m rfl
attribute [local go_sem] run_store_func_O
set_option maxHeartbeats 8000000 in
set_option maxRecDepth 100000 in
theorem impl_openPatterns.calls (k : Nat) (a0 a1 : Int) (r : List (List Int)) (w : World) (h : impl_openPatterns.f k a0 a1 = some r) :
    Calls Try.prog 40 #[.int .i64 a0, .int .i64 a1] w fun e w' => ∃ v0_ : Value, e = .returned v0_ ∧ Kd.S (Kd.slice 3 (Kd.int .i64)) 22 w' w.heap.size (fun _ => True) v0_ r ∧ Below w.heap.size w w' := by
  unfold impl_openPatterns.f at h
  by_cases hg : 1 ≤ a0 ∧ a0 ≤ 6 ∧ 0 ≤ a1 ∧ a1 ≤ 60
  · rw [if_pos hg] at h
    obtain ⟨g1, g2, g3, g4⟩ := hg
    have AH := Aside0.mk h
    clear h
    have HB := Aside0.mk (Below.refl w.heap.size w)
    go_enter Try.func40, Try.ntmps40
    go_wp2_with (first | ((with_reducible refine gate_dst (N := 2) rfl ?_); refine box_event ?hg (N := 2) ?hd (cs := #[.int .i64 a0]) (t := 3) ?hr ?_; (case hd => rfl); (case hg => rfl); (case hr => first | (go_simp; done) | (go_simp; rfl)); intro gn hg_ w2 hbx hb; have n0_ := Aside0.mk (below_step (by repeat (first | (with_reducible first | exact HB.out | apply below_alloc | apply pw_below_drewN | apply below_drew1) | exact HB.out)) hb); have GEXN := Aside0.mk ((by rw [hg_]; exact (below_size (by repeat (first | (with_reducible first | exact HB.out | apply below_alloc | apply pw_below_drewN | apply below_drew1) | exact HB.out)))) : w.heap.size ≤ gn); have XN := Aside0.mk hbx; clear HB; have HB := n0_; clear n0_; clear hb hbx hg_) | ((with_reducible refine gate_dst (N := 3) rfl ?_); refine box_event ?hg (N := 3) ?hd (cs := #[.int .i64 a1]) (t := 3) ?hr ?_; (case hd => rfl); (case hg => rfl); (case hr => first | (go_simp; done) | (go_simp; rfl)); intro gw hg_ w3 hbx hb; have n_XN := Aside0.mk ((hb.block _ (blk_lt XN.out)).trans XN.out); clear XN; have XN := n_XN; clear n_XN; have n0_ := Aside0.mk (below_step (by repeat (first | (with_reducible first | exact HB.out | apply below_alloc | apply pw_below_drewN | apply below_drew1) | exact HB.out)) hb); have GEXW := Aside0.mk ((by rw [hg_]; exact (below_size (by repeat (first | (with_reducible first | exact HB.out | apply below_alloc | apply pw_below_drewN | apply below_drew1) | exact HB.out)))) : w.heap.size ≤ gw); have XW := Aside0.mk hbx; clear HB; have HB := n0_; clear n0_; clear hb hbx hg_) | ((with_reducible refine gate_dst (N := 7) rfl ?_); refine Kd.S_lit (Kd.slice 3 (Kd.int .i64)) _ 22 ?hg (N := 7) ?hd (xs := ([] : List (List Int))) (inner := []) (ok := fun _ => True) (okp := fun _ => True) ?hr ?hp (fun _ hk => hk) trivial (Below.refl _ _) (Nat.le_refl _) (by simp) ?_; (case hd => rfl); (case hg => rfl); (case hr => first | (go_simp; done) | (go_simp; rfl)); (case hp => exact (Reps.none _ _)); intro v7 w7 ho hb hg_ hnew_; clear hg_ hnew_; have n_XN := Aside0.mk ((hb.block _ (blk_lt XN.out)).trans XN.out); clear XN; have XN := n_XN; clear n_XN; have n_XW := Aside0.mk ((hb.block _ (blk_lt XW.out)).trans XW.out); clear XW; have XW := n_XW; clear n_XW; have HO := Aside0.mk (Kd.S_lower ho (below_size (by repeat (first | (with_reducible first | exact HB.out | apply below_alloc | apply pw_below_drewN | apply below_drew1) | exact HB.out)))); have n1_ := Aside0.mk (below_step (by repeat (first | (with_reducible first | exact HB.out | apply below_alloc | apply pw_below_drewN | apply below_drew1) | exact HB.out)) hb); clear HB; have HB := n1_; clear n1_ hb ho; obtain ⟨A7, c7, e7⟩ := Kd.S_slice HO.out; subst e7) | ((with_reducible refine gate_dst (N := 5) rfl ?_); refine box_event ?hg (N := 5) ?hd (cs := #[.slice none 0 0]) (t := 36) ?hr ?_; (case hd => rfl); (case hg => rfl); (case hr => first | (go_simp; done) | (go_simp; rfl)); intro go hg_ w5 hbx hb; have n_XN := Aside0.mk ((hb.block _ (blk_lt XN.out)).trans XN.out); clear XN; have XN := n_XN; clear n_XN; have n_XW := Aside0.mk ((hb.block _ (blk_lt XW.out)).trans XW.out); clear XW; have XW := n_XW; clear n_XW; have n0_ := Aside0.mk (below_step (by repeat (first | (with_reducible first | exact HB.out | apply below_alloc | apply pw_below_drewN | apply below_drew1) | exact HB.out)) hb); have GEXO := Aside0.mk ((by rw [hg_]; exact (below_size (by repeat (first | (with_reducible first | exact HB.out | apply below_alloc | apply pw_below_drewN | apply below_drew1) | exact HB.out)))) : w.heap.size ≤ go); have XO := Aside0.mk hbx; have n5_ := Aside0.mk (Kd.S_below HO.out hb); clear HO; have HO := n5_; clear n5_; have hc5 : w5.cell? ⟨go, 0, none⟩ = some (.slice none 0 0) := (blk_cell XO.out 0).trans rfl; have hf5 : w5.frozen? ⟨go, 0, none⟩ = false := blk_frozen XO.out 0; clear HB; have HB := n0_; clear n0_; clear hb hbx hg_) | ((with_reducible refine gate_store (t := 36) (p := 5) rfl ?_); refine store_event (t := 36) (p := 5) (v := ?vo_w5) (w1 := (w5.setCell ⟨go, 0, none⟩ (.slice A7 ([] : List (List Int)).length c7))) ?hg ?ho ?hn ?hr ?_; (case ho => rfl); (case hg => rfl); (case hn => rfl); (case hr => first | (go_simp; done) | (go_simp; rfl)); intro wS hw; have n0_ := Aside0.mk (show OSt w wS go _ [] from by rw [hw]; exact OSt.put XO.out HO.out HB.out GEXO.out); have n1_ := Aside0.mk (show wS.heap[gn]? = some (.cells #[.int .i64 a0] 3 (0, 0)) from by rw [hw]; exact blk_far XN.out (blk_ne XN.out XO.out (by decide)) _); have n2_ := Aside0.mk (show wS.heap[gw]? = some (.cells #[.int .i64 a1] 3 (0, 0)) from by rw [hw]; exact blk_far XW.out (blk_ne XW.out XO.out (by decide)) _); clear HB HO XN XW XO hc5 hf5; have HS := n0_; have XN := n1_; have XW := n2_; clear n0_ n1_ n2_ hw; have HB := Aside0.mk (Below.refl wS.heap.size wS)) | ((with_reducible refine gate_dst (N := 6) rfl ?_); refine box_event ?hg (N := 6) ?hd (cs := #[.nilFunc]) (t := 63) ?hr ?_; (case hd => rfl); (case hg => rfl); (case hr => first | (go_simp; done) | (go_simp; rfl)); intro gg hg_ w6 hbx hb; have XG := Aside0.mk hbx; have GEG := Aside0.mk ((by rw [hg_]; exact Nat.le_trans HS.out.bel.size (below_size (by repeat (first | (with_reducible first | exact HB.out | apply below_alloc | apply pw_below_drewN | apply below_drew1) | exact HB.out)))) : w.heap.size ≤ gg); have n0_ := Aside0.mk (HS.out.below (below_step (by repeat (first | (with_reducible first | exact HB.out | apply below_alloc | apply pw_below_drewN | apply below_drew1) | exact HB.out)) hb)); clear HS; have HS := n0_; clear n0_; have hb2 := below_step (by repeat (first | (with_reducible first | exact HB.out | apply below_alloc | apply pw_below_drewN | apply below_drew1) | exact HB.out)) hb; have n_XN := Aside0.mk ((hb2.block _ (blk_lt XN.out)).trans XN.out); clear XN; have XN := n_XN; clear n_XN; have n_XW := Aside0.mk ((hb2.block _ (blk_lt XW.out)).trans XW.out); clear XW; have XW := n_XW; clear n_XW; clear HB hb hb2 hbx hg_; have hc6 : w6.cell? ⟨gg, 0, none⟩ = some (.nilFunc) := (blk_cell XG.out 0).trans rfl; have hf6 : w6.frozen? ⟨gg, 0, none⟩ = false := blk_frozen XG.out 0) | ((with_reducible refine gate_store (t := 63) (p := 6) rfl ?_); refine store_event (t := 63) (p := 6) (v := ?vo_w6) (w1 := (w6.setCell ⟨gg, 0, none⟩ (.func (.func 59) #[] #[.pointer (some ⟨gn, 0, none⟩), .pointer (some ⟨gw, 0, none⟩), .pointer (some ⟨go, 0, none⟩), .pointer (some ⟨gg, 0, none⟩)]))) ?hg ?ho ?hn ?hr ?_; (case ho => rfl); (case hg => rfl); (case hn => rfl); (case hr => first | (go_simp; done) | (go_simp; rfl)); intro wT hw; have hgo_ := blk_ne HS.out.box XG.out (by decide); have n0_ := Aside0.mk (show OSt w wT go _ [] from by rw [hw]; exact ⟨blk_far HS.out.box hgo_ _, Kd.S_set HS.out.row XG.out (by decide) 0 _, below_set HS.out.bel GEG.out, HS.out.ge⟩); have n1_ := Aside0.mk (show wT.heap[gn]? = some (.cells #[.int .i64 a0] 3 (0, 0)) from by rw [hw]; exact blk_far XN.out (blk_ne XN.out XG.out (by decide)) _); have n2_ := Aside0.mk (show wT.heap[gw]? = some (.cells #[.int .i64 a1] 3 (0, 0)) from by rw [hw]; exact blk_far XW.out (blk_ne XW.out XG.out (by decide)) _); have n3_ := Aside0.mk (show wT.heap[gg]? = some (.cells #[(.func (.func 59) #[] #[.pointer (some ⟨gn, 0, none⟩), .pointer (some ⟨gw, 0, none⟩), .pointer (some ⟨go, 0, none⟩), .pointer (some ⟨gg, 0, none⟩)])] 63 (0, 0)) from by rw [hw]; simpa using blk_set XG.out 0 (.func (.func 59) #[] #[.pointer (some ⟨gn, 0, none⟩), .pointer (some ⟨gw, 0, none⟩), .pointer (some ⟨go, 0, none⟩), .pointer (some ⟨gg, 0, none⟩)])); clear HS XN XW XG hc6 hf6 hgo_; have HS := n0_; have XN := n1_; have XW := n2_; have XG := n3_; clear n0_ n1_ n2_ n3_ hw; have hcT : wT.cell? ⟨gg, 0, none⟩ = some (.func (.func 59) #[] #[.pointer (some ⟨gn, 0, none⟩), .pointer (some ⟨gw, 0, none⟩), .pointer (some ⟨go, 0, none⟩), .pointer (some ⟨gg, 0, none⟩)]) := (blk_cell XG.out 0).trans rfl; have HB := Aside0.mk (Below.refl wT.heap.size wT)) | ((with_reducible refine gate_dst (N := 10) rfl ?_); refine Kd.R_lit (Kd.int .i64) _ 3 ?hg (N := 10) ?hd (xs := ([0] : List Int)) (inner := [.int .i64 0]) (ok := fun _ => True) (okp := fun _ => True) ?hr ?hp (fun _ hk => hk) trivial (Below.refl _ _) (Nat.le_refl _) (by simp) ?_; (case hd => rfl); (case hg => rfl); (case hr => first | (go_simp; done) | (go_simp; rfl)); (case hp => exact (Reps.one (show Kd.M (Kd.int .i64) _ _ _ 0 [.int .i64 0] from rfl) (Reps.none _ _))); intro v10 wU ho hb hg_ hnew_; clear hg_ hnew_; have hb2 := below_step (by repeat (first | (with_reducible first | exact HB.out | apply below_alloc | apply pw_below_drewN | apply below_drew1) | exact HB.out)) hb; have HO := Aside0.mk (Kd.R_lower ho (Nat.le_trans HS.out.bel.size (below_size (by repeat (first | (with_reducible first | exact HB.out | apply below_alloc | apply pw_below_drewN | apply below_drew1) | exact HB.out))))); have HD := Aside0.mk (Kd.S_mono (Kd.S_elder' (HS.out.below (by repeat (first | (with_reducible first | exact HB.out | apply below_alloc | apply pw_below_drewN | apply below_drew1) | exact HB.out))).row (fun k_ e_ => Kd.R_base ho k_ e_) hb) (fun _ h_ => h_.2)); have n0_ := Aside0.mk (HS.out.below hb2); clear HS; have HS := n0_; clear n0_; have n_XN := Aside0.mk ((hb2.block _ (blk_lt XN.out)).trans XN.out); clear XN; have XN := n_XN; clear n_XN; have n_XW := Aside0.mk ((hb2.block _ (blk_lt XW.out)).trans XW.out); clear XW; have XW := n_XW; clear n_XW; have n_XG := Aside0.mk ((hb2.block _ (blk_lt XG.out)).trans XG.out); clear XG; have XG := n_XG; clear n_XG; clear HB hb hb2 ho; obtain ⟨A10, c10, e10⟩ := Kd.R_slice HO.out; subst e10; have HB := Aside0.mk (Below.refl wU.heap.size wU)) | (go_at_call 59; refine (opGrow_calls k w gn gw go gg a0 a1 g3 g4 g2 (a0 - 1).toNat [0] [] r A10 c10 _ _ (by simp; omega) (by simp) (by decide) (by decide) ((HB.out.block _ (blk_lt XN.out)).trans XN.out) ((HB.out.block _ (blk_lt XW.out)).trans XW.out) ((HB.out.block _ (blk_lt XG.out)).trans XG.out) (HS.out.below HB.out) (Kd.R_below HO.out HB.out) (Kd.S_below HD.out HB.out) AH.out).mono ?_; rintro e wV ⟨rfl, voV, hSV, _⟩; have HSV := Aside0.mk hSV; have hcV : wV.cell? ⟨go, 0, none⟩ = some voV := (blk_cell hSV.box 0).trans rfl; clear hSV))
    go_ret
    exact ⟨_, rfl, by (with_reducible repeat (first | apply Kd.R_alloc | apply Kd.R_drewN | apply Kd.R_drew)); exact HSV.out.row, by exact HSV.out.bel⟩
  · rw [if_neg hg] at h; cases h

/-! ### impl_NarrowestOpen: function 17 -/
mutual
def impl_NarrowestOpen.j0 : Nat → Int → Bool → Option (List Int × Bool)
  | 0, _, _ => none
  | k + 1, x0, x11 => if x11 = true then (some (([] : List Int), false)) else (impl_NarrowestOpen.l0 k x0 0)
def impl_NarrowestOpen.l0 : Nat → Int → Int → Option (List Int × Bool)
  | 0, _, _ => none
  | k + 1, x0, x4 => (impl_openPatterns.f k x0 x4).bind fun t185 => (if (t185.length : Int) > 0 then (if 0 < (t185.length : Int) then (some (rd_L1 t185 0, true)) else (none)) else (impl_NarrowestOpen.l0 k x0 (wrap64 (x4 + 1))))
end
def impl_NarrowestOpen.f (k : Nat) (a0 : Int) : Option (List Int × Bool) := if a0 < 1 then (impl_NarrowestOpen.j0 k a0 true) else (impl_NarrowestOpen.j0 k a0 (decide (a0 > 6)))
theorem impl_NarrowestOpen.mono_l : ∀ k, (∀ y0 y1, LeO (impl_NarrowestOpen.j0 k y0 y1) (impl_NarrowestOpen.j0 (k + 1) y0 y1)) ∧ (∀ y0 y1, LeO (impl_NarrowestOpen.l0 k y0 y1) (impl_NarrowestOpen.l0 (k + 1) y0 y1))
  | 0 => ⟨fun _ _ r h => by simp [impl_NarrowestOpen.j0] at h, fun _ _ r h => by simp [impl_NarrowestOpen.l0] at h⟩
  | k + 1 => by
    obtain ⟨ih0, ih1⟩ := impl_NarrowestOpen.mono_l k
    refine ⟨?_, ?_⟩
    · intro y0 y1
      unfold impl_NarrowestOpen.j0
      repeat' first
      | (with_reducible exact ih0 _ _)
      | (with_reducible exact ih1 _ _)
      | (with_reducible exact impl_openPatterns.mono _ _ _)
      | (with_reducible exact LeO.refl _)
      | (with_reducible exact LeO.none _)
      | (with_reducible refine LeO.ite ?_ ?_)
      | (with_reducible refine LeO.bind ?_ (fun _ => ?_))
      | exact ih0 _ _
      | exact ih1 _ _
      | exact impl_openPatterns.mono _ _ _
      | exact LeO.none _
      | refine LeO.ite ?_ ?_
      | refine LeO.bind ?_ (fun _ => ?_)
    · intro y0 y1
      unfold impl_NarrowestOpen.l0
      repeat' first
      | (with_reducible exact ih0 _ _)
      | (with_reducible exact ih1 _ _)
      | (with_reducible exact impl_openPatterns.mono _ _ _)
      | (with_reducible exact LeO.refl _)
      | (with_reducible exact LeO.none _)
      | (with_reducible refine LeO.ite ?_ ?_)
      | (with_reducible refine LeO.bind ?_ (fun _ => ?_))
      | exact ih0 _ _
      | exact ih1 _ _
      | exact impl_openPatterns.mono _ _ _
      | exact LeO.none _
      | refine LeO.ite ?_ ?_
      | refine LeO.bind ?_ (fun _ => ?_)
theorem impl_NarrowestOpen.mono : ∀ a0 k, LeO (impl_NarrowestOpen.f k a0) (impl_NarrowestOpen.f (k + 1) a0) := by
  intro a0 k
  obtain ⟨ih0, ih1⟩ := impl_NarrowestOpen.mono_l k
  unfold impl_NarrowestOpen.f
  repeat' first
      | (with_reducible exact ih0 _ _)
      | (with_reducible exact ih1 _ _)
      | (with_reducible exact impl_openPatterns.mono _ _ _)
      | (with_reducible exact LeO.refl _)
      | (with_reducible exact LeO.none _)
      | (with_reducible refine LeO.ite ?_ ?_)
      | (with_reducible refine LeO.bind ?_ (fun _ => ?_))
      | exact ih0 _ _
      | exact ih1 _ _
      | exact impl_openPatterns.mono _ _ _
      | exact LeO.none _
      | refine LeO.ite ?_ ?_
      | refine LeO.bind ?_ (fun _ => ?_)
set_option maxHeartbeats 8000000 in
set_option maxRecDepth 100000 in
theorem impl_NarrowestOpen.calls (k : Nat) (a0 : Int) (r1 : List Int) (r2 : Bool) (w : World) (h : impl_NarrowestOpen.f k a0 = some (r1, r2)) :
    Calls Try.prog 17 #[.int .i64 a0] w fun e w' => ∃ v0_ : Value, e = .returned (.tuple #[v0_, .bool r2]) ∧ Kd.R (Kd.int .i64) 3 w' w.heap.size (fun _ => True) v0_ r1 ∧ Below w.heap.size w w' := by
  have HB := Aside0.mk (Below.refl w.heap.size w)
  have H : (if a0 < 1 then (impl_NarrowestOpen.j0 k a0 true) else (impl_NarrowestOpen.j0 k a0 (decide (a0 > 6)))) = some (r1, r2) := h
  clear h
  have HC2 := Aside0.mk H
  clear H
  go_enter Try.func17, Try.ntmps17
  go_upto_region 1 with (fail)
  go_cut [11] (fun v11 wc => ∃ (kq : Nat) (x11_1 : Bool), v11 = .bool x11_1 ∧ Aside0 (impl_NarrowestOpen.j0 kq a0 x11_1 = some (r1, r2)) ∧ Aside0 (kq ≤ k) ∧ Aside0 (Below w.heap.size w wc))
  case first =>
    have H := HC2.out
    clear HC2
    by_cases c3 : a0 < 1
    · rw [if_pos c3] at H
      have c3b0 : decide (a0 < 1) = true := decide_eq_true c3
      clear c3
      (first | rw [c3b0] | (simp only [i64_w, i32_w]; rw [c3b0]) | skip)
      have H' := Aside0.mk H
      clear H
      go_wp2
      go_meet
      case rel => exact ⟨_, (true), (by first | rfl | (simp; done) | (simp [*]; done)), H', ⟨by first | omega | exact Nat.le_refl _⟩, ⟨by repeat (first | (with_reducible first | exact HB.out | apply below_alloc | apply pw_below_drewN | apply below_drew1) | exact HB.out)⟩⟩
    · rw [if_neg c3] at H
      have c3b0 : decide (a0 < 1) = false := decide_eq_false c3
      clear c3
      (first | rw [c3b0] | (simp only [i64_w, i32_w]; rw [c3b0]) | skip)
      have H' := Aside0.mk H
      clear H
      go_wp2
      go_meet
      case rel => exact ⟨_, (decide (a0 > 6)), (by first | rfl | (simp; done) | (simp [*]; done)), H', ⟨by first | omega | exact Nat.le_refl _⟩, ⟨by repeat (first | (with_reducible first | exact HB.out | apply below_alloc | apply pw_below_drewN | apply below_drew1) | exact HB.out)⟩⟩
  case rest =>
    clear HC2
    try clear c1
    try clear p2
    try clear c3
    try clear c3b0
    obtain ⟨kq, x11_1, rfl, HA, HJ1, HB⟩ := hcut
    cases kq with
    | zero => exact absurd HA.out (by simp [impl_NarrowestOpen.j0])
    | succ kj1 =>
      have H := HA.out
      clear HA
      simp only [impl_NarrowestOpen.j0] at H
      by_cases c4 : x11_1 = true
      · subst c4
        have H1 : (some (([] : List Int), false)) = some (r1, r2) := by rw [if_pos rfl] at H; exact H
        clear H
        have H := H1
        clear H1
        simp only [Option.some.injEq, Prod.mk.injEq] at H
        obtain ⟨rfl, rfl⟩ := H
        go_wp2
        go_ret2
        exact ⟨_, by first | rfl | (simp [errW_none, errW_some] <;> rfl) | (simp [*, errW_none, errW_some] <;> rfl), by first | exact Kd.R_nil _ _ _ _ _ | exact Kd.N_nil _ _ _ _ _ | exact Kd.V_nil _ _ _ _ _ | exact Kd.Q_nil _ _ _ _ _ | exact Kd.S_nil _ _ _ _ _, by repeat (first | (with_reducible first | exact HB.out | apply below_alloc | apply pw_below_drewN | apply below_drew1) | exact HB.out)⟩
      · replace c4 := Bool.eq_false_iff.mpr c4
        subst c4
        have H1 : (impl_NarrowestOpen.l0 kj1 a0 0) = some (r1, r2) := by rw [if_neg (show ¬ (false = true) by decide)] at H; exact H
        clear H
        have H := H1
        clear H1
        have H' := Aside0.mk H
        clear H
        go_wp2
        go_loopg [4] kj1 (fun kq v4 w' => ∃ (x4_2 : Int), v4 = .int .i64 x4_2 ∧ Aside0 (impl_NarrowestOpen.l0 kq a0 x4_2 = some (r1, r2)) ∧ Aside0 (kq ≤ kj1) ∧ Aside0 (Below w.heap.size w w'))
        case atStart => exact ⟨(0), (by first | rfl | (simp; done) | (simp [*]; done)), H', ⟨Nat.le_refl _⟩, ⟨by repeat (first | (with_reducible first | exact HB.out | apply below_alloc | apply pw_below_drewN | apply below_drew1) | exact HB.out)⟩⟩
        case round =>
          clear H'
          try clear c1
          try clear p2
          try clear c3
          try clear c3b0
          try clear c4
          try clear p2
          obtain ⟨x4_2, rfl, HA, HK2, HB⟩ := hrel
          cases gk with
          | zero => exact absurd HA.out (by simp [impl_NarrowestOpen.l0])
          | succ k2 =>
            have H := HA.out
            clear HA
            simp only [impl_NarrowestOpen.l0] at H
            replace H := Option.bind_eq_some_iff.mp H
            obtain ⟨t185, A50, H⟩ := H
            replace H : (if (t185.length : Int) > 0 then (if 0 < (t185.length : Int) then (some (rd_L1 t185 0, true)) else (none)) else (impl_NarrowestOpen.l0 k2 a0 (wrap64 (x4_2 + 1)))) = some (r1, r2) := H
            have A5 := Aside0.mk A50
            clear A50
            by_cases c6 : (t185.length : Int) > 0
            · rw [if_pos c6] at H
              have c6b0 : decide (0 < (t185.length : Int)) = true := decide_eq_true c6
              have c6b1 : decide (0 < t185.length) = true := decide_eq_true (by omega)
              clear c6
              by_cases c7 : 0 < (t185.length : Int)
              · rw [if_pos c7] at H
                have c7b0 : decide (0 < (t185.length : Int)) = true := decide_eq_true c7
                have c7b1 : decide (0 < t185.length) = true := decide_eq_true (by omega)
                clear c7
                simp only [Option.some.injEq, Prod.mk.injEq] at H
                obtain ⟨rfl, rfl⟩ := H
                go_wp2_with (first | ((with_reducible refine gate_callee (f := 40) rfl ?_); refine goesL_ (some 16) rfl rfl Try.func40 (by kernel_rfl) rfl #[.int .i64 a0, .int .i64 x4_2] rfl (by (try simp only [List.map_toArray, List.map_cons, List.map_nil]); first | done | rfl | (simp only [List.length_drop, List.length_take]; rfl)) ?_; (with_reducible refine (impl_openPatterns.calls k2 a0 x4_2 t185 _ A5.out).mono ?_); rintro e w8 ⟨v186, rfl, ho0, hb⟩; refine ⟨_, rfl, ?_⟩; have n0_ := Aside0.mk (Kd.S_lower ho0 (below_size (by repeat (first | (with_reducible first | exact HB.out | apply below_alloc | apply pw_below_drewN | apply below_drew1) | exact HB.out)))); have n1_ := Aside0.mk (below_step (by repeat (first | (with_reducible first | exact HB.out | apply below_alloc | apply pw_below_drewN | apply below_drew1) | exact HB.out)) hb); clear HB; have HO187 := n0_; have HB := n1_; clear n0_ n1_; (try clear hb); (try clear hb2); (try clear hk); (try clear hi); (try clear ho0); obtain ⟨Ao9, co9, eo9⟩ := Kd.S_slice HO187.out; subst eo9; have p188 : 0 ≤ (0 : Int) := (by omega); have q188 : 0 < (t185.length : Int) := of_decide_eq_true (by first | (with_reducible assumption) | assumption); obtain ⟨ad188, A188_0, c188_0, e188, hx188_0, hl188_0, hi188_0⟩ := at_L1 (Kd.S_reads' HO187.out).2.2 0 p188 q188; cases e188; obtain ⟨ce188, hce188, hMe188, hcc188⟩ := Kd.S_get HO187.out [] 0 p188 (by first | exact q188 | exact of_decide_eq_true (by first | (with_reducible assumption) | assumption) | (have e_ := (Kd.S_reads' HO187.out).1; omega)); obtain ⟨ve188_0, rfl, ge188_0⟩ := hMe188; have hv188_0 := hcc188 0 _ rfl; rw [Nat.add_zero, show ((Kd.slice 3 (Kd.int .i64))).sz = 1 from rfl, Nat.mul_one] at hv188_0; replace hv188_0 := Option.some.inj (hv188_0.symm.trans hx188_0); rw [hv188_0] at ge188_0; have HL188_0 := Aside0.mk (show Kd.R (Kd.int .i64) 3 _ _ _ _ (rd_L1 t185 0) from ge188_0); clear hv188_0 ge188_0; clear hcc188 hce188; have qi188 : (0 < t185.length) = True := eq_true (by omega); (try rw [show ((0 : Int)).toNat = 0 from rfl] at hx188_0); (try rw [Addr.add_zero'] at hx188_0); have HR188_0 := Aside0.mk hi188_0; have HC188_0 := Aside0.mk hl188_0; clear hi188_0 hl188_0; replace p188 := eq_true p188; replace q188 := eq_true q188))
                go_ret2
                exact ⟨_, by first | rfl | (simp [errW_none, errW_some] <;> rfl) | (simp [*, errW_none, errW_some] <;> rfl), by (with_reducible repeat (first | apply Kd.R_alloc | apply Kd.R_drewN | apply Kd.R_drew)); exact Kd.R_mono HL188_0.out (fun _ hk => trivial), by repeat (first | (with_reducible first | exact HB.out | apply below_alloc | apply pw_below_drewN | apply below_drew1) | exact HB.out)⟩
              · rw [if_neg c7] at H
                exact absurd H (by simp)
            · rw [if_neg c6] at H
              have c6b0 : decide (0 < (t185.length : Int)) = false := decide_eq_false c6
              have c6b1 : decide (0 < t185.length) = false := decide_eq_false (by omega)
              clear c6
              have H' := Aside0.mk H
              clear H
              go_wp2_with (first | ((with_reducible refine gate_callee (f := 40) rfl ?_); refine goesL_ (some 16) rfl rfl Try.func40 (by kernel_rfl) rfl #[.int .i64 a0, .int .i64 x4_2] rfl (by (try simp only [List.map_toArray, List.map_cons, List.map_nil]); first | done | rfl | (simp only [List.length_drop, List.length_take]; rfl)) ?_; (with_reducible refine (impl_openPatterns.calls k2 a0 x4_2 t185 _ A5.out).mono ?_); rintro e w10 ⟨v186, rfl, ho0, hb⟩; refine ⟨_, rfl, ?_⟩; have n0_ := Aside0.mk (Kd.S_lower ho0 (below_size (by repeat (first | (with_reducible first | exact HB.out | apply below_alloc | apply pw_below_drewN | apply below_drew1) | exact HB.out)))); have n1_ := Aside0.mk (below_step (by repeat (first | (with_reducible first | exact HB.out | apply below_alloc | apply pw_below_drewN | apply below_drew1) | exact HB.out)) hb); clear HB; have HO187 := n0_; have HB := n1_; clear n0_ n1_; (try clear hb); (try clear hb2); (try clear hk); (try clear hi); (try clear ho0); obtain ⟨Ao11, co11, eo11⟩ := Kd.S_slice HO187.out; subst eo11))
              go_roundg k2
              case measure => have := HJ1.out; have := HK2.out; omega
              case rel => exact ⟨(wrap64 (x4_2 + 1)), (by first | rfl | (simp; done) | (simp [*]; done)), H', ⟨by have := HJ1.out; have := HK2.out; omega⟩, ⟨by repeat (first | (with_reducible first | exact HB.out | apply below_alloc | apply pw_below_drewN | apply below_drew1) | exact HB.out)⟩⟩

/-! ### spec_l1Own: function 46 -/
def spec_l1Own.f (l0 : List Int) : Option (List Int) := (some (([] : List Int) : List Int)).bind fun y189 => (if y189.length + l0.length < 17592186044416 then (some (y189 ++ l0)) else (none))
set_option maxHeartbeats 8000000 in
set_option maxRecDepth 100000 in
theorem spec_l1Own.calls (A0 : Option Addr) (c0 : Nat) (l0 : List Int) (r : List Int) (w : World) (hr0 : Kd.C (Kd.int .i64) w A0 l0.length l0) (hc0 : l0.length ≤ c0) (h : spec_l1Own.f l0 = some r) :
    Calls Try.prog 46 #[.slice A0 l0.length c0] w fun e w' => ∃ v0_ : Value, e = .returned (v0_) ∧ Kd.R (Kd.int .i64) 3 w' w.heap.size (fun _ => True) v0_ r ∧ Below w.heap.size w w' := by
  have HR0 := Aside0.mk hr0
  have HC0 := Aside0.mk hc0
  clear hr0 hc0
  have HB := Aside0.mk (Below.refl w.heap.size w)
  have H : ((some (([] : List Int) : List Int)).bind fun y189 => (if y189.length + l0.length < 17592186044416 then (some (y189 ++ l0)) else (none))) = some r := h
  clear h
  obtain ⟨y189, hy189⟩ : ∃ y_ : List Int, y_ = (([] : List Int)) := ⟨_, rfl⟩
  replace H : (if y189.length + l0.length < 17592186044416 then (some (y189 ++ l0)) else (none)) = some r := by first | (rw [hy189]; with_reducible exact H) | (have H2_ := (Option.bind_some _ _).symm.trans H; rw [hy189]; with_reducible exact H2_) | (have H2_ := (Option.bind_some _ _).symm.trans H; with_reducible exact H2_) | with_reducible exact H | (rw [hy189]; exact H) | exact H
  have Ny189 := Aside0.mk hy189
  clear hy189
  by_cases c2 : y189.length + l0.length < 17592186044416
  · rw [if_pos c2] at H
    have LMc2 := Aside0.mk c2
    clear c2
    obtain ⟨y192, hy192⟩ : ∃ y_ : List Int, y_ = (y189 ++ l0) := ⟨_, rfl⟩
    replace H : (some y192) = some r := by first | (rw [hy192]; with_reducible exact H) | (have H2_ := (Option.bind_some _ _).symm.trans H; rw [hy192]; with_reducible exact H2_) | (have H2_ := (Option.bind_some _ _).symm.trans H; with_reducible exact H2_) | with_reducible exact H | (rw [hy192]; exact H) | exact H
    have Ny192 := Aside0.mk hy192
    clear hy192
    obtain rfl := Option.some.inj H
    go_enter Try.func46, Try.ntmps46
    go_wp2_with (first | ((with_reducible refine gate_dst (N := 3) rfl ?_); refine Kd.R_lit (Kd.int .i64) _ 3 ?hg (N := 3) ?hd (xs := ([] : List Int)) (inner := []) (ok := fun _ => True) (okp := fun _ => True) ?hr ?hp (fun _ hk => hk) trivial (Below.refl _ _) (Nat.le_refl _) (by simp) ?_; (case hd => rfl); (case hg => rfl); (case hr => first | (go_simp; done) | (go_simp; rfl)); (case hp => exact (Reps.none _ _)); intro v190 w3 ho4 hb hg_ hnew_; clear hg_ hnew_; (first | rw [← Ny189.out] at ho4 | (simp only [Int.reduceToNat] at ho4; rw [← Ny189.out] at ho4)); have n0_ := Aside0.mk (Kd.R_lower ho4 (below_size (by repeat (first | (with_reducible first | exact HB.out | apply below_alloc | apply pw_below_drewN | apply below_drew1) | exact HB.out)))); have n1_ := Aside0.mk (below_step (by repeat (first | (with_reducible first | exact HB.out | apply below_alloc | apply pw_below_drewN | apply below_drew1) | exact HB.out)) hb); clear HB; have HO191 := n0_; have HB := n1_; clear n0_ n1_; clear hb ho4) | ((with_reducible refine gate_builtin (b := .append) (xs := #[.tmp 3, .tmp 4]) rfl ?_); at_builtin; refine Kd.R_append_rows (Kd.int .i64) (w0 := w) w.heap.size rfl (.tmp 3) (.tmp 4) 22 3 (.int .i64 0) 8 rfl Try.underlying22 info3 rfl (by decide) (by omega) v190 y189 l0 _ _ _ (fun _ => True) (fun _ => False) rfl rfl ?aO ?aR (fun _ _ h => h) (fun _ h => h.elim) ?aF ?aB ?aS ?aL ?_; (case aR => repeat (first | exact (Kd.C_below HR0.out HB.out) | (with_reducible refine Kd.C_alloc ?_ _) | (with_reducible refine Kd.C_drewN ?_ _) | (with_reducible refine Kd.C_drew ?_))); (case aB => exact (by repeat (first | (with_reducible first | exact HB.out | apply below_alloc | apply pw_below_drewN | apply below_drew1) | exact HB.out))); (case aF => exact (fun _ _ => trivial)); (case aO => exact (by (with_reducible repeat (first | apply Kd.R_alloc | apply Kd.R_drewN | apply Kd.R_drew)); exact HO191.out)); (case aS => exact (below_size (by repeat (first | (with_reducible first | exact HB.out | apply below_alloc | apply pw_below_drewN | apply below_drew1) | exact HB.out)))); (case aL => have := LMc2.out; omega); intro v193 w5 ho hb hg hat; rw [← Ny192.out] at ho; have n0_ := Aside0.mk (hb); have n1_ := Aside0.mk (ho); clear HB; clear HO191; have HB := n0_; have HO194 := n1_; clear n0_ n1_; clear ho hb hg hat))
    go_ret
    exact ⟨_, by first | rfl | (simp [errW_none, errW_some] <;> rfl) | (simp [*, errW_none, errW_some] <;> rfl), by (with_reducible repeat (first | apply Kd.R_alloc | apply Kd.R_drewN | apply Kd.R_drew)); exact HO194.out, by repeat (first | (with_reducible first | exact HB.out | apply below_alloc | apply pw_below_drewN | apply below_drew1) | exact HB.out)⟩
  · rw [if_neg c2] at H
    exact absurd H (by simp)

/-! ### spec_l1Most: function 70 -/
def spec_l1Most.f (a0 : Int) (a1 : Int) : Option (Int) := if a0 > a1 then (some a0) else (some a1)
set_option maxHeartbeats 8000000 in
set_option maxRecDepth 100000 in
theorem spec_l1Most.calls (a0 : Int) (a1 : Int) (r : Int) (w : World) (h : spec_l1Most.f a0 a1 = some r) :
    Calls Try.prog 70 #[.int .i64 a0, .int .i64 a1] w fun e w' => e = .returned (.int .i64 r) ∧ Drawn0 w w' := by
  have H : (if a0 > a1 then (some a0) else (some a1)) = some r := h
  clear h
  by_cases c3 : a0 > a1
  · rw [if_pos c3] at H
    have c3b0 : decide (a1 < a0) = true := decide_eq_true c3
    clear c3
    obtain rfl := Option.some.inj H
    go_enter Try.func70, Try.ntmps70
    go_wp2
    go_ret
    exact ⟨by first | rfl | (simp; done) | (simp [*]; done), by repeat (first | exact Drawn0.refl _ | apply Drawn0.step)⟩
  · rw [if_neg c3] at H
    have c3b0 : decide (a1 < a0) = false := decide_eq_false c3
    clear c3
    obtain rfl := Option.some.inj H
    go_enter Try.func70, Try.ntmps70
    go_wp2
    go_ret
    exact ⟨by first | rfl | (simp; done) | (simp [*]; done), by repeat (first | exact Drawn0.refl _ | apply Drawn0.step)⟩

end Go.Proofs.Ytbdapgjgjllojaa.PFnPatternsOpenOfAll
