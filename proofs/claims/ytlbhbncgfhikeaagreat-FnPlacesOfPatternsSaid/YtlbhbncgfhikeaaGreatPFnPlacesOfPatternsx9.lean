-- Written for this claim by a program of this session, out of the translation and given contracts.
import Derived.Test.YtlbhbncgfhikeaaGreatPFnPlacesOfPatternsx0
import Derived.Test.YtlbhbncgfhikeaaGreatPFnPlacesOfPatternsx3
import Derived.Test.YtlbhbncgfhikeaaGreatPFnPlacesOfPatternsx4
import Derived.Test.YtlbhbncgfhikeaaGreatPFnPlacesOfPatternsx6
import Derived.Test.YtlbhbncgfhikeaaGreatPFnPlacesOfPatternsx8
namespace Go.Proofs.YtlbhbncgfhikeaaGreat.PFnPlacesOfPatterns
open Go.RowKit Go.Proofs.YtlbhbncgfhikeaaGreatW.PrintWords Go.Proofs.YtlbhbncgfhikeaaGreatW.PrintLast Go.Proofs.YtlbhbncgfhikeaaGreatW.PrintMore
attribute [local go_sem] max2_int min2_int max_two min_two max_three min_three max_four min_four   -- for this text's walks alone
set_option linter.unusedVariables false
set_option linter.unusedSimpArgs false

/-! ### impl_PrimePlaces: function 19 (its contract is proved by hand) -/
def ppOne (k : Nat) (n o : Int) : Option Bool := (impl_isPrime.f k (wrap64 (n + o))).bind fun b => some (!b)
def ppAny (k : Nat) (l0 : List Int) (n : Int) : Option Bool := (delKeep (ppOne k n) l0).bind fun r => some (decide (r.length < l0.length))
def impl_PrimePlaces.f (k : Nat) (l0 : List Int) (a1 : Int) : Option (List Int × Bool) := (impl_isPattern.f k l0).bind fun b => if b = true then ((impl_isMost.f a1).bind fun t => if t = true then ((impl_upTo.f k 1 a1 1).bind fun l => (delKeep (ppAny k l0) l).bind fun r => some (r, true)) else some (([] : List Int), false)) else some (([] : List Int), false)
theorem ppOne_mono (n o : Int) (k : Nat) : LeO (ppOne k n o) (ppOne (k + 1) n o) := LeO.bind (impl_isPrime.mono _ _) fun _ => LeO.refl _
theorem ppAny_mono (l0 : List Int) (n : Int) (k : Nat) : LeO (ppAny k l0 n) (ppAny (k + 1) l0 n) := LeO.bind (delKeep_mono (fun o => ppOne_mono n o k) _) fun _ => LeO.refl _
theorem impl_PrimePlaces.mono : ∀ a0 a1 k, LeO (impl_PrimePlaces.f k a0 a1) (impl_PrimePlaces.f (k + 1) a0 a1) := by
  intro a0 a1 k
  unfold impl_PrimePlaces.f
  exact LeO.bind (impl_isPattern.mono _ _) fun _ => LeO.ite (LeO.bind (LeO.refl _) fun _ => LeO.ite (LeO.bind (impl_upTo.mono _ _ _ _) fun _ => LeO.bind (delKeep_mono (fun x => ppAny_mono a0 x k) _) fun _ => LeO.refl _) (LeO.refl _)) (LeO.refl _)
/-- One is found exactly if what is not found is less. -/
theorem idx_some (p : Int → Bool) (l : List Int) : decide (idxOf p l ≥ 0) = decide ((l.filter fun x => !p x).length < l.length) := by
  unfold idxOf
  by_cases h : l.findIdx p < l.length
  · rw [if_pos h]
    have h1 : (l.filter fun x => !p x).length < l.length := by
      have h2 := List.length_filter_lt_length_iff_exists (l := l) (p := fun x => !p x)
      refine h2.2 ⟨_, List.getElem_mem h, ?_⟩
      have := List.findIdx_getElem (w := h)
      simp [this]
    rw [decide_eq_true h1, decide_eq_true (by omega)]
  · rw [if_neg h]
    have h1 : l.findIdx p = l.length := by have := List.findIdx_le_length (xs := l) (p := p); omega
    have h2 : l.filter (fun x => !p x) = l := by
      rw [List.filter_eq_self]
      intro x hx
      rw [List.findIdx_eq_length.1 h1 x hx]; rfl
    rw [h2, decide_eq_false (by omega), decide_eq_false (by omega)]
set_option maxHeartbeats 2000000 in
set_option maxRecDepth 100000 in
theorem idxq_calls (p : Int → Bool) (g : Nat) (q : Value) (A0 : Option Addr) (c0 : Nat) (l0 : List Int) (w : World) (hlen : l0.length ≤ 9223372036854775807)
    (hp : ∀ (x : Int) (W : World), x ∈ l0 → Below w.heap.size w W → Calls Tryz.prog g #[.int .i64 x, q] W fun e w' => e = .returned (.bool (p x)) ∧ Below W.heap.size W w')
    (eg : ∀ args w, (callFunc g args).run Tryz.prog w = .ok (.enter g args) w)
    (hr0 : Kd.C (Kd.int .i64) w A0 l0.length l0) :
    Calls Tryz.prog 83 #[.slice A0 l0.length c0, .func (.func g) #[] #[q]] w fun e w' => e = .returned (.int .i64 (idxOf p l0)) ∧ Below w.heap.size w w' := by
  have HR0 := Aside0.mk hr0
  have HP := Aside0.mk hp
  clear hr0 hp
  go_enter Tryz.func83, Tryz.ntmps83
  go_wp2
  go_loopg [5, 8] l0.length (fun gg v5 v8 wr => ∃ kk : Nat, kk ≤ l0.length ∧ l0.length - kk ≤ gg ∧ v8 = .int .i64 kk ∧ Aside0 (Below w.heap.size w wr) ∧ Aside0 (∀ j, (hj : j < l0.length) → j < kk → p l0[j] = false))
  case atStart => exact ⟨0, by omega, by omega, rfl, ⟨Below.refl _ w⟩, ⟨fun j _ hj => absurd hj (Nat.not_lt_zero _)⟩⟩
  case round =>
    obtain ⟨kk, hkk, hgg, rfl, HB, HN⟩ := hrel
    by_cases hlt : kk < l0.length
    · have hltz : (kk : Int) < (l0.length : Int) := by omega
      have c1 : decide ((kk : Int) < (l0.length : Int)) = true := decide_eq_true hltz
      obtain ⟨ad, e1, hx⟩ := Kd.at_int (Kd.C_below HR0.out HB.out) (kk : Int) (by omega) hltz
      cases e1
      rw [rd_nat l0 kk hlt, Int.toNat_natCast] at hx
      have hcall := HP.out l0[kk] wr (List.getElem_mem hlt) HB.out
      cases hq : p l0[kk] with
      | true =>
        rw [hq] at hcall
        have HC := Aside0.mk hcall
        have HQ := Aside0.mk hq
        clear hcall hq
        generalize hy : l0[kk] = y at hx HC
        have HY := Aside0.mk hy
        clear hy
        go_wp2_with fail
        refine HC.out.mono ?_
        rintro e w' ⟨rfl, hb'⟩
        have HB2 := Aside0.mk (below_step HB.out hb')
        clear hb'
        go_wp2
        go_ret
        refine ⟨?_, HB2.out⟩
        have : l0.findIdx p = kk := by
          rw [List.findIdx_eq hlt]
          exact ⟨HQ.out, fun j hj => HN.out j (by omega) hj⟩
        unfold idxOf
        rw [this, if_pos hlt]
        rfl
      | false =>
        rw [hq] at hcall
        have HC := Aside0.mk hcall
        have HQ := Aside0.mk hq
        clear hcall hq
        generalize hy : l0[kk] = y at hx HC
        have HY := Aside0.mk hy
        clear hy
        go_wp2_with fail
        refine HC.out.mono ?_
        rintro e w' ⟨rfl, hb'⟩
        have HB2 := Aside0.mk (below_step HB.out hb')
        clear hb'
        go_wp2
        go_roundg (l0.length - (kk + 1))
        case measure => omega
        case rel =>
          refine ⟨kk + 1, by omega, by omega, by go_num, ⟨HB2.out⟩, ⟨fun j hj hjk => ?_⟩⟩
          by_cases he : j = kk
          · subst he; exact HQ.out
          · exact HN.out j hj (by omega)
    · have hltz : ¬ (kk : Int) < (l0.length : Int) := by omega
      have c1 : decide ((kk : Int) < (l0.length : Int)) = false := decide_eq_false hltz
      have hk : kk = l0.length := by omega
      have HK := Aside0.mk hk
      clear hk
      go_wp2
      go_ret
      refine ⟨?_, HB.out⟩
      have : ¬ l0.findIdx p < l0.length := by
        intro hc
        have := List.findIdx_getElem (w := hc)
        rw [HN.out _ hc (by rw [HK.out]; exact hc)] at this
        cases this
      unfold idxOf
      rw [if_neg this]
      rfl
set_option maxHeartbeats 4000000 in
set_option maxRecDepth 100000 in
theorem delq_calls (p : Int → Bool) (g : Nat) (q : Value) (P0 : Nat → Prop) (v : Value) (l0 : List Int) (w0 w : World) (hlen : l0.length ≤ 9223372036854775807)
    (hp : ∀ (x : Int) (W : World), x ∈ l0 → Below w0.heap.size w0 W → Calls Tryz.prog g #[.int .i64 x, q] W fun e w' => e = .returned (.bool (p x)) ∧ Below W.heap.size W w')
    (eg : ∀ args w, (callFunc g args).run Tryz.prog w = .ok (.enter g args) w)
    (hB : Below w0.heap.size w0 w) (ho : Kd.R (Kd.int .i64) 3 w w0.heap.size P0 v l0) :
    Calls Tryz.prog 53 #[v, .func (.func g) #[] #[q]] w fun e w' => ∃ v', e = .returned v' ∧ Kd.R (Kd.int .i64) 3 w' w0.heap.size P0 v' (l0.filter (fun x => !p x)) ∧ Below w0.heap.size w0 w' := by
  obtain ⟨A, c, rfl⟩ := Kd.R_slice ho
  have HO := Aside0.mk ho
  have HB := Aside0.mk hB
  have HI := Aside0.mk (idxq_calls p g q A c l0 w hlen (fun x W hx hb_ => hp x W hx (below_step hB hb_)) eg (Kd.R_reads' ho).2.2)
  have HP := Aside0.mk hp
  clear ho hB hp
  by_cases hnone : l0.findIdx p < l0.length
  · obtain ⟨k0, hk0⟩ : ∃ k0, k0 = l0.findIdx p := ⟨_, rfl⟩
    have hidx : idxOf p l0 = (k0 : Int) := by unfold idxOf; rw [if_pos hnone, hk0]
    have hk : k0 < l0.length := by omega
    have hpk : p l0[k0] = true := by subst hk0; exact List.findIdx_getElem (w := hnone)
    have hpj : ∀ j, (hj : j < l0.length) → j < k0 → p l0[j] = false := fun j hj hjk => by
      subst hk0
      simpa using List.not_of_lt_findIdx hjk
    rw [hidx] at HI
    have HF := Aside0.mk (And.intro hpk hpj)
    clear hk0 hidx hnone hpk hpj
    obtain ⟨gg0, cc0, ev, gb, gl, cl, hcl⟩ := Kd.R_form HO.out (by omega)
    injection ev with e1 e2 e3
    subst e1 e3
    clear e2
    have HG := Aside0.mk (And.intro gb (And.intro gl hcl))
    clear gb gl hcl
    have hcap := (Kd.R_reads' HO.out).2.1
    have hne1 : ((k0 : Int) == -1) = false := beq_eq_false_iff_ne.2 (by omega)
    go_enter Tryz.func53, Tryz.ntmps53
    go_wp2_with fail
    refine HI.out.mono ?_
    rintro e w1 ⟨rfl, hb1⟩
    have HO1 := Aside0.mk (Kd.R_below HO.out hb1)
    have HB1 := Aside0.mk (below_step HB.out hb1)
    clear HO HB HI hb1
    go_wp2
    go_loopg [5, 6, 7] l0.length (fun gg v5 v6 v7 wr => ∃ (i j : Nat) (dk : List Int), v5 = .int .i64 i ∧ v6 = .int .i64 j ∧ j ≤ l0.length ∧ i < j ∧ l0.length - j ≤ gg ∧ Aside0 (Kd.R (Kd.int .i64) 3 wr w0.heap.size P0 (.slice (some ⟨gg0, 0, none⟩) l0.length c) dk) ∧ Aside0 (Below w0.heap.size w0 wr) ∧ Aside0 (dk.length = l0.length ∧ dk.take i = (l0.take j).filter (fun x => !p x) ∧ dk.drop j = l0.drop j))
    case atStart =>
      refine ⟨k0, k0 + 1, l0, rfl, by go_num, by omega, by omega, by omega, HO1, HB1, ⟨rfl, ?_, rfl⟩⟩
      have : l0.take (k0 + 1) = l0.take k0 ++ [l0[k0]] := List.take_succ_eq_append_getElem hk
      rw [this, List.filter_append, List.filter_cons, HF.out.1]
      simp only [Bool.not_true, Bool.false_eq_true, if_false, List.filter_nil, List.append_nil]
      symm
      rw [List.filter_eq_self]
      intro x hx
      obtain ⟨j, hj, rfl⟩ := List.getElem_of_mem hx
      rw [List.length_take] at hj
      rw [List.getElem_take, HF.out.2 j (by omega) (by omega)]; rfl
    case round =>
      obtain ⟨i, j, dk, rfl, rfl, hj, hij, hgg, HR, HBr, HD⟩ := hrel
      by_cases hlt : j < l0.length
      · have hltz : (j : Int) < (l0.length : Int) := by omega
        have c1 : decide ((j : Int) < (l0.length : Int)) = true := decide_eq_true hltz
        have hdl := HD.out.1
        have hgetj : dk[j]'(by omega) = l0[j] := by
          have h1 : (dk.drop j)[0]'(by rw [List.length_drop]; omega) = (l0.drop j)[0]'(by rw [List.length_drop]; omega) := by simp only [HD.out.2.2]
          simpa using h1
        obtain ⟨hx, hfz⟩ := Kd.R_celln 0 HR.out (j : Int) (by omega) (by omega)
        have hrdj : rdOf 0 dk (j : Int) = l0[j] := by
          unfold rdOf; rw [Int.toNat_natCast, List.getD_eq_getElem?_getD, List.getElem?_eq_getElem (by omega)]; exact hgetj
        rw [hrdj, Int.toNat_natCast] at hx
        rw [Int.toNat_natCast] at hfz
        have hcall := HP.out l0[j] wr (List.getElem_mem hlt) HBr.out
        have hsn : (l0.take (j + 1)).filter (fun x => !p x) = (l0.take j).filter (fun x => !p x) ++ (if p l0[j] = true then [] else [l0[j]]) := by
          rw [List.take_succ_eq_append_getElem hlt, List.filter_append, List.filter_cons]
          cases p l0[j] <;> simp
        have hdrop : l0.drop (j + 1) = (l0.drop j).drop 1 := by rw [List.drop_drop]
        have HS := Aside0.mk (And.intro hsn hdrop)
        have HJ := Aside0.mk (And.intro hdl hrdj)
        clear hsn hdrop hdl hrdj hgetj
        cases hq : p l0[j] with
        | true =>
          rw [hq] at hcall
          have HC := Aside0.mk hcall
          have HQ := Aside0.mk hq
          clear hcall hq
          generalize hy : l0[j] = y at hx HC HQ
          have HY := Aside0.mk hy
          clear hy
          go_wp2_with fail
          refine HC.out.mono ?_
          rintro e w2 ⟨rfl, hb2⟩
          have HR2 := Aside0.mk (Kd.R_below HR.out hb2)
          have HB2 := Aside0.mk (below_step HBr.out hb2)
          clear hb2 HR HBr
          go_wp2
          go_roundg (l0.length - (j + 1))
          case measure => omega
          case rel =>
            refine ⟨i, j + 1, dk, rfl, by go_num, by omega, by omega, by omega, HR2, HB2, ⟨HD.out.1, ?_, ?_⟩⟩
            · rw [HS.out.1, HY.out, HQ.out]; simpa using HD.out.2.1
            · rw [HS.out.2, ← HD.out.2.2, List.drop_drop]
        | false =>
          rw [hq] at hcall
          have HC := Aside0.mk hcall
          have HQ := Aside0.mk hq
          clear hcall hq
          generalize hy : l0[j] = y at hx HC HQ
          have HY := Aside0.mk hy
          clear hy
          go_wp2_with fail
          refine HC.out.mono ?_
          rintro e w2 ⟨rfl, hb2⟩
          have HR2 := Aside0.mk (Kd.R_below HR.out hb2)
          have HB2 := Aside0.mk (below_step HBr.out hb2)
          clear hb2 HR HBr
          obtain ⟨hx2, hf2⟩ := Kd.R_celln 0 HR2.out (i : Int) (by omega) (by omega)
          rw [Int.toNat_natCast] at hx2 hf2
          have HP2 := Kd.R_putg HR2.out (i : Int) y
          rw [Int.toNat_natCast] at HP2
          have HP3 := Aside0.mk HP2
          clear HP2 hx hfz
          have hiz : (i : Int) < (l0.length : Int) := by omega
          go_wp2
          go_roundg (l0.length - (j + 1))
          case measure => omega
          case rel =>
            refine ⟨i + 1, j + 1, dk.set i y, by go_num, by go_num, by omega, by omega, by omega, ⟨HP3.out.1⟩, ⟨below_set HB2.out HG.out.1⟩, ⟨by rw [List.length_set]; exact HD.out.1, ?_, ?_⟩⟩
            · rw [HS.out.1, HY.out, HQ.out, take_set_snoc dk i y (by have := HD.out.1; omega), HD.out.2.1]; rfl
            · rw [HS.out.2, ← HD.out.2.2, List.drop_drop, List.drop_set_of_lt (by omega)]
      · have hltz : ¬ (j : Int) < (l0.length : Int) := by omega
        have c1 : decide ((j : Int) < (l0.length : Int)) = false := decide_eq_false hltz
        obtain ⟨ys, hys, hyt, hyl⟩ := fill_zero (v0 := .bool true) (l0.length - i) i wr dk HR.out
        have HY := Aside0.mk (And.intro hys (And.intro hyt hyl))
        clear hys hyt hyl
        have hdl := Aside0.mk HD.out.1
        have hcl : ∀ ty, (Builtin.clear_ #[24] ty #[.slice (some ⟨gg0, i, none⟩) (l0.length - i) (c - i)]).run Tryz.prog wr = .ok (.tuple #[]) (wr.setCells gg0 i (List.replicate (l0.length - i) (.int .i64 0))) :=
          fun ty => Lib.run_clear_slice wr _ _ ty _ Tryz.underlying24 (fun _ => by kernel_rfl) rfl rfl gg0 i _ _ (by omega)
            (fun m hm => by
              have := (Kd.R_celln 0 HR.out ((i + m : Nat) : Int) (by omega) (by omega)).1
              rw [Int.toNat_natCast] at this; rw [this]; rfl)
            (fun m hm => by
              have := (Kd.R_celln 0 HR.out ((i + m : Nat) : Int) (by omega) (by omega)).2
              rw [Int.toNat_natCast] at this; exact this)
        go_wp2
        go_ret
        refine ⟨_, rfl, ?_, HBr.out.trans (Lib.below_setCells_w HG.out.1 _ _ _)⟩
        have ht := Kd.R_take HY.out.1 (m := i) (by rw [HY.out.2.2, hdl.out]; omega)
        rw [HY.out.2.1, HD.out.2.1, List.take_of_length_le (by omega)] at ht
        exact ht
  · have hidx : idxOf p l0 = -1 := by unfold idxOf; rw [if_neg hnone]
    rw [hidx] at HI
    have hall : l0.filter (fun x => !p x) = l0 := by
      rw [List.filter_eq_self]
      intro x hx
      have : l0.findIdx p = l0.length := by have := List.findIdx_le_length (xs := l0) (p := p); omega
      have h2 := List.findIdx_eq_length.1 this x hx
      rw [h2]; rfl
    have HA := Aside0.mk hall
    clear hidx hnone hall
    go_enter Tryz.func53, Tryz.ntmps53
    go_wp2_with fail
    refine HI.out.mono ?_
    rintro e w1 ⟨rfl, hb1⟩
    have HO1 := Aside0.mk (Kd.R_below HO.out hb1)
    have HB1 := Aside0.mk (below_step HB.out hb1)
    clear HO HB HI hb1
    go_wp2
    go_ret
    exact ⟨_, rfl, by rw [HA.out]; exact HO1.out, HB1.out⟩
set_option maxHeartbeats 4000000 in
set_option maxRecDepth 100000 in
theorem pp2_calls (k : Nat) (gb : Nat) (n o : Int) (r : Bool) (w : World) (hbox : w.cell? ⟨gb, 0, none⟩ = some (.int .i64 n)) (h : ppOne k n o = some r) :
    Calls Tryz.prog 57 #[.int .i64 o, .pointer (some ⟨gb, 0, none⟩)] w fun e w' => e = .returned (.bool r) ∧ Below w.heap.size w w' := by
  have HX := Aside0.mk hbox
  have HB := Aside0.mk (Below.refl w.heap.size w)
  clear hbox
  unfold ppOne at h
  obtain ⟨b, h1, h⟩ := Option.bind_eq_some_iff.mp h
  have A1 := Aside0.mk h1
  clear h1
  obtain rfl := Option.some.inj h
  clear h
  have hcX := HX.out
  go_enter Tryz.func57, Tryz.ntmps57
  go_wp2_with (go_at_call 58; refine (impl_isPrime.calls k (wrap64 (n + o)) b _ A1.out).mono ?_; rintro e w' ⟨rfl, ⟨nd, rfl⟩⟩)
  go_ret
  exact ⟨by first | rfl | simp, by repeat (first | (with_reducible first | exact HB.out | apply below_alloc | apply pw_below_drewN | apply below_drew1) | exact HB.out)⟩
set_option maxHeartbeats 4000000 in
set_option maxRecDepth 100000 in
theorem con_calls (p : Int → Bool) (g : Nat) (q : Value) (A0 : Option Addr) (c0 : Nat) (l0 : List Int) (w : World) (hlen : l0.length ≤ 9223372036854775807)
    (hp : ∀ (x : Int) (W : World), x ∈ l0 → Below w.heap.size w W → Calls Tryz.prog g #[.int .i64 x, q] W fun e w' => e = .returned (.bool (p x)) ∧ Below W.heap.size W w')
    (eg : ∀ args w, (callFunc g args).run Tryz.prog w = .ok (.enter g args) w)
    (hr0 : Kd.C (Kd.int .i64) w A0 l0.length l0) :
    Calls Tryz.prog 56 #[.slice A0 l0.length c0, .func (.func g) #[] #[q]] w fun e w' => e = .returned (.bool (decide (idxOf p l0 ≥ 0))) ∧ Below w.heap.size w w' := by
  have HI := Aside0.mk (idxq_calls p g q A0 c0 l0 w hlen hp eg hr0)
  clear hp eg hr0
  go_enter Tryz.func56, Tryz.ntmps56
  go_wp2_with fail
  refine HI.out.mono ?_
  rintro e w' ⟨rfl, hb⟩
  go_wp2
  go_ret
  exact ⟨by first | rfl | simp, hb⟩
set_option maxHeartbeats 4000000 in
set_option maxRecDepth 100000 in
theorem pp1_calls (k : Nat) (gb : Nat) (A0 : Option Addr) (c0 : Nat) (l0 : List Int) (n : Int) (r : Bool) (w : World) (hlen : l0.length ≤ 9223372036854775807) (hbox : w.cell? ⟨gb, 0, none⟩ = some (.slice A0 l0.length c0)) (hr0 : Kd.C (Kd.int .i64) w A0 l0.length l0) (h : ppAny k l0 n = some r) :
    Calls Tryz.prog 55 #[.int .i64 n, .pointer (some ⟨gb, 0, none⟩)] w fun e w' => e = .returned (.bool r) ∧ Below w.heap.size w w' := by
  have HX := Aside0.mk hbox
  have HR0 := Aside0.mk hr0
  have HB := Aside0.mk (Below.refl w.heap.size w)
  clear hbox hr0
  unfold ppAny at h
  obtain ⟨l, h1, h⟩ := Option.bind_eq_some_iff.mp h
  obtain rfl := Option.some.inj h
  clear h
  obtain ⟨h4, h5⟩ := delKeep_some h1
  rw [h5, ← idx_some (fun x => (ppOne k n x).getD false) l0]
  have A4 := Aside0.mk h4
  clear h1 h4 h5
  go_enter Tryz.func55, Tryz.ntmps55
  go_wp2_with (first | ((with_reducible refine gate_dst (N := 2) rfl ?_); refine box_event ?hg (N := 2) ?hd (cs := #[.int .i64 n]) (t := 3) ?hr ?_; (case hd => rfl); (case hg => rfl); (case hr => first | (go_simp; done) | (go_simp; rfl)); intro gn hg w4 hbox hb; have n0_ := Aside0.mk (below_step (by repeat (first | (with_reducible first | exact HB.out | apply below_alloc | apply pw_below_drewN | apply below_drew1) | exact HB.out)) hb); have n1_ := Aside0.mk hbox; have n3_ := Aside0.mk ((by rw [hg]; exact (below_size (by repeat (first | (with_reducible first | exact HB.out | apply below_alloc | apply pw_below_drewN | apply below_drew1) | exact HB.out)))) : w.heap.size ≤ gn); clear HB; have HB := n0_; have BKN := n1_; have GEN := n3_; clear n0_ n1_ n3_; clear hb hbox hg; have hcN_0 : w4.cell? ⟨gn, 0, none⟩ = some (.int .i64 n) := (blk_cell BKN.out 0).trans rfl; have hcS := (HB.out.cell (World.block_lt_of_cell? w _ HX.out)).trans HX.out) | (go_at_call 56; refine (con_calls (fun x => (ppOne k n x).getD false) 57 (.pointer (some ⟨gn, 0, none⟩)) A0 c0 l0 _ hlen (fun x W hx hb_ => pp2_calls k gn n x _ W ((hb_.cell (World.block_lt_of_cell? _ _ hcN_0)).trans hcN_0) (A4.out x hx)) (enters_ Tryz.func57 (by kernel_rfl) rfl) (Kd.C_below HR0.out HB.out)).mono ?_; rintro e w' ⟨rfl, hb⟩))
  go_ret
  exact ⟨by first | rfl | simp, by exact below_step HB.out hb⟩
set_option maxHeartbeats 4000000 in
set_option maxRecDepth 100000 in
theorem impl_PrimePlaces.calls (k : Nat) (A0 : Option Addr) (c0 : Nat) (l0 : List Int) (a1 : Int) (r1 : List Int) (r2 : Bool) (w : World) (hr0 : Kd.C (Kd.int .i64) w A0 l0.length l0) (hc0 : l0.length ≤ c0) (h : impl_PrimePlaces.f k l0 a1 = some (r1, r2)) :
    Calls Tryz.prog 19 #[.slice A0 l0.length c0, .int .i64 a1] w fun e w' => ∃ v0_ : Value, e = .returned (.tuple #[v0_, .bool r2]) ∧ Kd.R (Kd.int .i64) 3 w' w.heap.size (fun _ => True) v0_ r1 ∧ Below w.heap.size w w' := by
  have HR0 := Aside0.mk hr0
  have HC0 := Aside0.mk hc0
  have HB := Aside0.mk (Below.refl w.heap.size w)
  have hlen : l0.length ≤ 9223372036854775807 := Kd.C_max hr0
  clear hr0 hc0
  unfold impl_PrimePlaces.f at h
  obtain ⟨b, h1, h⟩ := Option.bind_eq_some_iff.mp h
  have A1 := Aside0.mk h1
  clear h1
  cases b with
  | false =>
    rw [if_neg (by simp)] at h
    injection h with h
    injection h with e1 e2
    subst e1 e2
    go_enter Tryz.func19, Tryz.ntmps19
    go_wp2_with (first | ((with_reducible refine gate_dst (N := 2) rfl ?_); refine box_event ?hg (N := 2) ?hd (cs := #[.slice A0 l0.length c0]) (t := 24) ?hr ?_; (case hd => rfl); (case hg => rfl); (case hr => first | (go_simp; done) | (go_simp; rfl)); intro gn hg w4 hbox hb; have n0_ := Aside0.mk (below_step (by repeat (first | (with_reducible first | exact HB.out | apply below_alloc | apply pw_below_drewN | apply below_drew1) | exact HB.out)) hb); have n1_ := Aside0.mk hbox; have n3_ := Aside0.mk ((by rw [hg]; exact (below_size (by repeat (first | (with_reducible first | exact HB.out | apply below_alloc | apply pw_below_drewN | apply below_drew1) | exact HB.out)))) : w.heap.size ≤ gn); clear HB; have HB := n0_; have BKN := n1_; have GEN := n3_; clear n0_ n1_ n3_; clear hb hbox hg; have hcN_0 : w4.cell? ⟨gn, 0, none⟩ = some (.slice A0 l0.length c0) := (blk_cell BKN.out 0).trans rfl) | (go_at_call 34; refine (impl_isPattern.calls k _ _ _ false _ ?sideP HC0.out A1.out).mono ?_; (case sideP => exact Kd.C_below HR0.out HB.out); rintro e w' ⟨rfl, ⟨nd, rfl⟩⟩))
    go_ret2
    exact ⟨_, rfl, Kd.R_nil _ _ _ _ _, by repeat (first | (with_reducible first | exact HB.out | apply below_alloc | apply pw_below_drewN | apply below_drew1) | exact HB.out)⟩
  | true =>
    rw [if_pos rfl] at h
    obtain ⟨t, h2, h⟩ := Option.bind_eq_some_iff.mp h
    have A2 := Aside0.mk h2
    clear h2
    cases t with
    | false =>
      rw [if_neg (by simp)] at h
      injection h with h
      injection h with e1 e2
      subst e1 e2
      go_enter Tryz.func19, Tryz.ntmps19
      go_wp2_with (first | ((with_reducible refine gate_dst (N := 2) rfl ?_); refine box_event ?hg (N := 2) ?hd (cs := #[.slice A0 l0.length c0]) (t := 24) ?hr ?_; (case hd => rfl); (case hg => rfl); (case hr => first | (go_simp; done) | (go_simp; rfl)); intro gn hg w4 hbox hb; have n0_ := Aside0.mk (below_step (by repeat (first | (with_reducible first | exact HB.out | apply below_alloc | apply pw_below_drewN | apply below_drew1) | exact HB.out)) hb); have n1_ := Aside0.mk hbox; have n3_ := Aside0.mk ((by rw [hg]; exact (below_size (by repeat (first | (with_reducible first | exact HB.out | apply below_alloc | apply pw_below_drewN | apply below_drew1) | exact HB.out)))) : w.heap.size ≤ gn); clear HB; have HB := n0_; have BKN := n1_; have GEN := n3_; clear n0_ n1_ n3_; clear hb hbox hg; have hcN_0 : w4.cell? ⟨gn, 0, none⟩ = some (.slice A0 l0.length c0) := (blk_cell BKN.out 0).trans rfl) | (go_at_call 34; refine (impl_isPattern.calls k _ _ _ true _ ?sideP HC0.out A1.out).mono ?_; (case sideP => exact Kd.C_below HR0.out HB.out); rintro e w' ⟨rfl, ⟨nd, rfl⟩⟩) | (go_at_call 47; refine (impl_isMost.calls a1 false _ A2.out).mono ?_; rintro e w' ⟨rfl, ⟨nd2, rfl⟩⟩))
      go_ret2
      exact ⟨_, rfl, Kd.R_nil _ _ _ _ _, by repeat (first | (with_reducible first | exact HB.out | apply below_alloc | apply pw_below_drewN | apply below_drew1) | exact HB.out)⟩
    | true =>
      rw [if_pos rfl] at h
      obtain ⟨l, h3, h⟩ := Option.bind_eq_some_iff.mp h
      have A3 := Aside0.mk h3
      clear h3
      obtain ⟨r, h3, h⟩ := Option.bind_eq_some_iff.mp h
      injection h with h
      injection h with e1 e2
      subst e1 e2
      obtain ⟨h4, h5⟩ := delKeep_some h3
      have A4 := Aside0.mk h4
      have A5 := Aside0.mk h5
      clear h3 h4 h5
      go_enter Tryz.func19, Tryz.ntmps19
      go_wp2_with (first | ((with_reducible refine gate_dst (N := 2) rfl ?_); refine box_event ?hg (N := 2) ?hd (cs := #[.slice A0 l0.length c0]) (t := 24) ?hr ?_; (case hd => rfl); (case hg => rfl); (case hr => first | (go_simp; done) | (go_simp; rfl)); intro gn hg w4 hbox hb; have n0_ := Aside0.mk (below_step (by repeat (first | (with_reducible first | exact HB.out | apply below_alloc | apply pw_below_drewN | apply below_drew1) | exact HB.out)) hb); have n1_ := Aside0.mk hbox; have n3_ := Aside0.mk ((by rw [hg]; exact (below_size (by repeat (first | (with_reducible first | exact HB.out | apply below_alloc | apply pw_below_drewN | apply below_drew1) | exact HB.out)))) : w.heap.size ≤ gn); clear HB; have HB := n0_; have BKN := n1_; have GEN := n3_; clear n0_ n1_ n3_; clear hb hbox hg; have hcN_0 : w4.cell? ⟨gn, 0, none⟩ = some (.slice A0 l0.length c0) := (blk_cell BKN.out 0).trans rfl) | (go_at_call 34; refine (impl_isPattern.calls k _ _ _ true _ ?sideP HC0.out A1.out).mono ?_; (case sideP => exact Kd.C_below HR0.out HB.out); rintro e w' ⟨rfl, ⟨nd, rfl⟩⟩) | (go_at_call 47; refine (impl_isMost.calls a1 true _ A2.out).mono ?_; rintro e w' ⟨rfl, ⟨nd2, rfl⟩⟩))
      refine (impl_upTo.calls k 1 a1 1 l _ A3.out).mono ?_
      rintro e w2 ⟨v2, rfl, ho, hb⟩
      have hb4 : Below w4.heap.size w4 w2 := below_step (pw_below_drewN (Below.refl _ w4) _) hb
      have HO := Aside0.mk (show Kd.R (Kd.int .i64) 3 w2 w4.heap.size (fun _ => True) v2 l from Kd.R_lower ho (below_size (pw_below_drewN (Below.refl _ w4) _)))
      have HB4 := Aside0.mk hb4
      clear ho hb hb4
      go_wp2_with fail
      refine (delq_calls (fun x => (ppAny k l0 x).getD false) 55 (.pointer (some ⟨gn, 0, none⟩)) (fun _ => True) v2 l w4 _ (row_len HO.out) (fun x W hx hb_ => pp1_calls k gn A0 c0 l0 x _ W hlen ((hb_.cell (World.block_lt_of_cell? _ _ hcN_0)).trans hcN_0) (Kd.C_below HR0.out (below_step HB.out hb_)) (A4.out x hx)) (enters_ Tryz.func55 (by kernel_rfl) rfl) HB4.out HO.out).mono ?_
      rintro e w3 ⟨v3, rfl, ho, hb⟩
      have HB3 := Aside0.mk (below_step HB.out hb)
      have HO3 := Aside0.mk ho
      clear ho hb
      go_wp2
      go_ret2
      exact ⟨_, rfl, by rw [A5.out]; exact Kd.R_lower HO3.out (below_size HB.out), HB3.out⟩

/-! ### spec_reIsPrime: function 60 -/
def spec_reIsPrime.l0 : Nat → Int → Int → Option (Bool)
 | 0, _, _ => none
 | k + 1, x0, x3 => if (wrap64 (x3 * x3)) ≤ x0 then (if x3 = 0 then (none) else (if (Int.tmod x0 x3) = 0 then (some false) else (spec_reIsPrime.l0 k x0 (wrap64 (x3 + 1))))) else (some true)
def spec_reIsPrime.f (k : Nat) (a0 : Int) : Option (Bool) := if a0 < 2 then (some false) else (spec_reIsPrime.l0 k a0 2)
theorem spec_reIsPrime.mono_l : ∀ k, (∀ y0 y1, LeO (spec_reIsPrime.l0 k y0 y1) (spec_reIsPrime.l0 (k + 1) y0 y1))
 | 0 => fun _ _ r h => by simp [spec_reIsPrime.l0] at h
 | k + 1 => by
  have ih0 := spec_reIsPrime.mono_l k
  ·
   intro y0 y1
   unfold spec_reIsPrime.l0
   repeat' first
   | (with_reducible first | exact ih0 _ _ | exact LeO.refl _ | exact LeO.none _ | refine LeO.ite ?_ ?_ | refine LeO.bind ?_ (fun _ => ?_))
theorem spec_reIsPrime.mono : ∀ a0 k, LeO (spec_reIsPrime.f k a0) (spec_reIsPrime.f (k + 1) a0) := by
 intro a0 k
 have ih0 := spec_reIsPrime.mono_l k
 unfold spec_reIsPrime.f
 repeat' first
   | (with_reducible first | exact ih0 _ _ | exact LeO.refl _ | exact LeO.none _ | refine LeO.ite ?_ ?_ | refine LeO.bind ?_ (fun _ => ?_))
set_option maxHeartbeats 200000000 in
set_option maxRecDepth 100000 in
theorem spec_reIsPrime.calls (k : Nat) (a0 : Int) (r : Bool) (w : World) (h : spec_reIsPrime.f k a0 = some r) :
  Calls Tryz.prog 60 #[.int .i64 a0] w fun e w' => e = .returned (.bool r) ∧ Drawn0 w w' := by
 have H : (if a0 < 2 then (some false) else (spec_reIsPrime.l0 k a0 2)) = some r := h
 clear h
 by_cases c2 : a0 < 2
 ·
  rw [if_pos c2] at H
  have c2b0 : decide (a0 < 2) = true := decide_eq_true c2
  clear c2
  obtain rfl := Option.some.inj H
  go_enter Tryz.func60, Tryz.ntmps60
  go_wp2
  go_ret
  exact ⟨by first | rfl | (simp; done) | (simp [*]; done), by repeat (first | exact Drawn0.refl _ | apply Drawn0.step)⟩
 ·
  rw [if_neg c2] at H
  have c2b0 : decide (a0 < 2) = false := decide_eq_false c2
  clear c2
  have H' := Aside0.mk H
  clear H
  go_enter Tryz.func60, Tryz.ntmps60
  go_wp2
  go_loopg [3] k (fun kq v3 w' => ∃ (x3_1 : Int), v3 = .int .i64 x3_1 ∧ Aside0 (spec_reIsPrime.l0 kq a0 x3_1 = some r) ∧ Aside0 (kq ≤ k) ∧ Drawn0 w w')
  case atStart => exact ⟨(2), (by first | rfl | (simp; done) | (simp [*]; done)), H', ⟨Nat.le_refl _⟩, by repeat (first | exact Drawn0.refl _ | apply Drawn0.step)⟩
  case round =>
   clear H'
   obtain ⟨x3_1, rfl, HA, HK1, ⟨m1, rfl⟩⟩ := hrel
   cases gk with
   | zero => exact absurd HA.out (by simp [spec_reIsPrime.l0])
   | succ k1 =>
    have H := HA.out
    clear HA
    simp only [spec_reIsPrime.l0] at H
    by_cases c3 : (wrap64 (x3_1 * x3_1)) ≤ a0
    ·
     rw [if_pos c3] at H
     have c3b0 : decide ((wrap64 (x3_1 * x3_1)) ≤ a0) = true := decide_eq_true c3
     clear c3
     by_cases c4 : x3_1 = 0
     ·
      rw [if_pos c4] at H
      exact absurd H (by simp)
     ·
      rw [if_neg c4] at H
      have c4b0 : (x3_1 == 0) = false := beq_eq_false_iff_ne.mpr c4
      have c4b1 : (x3_1 != 0) = true := bne_iff_ne.mpr c4
      by_cases c5 : (Int.tmod a0 x3_1) = 0
      ·
       rw [if_pos c5] at H
       have c5b0 : ((Int.tmod a0 x3_1) == 0) = true := beq_iff_eq.mpr c5
       have c5b1 : ((Int.tmod a0 x3_1) != 0) = false := bne_eq_false_iff_eq.mpr c5
       clear c5
       obtain rfl := Option.some.inj H
       go_wp2
       go_ret
       exact ⟨by first | rfl | (simp; done) | (simp [*]; done), by repeat (first | exact Drawn0.refl _ | apply Drawn0.step)⟩
      ·
       rw [if_neg c5] at H
       have c5b0 : ((Int.tmod a0 x3_1) == 0) = false := beq_eq_false_iff_ne.mpr c5
       have c5b1 : ((Int.tmod a0 x3_1) != 0) = true := bne_iff_ne.mpr c5
       have H' := Aside0.mk H
       clear H
       go_wp2
       go_roundg k1
       case measure => have := HK1.out; omega
       case rel => exact ⟨(wrap64 (x3_1 + 1)), (by first | rfl | (simp; done) | (simp [*]; done)), H', ⟨by have := HK1.out; omega⟩, by repeat (first | exact Drawn0.refl _ | apply Drawn0.step)⟩
    ·
     rw [if_neg c3] at H
     have c3b0 : decide ((wrap64 (x3_1 * x3_1)) ≤ a0) = false := decide_eq_false c3
     clear c3
     obtain rfl := Option.some.inj H
     go_wp2
     go_ret
     exact ⟨by first | rfl | (simp; done) | (simp [*]; done), by repeat (first | exact Drawn0.refl _ | apply Drawn0.step)⟩

/-! ### spec_PrimePlaces: function 20 -/
mutual
def spec_PrimePlaces.j0 : Nat → List Int → Int → Bool → Option (List Int × Bool)
 | 0, _, _, _ => none
 | k + 1, x0, x1, x18 => if x18 = true then (some (([] : List Int), false)) else (spec_PrimePlaces.l0 k x0 x1 ([] : List Int) 1)
def spec_PrimePlaces.l0 : Nat → List Int → Int → List Int → Int → Option (List Int × Bool)
 | 0, _, _, _, _ => none
 | k + 1, x0, x1, x6, x7 => if x7 ≤ x1 then (spec_PrimePlaces.l1 k x0 x1 x6 x7 true x0 (x0.length : Int) 0) else (some (x6, true))
def spec_PrimePlaces.l1 : Nat → List Int → Int → List Int → Int → Bool → List Int → Int → Int → Option (List Int × Bool)
 | 0, _, _, _, _, _, _, _, _ => none
 | k + 1, x0, x1, x6, x7, x8, x24, x25, x26 => if x26 < x25 then (if 0 ≤ x26 then (if x26 < (x24.length : Int) then (if x8 = true then ((spec_reIsPrime.f k (wrap64 (x7 + (rd x24 x26)))).bind fun t331 => (spec_PrimePlaces.l1 k x0 x1 x6 x7 t331 x24 x25 (wrap64 (x26 + 1)))) else (spec_PrimePlaces.l1 k x0 x1 x6 x7 false x24 x25 (wrap64 (x26 + 1)))) else (none)) else (none)) else (if x8 = true then (if x6.length < 17592186044416 then (spec_PrimePlaces.l0 k x0 x1 (x6 ++ [x7]) (wrap64 (x7 + 1))) else (none)) else (spec_PrimePlaces.l0 k x0 x1 x6 (wrap64 (x7 + 1))))
end
def spec_PrimePlaces.f (k : Nat) (l0 : List Int) (a1 : Int) : Option (List Int × Bool) := (spec_reGood.f k l0).bind fun t328 => (if t328 = true then ((spec_l1In.f a1 0 600).bind fun t329 => (spec_PrimePlaces.j0 k l0 a1 (!t329))) else (spec_PrimePlaces.j0 k l0 a1 true))
theorem spec_PrimePlaces.mono_l : ∀ k, (∀ y0 y1 y2, LeO (spec_PrimePlaces.j0 k y0 y1 y2) (spec_PrimePlaces.j0 (k + 1) y0 y1 y2)) ∧ (∀ y0 y1 y2 y3, LeO (spec_PrimePlaces.l0 k y0 y1 y2 y3) (spec_PrimePlaces.l0 (k + 1) y0 y1 y2 y3)) ∧ (∀ y0 y1 y2 y3 y4 y5 y6 y7, LeO (spec_PrimePlaces.l1 k y0 y1 y2 y3 y4 y5 y6 y7) (spec_PrimePlaces.l1 (k + 1) y0 y1 y2 y3 y4 y5 y6 y7))
 | 0 => ⟨fun _ _ _ r h => by simp [spec_PrimePlaces.j0] at h, fun _ _ _ _ r h => by simp [spec_PrimePlaces.l0] at h, fun _ _ _ _ _ _ _ _ r h => by simp [spec_PrimePlaces.l1] at h⟩
 | k + 1 => by
  obtain ⟨ih0, ih1, ih2⟩ := spec_PrimePlaces.mono_l k
  refine ⟨?_, ?_, ?_⟩
  ·
   intro y0 y1 y2
   unfold spec_PrimePlaces.j0
   repeat' first
   | (with_reducible first | exact ih0 _ _ _ | exact ih1 _ _ _ _ | exact ih2 _ _ _ _ _ _ _ _ | exact spec_reGood.mono _ _ | exact spec_reIsPrime.mono _ _ | exact LeO.refl _ | exact LeO.none _ | refine LeO.ite ?_ ?_ | refine LeO.bind ?_ (fun _ => ?_))
  ·
   intro y0 y1 y2 y3
   unfold spec_PrimePlaces.l0
   repeat' first
   | (with_reducible first | exact ih0 _ _ _ | exact ih1 _ _ _ _ | exact ih2 _ _ _ _ _ _ _ _ | exact spec_reGood.mono _ _ | exact spec_reIsPrime.mono _ _ | exact LeO.refl _ | exact LeO.none _ | refine LeO.ite ?_ ?_ | refine LeO.bind ?_ (fun _ => ?_))
  ·
   intro y0 y1 y2 y3 y4 y5 y6 y7
   unfold spec_PrimePlaces.l1
   repeat' first
   | (with_reducible first | exact ih0 _ _ _ | exact ih1 _ _ _ _ | exact ih2 _ _ _ _ _ _ _ _ | exact spec_reGood.mono _ _ | exact spec_reIsPrime.mono _ _ | exact LeO.refl _ | exact LeO.none _ | refine LeO.ite ?_ ?_ | refine LeO.bind ?_ (fun _ => ?_))
theorem spec_PrimePlaces.mono : ∀ a0 a1 k, LeO (spec_PrimePlaces.f k a0 a1) (spec_PrimePlaces.f (k + 1) a0 a1) := by
 intro a0 a1 k
 obtain ⟨ih0, ih1, ih2⟩ := spec_PrimePlaces.mono_l k
 unfold spec_PrimePlaces.f
 repeat' first
   | (with_reducible first | exact ih0 _ _ _ | exact ih1 _ _ _ _ | exact ih2 _ _ _ _ _ _ _ _ | exact spec_reGood.mono _ _ | exact spec_reIsPrime.mono _ _ | exact LeO.refl _ | exact LeO.none _ | refine LeO.ite ?_ ?_ | refine LeO.bind ?_ (fun _ => ?_))
set_option maxHeartbeats 200000000 in
set_option maxRecDepth 100000 in
theorem spec_PrimePlaces.calls (k : Nat) (A0 : Option Addr) (c0 : Nat) (l0 : List Int) (a1 : Int) (r1 : List Int) (r2 : Bool) (w : World) (hr0 : Kd.C (Kd.int .i64) w A0 l0.length l0) (hc0 : l0.length ≤ c0) (h : spec_PrimePlaces.f k l0 a1 = some (r1, r2)) :
  Calls Tryz.prog 20 #[.slice A0 l0.length c0, .int .i64 a1] w fun e w' => ∃ v0_ : Value, e = .returned (.tuple #[v0_, .bool r2]) ∧ Kd.R (Kd.int .i64) 3 w' w.heap.size (fun _ => True) v0_ r1 ∧ Below w.heap.size w w' := by
 have HR0 := Aside0.mk hr0
 have HC0 := Aside0.mk hc0
 clear hr0 hc0
 have HB := Aside0.mk (Below.refl w.heap.size w)
 have H : ((spec_reGood.f k l0).bind fun t328 => (if t328 = true then ((spec_l1In.f a1 0 600).bind fun t329 => (spec_PrimePlaces.j0 k l0 a1 (!t329))) else (spec_PrimePlaces.j0 k l0 a1 true))) = some (r1, r2) := h
 clear h
 have HC3 := Aside0.mk H
 clear H
 go_enter Tryz.func20, Tryz.ntmps20
 go_upto_region 1 with (fail)
 go_cut [18] (fun v18 wc => ∃ (kq : Nat) (x18_2 : Bool), v18 = .bool x18_2 ∧ Aside0 (spec_PrimePlaces.j0 kq l0 a1 x18_2 = some (r1, r2)) ∧ Aside0 (kq ≤ k) ∧ Aside0 (Below w.heap.size w wc))
 case first =>
  have H := HC3.out
  clear HC3
  replace H := Option.bind_eq_some_iff.mp H
  obtain ⟨t328, A40, H⟩ := H
  replace H : (if t328 = true then ((spec_l1In.f a1 0 600).bind fun t329 => (spec_PrimePlaces.j0 k l0 a1 (!t329))) else (spec_PrimePlaces.j0 k l0 a1 true)) = some (r1, r2) := H
  have A4 := Aside0.mk A40
  clear A40
  by_cases c5 : t328 = true
  ·
   subst c5
   have H1 : ((spec_l1In.f a1 0 600).bind fun t329 => (spec_PrimePlaces.j0 k l0 a1 (!t329))) = some (r1, r2) := by rw [if_pos rfl] at H; exact H
   clear H
   have H := H1
   clear H1
   replace H := Option.bind_eq_some_iff.mp H
   obtain ⟨t329, A60, H⟩ := H
   replace H : (spec_PrimePlaces.j0 k l0 a1 (!t329)) = some (r1, r2) := H
   have A6 := Aside0.mk A60
   clear A60
   have H' := Aside0.mk H
   clear H
   go_wp2_with (first | ((with_reducible refine gate_callee (f := 59) rfl ?_); refine goesL_ (some 12) rfl rfl Tryz.func59 (by kernel_rfl) rfl #[.slice A0 l0.length c0] rfl (by (try simp only [List.map_toArray, List.map_cons, List.map_nil]); first | done | rfl | (simp only [List.length_drop, List.length_take]; rfl)) ?_; (with_reducible refine (spec_reGood.calls k _ _ l0 true _ ?side1 ?side2 A4.out).mono ?_); (case side1 => repeat (first | exact (Kd.C_below HR0.out HB.out) | (with_reducible refine Kd.C_alloc ?_ _) | (with_reducible refine Kd.C_drewN ?_ _) | (with_reducible refine Kd.C_drew ?_))); (case side2 => exact HC0.out); rintro e w' ⟨rfl, ⟨nd, rfl⟩⟩; refine ⟨_, rfl, ?_⟩) | (go_at_call 51; (with_reducible refine (spec_l1In.calls a1 0 600 t329 _ A6.out).mono ?_); rintro e w' ⟨rfl, ⟨nd, rfl⟩⟩))
   go_meet
   case rel => exact ⟨_, (!t329), (by first | rfl | (simp; done) | (simp [*]; done)), H', ⟨by first | omega | exact Nat.le_refl _⟩, ⟨by repeat (first | (with_reducible first | exact HB.out | apply below_alloc | apply pw_below_drewN | apply below_drew1))⟩⟩
  ·
   replace c5 := Bool.eq_false_iff.mpr c5
   subst c5
   have H1 : (spec_PrimePlaces.j0 k l0 a1 true) = some (r1, r2) := by rw [if_neg (show ¬ (false = true) by decide)] at H; exact H
   clear H
   have H := H1
   clear H1
   have H' := Aside0.mk H
   clear H
   go_wp2_with (first | ((with_reducible refine gate_callee (f := 59) rfl ?_); refine goesL_ (some 12) rfl rfl Tryz.func59 (by kernel_rfl) rfl #[.slice A0 l0.length c0] rfl (by (try simp only [List.map_toArray, List.map_cons, List.map_nil]); first | done | rfl | (simp only [List.length_drop, List.length_take]; rfl)) ?_; (with_reducible refine (spec_reGood.calls k _ _ l0 false _ ?side1 ?side2 A4.out).mono ?_); (case side1 => repeat (first | exact (Kd.C_below HR0.out HB.out) | (with_reducible refine Kd.C_alloc ?_ _) | (with_reducible refine Kd.C_drewN ?_ _) | (with_reducible refine Kd.C_drew ?_))); (case side2 => exact HC0.out); rintro e w' ⟨rfl, ⟨nd, rfl⟩⟩; refine ⟨_, rfl, ?_⟩))
   go_meet
   case rel => exact ⟨_, (true), (by first | rfl | (simp; done) | (simp [*]; done)), H', ⟨by first | omega | exact Nat.le_refl _⟩, ⟨by repeat (first | (with_reducible first | exact HB.out | apply below_alloc | apply pw_below_drewN | apply below_drew1))⟩⟩
 case rest =>
  clear HC3
  obtain ⟨kq, x18_2, rfl, HA, HJ2, HB⟩ := hcut
  cases kq with
  | zero => exact absurd HA.out (by simp [spec_PrimePlaces.j0])
  | succ kj2 =>
   have H := HA.out
   clear HA
   simp only [spec_PrimePlaces.j0] at H
   by_cases c7 : x18_2 = true
   ·
    subst c7
    have H1 : (some (([] : List Int), false)) = some (r1, r2) := by rw [if_pos rfl] at H; exact H
    clear H
    have H := H1
    clear H1
    simp only [Option.some.injEq, Prod.mk.injEq] at H
    obtain ⟨rfl, rfl⟩ := H
    go_wp2
    go_ret2
    exact ⟨_, by first | rfl | (simp [errW_none, errW_some] <;> rfl) | (simp [*, errW_none, errW_some] <;> rfl), by first | exact Kd.R_nil _ _ _ _ _ | exact Kd.N_nil _ _ _ _ _ | exact Kd.V_nil _ _ _ _ _ | exact Kd.Q_nil _ _ _ _ _ | exact Kd.S_nil _ _ _ _ _, by repeat (first | (with_reducible first | exact HB.out | apply below_alloc | apply pw_below_drewN | apply below_drew1))⟩
   ·
    replace c7 := Bool.eq_false_iff.mpr c7
    subst c7
    have H1 : (spec_PrimePlaces.l0 kj2 l0 a1 ([] : List Int) 1) = some (r1, r2) := by rw [if_neg (show ¬ (false = true) by decide)] at H; exact H
    clear H
    have H := H1
    clear H1
    have H' := Aside0.mk H
    clear H
    go_wp2
    go_loopg [6, 7] kj2 (fun kq v6 v7 w' => ∃ (x6_2 : List Int) (x7_2 : Int), v7 = .int .i64 x7_2 ∧ Aside0 (spec_PrimePlaces.l0 kq l0 a1 x6_2 x7_2 = some (r1, r2)) ∧ Aside0 (kq ≤ kj2) ∧ Aside0 (Kd.R (Kd.int .i64) 3 w' w.heap.size (fun _ => True) v6 x6_2) ∧ Aside0 (Below w.heap.size w w'))
    case atStart => exact ⟨(([] : List Int)), (1), (by first | rfl | (simp; done) | (simp [*]; done)), H', ⟨Nat.le_refl _⟩, ⟨by first | exact Kd.R_nil _ _ _ _ _ | exact Kd.N_nil _ _ _ _ _ | exact Kd.V_nil _ _ _ _ _ | exact Kd.Q_nil _ _ _ _ _ | exact Kd.S_nil _ _ _ _ _⟩, ⟨by repeat (first | (with_reducible first | exact HB.out | apply below_alloc | apply pw_below_drewN | apply below_drew1))⟩⟩
    case round =>
     clear H'
     obtain ⟨x6_2, x7_2, rfl, HA, HK2, HO_6, HB⟩ := hrel
     cases gk with
     | zero => exact absurd HA.out (by simp [spec_PrimePlaces.l0])
     | succ k2 =>
      have H := HA.out
      clear HA
      simp only [spec_PrimePlaces.l0] at H
      by_cases c8 : x7_2 ≤ a1
      ·
       rw [if_pos c8] at H
       have c8b0 : decide (x7_2 ≤ a1) = true := decide_eq_true c8
       clear c8
       have H' := Aside0.mk H
       clear H
       go_wp2
       go_loopg [8, 26] k2 (fun kq v8 v26 w' => ∃ (x8_3 : Bool) (x26_3 : Int), v8 = .bool x8_3 ∧ v26 = .int .i64 x26_3 ∧ Aside0 (spec_PrimePlaces.l1 kq l0 a1 x6_2 x7_2 x8_3 l0 (l0.length : Int) x26_3 = some (r1, r2)) ∧ Aside0 (kq ≤ k2) ∧ Aside0 (Kd.R (Kd.int .i64) 3 w' w.heap.size (fun _ => True) u6 x6_2) ∧ Aside0 (Below w.heap.size w w'))
       case atStart => exact ⟨(true), (0), (by first | rfl | (simp; done) | (simp [*]; done)), (by first | rfl | (simp; done) | (simp [*]; done)), H', ⟨Nat.le_refl _⟩, ⟨by (with_reducible repeat (first | apply Kd.R_alloc | apply Kd.R_drewN | apply Kd.R_drew)); exact HO_6.out⟩, ⟨by repeat (first | (with_reducible first | exact HB.out | apply below_alloc | apply pw_below_drewN | apply below_drew1))⟩⟩
       case round =>
        clear H'
        obtain ⟨x8_3, x26_3, rfl, rfl, HA, HK3, HO_6, HB⟩ := hrel
        cases gk with
        | zero => exact absurd HA.out (by simp [spec_PrimePlaces.l1])
        | succ k3 =>
         have H := HA.out
         clear HA
         simp only [spec_PrimePlaces.l1] at H
         by_cases c9 : x26_3 < (l0.length : Int)
         ·
          rw [if_pos c9] at H
          have c9b0 : decide (x26_3 < (l0.length : Int)) = true := decide_eq_true c9
          clear c9
          by_cases c10 : 0 ≤ x26_3
          ·
           rw [if_pos c10] at H
           have c10b0 : decide (0 ≤ x26_3) = true := decide_eq_true c10
           clear c10
           by_cases c11 : x26_3 < (l0.length : Int)
           ·
            rw [if_pos c11] at H
            have c11b0 : decide (x26_3 < (l0.length : Int)) = true := decide_eq_true c11
            clear c11
            by_cases c12 : x8_3 = true
            ·
             subst c12
             have H1 : ((spec_reIsPrime.f k3 (wrap64 (x7_2 + (rd l0 x26_3)))).bind fun t331 => (spec_PrimePlaces.l1 k3 l0 a1 x6_2 x7_2 t331 l0 (l0.length : Int) (wrap64 (x26_3 + 1)))) = some (r1, r2) := by rw [if_pos rfl] at H; exact H
             clear H
             have H := H1
             clear H1
             replace H := Option.bind_eq_some_iff.mp H
             obtain ⟨t331, A130, H⟩ := H
             replace H : (spec_PrimePlaces.l1 k3 l0 a1 x6_2 x7_2 t331 l0 (l0.length : Int) (wrap64 (x26_3 + 1))) = some (r1, r2) := H
             have A13 := Aside0.mk A130
             clear A130
             have H' := Aside0.mk H
             clear H
             have p330 : 0 ≤ (x26_3 : Int) := of_decide_eq_true (by first | (with_reducible assumption) | assumption)
             have q330 : x26_3 < (l0.length : Int) := of_decide_eq_true (by first | (with_reducible assumption) | assumption)
             obtain ⟨ad330, e330, hx330_0⟩ := Kd.at_int HR0.out x26_3 p330 q330
             cases e330
             (try replace hx330_0 := (HB.out.cell (World.block_lt_of_cell? w _ hx330_0)).trans hx330_0)
             replace p330 := eq_true p330
             replace q330 := eq_true q330
             go_wp2_with (first | (go_at_call 60; (with_reducible refine (spec_reIsPrime.calls k3 (wrap64 (x7_2 + (rd l0 x26_3))) t331 _ A13.out).mono ?_); rintro e w' ⟨rfl, ⟨nd, rfl⟩⟩))
             go_roundg k3
             case measure => have := HJ2.out; have := HK2.out; have := HK3.out; omega
             case rel => exact ⟨(t331), (wrap64 (x26_3 + 1)), (by first | rfl | (simp; done) | (simp [*]; done)), (by first | rfl | (simp; done) | (simp [*]; done)), H', ⟨by have := HJ2.out; have := HK2.out; have := HK3.out; omega⟩, ⟨by (with_reducible repeat (first | apply Kd.R_alloc | apply Kd.R_drewN | apply Kd.R_drew)); exact HO_6.out⟩, ⟨by repeat (first | (with_reducible first | exact HB.out | apply below_alloc | apply pw_below_drewN | apply below_drew1))⟩⟩
            ·
             replace c12 := Bool.eq_false_iff.mpr c12
             subst c12
             have H1 : (spec_PrimePlaces.l1 k3 l0 a1 x6_2 x7_2 false l0 (l0.length : Int) (wrap64 (x26_3 + 1))) = some (r1, r2) := by rw [if_neg (show ¬ (false = true) by decide)] at H; exact H
             clear H
             have H := H1
             clear H1
             have H' := Aside0.mk H
             clear H
             have p330 : 0 ≤ (x26_3 : Int) := of_decide_eq_true (by first | (with_reducible assumption) | assumption)
             have q330 : x26_3 < (l0.length : Int) := of_decide_eq_true (by first | (with_reducible assumption) | assumption)
             obtain ⟨ad330, e330, hx330_0⟩ := Kd.at_int HR0.out x26_3 p330 q330
             cases e330
             (try replace hx330_0 := (HB.out.cell (World.block_lt_of_cell? w _ hx330_0)).trans hx330_0)
             replace p330 := eq_true p330
             replace q330 := eq_true q330
             go_wp2
             go_roundg k3
             case measure => have := HJ2.out; have := HK2.out; have := HK3.out; omega
             case rel => exact ⟨(false), (wrap64 (x26_3 + 1)), (by first | rfl | (simp; done) | (simp [*]; done)), (by first | rfl | (simp; done) | (simp [*]; done)), H', ⟨by have := HJ2.out; have := HK2.out; have := HK3.out; omega⟩, ⟨by (with_reducible repeat (first | apply Kd.R_alloc | apply Kd.R_drewN | apply Kd.R_drew)); exact HO_6.out⟩, ⟨by repeat (first | (with_reducible first | exact HB.out | apply below_alloc | apply pw_below_drewN | apply below_drew1))⟩⟩
           ·
            rw [if_neg c11] at H
            exact absurd H (by simp)
          ·
           rw [if_neg c10] at H
           exact absurd H (by simp)
         ·
          rw [if_neg c9] at H
          have c9b0 : decide (x26_3 < (l0.length : Int)) = false := decide_eq_false c9
          clear c9
          by_cases c14 : x8_3 = true
          ·
           subst c14
           have H1 : (if x6_2.length < 17592186044416 then (spec_PrimePlaces.l0 k3 l0 a1 (x6_2 ++ [x7_2]) (wrap64 (x7_2 + 1))) else (none)) = some (r1, r2) := by rw [if_pos rfl] at H; exact H
           clear H
           have H := H1
           clear H1
           by_cases c15 : x6_2.length < 17592186044416
           ·
            rw [if_pos c15] at H
            have LMc15 := Aside0.mk c15
            clear c15
            obtain ⟨y332, hy332⟩ : ∃ y_ : List Int, y_ = (x6_2 ++ [x7_2]) := ⟨_, rfl⟩
            replace H : (spec_PrimePlaces.l0 k3 l0 a1 y332 (wrap64 (x7_2 + 1))) = some (r1, r2) := by first | (rw [hy332]; with_reducible exact H) | (have H2_ := (Option.bind_some _ _).symm.trans H; rw [hy332]; with_reducible exact H2_) | (have H2_ := (Option.bind_some _ _).symm.trans H; with_reducible exact H2_) | with_reducible exact H | (rw [hy332]; exact H) | exact H
            have Ny332 := Aside0.mk hy332
            clear hy332
            have H' := Aside0.mk H
            clear H
            go_wp2_with (first | ((with_reducible refine gate_builtin (b := .append) (xs := #[.tmp 39, .tmp 41]) rfl ?_); at_builtin; refine Kd.R_append (Kd.int .i64) (w0 := w) w.heap.size rfl (.tmp 39) (.tmp 41) 24 3 (.int .i64 0) 8 rfl Tryz.underlying24 info3 rfl (by decide) (by omega) u6 x6_2 x7_2 [.int .i64 x7_2] (fun _ => True) (fun _ => False) rfl rfl ?aP (fun _ hk => hk.elim) ?aF ?aO ?aB ?aS ?aL ?_; (case aP => exact rfl); (case aB => exact (by repeat (first | (with_reducible first | exact HB.out | apply below_alloc | apply pw_below_drewN | apply below_drew1)))); (case aF => exact (fun _ _ => trivial)); (case aO => exact (by (with_reducible repeat (first | apply Kd.R_alloc | apply Kd.R_drewN | apply Kd.R_drew)); exact HO_6.out)); (case aS => exact (below_size (by repeat (first | (with_reducible first | exact HB.out | apply below_alloc | apply pw_below_drewN | apply below_drew1))))); (case aL => have := LMc15.out; omega); intro v333 w16 ho hb hg hat; rw [← Ny332.out] at ho; have n0_ := Aside0.mk (hb); have n1_ := Aside0.mk (ho); clear HB; clear HO_6; have HB := n0_; have HO334 := n1_; clear n0_ n1_; clear ho hb hg hat))
            go_roundg k3
            case measure => have := HJ2.out; have := HK2.out; have := HK3.out; omega
            case rel => exact ⟨(y332), (wrap64 (x7_2 + 1)), (by first | rfl | (simp; done) | (simp [*]; done)), H', ⟨by have := HJ2.out; have := HK2.out; have := HK3.out; omega⟩, ⟨by (with_reducible repeat (first | apply Kd.R_alloc | apply Kd.R_drewN | apply Kd.R_drew)); exact HO334.out⟩, ⟨by repeat (first | (with_reducible first | exact HB.out | apply below_alloc | apply pw_below_drewN | apply below_drew1))⟩⟩
           ·
            rw [if_neg c15] at H
            exact absurd H (by simp)
          ·
           replace c14 := Bool.eq_false_iff.mpr c14
           subst c14
           have H1 : (spec_PrimePlaces.l0 k3 l0 a1 x6_2 (wrap64 (x7_2 + 1))) = some (r1, r2) := by rw [if_neg (show ¬ (false = true) by decide)] at H; exact H
           clear H
           have H := H1
           clear H1
           have H' := Aside0.mk H
           clear H
           go_wp2
           go_roundg k3
           case measure => have := HJ2.out; have := HK2.out; have := HK3.out; omega
           case rel => exact ⟨(x6_2), (wrap64 (x7_2 + 1)), (by first | rfl | (simp; done) | (simp [*]; done)), H', ⟨by have := HJ2.out; have := HK2.out; have := HK3.out; omega⟩, ⟨by (with_reducible repeat (first | apply Kd.R_alloc | apply Kd.R_drewN | apply Kd.R_drew)); exact HO_6.out⟩, ⟨by repeat (first | (with_reducible first | exact HB.out | apply below_alloc | apply pw_below_drewN | apply below_drew1))⟩⟩
      ·
       rw [if_neg c8] at H
       have c8b0 : decide (x7_2 ≤ a1) = false := decide_eq_false c8
       clear c8
       simp only [Option.some.injEq, Prod.mk.injEq] at H
       obtain ⟨rfl, rfl⟩ := H
       go_wp2
       go_ret2
       exact ⟨_, by first | rfl | (simp [errW_none, errW_some] <;> rfl) | (simp [*, errW_none, errW_some] <;> rfl), by (with_reducible repeat (first | apply Kd.R_alloc | apply Kd.R_drewN | apply Kd.R_drew)); exact HO_6.out, by repeat (first | (with_reducible first | exact HB.out | apply below_alloc | apply pw_below_drewN | apply below_drew1))⟩

end Go.Proofs.YtlbhbncgfhikeaaGreat.PFnPlacesOfPatterns
