import Ieee.Arith
namespace Go.Proofs.Ytfhfbicejddoiaa.Fl
set_option linter.unusedVariables false
open Ieee

theorem log2_bd {m : Nat} (h : 0 < m) : 2 ^ m.log2 ≤ m ∧ m < 2 ^ (m.log2 + 1) :=
  ⟨Nat.log2_self_le (by omega), Nat.lt_log2_self⟩

/-- A significand is kept with 53 digits. -/
theorem kept_bd (mag L : Nat) (h1 : 2 ^ L ≤ mag) (h2 : mag < 2 ^ (L + 1)) (hL : mag.log2 = L) :
    2 ^ 52 ≤ Toward.even.cut false (mag <<< (52 - L)) (L - 52) ∧ Toward.even.cut false (mag <<< (52 - L)) (L - 52) ≤ 2 ^ 53 := by
  unfold Toward.cut
  simp only
  rcases Nat.le_total L 52 with h | h
  · have e : L - 52 = 0 := by omega
    rw [e, Nat.zero_min]
    have e1 : (1 : Nat) <<< 0 = 1 := rfl
    rw [e1, Nat.div_one, Nat.mod_one, Nat.shiftLeft_eq]
    have h3 : 2 ^ L * 2 ^ (52 - L) ≤ mag * 2 ^ (52 - L) := Nat.mul_le_mul_right _ h1
    have h4 : mag * 2 ^ (52 - L) < 2 ^ (L + 1) * 2 ^ (52 - L) := Nat.mul_lt_mul_of_pos_right h2 (Nat.pow_pos (by decide))
    rw [← Nat.pow_add, show L + (52 - L) = 52 by omega] at h3
    rw [← Nat.pow_add, show L + 1 + (52 - L) = 53 by omega] at h4
    simp
    omega
  · have e : 52 - L = 0 := by omega
    rw [e]
    have e1 : mag <<< 0 = mag := rfl
    rw [e1, hL, Nat.min_eq_left (by omega), Nat.shiftLeft_eq, Nat.one_mul]
    have h3 : 2 ^ 52 ≤ mag / 2 ^ (L - 52) := by
      rw [Nat.le_div_iff_mul_le (Nat.pow_pos (by decide)), ← Nat.pow_add, show 52 + (L - 52) = L by omega]
      exact h1
    have h4 : mag / 2 ^ (L - 52) < 2 ^ 53 := by
      rw [Nat.div_lt_iff_lt_mul (Nat.pow_pos (by decide)), ← Nat.pow_add, show 53 + (L - 52) = L + 1 by omega]
      exact h2
    generalize decide (2 ^ (L - 52) < 2 * (mag % 2 ^ (L - 52))) = b1
    generalize (2 ^ (L - 52) == 2 * (mag % 2 ^ (L - 52)) && mag / 2 ^ (L - 52) % 2 == 1) = b2
    have h5 : (b1 || b2).toNat ≤ 1 := Bool.toNat_le _
    omega

theorem read_write (mag : Nat) (place : Int) (h0 : 0 < mag) (hlo : -1074 ≤ place + mag.log2 - 52) (hhi : place + mag.log2 - 52 ≤ 900) :
    ∃ m p, double.read (double.write (.number false mag place)) = .number false m p ∧ 2 ^ 52 ≤ m ∧ m < 2 ^ 53 ∧ place + mag.log2 - 52 ≤ p ∧ p ≤ place + mag.log2 - 51 := by
  obtain ⟨h1, h2⟩ := log2_bd h0
  have hk := kept_bd mag mag.log2 h1 h2 rfl
  have hw : double.write (.number false mag place) = (place + mag.log2 + 1022).toNat * 2 ^ 52 + Toward.even.cut false (mag <<< (52 - mag.log2)) (mag.log2 - 52) := by
    simp only [Format.write, Format.nearest]
    rw [if_neg (by omega)]
    have e1 : double.leastPlace = -1074 := by decide
    have e2 : ((double.fractionBits : Nat) : Int) = 52 := rfl
    have e3 : max (place + (mag.log2 : Int) - (double.fractionBits : Int)) double.leastPlace = place + mag.log2 - 52 := by rw [e1, e2]; omega
    simp only [e3]
    simp only [e1]
    have e4 : (place - (place + (mag.log2 : Int) - 52)).toNat = 52 - mag.log2 := by omega
    have e5 : (place + (mag.log2 : Int) - 52 - place).toNat = mag.log2 - 52 := by omega
    have e6 : (place + (mag.log2 : Int) - 52 - -1074).toNat = (place + mag.log2 + 1022).toNat := by omega
    rw [e4, e5, e6]
    have e7 : double.binade = 2 ^ 52 := rfl
    have e8 : double.infRung = 2047 * 2 ^ 52 := rfl
    rw [e7, e8]
    simp only [Format.word, Bool.false_eq_true, if_false]
    exact Nat.min_eq_left (by omega)
  rw [hw]
  generalize Toward.even.cut false (mag <<< (52 - mag.log2)) (mag.log2 - 52) = kept at hk
  obtain ⟨q, hq⟩ : ∃ q : Nat, q = (place + mag.log2 + 1022).toNat := ⟨_, rfl⟩
  rw [← hq]
  have hqb : q ≤ 1974 := by omega
  unfold Format.read
  have e1 : double.signWeight = 2 ^ 63 := rfl
  have e2 : double.binade = 2 ^ 52 := rfl
  have e3 : double.infRung = 2047 * 2 ^ 52 := rfl
  have e4 : double.leastPlace = -1074 := by decide
  rw [e1, e2, e3, e4]
  have e5 : (q * 2 ^ 52 + kept) % 2 ^ 63 = q * 2 ^ 52 + kept := by omega
  have e6 : (q * 2 ^ 52 + kept) / 2 ^ 63 % 2 = 0 := by omega
  simp only [e5, e6]
  rw [if_neg (by omega), if_pos (by omega)]
  refine ⟨_, _, rfl, by omega, by omega, ?_, ?_⟩
  · omega
  · omega

theorem rootFrom_lt (n : Nat) : ∀ (t r : Nat), Datum.rootFrom n t r < r + 2 ^ t
  | 0, r => by simp [Datum.rootFrom]
  | t + 1, r => by
    unfold Datum.rootFrom
    simp only
    have e : 1 <<< t = 2 ^ t := by rw [Nat.shiftLeft_eq, Nat.one_mul]
    have h1 := rootFrom_lt n t (r + 1 <<< t)
    have h2 := rootFrom_lt n t r
    rw [e] at h1 ⊢
    have h3 : 2 ^ (t + 1) = 2 ^ t + 2 ^ t := by rw [Nat.pow_succ]; omega
    have h4 : 0 < 2 ^ t := Nat.pow_pos (by decide)
    split
    · omega
    · omega

theorem log2_le_of_lt {m k : Nat} (h0 : 0 < m) (h : m < 2 ^ (k + 1)) : m.log2 ≤ k := by
  have := (Nat.log2_lt (by omega)).2 h
  omega

/-- The square root of a small number, made whole, is no number beyond 131072. -/
theorem sqrt_small (n : Nat) (hn : n ≤ 1000000) : ∃ r, double.sqrt (double.write (.number false n 0)) = some r ∧ ∃ m : Int, (double.read r).toInt .zero = some m ∧ 0 ≤ m ∧ m ≤ 131072 := by
  rcases Nat.eq_zero_or_pos n with rfl | h0
  · exact ⟨0, by decide, 0, by decide, by decide, by decide⟩
  · have hl1 : n.log2 ≤ 19 := log2_le_of_lt h0 (by omega)
    obtain ⟨m1, p1, hr1, ha, hb, hc, hd⟩ := read_write n 0 h0 (by omega) (by omega)
    have hlog1 : m1.log2 = 52 := by
      have h1 := log2_le_of_lt (m := m1) (k := 52) (by omega) hb
      have h2 := (Nat.le_log2 (n := m1) (k := 52) (by omega)).2 ha
      omega
    unfold Format.sqrt
    rw [hr1]
    have hroot : ∃ mag place, (Datum.number false m1 p1).root (double.fractionBits + 2) = some (.number false mag place) ∧ 0 < mag ∧ mag < 2 ^ 56 ∧ -56 ≤ place ∧ place ≤ -40 := by
      unfold Datum.root
      simp only
      rw [if_neg (by omega), if_neg (by decide), hlog1]
      have e0 : double.fractionBits + 2 = 54 := rfl
      rw [e0]
      have e1 : 2 * 54 - 52 = 56 := rfl
      simp only [e1]
      obtain ⟨more, hm⟩ : ∃ more : Nat, more = 56 + ((p1 - ((56 : Nat) : Int)) % 2).toNat := ⟨_, rfl⟩
      rw [← hm]
      have hm2 : more ≤ 57 := by omega
      have hm3 : 56 ≤ more := by omega
      have hs : m1 <<< more = m1 * 2 ^ more := Nat.shiftLeft_eq _ _
      have hpos : 0 < m1 <<< more := by rw [hs]; exact Nat.mul_pos (by omega) (Nat.pow_pos (by decide))
      have hlog : (m1 <<< more).log2 ≤ 109 := by
        refine log2_le_of_lt hpos ?_
        rw [hs]
        have h1 : 2 ^ more ≤ 2 ^ 57 := Nat.pow_le_pow_right (by decide) hm2
        have h2 := Nat.mul_le_mul (Nat.le_of_lt hb) h1
        have h3 : m1 * 2 ^ more < 2 ^ 53 * 2 ^ 57 := Nat.lt_of_lt_of_le (Nat.mul_lt_mul_of_pos_right hb (Nat.pow_pos (by decide))) (Nat.mul_le_mul_left _ h1)
        simpa using h3
      have hw := rootFrom_lt (m1 <<< more) ((m1 <<< more).log2 / 2 + 1) 0
      have hw2 : 2 ^ ((m1 <<< more).log2 / 2 + 1) ≤ 2 ^ 55 := Nat.pow_le_pow_right (by decide) (by omega)
      generalize Datum.rootFrom (m1 <<< more) ((m1 <<< more).log2 / 2 + 1) 0 = whole at hw
      have hsk : (whole * whole != m1 <<< more).toNat ≤ 1 := Bool.toNat_le _
      refine ⟨_, _, rfl, ?_, by omega, by omega, by omega⟩
      rcases Nat.eq_zero_or_pos whole with hz | hz
      · subst hz
        have : (0 * 0 != m1 <<< more) = true := by rw [bne_iff_ne]; omega
        rw [this]; decide
      · omega
    obtain ⟨mag, place, hroot, hm0, hm1, hp1, hp2⟩ := hroot
    rw [hroot]
    refine ⟨_, rfl, ?_⟩
    have hl2 : mag.log2 ≤ 55 := log2_le_of_lt hm0 hm1
    obtain ⟨m2, p2, hr2, ha2, hb2, hc2, hd2⟩ := read_write mag place hm0 (by omega) (by omega)
    show ∃ m : Int, (double.read (double.write (.number false mag place))).toInt .zero = some m ∧ _
    rw [hr2]
    unfold Datum.toInt Datum.integral
    simp only
    refine ⟨_, rfl, ?_⟩
    have hp3 : p2.toNat = 0 := by omega
    have hcut : Toward.zero.cut false (m2 <<< p2.toNat) (-p2).toNat ≤ 131072 := by
      unfold Toward.cut
      rw [hp3]
      have e : m2 <<< 0 = m2 := rfl
      simp only [e, Bool.toNat_false, Nat.add_zero]
      have hlog2 : 52 ≤ m2.log2 := (Nat.le_log2 (by omega)).2 ha2
      have h36 : 2 ^ 36 ≤ 1 <<< min (-p2).toNat (m2.log2 + 2) := by
        rw [Nat.shiftLeft_eq, Nat.one_mul]
        exact Nat.pow_le_pow_right (by decide) (by omega)
      have h5 : m2 / (1 <<< min (-p2).toNat (m2.log2 + 2)) ≤ m2 / 2 ^ 36 := Nat.div_le_div_left h36 (by decide)
      omega
    generalize Toward.zero.cut false (m2 <<< p2.toNat) (-p2).toNat = low at hcut
    unfold signed
    rw [if_neg (by decide)]
    have e : low <<< 0 = low := rfl
    rw [e]
    omega

end Go.Proofs.Ytfhfbicejddoiaa.Fl
