import Derived.Test.YtfhfbicejddoiaaNtC
namespace Go.Proofs.Ytfhfbicejddoiaa.Nt
set_option linter.unusedVariables false

theorem sqf_100003 : sqf 100003 = true := by
  rw [← (IsSqp.one (n := 100003) (d := 317) (by decide) (by decide) ?_).eq_one_iff (by decide)]
  have h : ∀ m : Nat, m < 317 → ¬ (2 ≤ m ∧ 100003 % (m * m) = 0) := by decide +kernel
  exact fun m h2 hm hd => h m hm ⟨h2, Nat.mod_eq_zero_of_dvd hd⟩

/-- Behind n, up to 100000, the next square-free number. -/
def nx (n : Nat) : Nat := nxA 100003 (n + 1)
theorem nx_spec {n : Nat} (h : n ≤ 100002) : sqf (nx n) = true ∧ n < nx n ∧ nx n ≤ 100003 ∧ ∀ k, n < k → k < nx n → sqf k = false := by
  obtain ⟨a, b, c, d⟩ := nxA_spec 100003 (n + 1) 100003 (by omega) (by omega) sqf_100003
  exact ⟨a, b, c, fun k h1 h2 => d k h1 h2⟩
theorem gaps6 : ∀ n < 1810, (sqf (n+1) || sqf (n+2) || sqf (n+3) || sqf (n+4) || sqf (n+5) || sqf (n+6)) = true := by decide +kernel
theorem nx_gap {n : Nat} (h : n < 1810) : nx n ≤ n + 6 := by
  have h1 := gaps6 n h
  simp only [Bool.or_eq_true] at h1
  have key : ∀ m, n + 1 ≤ m → m ≤ n + 6 → sqf m = true → nx n ≤ n + 6 := fun m a b c => by
    have := (nxA_spec 100003 (n + 1) m a (by omega) c).2.2.1
    unfold nx; omega
  rcases h1 with ((((h1 | h1) | h1) | h1) | h1) | h1
  · exact key _ (by omega) (by omega) h1
  · exact key _ (by omega) (by omega) h1
  · exact key _ (by omega) (by omega) h1
  · exact key _ (by omega) (by omega) h1
  · exact key _ (by omega) (by omega) h1
  · exact key _ (by omega) (by omega) h1
/-- The square-free number before which r others come. -/
def nth : Nat → Nat
  | 0 => 1
  | r + 1 => nx (nth r)
theorem nth_le : ∀ r, r ≤ 301 → nth r ≤ 6 * r + 1
  | 0, _ => by decide
  | r + 1, h => by
    have h1 := nth_le r (by omega)
    have := nx_gap (n := nth r) (by omega)
    simp only [nth]; omega
theorem nth_sqf : ∀ r, r ≤ 301 → sqf (nth r) = true
  | 0, _ => by decide
  | r + 1, h => (nx_spec (n := nth r) (by have := nth_le r (by omega); omega)).1

end Go.Proofs.Ytfhfbicejddoiaa.Nt
