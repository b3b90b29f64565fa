/- The plain law of FloatsParts: lowest terms of m * 2^e. -/
import Derived.Test.YtilbadhadnockaaRefS
import Derived.Test.YtilbadhadnockaaQuo
namespace Go.Proofs.Ytilbadhadnockaa
open Go.RowKit

theorem odd_part (M : Nat) (h : M ≠ 0) : ∃ M0 T, M0 % 2 = 1 ∧ M0 * 2 ^ T = M := by
  induction M using Nat.strongRecOn with
  | ind M ih =>
    by_cases h1 : M % 2 = 1
    · exact ⟨M, 0, h1, by simp⟩
    · obtain ⟨a, t, ha, e⟩ := ih (M / 2) (by omega) (by omega)
      refine ⟨a, t + 1, ha, ?_⟩
      rw [Nat.pow_succ, ← Nat.mul_assoc, e]
      omega

theorem odd_bd {M0 T B : Nat} (h1 : M0 % 2 = 1) (h : M0 * 2 ^ T < 2 ^ B) : T < B := by
  apply (Nat.pow_lt_pow_iff_right (a := 2) (by omega)).1
  exact Nat.lt_of_le_of_lt (Nat.le_mul_of_pos_left _ (by omega)) h

theorem lowest (M0 T : Nat) (e : Int) (h : M0 % 2 = 1) (X Y P Q : Nat) (hX : X = M0 * 2 ^ T * 2 ^ e.toNat) (hY : Y = 2 ^ (-e).toNat)
    (hP : P = X / Nat.gcd X Y) (hQ : Q = Y / Nat.gcd X Y) :
    (0 ≤ e + T → P = M0 * 2 ^ (e + T).toNat ∧ Q = 1) ∧ (e + T < 0 → P = M0 ∧ Q = 2 ^ (-(e + T)).toNat) := by
  subst hP hQ
  by_cases he : 0 ≤ e
  · obtain ⟨k, rfl⟩ := Int.eq_ofNat_of_zero_le he
    have hY1 : Y = 1 := by rw [hY]; simp
    subst hY1
    rw [Nat.gcd_one_right, Nat.div_one, Nat.div_one]
    refine ⟨fun _ => ⟨?_, rfl⟩, fun h => by omega⟩
    rw [hX, Int.toNat_natCast, show ((k : Int) + T).toNat = T + k by omega, Nat.pow_add, Nat.mul_assoc]
  · obtain ⟨k, rfl⟩ : ∃ k : Nat, e = -k := ⟨(-e).toNat, by omega⟩
    have hX1 : X = M0 * 2 ^ T := by rw [hX, show (-(k : Int)).toNat = 0 by omega]; simp
    have hY1 : Y = 2 ^ k := by rw [hY]; simp
    subst hX1 hY1
    by_cases hk : k ≤ T
    · obtain ⟨d, rfl⟩ := Nat.le.dest hk
      have e1 : M0 * 2 ^ (k + d) = M0 * 2 ^ d * 2 ^ k := by rw [Nat.pow_add, Nat.mul_comm (2 ^ k), Nat.mul_assoc]
      have e2 : Nat.gcd (M0 * 2 ^ (k + d)) (2 ^ k) = 2 ^ k := by rw [e1]; exact Nat.gcd_eq_right (Nat.dvd_mul_left _ _)
      rw [e2, e1, Nat.mul_div_cancel _ (Nat.pow_pos (by omega)), Nat.div_self (Nat.pow_pos (by omega))]
      refine ⟨fun _ => ⟨?_, rfl⟩, fun h => by omega⟩
      rw [show (-(k : Int) + ((k + d : Nat) : Int)).toNat = d by omega]
    · obtain ⟨d, rfl⟩ : ∃ d, k = T + d := ⟨k - T, by omega⟩
      have e1 : (2 : Nat) ^ (T + d) = 2 ^ d * 2 ^ T := by rw [Nat.pow_add, Nat.mul_comm]
      have hc : Nat.gcd M0 (2 ^ d) = 1 := by
        apply Nat.Coprime.pow_right
        rw [Nat.coprime_comm, Nat.coprime_iff_gcd_eq_one, Nat.gcd_rec, h]; exact Nat.gcd_one_left 2
      have e2 : Nat.gcd (M0 * 2 ^ T) (2 ^ (T + d)) = 2 ^ T := by rw [e1, Nat.gcd_mul_right, hc, Nat.one_mul]
      rw [e2, e1, Nat.mul_div_cancel _ (Nat.pow_pos (by omega)), Nat.mul_div_cancel _ (Nat.pow_pos (by omega))]
      refine ⟨fun h => by omega, fun _ => ⟨rfl, ?_⟩⟩
      rw [show (-(-((T + d : Nat) : Int) + (T : Int))).toNat = d by omega]

end Go.Proofs.Ytilbadhadnockaa
