/- The short division and what the long one is handed: plain Lean. -/
import Derived.Test.YtekcpapkicmckaaGreatDoorLng
import Derived.Test.YtekcpapkicmckaaGreatDoorBits
namespace Go.Proofs.YtekcpapkicmckaaGreatDoor

/-- a step of the short division -/
theorem short_step {X qs : List Nat} {b0 i r : Nat} (hb : 0 < b0) (hX : Lim X) (hr : r < b0) (hv : val (X.drop (i + 1)) = val (qs.drop (i + 1)) * b0 + r) (hq : i < qs.length) :
    (r * 4294967296 + nth X i) / b0 < 4294967296 ∧ (r * 4294967296 + nth X i) % b0 < b0 ∧
    val (X.drop i) = val ((qs.set i ((r * 4294967296 + nth X i) / b0)).drop i) * b0 + (r * 4294967296 + nth X i) % b0 := by
  have hx := nth_lt hX i
  refine ⟨?_, Nat.mod_lt _ hb, ?_⟩
  · rw [Nat.div_lt_iff_lt_mul hb]
    have : (r + 1) * 4294967296 ≤ b0 * 4294967296 := Nat.mul_le_mul_right _ hr
    rw [Nat.mul_comm 4294967296 b0]
    omega
  · rw [val_drop_succ X i, val_drop_succ (qs.set i _) i, nth_set_eq hq, hv]
    have e : (qs.set i ((r * 4294967296 + nth X i) / b0)).drop (i + 1) = qs.drop (i + 1) := by
      apply ext_nth
      · simp
      · intro k _
        rw [nth_drop, nth_drop, nth_set_ne (by omega)]
    rw [e]
    have h1 := Nat.div_add_mod (r * 4294967296 + nth X i) b0
    rw [Nat.mul_comm] at h1
    generalize (r * 4294967296 + nth X i) / b0 = dg at h1 ⊢
    generalize (r * 4294967296 + nth X i) % b0 = rr at h1 ⊢
    rw [Nat.add_mul, Nat.mul_add]
    have h2 : 4294967296 * (val (qs.drop (i + 1)) * b0) = 4294967296 * val (qs.drop (i + 1)) * b0 := by rw [Nat.mul_assoc]
    omega

theorem div_of {X Y Q R : Nat} (h : R + Q * Y = X) (hR : R < Y) : Q = X / Y ∧ R = X % Y := by
  have hY : 0 < Y := by omega
  constructor
  · rw [← h, Nat.add_mul_div_right _ _ hY, Nat.div_eq_of_lt hR, Nat.zero_add]
  · rw [← h, Nat.add_mul_mod_self_right, Nat.mod_eq_of_lt hR]

/-- what the long division is handed: the divisor's highest bit is set -/
theorem shifted {Y m s : Nat} (hm : (limbs Y).length = m) (hm1 : 0 < m) (hs : s = 32 - blen (nth (limbs Y) (m - 1))) :
    s < 32 ∧ 2147483648 * 4294967296 ^ (m - 1) ≤ Y * 2 ^ s ∧ Y * 2 ^ s < 4294967296 ^ m := by
  have hY0 : Y ≠ 0 := fun e => by rw [e, limbs_zero] at hm; simp at hm; omega
  have ht0 : nth (limbs Y) (m - 1) ≠ 0 := by rw [← hm]; exact nth_limbs_top hY0
  have ht := nth_lt (limbs_lim Y) (m - 1)
  have hv := val_take_succ' (limbs Y) (m - 1)
  rw [show m - 1 + 1 = m by omega, List.take_of_length_le (by omega), val_limbs] at hv
  have hlo := val_take_lt (limbs_lim Y) (m - 1)
  generalize nth (limbs Y) (m - 1) = t at *
  generalize val ((limbs Y).take (m - 1)) = lo at *
  have hb1 := blen_lt t
  have hb2 := blen_ge ht0
  have hb3 := blen_pos ht0
  have hb4 := blen_le (n := t) (k := 32) (by omega)
  obtain ⟨k, hk⟩ : ∃ k, blen t = k + 1 := ⟨blen t - 1, by omega⟩
  rw [hk] at hb1 hb2 hs
  rw [Nat.add_sub_cancel] at hb2
  have hs31 : s + k = 31 := by omega
  have hp : 2 ^ k * 2 ^ s = 2147483648 := by rw [← Nat.pow_add, Nat.add_comm, hs31]
  obtain ⟨m', rfl⟩ : ∃ m', m = m' + 1 := ⟨m - 1, by omega⟩
  rw [Nat.add_sub_cancel] at *
  generalize hP : 4294967296 ^ m' = P at *
  refine ⟨by omega, ?_, ?_⟩
  · have h1 : P * 2 ^ k ≤ Y := by
      have : P * 2 ^ k ≤ P * t := Nat.mul_le_mul_left _ hb2
      omega
    have h2 := Nat.mul_le_mul_right (2 ^ s) h1
    rw [Nat.mul_assoc, hp, Nat.mul_comm] at h2
    exact h2
  · rw [Nat.pow_succ, hP]
    have h1 : Y < P * (t + 1) := by rw [Nat.mul_add]; omega
    have h2 : P * (t + 1) ≤ P * 2 ^ (k + 1) := Nat.mul_le_mul_left _ hb1
    have h3 : Y * 2 ^ s < P * 2 ^ (k + 1) * 2 ^ s := Nat.mul_lt_mul_of_pos_right (by omega) (Nat.pow_pos (by omega))
    have h4 : P * 2 ^ (k + 1) * 2 ^ s = P * 4294967296 := by
      rw [Nat.mul_assoc, Nat.pow_succ, Nat.mul_right_comm, hp]
    omega

/-- the limbs of the divisor, shifted -/
theorem shifted_limbs {Y m s : Nat} (h1 : 2147483648 * 4294967296 ^ (m - 1) ≤ Y * 2 ^ s) (h2 : Y * 2 ^ s < 4294967296 ^ m) (hm1 : 0 < m) :
    (limbs (Y * 2 ^ s)).length = m ∧ 2147483648 ≤ nth (limbs (Y * 2 ^ s)) (m - 1) := by
  have hp : 0 < 4294967296 ^ (m - 1) := Nat.pow_pos (by omega)
  have l1 := limbs_length_le h2
  have l2 := limbs_length_gt (n := Y * 2 ^ s) (k := m - 1) (by omega)
  refine ⟨by omega, ?_⟩
  rw [nth_of_val _ (limbs_lim _), val_limbs]
  have h3 : 2147483648 ≤ Y * 2 ^ s / 4294967296 ^ (m - 1) := (Nat.le_div_iff_mul_le hp).2 h1
  have h4 : Y * 2 ^ s / 4294967296 ^ (m - 1) < 4294967296 := by
    rw [Nat.div_lt_iff_lt_mul hp]
    have : 4294967296 ^ m = 4294967296 * 4294967296 ^ (m - 1) := by
      rw [← Nat.pow_succ']; congr 1; omega
    omega
  rw [Nat.mod_eq_of_lt h4]
  exact h3

/-- the dividend's highest limbs lie below the divisor -/
theorem shifted_top {X Y la m s : Nat} {U : List Nat} (hU : Lim U) (hv : val U = X * 2 ^ s) (hX : X < 4294967296 ^ la) (hs : s < 32) (hm : 0 < m) (hml : m ≤ la) (hY : 2147483648 * 4294967296 ^ (m - 1) ≤ Y) : val (U.drop (la + 1 - m)) < Y := by
  rw [val_drop hU, hv]
  have hp : 0 < 4294967296 ^ (la + 1 - m) := Nat.pow_pos (by omega)
  refine Nat.lt_of_lt_of_le ?_ hY
  rw [Nat.div_lt_iff_lt_mul hp, Nat.mul_assoc, ← Nat.pow_add, show m - 1 + (la + 1 - m) = la by omega]
  have h1 : 2 ^ s ≤ 2147483648 := by
    rw [show (2147483648 : Nat) = 2 ^ 31 from rfl]
    exact Nat.pow_le_pow_right (by omega) (by omega)
  have h2 : X * 2 ^ s ≤ X * 2147483648 := Nat.mul_le_mul_left _ h1
  omega

end Go.Proofs.YtekcpapkicmckaaGreatDoor
