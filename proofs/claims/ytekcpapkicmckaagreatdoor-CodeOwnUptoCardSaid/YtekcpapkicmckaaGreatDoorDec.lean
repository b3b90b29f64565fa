/- Decimal digits of naturals as lists of bytes: what a text of digits says, and how a natural is written: plain Lean, no program in sight. -/
import Derived.Lib.ItoaNum
import Derived.Lib.TrimByte
namespace Go.Proofs.YtekcpapkicmckaaGreatDoor

theorem u8_nat {n : Nat} (h : n < 256) : (UInt8.ofNat n).toNat = n := UInt8.toNat_ofNat_of_lt' h

/-- so many digits of a natural, noughts ahead -/
def padD : Nat → Nat → List UInt8
  | 0, _ => []
  | k + 1, n => padD k (n / 10) ++ [UInt8.ofNat (48 + n % 10)]

theorem padD_length (k n : Nat) : (padD k n).length = k := by
  induction k generalizing n with
  | zero => rfl
  | succ k ih => simp [padD, ih]
theorem padD_mod (k n : Nat) : padD k (n % 10 ^ k) = padD k n := by
  induction k generalizing n with
  | zero => rfl
  | succ k ih =>
    rw [padD, padD, Nat.pow_succ, Nat.mul_comm, Nat.mod_mul_right_div_self, ih, Nat.mod_mul_right_mod]
theorem padD_add (j k n : Nat) : padD (j + k) n = padD j (n / 10 ^ k) ++ padD k n := by
  induction k generalizing n with
  | zero => simp [padD]
  | succ k ih =>
    rw [← Nat.add_assoc, padD, ih, padD, List.append_assoc, Nat.div_div_eq_div_mul, Nat.pow_succ, Nat.mul_comm 10]
/-- one digit ahead -/
theorem padD_front (k n : Nat) : padD (k + 1) n = UInt8.ofNat (48 + n / 10 ^ k % 10) :: padD k n := by
  rw [Nat.add_comm, padD_add]
  simp [padD]
theorem padD_nought (k : Nat) : padD k 0 = List.replicate k 48 := by
  induction k with
  | zero => rfl
  | succ k ih => rw [padD, Nat.zero_div, ih, List.replicate_succ']; rfl
/-- a natural's digits are so many of it, the noughts ahead left out -/
theorem pad_dec (k n : Nat) (hn : n ≠ 0) (h : n < 10 ^ k) : ∃ j, padD k n = List.replicate j 48 ++ Lib.decDigits n := by
  induction k generalizing n with
  | zero => simp at h; omega
  | succ k ih =>
    by_cases h10 : n < 10
    · refine ⟨k, ?_⟩
      rw [padD, Nat.div_eq_of_lt h10, padD_nought, Lib.decDigits, dif_pos h10, Nat.mod_eq_of_lt h10]
    · obtain ⟨j, hj⟩ := ih (n / 10) (by omega) (by rw [Nat.pow_succ] at h; omega)
      exact ⟨j, by rw [padD, hj, List.append_assoc]; conv => rhs; rw [Lib.decDigits, dif_neg h10]⟩
theorem dec_head {n : Nat} (hn : n ≠ 0) : ∃ c r, Lib.decDigits n = c :: r ∧ c ≠ 48 := by
  induction n using Nat.strongRecOn with
  | ind n ih =>
    by_cases h10 : n < 10
    · refine ⟨_, [], by rw [Lib.decDigits, dif_pos h10], ?_⟩
      intro e
      have := congrArg UInt8.toNat e
      rw [u8_nat (by omega)] at this
      simp at this
      omega
    · obtain ⟨c, r, h, hc⟩ := ih (n / 10) (by omega) (by omega)
      exact ⟨c, r ++ [UInt8.ofNat (48 + n % 10)], by rw [Lib.decDigits, dif_neg h10, h]; rfl, hc⟩
theorem trim_rep (j : Nat) (l : List UInt8) : Lib.trimLeftB (List.replicate j 48 ++ l) 48 = Lib.trimLeftB l 48 := by
  induction j with
  | zero => simp
  | succ j ih => rw [List.replicate_succ, List.cons_append]; unfold Lib.trimLeftB at ih ⊢; rw [List.dropWhile_cons, if_pos (by rfl)]; exact ih
theorem trim_pad (k n : Nat) (hn : n ≠ 0) (h : n < 10 ^ k) : Lib.trimLeftB (padD k n) 48 = Lib.decDigits n := by
  obtain ⟨j, hj⟩ := pad_dec k n hn h
  obtain ⟨c, r, hc, hne⟩ := dec_head hn
  rw [hj, trim_rep, hc]
  unfold Lib.trimLeftB
  rw [List.dropWhile_cons, if_neg (by simpa using hne)]
end Go.Proofs.YtekcpapkicmckaaGreatDoor
