/- Decimal digits of naturals as lists of bytes: what a text of digits says, and how a natural is written: plain Lean, no program in sight. -/
import Derived.Lib.ItoaNum
import Derived.Lib.TrimByte
namespace Go.Proofs.YtekcpapkicmckaaGreatDoor

/-- the natural that decimal digits say -/
def dv (l : List UInt8) : Nat := l.foldl (fun a c => 10 * a + (c.toNat - 48)) 0

theorem snoc_ind {P : List UInt8 → Prop} (h0 : P []) (h1 : ∀ l c, P l → P (l ++ [c])) (l : List UInt8) : P l := by
  have h : ∀ m : List UInt8, P m.reverse := by
    intro m
    induction m with
    | nil => exact h0
    | cons c m ih => rw [List.reverse_cons]; exact h1 _ _ ih
  have := h l.reverse
  rwa [List.reverse_reverse] at this
theorem u8_nat {n : Nat} (h : n < 256) : (UInt8.ofNat n).toNat = n := UInt8.toNat_ofNat_of_lt' h

theorem dv_nil : dv [] = 0 := rfl
theorem dv_snoc (l : List UInt8) (c : UInt8) : dv (l ++ [c]) = 10 * dv l + (c.toNat - 48) := by simp [dv]
theorem dv_append (l m : List UInt8) : dv (l ++ m) = dv l * 10 ^ m.length + dv m := by
  induction m using snoc_ind with
  | h0 => simp [dv]
  | h1 m c ih =>
    rw [← List.append_assoc, dv_snoc, ih, dv_snoc, List.length_append, List.length_singleton, Nat.pow_succ, ← Nat.mul_assoc]
    generalize dv l * 10 ^ m.length = a
    omega
theorem dv_lt {l : List UInt8} (h : ∀ c ∈ l, 48 ≤ c.toNat ∧ c.toNat ≤ 57) : dv l < 10 ^ l.length := by
  induction l using snoc_ind with
  | h0 => simp [dv]
  | h1 m c ih =>
    have h1 := ih (fun x hx => h x (List.mem_append_left _ hx))
    have h2 := h c (by simp)
    rw [dv_snoc, List.length_append, List.length_singleton, Nat.pow_succ]
    omega

/-- so many digits of a natural, noughts ahead -/
def padD : Nat → Nat → List UInt8
  | 0, _ => []
  | k + 1, n => padD k (n / 10) ++ [UInt8.ofNat (48 + n % 10)]

theorem padD_length (k n : Nat) : (padD k n).length = k := by
  induction k generalizing n with
  | zero => rfl
  | succ k ih => simp [padD, ih]
theorem padD_zero (n : Nat) : padD 0 n = [] := rfl
theorem padD_succ (k n : Nat) : padD (k + 1) n = padD k (n / 10) ++ [UInt8.ofNat (48 + n % 10)] := rfl
theorem padD_mod (k n : Nat) : padD k (n % 10 ^ k) = padD k n := by
  induction k generalizing n with
  | zero => rfl
  | succ k ih =>
    rw [padD, padD, Nat.pow_succ, Nat.mul_comm, Nat.mod_mul_right_div_self, ih, Nat.mod_mul_right_mod]
theorem padD_add (j k n : Nat) : padD (j + k) n = padD j (n / 10 ^ k) ++ padD k n := by
  induction k generalizing n with
  | zero => simp [padD]
  | succ k ih =>
    rw [← Nat.add_assoc, padD, ih, padD, List.append_assoc, Nat.div_div_eq_div_mul, Nat.pow_succ, Nat.mul_comm 10]
/-- one digit ahead -/
theorem padD_front (k n : Nat) : padD (k + 1) n = UInt8.ofNat (48 + n / 10 ^ k % 10) :: padD k n := by
  rw [Nat.add_comm, padD_add]
  simp [padD]
theorem padD_nought (k : Nat) : padD k 0 = List.replicate k 48 := by
  induction k with
  | zero => rfl
  | succ k ih => rw [padD, Nat.zero_div, ih, List.replicate_succ']; rfl
theorem padD_digits (k n : Nat) : ∀ c ∈ padD k n, 48 ≤ c.toNat ∧ c.toNat ≤ 57 := by
  induction k generalizing n with
  | zero => intro c h; cases h
  | succ k ih =>
    intro c h
    rw [padD] at h
    rcases List.mem_append.1 h with h | h
    · exact ih _ c h
    · obtain rfl := List.mem_singleton.1 h
      rw [u8_nat (by omega)]
      omega
theorem dv_padD (k n : Nat) (h : n < 10 ^ k) : dv (padD k n) = n := by
  induction k generalizing n with
  | zero => simp at h; subst h; rfl
  | succ k ih =>
    rw [padD, dv_snoc, ih _ (by rw [Nat.pow_succ] at h; omega), u8_nat (by omega)]
    omega

/-- a natural's digits are so many of it, the noughts ahead left out -/
theorem pad_dec (k n : Nat) (hn : n ≠ 0) (h : n < 10 ^ k) : ∃ j, padD k n = List.replicate j 48 ++ Lib.decDigits n := by
  induction k generalizing n with
  | zero => simp at h; omega
  | succ k ih =>
    by_cases h10 : n < 10
    · refine ⟨k, ?_⟩
      rw [padD, Nat.div_eq_of_lt h10, padD_nought, Lib.decDigits, dif_pos h10, Nat.mod_eq_of_lt h10]
    · obtain ⟨j, hj⟩ := ih (n / 10) (by omega) (by rw [Nat.pow_succ] at h; omega)
      exact ⟨j, by rw [padD, hj, List.append_assoc]; conv => rhs; rw [Lib.decDigits, dif_neg h10]⟩
theorem dec_head {n : Nat} (hn : n ≠ 0) : ∃ c r, Lib.decDigits n = c :: r ∧ c ≠ 48 := by
  induction n using Nat.strongRecOn with
  | ind n ih =>
    by_cases h10 : n < 10
    · refine ⟨_, [], by rw [Lib.decDigits, dif_pos h10], ?_⟩
      intro e
      have := congrArg UInt8.toNat e
      rw [u8_nat (by omega)] at this
      simp at this
      omega
    · obtain ⟨c, r, h, hc⟩ := ih (n / 10) (by omega) (by omega)
      exact ⟨c, r ++ [UInt8.ofNat (48 + n % 10)], by rw [Lib.decDigits, dif_neg h10, h]; rfl, hc⟩
theorem trim_rep (j : Nat) (l : List UInt8) : Lib.trimLeftB (List.replicate j 48 ++ l) 48 = Lib.trimLeftB l 48 := by
  induction j with
  | zero => simp
  | succ j ih => rw [List.replicate_succ, List.cons_append]; unfold Lib.trimLeftB at ih ⊢; rw [List.dropWhile_cons, if_pos (by rfl)]; exact ih
theorem trim_pad (k n : Nat) (hn : n ≠ 0) (h : n < 10 ^ k) : Lib.trimLeftB (padD k n) 48 = Lib.decDigits n := by
  obtain ⟨j, hj⟩ := pad_dec k n hn h
  obtain ⟨c, r, hc, hne⟩ := dec_head hn
  rw [hj, trim_rep, hc]
  unfold Lib.trimLeftB
  rw [List.dropWhile_cons, if_neg (by simpa using hne)]
theorem dec_digits (n : Nat) : ∀ c ∈ Lib.decDigits n, 48 ≤ c.toNat ∧ c.toNat ≤ 57 := by
  induction n using Nat.strongRecOn with
  | ind n ih =>
    intro c h
    by_cases h10 : n < 10
    · rw [Lib.decDigits, dif_pos h10] at h
      obtain rfl := List.mem_singleton.1 h
      rw [u8_nat (by omega)]
      omega
    · rw [Lib.decDigits, dif_neg h10] at h
      rcases List.mem_append.1 h with h | h
      · exact ih _ (by omega) c h
      · obtain rfl := List.mem_singleton.1 h
        rw [u8_nat (by omega)]
        omega
theorem dv_dec (n : Nat) : dv (Lib.decDigits n) = n := by
  induction n using Nat.strongRecOn with
  | ind n ih =>
    by_cases h10 : n < 10
    · rw [Lib.decDigits, dif_pos h10]
      simp only [dv, List.foldl_cons, List.foldl_nil]
      rw [u8_nat (by omega)]
      omega
    · rw [Lib.decDigits, dif_neg h10, dv_snoc, ih _ (by omega), u8_nat (by omega)]
      omega

end Go.Proofs.YtekcpapkicmckaaGreatDoor
