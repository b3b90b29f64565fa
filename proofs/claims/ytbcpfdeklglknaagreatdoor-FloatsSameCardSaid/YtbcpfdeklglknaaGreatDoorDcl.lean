/- The plain law of decimals that are read: noughts ahead and behind, a point that is moved with the power. -/
import Derived.Test.YtbcpfdeklglknaaGreatDoorDec
import Derived.Test.YtbcpfdeklglknaaGreatDoorNumb
namespace Go.Proofs.YtbcpfdeklglknaaGreatDoor
open Go.RowKit

theorem dec_pow {N : Nat} (hN : N ≠ 0) : 10 ^ ((Lib.decDigits N).length - 1) ≤ N ∧ N < 10 ^ (Lib.decDigits N).length ∧ 0 < (Lib.decDigits N).length := by
  have hd := dec_digits N
  have hv := dv_dec N
  obtain ⟨c, r, hr, hc⟩ := dec_head hN
  refine ⟨?_, ?_, by rw [hr]; simp⟩
  · rw [hr] at hv hd ⊢
    have h1 := hd c (by simp)
    have h2 : dv (c :: r) = dv [c] * 10 ^ r.length + dv r := by rw [← dv_append]; rfl
    have h3 : dv [c] = c.toNat - 48 := by simp [dv]
    have h4 : c.toNat ≠ 48 := fun h => hc (UInt8.toNat_inj.1 h)
    have h5 : 1 ≤ dv [c] := by omega
    rw [← hv, h2]
    simp only [List.length_cons, Nat.add_sub_cancel]
    have := Nat.mul_le_mul_right (10 ^ r.length) h5
    omega
  · have := dv_lt hd
    omega

theorem dec_len_eq {N l : Nat} (h1 : 10 ^ (l - 1) ≤ N) (h2 : N < 10 ^ l) (hl : 0 < l) : (Lib.decDigits N).length = l := by
  have hN : N ≠ 0 := by
    have : 0 < 10 ^ (l - 1) := Nat.pow_pos (by omega)
    omega
  obtain ⟨k1, k2, k3⟩ := dec_pow hN
  rcases Nat.lt_trichotomy (Lib.decDigits N).length l with h | h | h
  · have : 10 ^ (Lib.decDigits N).length ≤ 10 ^ (l - 1) := Nat.pow_le_pow_right (by omega) (by omega)
    omega
  · exact h
  · have : 10 ^ l ≤ 10 ^ ((Lib.decDigits N).length - 1) := Nat.pow_le_pow_right (by omega) (by omega)
    omega

theorem dec_len_mul {N : Nat} (hN : N ≠ 0) (k : Nat) : (Lib.decDigits (N * 10 ^ k)).length = (Lib.decDigits N).length + k := by
  obtain ⟨k1, k2, k3⟩ := dec_pow hN
  have hp : 0 < 10 ^ k := Nat.pow_pos (by omega)
  apply dec_len_eq
  · rw [show (Lib.decDigits N).length + k - 1 = ((Lib.decDigits N).length - 1) + k by omega, Nat.pow_add]
    exact Nat.mul_le_mul_right _ k1
  · rw [Nat.pow_add]
    exact Nat.mul_lt_mul_of_pos_right k2 hp
  · omega

/-- the number nearest to a quotient, with its sign -/
def IsNum (neg : Bool) (N D b : Nat) : Prop := ∃ e0, IsE N D e0 ∧ b = withSign neg (amount (nearNum N D e0).1 (nearNum N D e0).2.1 (nearNum N D e0).2.2)

theorem IsNum.unique {neg : Bool} {N D b b' : Nat} (h : IsNum neg N D b) (k : IsNum neg N D b') : b = b' := by
  obtain ⟨e, he, rfl⟩ := h
  obtain ⟨e', he', rfl⟩ := k
  rw [he.unique he']

theorem IsNum.scale {neg : Bool} {N D b g : Nat} (hg : 0 < g) (h : IsNum neg N D b) : IsNum neg (g * N) (g * D) b := by
  obtain ⟨e, he, rfl⟩ := h
  exact ⟨e, he.scale hg, by rw [nearNum_scale hg]⟩

/-- what is read of digits, the point so many of them from the right -/
def RdIs (N P b : Nat) : Prop :=
  (N = 0 ∧ b = 0) ∨ (N ≠ 0 ∧ ((600 + P < (Lib.decDigits N).length ∧ b = 9218868437227405312) ∨
    ((Lib.decDigits N).length + 600 < P ∧ b = 0) ∨ ((Lib.decDigits N).length ≤ 600 + P ∧ P ≤ (Lib.decDigits N).length + 600 ∧ IsNum false N (10 ^ P) b)))

theorem RdIs.move {N P b b' k : Nat} (h : RdIs N P b) (h' : RdIs (N * 10 ^ k) (P + k) b') : b = b' := by
  have hp : 0 < 10 ^ k := Nat.pow_pos (by omega)
  rcases h with ⟨h0, hb⟩ | ⟨h0, h⟩
  · subst h0
    rcases h' with ⟨_, hb'⟩ | ⟨h0', _⟩
    · omega
    · exact absurd (Nat.zero_mul _) h0'
  · have h0' : N * 10 ^ k ≠ 0 := Nat.mul_ne_zero h0 (by omega)
    have hl := dec_len_mul h0 k
    rcases h' with ⟨h1, _⟩ | ⟨_, h'⟩
    · exact absurd h1 h0'
    · rw [hl] at h'
      rcases h with ⟨a1, a2⟩ | ⟨a1, a2⟩ | ⟨a1, a2, a3⟩
      · rcases h' with ⟨c1, c2⟩ | ⟨c1, c2⟩ | ⟨c1, c2, c3⟩ <;> omega
      · rcases h' with ⟨c1, c2⟩ | ⟨c1, c2⟩ | ⟨c1, c2, c3⟩ <;> omega
      · rcases h' with ⟨c1, c2⟩ | ⟨c1, c2⟩ | ⟨c1, c2, c3⟩
        · omega
        · omega
        · have h4 := a3.scale hp
          rw [Nat.mul_comm _ N, ← Nat.pow_add, Nat.add_comm k P] at h4
          exact h4.unique c3

theorem RdIs.unique {N P b b' : Nat} (h : RdIs N P b) (h' : RdIs N P b') : b = b' := by
  have := RdIs.move (k := 0) h (by simpa using h')
  exact this

theorem dv_noughts (k : Nat) : dv (List.replicate k 48) = 0 := by
  induction k with
  | zero => rfl
  | succ k ih => rw [List.replicate_succ', dv_snoc, ih]; rfl
theorem dv_ahead (k : Nat) (l : List UInt8) : dv (List.replicate k 48 ++ l) = dv l := by rw [dv_append, dv_noughts, Nat.zero_mul, Nat.zero_add]
theorem dv_behind (k : Nat) (l : List UInt8) : dv (l ++ List.replicate k 48) = dv l * 10 ^ k := by rw [dv_append, dv_noughts, Nat.add_zero, List.length_replicate]

end Go.Proofs.YtbcpfdeklglknaaGreatDoor
