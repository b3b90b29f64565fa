/- The nearest number of a quotient: the plain law. -/
import Derived.Test.YtekcpapkicmckaaGreatDoorLimC
namespace Go.Proofs.YtekcpapkicmckaaGreatDoor
open Go.RowKit

/-- the two sides of a quotient, brought to an exponent -/
def sideA (N : Nat) (e : Int) : Nat := N * 2 ^ (-e).toNat
def sideB (D : Nat) (e : Int) : Nat := D * 2 ^ e.toNat
/-- its whole part is below 2^53 -/
def fits (N D : Nat) (e : Int) : Prop := sideA N e < 9007199254740992 * sideB D e
/-- the exponent of the nearest number, before rounding -/
structure IsE (N D : Nat) (e : Int) : Prop where
  low : -1074 ≤ e
  fit : fits N D e
  least : e = -1074 ∨ ¬ fits N D (e - 1)

theorem side_succ (N D : Nat) (e : Int) : (sideA N (e + 1) = sideA N e ∧ sideB D (e + 1) = 2 * sideB D e) ∨ (sideA N e = 2 * sideA N (e + 1) ∧ sideB D (e + 1) = sideB D e) := by
  unfold sideA sideB
  by_cases h : 0 ≤ e
  · left
    rw [show (-(e + 1)).toNat = (-e).toNat by omega, show (e + 1).toNat = e.toNat + 1 by omega, Nat.pow_succ]
    refine ⟨rfl, ?_⟩
    rw [← Nat.mul_assoc, Nat.mul_comm]
  · right
    rw [show (-e).toNat = (-(e + 1)).toNat + 1 by omega, show (e + 1).toNat = e.toNat by omega, Nat.pow_succ]
    refine ⟨?_, rfl⟩
    rw [← Nat.mul_assoc, Nat.mul_comm]

theorem fits_succ {N D : Nat} {e : Int} (h : fits N D e) : fits N D (e + 1) := by
  unfold fits at *
  rcases side_succ N D e with ⟨h1, h2⟩ | ⟨h1, h2⟩
  · rw [h1, h2]; omega
  · rw [h2]; omega

theorem fits_mono {N D : Nat} {e e' : Int} (h : fits N D e) (he : e ≤ e') : fits N D e' := by
  obtain ⟨k, rfl⟩ : ∃ k : Nat, e' = e + k := ⟨(e' - e).toNat, by omega⟩
  clear he
  induction k with
  | zero => simpa using h
  | succ k ih => rw [show e + ((k + 1 : Nat) : Int) = e + (k : Nat) + 1 by omega]; exact fits_succ ih

theorem IsE.unique {N D : Nat} {e e' : Int} (h : IsE N D e) (k : IsE N D e') : e = e' := by
  rcases Int.lt_trichotomy e e' with h1 | h1 | h1
  · rcases k.least with h2 | h2
    · have := h.low; omega
    · exact absurd (fits_mono h.fit (by omega)) h2
  · exact h1
  · rcases h.least with h2 | h2
    · have := k.low; omega
    · exact absurd (fits_mono k.fit (by omega)) h2

end Go.Proofs.YtekcpapkicmckaaGreatDoor
