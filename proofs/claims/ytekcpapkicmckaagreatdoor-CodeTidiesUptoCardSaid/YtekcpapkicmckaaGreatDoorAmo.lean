/- The bits of a number: its amount, its sign. -/
import Derived.Test.YtekcpapkicmckaaGreatDoorWide
namespace Go.Proofs.YtekcpapkicmckaaGreatDoor
open Go.RowKit

/-- the bits of a number's amount -/
def amount (I : Bool) (M : Nat) (E : Int) : Nat :=
  if I then 9218868437227405312 else if 4503599627370496 ≤ M then (E + 1075).toNat * 4503599627370496 + (M - 4503599627370496) else M
def withSign (neg : Bool) (b : Nat) : Nat := if neg then 9223372036854775808 + b else b

theorem amount_lt {I : Bool} {M : Nat} {E : Int} (hM : M < 9007199254740992) (h1 : -1074 ≤ E) (h2 : E ≤ 971) : amount I M E < 9223372036854775808 := by
  unfold amount
  split
  · omega
  · split <;> omega

theorem or_top (b : Nat) (h : b < 9223372036854775808) : Go.bits .or .u64 (b : Int) 9223372036854775808 = ((9223372036854775808 + b : Nat) : Int) := by
  have h1 := or_join64 63 1 b (by rw [show (2 : Nat) ^ 63 = 9223372036854775808 from rfl]; exact h) (by rw [show (2 : Nat) ^ 63 = 9223372036854775808 from rfl]; omega)
  rw [show (1 * 2 ^ 63 : Nat) = 9223372036854775808 from rfl] at h1
  rw [← h1]; simp only [Go.bits, BitVec.or_comm]; rfl

theorem amount_join {M : Nat} {E : Int} (h : 4503599627370496 ≤ M) (hM : M < 9007199254740992) (h1 : -1074 ≤ E) (h2 : E ≤ 971) :
    Go.bits .or .u64 ((E + 1074 + 1) * 4503599627370496) (Go.bits .and .u64 (M : Int) 4503599627370495) = ((amount false M E : Nat) : Int) := by
  have e1 := mask64 52 (by omega) M (by omega)
  rw [show ((2 : Int) ^ 52 - 1) = 4503599627370495 from rfl, show (2 : Nat) ^ 52 = 4503599627370496 from rfl] at e1
  obtain ⟨k, hk⟩ : ∃ k : Nat, E + 1075 = k := ⟨(E + 1075).toNat, by omega⟩
  have e2 := or_join64 52 k (M % 4503599627370496) (by rw [show (2 : Nat) ^ 52 = 4503599627370496 from rfl]; omega) (by rw [show (2 : Nat) ^ 52 = 4503599627370496 from rfl]; omega)
  rw [show (2 : Nat) ^ 52 = 4503599627370496 from rfl] at e2
  unfold amount
  rw [if_neg (by simp), if_pos h, e1, show (E + 1074 + 1) * 4503599627370496 = ((k * 4503599627370496 : Nat) : Int) by omega, e2, hk, Int.toNat_natCast, show M % 4503599627370496 = M - 4503599627370496 by omega]

end Go.Proofs.YtekcpapkicmckaaGreatDoor
