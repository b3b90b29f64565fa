/- Contracts of floats.Parts and floats.Quotient, and of the bits of a float. -/
import Derived.Test.YtbcpfdeklglknaaGreatDoorRes
import Derived.Test.YtbcpfdeklglknaaGreatDoorWide
namespace Go.Proofs.YtbcpfdeklglknaaGreatDoor
open Go.RowKit

/-- a binary64's sign, exponent and mantissa as its bits hold them -/
def fneg (b : Nat) : Bool := decide (9223372036854775808 ≤ b)
def fexp (b : Nat) : Nat := b / 4503599627370496 % 2048
def fman (b : Nat) : Nat := b % 4503599627370496
theorem fexp_lt (b : Nat) : fexp b < 2048 := Nat.mod_lt _ (by omega)
theorem fman_lt (b : Nat) : fman b < 4503599627370496 := Nat.mod_lt _ (by omega)

/-- what Parts answers -/
def partsOf (b : Nat) : Nat × Int × Nat :=
  if fexp b = 2047 then (if fman b = 0 then (0, 0, 3) else (fman b, 0, 4))
  else if fexp b = 0 then (if fman b = 0 then (0, 0, 0) else (fman b, -1074, 1))
  else (fman b + 4503599627370496, (fexp b : Int) - 1075, 2)

set_option maxHeartbeats 1000000 in
theorem Parts_any (b : Nat) (w : World) (hb : b < 18446744073709551616) :
    Calls Tryz.prog 19 #[.float .f64 b] w fun e w' => e = .returned (.tuple #[.bool (fneg b), .int .u64 (partsOf b).1, .int .i64 (partsOf b).2.1, .int .u8 (partsOf b).2.2]) ∧ w = w' := by
  have e0 := Tryz.f64bits b
  have e1 : ((b : Int) / 9223372036854775808 == 1) = fneg b := by
    unfold fneg
    by_cases h : 9223372036854775808 ≤ b
    · have : (b : Int) / 9223372036854775808 = 1 := by omega
      simp [this, h]
    · have : (b : Int) / 9223372036854775808 = 0 := by omega
      simp [this]; omega
  have e2 : Go.bits .and .u64 ((b : Int) / 4503599627370496) 2047 = ((fexp b : Nat) : Int) := by
    have h := mask64 11 (by omega) (b / 4503599627370496) (by omega)
    rw [show ((2 : Int) ^ 11 - 1) = 2047 from rfl, show (2 : Nat) ^ 11 = 2048 from rfl] at h
    unfold fexp; rw [← h, Int.natCast_ediv]; rfl
  have e3 : Go.bits .and .u64 (b : Int) 4503599627370495 = ((fman b : Nat) : Int) := by
    have h := mask64 52 (by omega) b hb
    rw [show ((2 : Int) ^ 52 - 1) = 4503599627370495 from rfl, show (2 : Nat) ^ 52 = 4503599627370496 from rfl] at h
    exact h
  have e4 : Go.bits .or .u64 ((fman b : Nat) : Int) 4503599627370496 = ((fman b + 4503599627370496 : Nat) : Int) := by
    have h := or_join64 52 1 (fman b) (by have := fman_lt b; rw [show (2 : Nat) ^ 52 = 4503599627370496 from rfl]; exact this) (by have := fman_lt b; rw [show (2 : Nat) ^ 52 = 4503599627370496 from rfl]; omega)
    rw [show (1 * 2 ^ 52 : Nat) = 4503599627370496 from rfl] at h
    rw [show Go.bits .or .u64 ((fman b : Nat) : Int) 4503599627370496 = Go.bits .or .u64 4503599627370496 ((fman b : Nat) : Int) by simp only [Go.bits, BitVec.or_comm], Nat.add_comm]
    exact h
  have hE := fexp_lt b
  have hM := fman_lt b
  have HP : Hid (partsOf b = if fexp b = 2047 then (if fman b = 0 then (0, 0, 3) else (fman b, 0, 4)) else if fexp b = 0 then (if fman b = 0 then (0, 0, 0) else (fman b, -1074, 1)) else (fman b + 4503599627370496, (fexp b : Int) - 1075, 2)) := Lib.hid rfl
  generalize partsOf b = pb at HP ⊢
  generalize fexp b = E at e2 hE HP
  generalize fman b = M at e3 e4 hM HP
  generalize fneg b = N at e1 ⊢
  by_cases h1 : E = 2047
  · subst h1
    by_cases h2 : M = 0
    · subst h2
      have HQ := Lib.hid (show pb = (0, 0, 3) by rw [HP.out]; rfl)
      clear HP hb
      go_enter Tryz.func19, Tryz.ntmps19
      go_wp2
      refine bodyPost_ret (v := .tuple #[.bool N, .int .u64 0, .int .i64 0, .int .u8 3]) (by simp [results, Tryz.results19, go_sem]) rfl ⟨by rw [HQ.out]; rfl, rfl⟩
    · have hm0 : ((M : Int) == 0) = false := by simpa using h2
      have HQ := Lib.hid (show pb = (M, 0, 4) by rw [HP.out]; rw [if_pos rfl, if_neg h2])
      clear HP hb
      go_enter Tryz.func19, Tryz.ntmps19
      go_wp2
      refine bodyPost_ret (v := .tuple #[.bool N, .int .u64 (M : Int), .int .i64 0, .int .u8 4]) (by simp [results, Tryz.results19, go_sem]) rfl ⟨by rw [HQ.out]; rfl, rfl⟩
  · have he7 : ((E : Int) == 2047) = false := by simp; omega
    by_cases h3 : E = 0
    · subst h3
      by_cases h2 : M = 0
      · subst h2
        have HQ := Lib.hid (show pb = (0, 0, 0) by rw [HP.out]; rfl)
        clear HP hb
        go_enter Tryz.func19, Tryz.ntmps19
        go_wp2
        refine bodyPost_ret (v := .tuple #[.bool N, .int .u64 0, .int .i64 0, .int .u8 0]) (by simp [results, Tryz.results19, go_sem]) rfl ⟨by rw [HQ.out]; rfl, rfl⟩
      · have hm0 : ((M : Int) == 0) = false := by simpa using h2
        have HQ := Lib.hid (show pb = (M, -1074, 1) by rw [HP.out]; rw [if_neg h1, if_pos rfl, if_neg h2])
        clear HP hb
        go_enter Tryz.func19, Tryz.ntmps19
        go_wp2
        refine bodyPost_ret (v := .tuple #[.bool N, .int .u64 (M : Int), .int .i64 (-1074), .int .u8 1]) (by simp [results, Tryz.results19, go_sem]) rfl ⟨by rw [HQ.out]; rfl, rfl⟩
    · have he0 : ((E : Int) == 0) = false := by simpa using h3
      have HQ := Lib.hid (show pb = (M + 4503599627370496, (E : Int) - 1075, 2) by rw [HP.out]; rw [if_neg h1, if_neg h3])
      clear HP hb
      go_enter Tryz.func19, Tryz.ntmps19
      go_wp2
      refine bodyPost_ret (v := .tuple #[.bool N, .int .u64 ((M + 4503599627370496 : Nat) : Int), .int .i64 ((E : Int) - 1075), .int .u8 2]) (by simp [results, Tryz.results19, go_sem]) rfl ⟨by rw [HQ.out]; rfl, rfl⟩

theorem partsOf_bd (b : Nat) : (partsOf b).1 < 9007199254740992 ∧ -1074 ≤ (partsOf b).2.1 ∧ (partsOf b).2.1 ≤ 971 ∧ (partsOf b).2.2 ≤ 4 := by
  have h1 := fexp_lt b
  have h2 := fman_lt b
  unfold partsOf
  split
  · split <;> simp <;> omega
  · split
    · split <;> simp <;> omega
    · simp; omega

end Go.Proofs.YtbcpfdeklglknaaGreatDoor
