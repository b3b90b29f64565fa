/- The reference's Bits (thicketref02), of a wide number that is no NaN. -/
import Derived.Test.YtilbadhadnockaaDoorRefQ
import Derived.Test.YtilbadhadnockaaDoorWide
namespace Go.Proofs.YtilbadhadnockaaDoor
open Go.RowKit

/-- the bits of a number's amount -/
def amount (I : Bool) (M : Nat) (E : Int) : Nat :=
  if I then 9218868437227405312 else if 4503599627370496 ≤ M then (E + 1075).toNat * 4503599627370496 + (M - 4503599627370496) else M
def withSign (neg : Bool) (b : Nat) : Nat := if neg then 9223372036854775808 + b else b

theorem amount_lt {I : Bool} {M : Nat} {E : Int} (hM : M < 9007199254740992) (h1 : -1074 ≤ E) (h2 : E ≤ 971) : amount I M E < 9223372036854775808 := by
  unfold amount
  split
  · omega
  · split <;> omega

theorem or_top (b : Nat) (h : b < 9223372036854775808) : Go.bits .or .u64 (b : Int) 9223372036854775808 = ((9223372036854775808 + b : Nat) : Int) := by
  have h1 := or_join64 63 1 b (by rw [show (2 : Nat) ^ 63 = 9223372036854775808 from rfl]; exact h) (by rw [show (2 : Nat) ^ 63 = 9223372036854775808 from rfl]; omega)
  rw [show (1 * 2 ^ 63 : Nat) = 9223372036854775808 from rfl] at h1
  rw [← h1]; simp only [Go.bits, BitVec.or_comm]; rfl

theorem amount_join {M : Nat} {E : Int} (h : 4503599627370496 ≤ M) (hM : M < 9007199254740992) (h1 : -1074 ≤ E) (h2 : E ≤ 971) :
    Go.bits .or .u64 ((E + 1074 + 1) * 4503599627370496) (Go.bits .and .u64 (M : Int) 4503599627370495) = ((amount false M E : Nat) : Int) := by
  have e1 := mask64 52 (by omega) M (by omega)
  rw [show ((2 : Int) ^ 52 - 1) = 4503599627370495 from rfl, show (2 : Nat) ^ 52 = 4503599627370496 from rfl] at e1
  obtain ⟨k, hk⟩ : ∃ k : Nat, E + 1075 = k := ⟨(E + 1075).toNat, by omega⟩
  have e2 := or_join64 52 k (M % 4503599627370496) (by rw [show (2 : Nat) ^ 52 = 4503599627370496 from rfl]; omega) (by rw [show (2 : Nat) ^ 52 = 4503599627370496 from rfl]; omega)
  rw [show (2 : Nat) ^ 52 = 4503599627370496 from rfl] at e2
  unfold amount
  rw [if_neg (by simp), if_pos h, e1, show (E + 1074 + 1) * 4503599627370496 = ((k * 4503599627370496 : Nat) : Int) by omega, e2, hk, Int.toNat_natCast, show M % 4503599627370496 = M - 4503599627370496 by omega]

set_option maxRecDepth 100000 in
set_option maxHeartbeats 1000000 in
theorem rBits_any (neg I : Bool) (M : Nat) (E : Int) (w : World) (hM : M < 9007199254740992) (h1 : -1074 ≤ E) (h2 : E ≤ 971) :
    Calls Tryd.prog 17 #[.agg #[.bool neg, .bool I, .bool false, .int .u64 M, .int .i64 E], .agg #[.int .i64 53, .int .i64 (-1074), .int .i64 971]] w fun e w' =>
      e = .returned (.int .u64 (withSign neg (amount I M E) : Nat)) ∧ Below w.heap.size w w' := by
  have hB : ∀ o, Below w.heap.size w (w.alloc o) := fun o => (Below.refl _ _).alloc (Nat.le_refl _) o
  have ha := amount_lt (I := I) hM h1 h2
  have HO := Lib.hid (or_top _ ha)
  have hw := (hB (.cells #[.bool neg, .bool I, .bool false, .int .u64 M, .int .i64 E] 31)).alloc (by simp) (.cells #[.int .i64 53, .int .i64 (-1074), .int .i64 971] 35)
  have HW := Lib.hid hw
  clear hw hB ha
  cases I
  · by_cases h : 4503599627370496 ≤ M
    · have hm1 : decide ((4503599627370496 : Int) ≤ M) = true := decide_eq_true (by omega)
      have hm2 : decide (4503599627370496 ≤ M) = true := decide_eq_true h
      have HA := Lib.hid (amount_join h hM h1 h2)
      cases neg
      all_goals
        go_enter Tryd.func17, Tryd.ntmps17
        go_wp2
        go_ret
        refine ⟨ret_eq ?_, HW.out⟩
        first
        | exact congrArg (Value.int .u64) HA.out
        | exact congrArg (Value.int .u64) ((congrArg (fun z => Go.bits .or .u64 z 9223372036854775808) HA.out).trans HO.out)
    · have hm1 : decide ((4503599627370496 : Int) ≤ M) = false := decide_eq_false (by omega)
      have hm2 : decide (4503599627370496 ≤ M) = false := decide_eq_false h
      have hA : amount false M E = M := by unfold amount; rw [if_neg (by simp), if_neg h]
      rw [hA] at HO ⊢
      clear hA
      cases neg
      all_goals
        go_enter Tryd.func17, Tryd.ntmps17
        go_wp2
        go_ret
        refine ⟨ret_eq ?_, HW.out⟩
        first
        | rfl
        | exact congrArg (Value.int .u64) HO.out
  · have hA : amount true M E = 9218868437227405312 := by unfold amount; rw [if_pos rfl]
    rw [hA] at HO ⊢
    clear hA
    cases neg
    all_goals
      go_enter Tryd.func17, Tryd.ntmps17
      go_wp2
      go_ret
      refine ⟨ret_eq ?_, HW.out⟩
      first
      | rfl
      | exact congrArg (Value.int .u64) HO.out

end Go.Proofs.YtilbadhadnockaaDoor
