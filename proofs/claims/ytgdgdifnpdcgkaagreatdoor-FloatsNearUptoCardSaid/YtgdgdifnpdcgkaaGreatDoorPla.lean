/- How a float compares with itself, with nought and with the greatest: plain Lean over the model's format. floats.plain: the text of what is no finite number but nought. -/
import Derived.Test.YtgdgdifnpdcgkaaGreatDoorQuo
import Derived.Laws.Cover2
import Derived.Laws.BitsAllLaws
import Derived.WalkLawsBesides
namespace Go.Proofs.YtgdgdifnpdcgkaaGreatDoor
open Go.RowKit

/-- a float's bits without the sign -/
def rung (b : Nat) : Nat := b % 9223372036854775808

theorem rung_parts (b : Nat) : rung b = fexp b * 4503599627370496 + fman b := by unfold rung fexp fman; omega

theorem dsign : Ieee.double.signWeight = 9223372036854775808 := by decide
theorem dbin : Ieee.double.binade = 4503599627370496 := by decide
theorem dinf : Ieee.double.infRung = 9218868437227405312 := by decide
theorem dleast : Ieee.double.leastPlace = -1074 := by decide

theorem read_nan {b : Nat} (h : 9218868437227405312 < rung b) : ∃ s t, Ieee.double.read b = .nan s t := by
  unfold rung at h
  unfold Ieee.Format.read
  simp only [dsign, dbin, dinf]
  rw [if_neg (by omega), if_neg (by omega), if_neg (by omega)]
  exact ⟨_, _, rfl⟩
theorem read_inf {b : Nat} (h : rung b = 9218868437227405312) : Ieee.double.read b = .infinity (b / 9223372036854775808 % 2 == 1) := by
  unfold rung at h
  unfold Ieee.Format.read
  simp only [dsign, dbin, dinf]
  rw [if_neg (by omega), if_neg (by omega), if_pos (by omega)]
theorem read_fin {b : Nat} (h : rung b < 9218868437227405312) : ∃ m p, Ieee.double.read b = .number (b / 9223372036854775808 % 2 == 1) m p ∧ -1074 ≤ p ∧ p ≤ 971 ∧ m < 9007199254740992 ∧ (m = 0 ↔ rung b = 0) := by
  unfold rung at h ⊢
  unfold Ieee.Format.read
  simp only [dsign, dbin, dinf, dleast]
  by_cases h1 : b % 9223372036854775808 < 4503599627370496
  · rw [if_pos h1]
    exact ⟨_, _, rfl, by omega, by omega, by omega, Iff.rfl⟩
  · rw [if_neg h1, if_pos h]
    exact ⟨_, _, rfl, by omega, by omega, by omega, by omega⟩

theorem order_nan {b : Nat} (h : 9218868437227405312 < rung b) : Ieee.double.order b b = none := by
  obtain ⟨s, t, e⟩ := read_nan h
  unfold Ieee.Format.order
  rw [e]; rfl
theorem cmp_self (a : Int) : compare a a = .eq := by simp
theorem order_self {b : Nat} (h : rung b ≤ 9218868437227405312) : Ieee.double.order b b = some .eq := by
  unfold Ieee.Format.order
  by_cases h1 : rung b = 9218868437227405312
  · rw [read_inf h1]
    simp [Ieee.Datum.order]
  · obtain ⟨m, p, e, _⟩ := read_fin (b := b) (by omega)
    rw [e]
    simp [Ieee.Datum.order]

theorem read_max : Ieee.double.read 9218868437227405311 = .number false 9007199254740991 971 := by decide
theorem read_low : Ieee.double.read 18442240474082181119 = .number true 9007199254740991 971 := by decide
theorem read_nought : Ieee.double.read 0 = .number false 0 (-1074) := by decide

theorem cmp_le {a b : Int} (h : a ≤ b) : (some (compare a b) == some Ordering.gt) = false := by
  show (some (compareOfLessAndEq a b) == some Ordering.gt) = false
  unfold compareOfLessAndEq
  split
  · rfl
  · split
    · rfl
    · omega
theorem signed_le (s : Bool) (m : Nat) : Ieee.signed s m 0 ≤ m := by
  unfold Ieee.signed
  split <;> simp <;> omega
theorem signed_ge (m k : Nat) : (m : Int) ≤ Ieee.signed false m k := by
  unfold Ieee.signed
  simp only [Bool.false_eq_true, if_false]
  rw [Nat.shiftLeft_eq]
  have := Nat.le_mul_of_pos_right m (Nat.pow_pos (n := k) (show 0 < 2 by omega))
  omega

theorem order_max_fin {b : Nat} (h : rung b < 9218868437227405312) : (Ieee.double.order b 9218868437227405311 == some .gt) = false := by
  obtain ⟨m, p, e, h1, h2, h3, _⟩ := read_fin h
  unfold Ieee.Format.order
  rw [e, read_max]
  unfold Ieee.Datum.order
  simp only [Int.min_eq_left h2]
  rw [show (p - p).toNat = 0 by omega]
  apply cmp_le
  have a1 := signed_le (b / 9223372036854775808 % 2 == 1) m
  have a2 := signed_ge 9007199254740991 (971 - p).toNat
  omega
theorem order_max_inf {b : Nat} (hb : b < 18446744073709551616) (h : rung b = 9218868437227405312) : (Ieee.double.order b 9218868437227405311 == some .gt) = decide (b < 9223372036854775808) := by
  unfold Ieee.Format.order
  rw [read_inf h, read_max]
  unfold Ieee.Datum.order
  by_cases h1 : b < 9223372036854775808
  · have e : (b / 9223372036854775808 % 2 == 1) = false := by simp; omega
    rw [e]; simp [h1]
  · have e : (b / 9223372036854775808 % 2 == 1) = true := by simp; omega
    rw [e]; simp [h1]

theorem neg_rung (b : Nat) : rung (b ^^^ 9223372036854775808) = rung b := by
  unfold rung
  rw [show (9223372036854775808 : Nat) = 2 ^ 63 from rfl, Nat.xor_mod_two_pow]
  simp
theorem neg_lt (b : Nat) (hb : b < 18446744073709551616) : b ^^^ 9223372036854775808 < 18446744073709551616 := by
  have := Nat.xor_lt_two_pow (n := 64) (x := b) (y := 9223372036854775808) (by omega) (by omega)
  omega
theorem neg_top (b : Nat) (hb : b < 18446744073709551616) : b ^^^ 9223372036854775808 < 9223372036854775808 ↔ ¬ b < 9223372036854775808 := by
  have h1 := neg_rung b
  have h2 := neg_lt b hb
  have h3 : (b ^^^ 9223372036854775808).testBit 63 = !b.testBit 63 := by
    rw [Nat.testBit_xor, show (9223372036854775808 : Nat) = 2 ^ 63 from rfl, Nat.testBit_two_pow_self]; simp
  rw [Nat.testBit_eq_decide_div_mod_eq, Nat.testBit_eq_decide_div_mod_eq] at h3
  generalize b ^^^ 9223372036854775808 = c at *
  rw [show (2 : Nat) ^ 63 = 9223372036854775808 from rfl] at h3
  by_cases h4 : b / 9223372036854775808 % 2 = 1
  · simp [h4] at h3; omega
  · simp [h4] at h3; omega

theorem order_nought {b : Nat} (h : rung b < 9218868437227405312) : (Ieee.double.order b 0 == some .eq) = decide (rung b = 0) := by
  obtain ⟨m, p, e, h1, h2, h3, h4⟩ := read_fin h
  unfold Ieee.Format.order
  rw [e, read_nought]
  unfold Ieee.Datum.order
  simp only [Int.min_eq_right h1]
  generalize (p - -1074).toNat = k
  generalize (-1074 - -1074 : Int).toNat = j
  have e0 : Ieee.signed false 0 j = 0 := by simp [Ieee.signed]
  rw [e0]
  have hp : 0 < 2 ^ k := Nat.pow_pos (by omega)
  by_cases hm : m = 0
  · have e1 : Ieee.signed (b / 9223372036854775808 % 2 == 1) m k = 0 := by subst hm; simp [Ieee.signed]
    rw [e1]
    simp [h4.1 hm]
  · have e1 : Ieee.signed (b / 9223372036854775808 % 2 == 1) m k ≠ 0 := by
      unfold Ieee.signed
      rw [Nat.shiftLeft_eq]
      have := Nat.mul_pos (Nat.pos_of_ne_zero hm) hp
      split <;> omega
    have e2 : rung b ≠ 0 := fun e => hm (h4.2 e)
    simp only [e2, decide_false]
    generalize Ieee.signed (b / 9223372036854775808 % 2 == 1) m k = z at e1
    show (some (compareOfLessAndEq z 0) == some Ordering.eq) = false
    unfold compareOfLessAndEq
    split
    · rfl
    · first | rfl | (rw [if_neg e1]; rfl)

theorem and_top (b : Nat) (hb : b < 18446744073709551616) : (Go.bits .and .u64 (b : Int) 9223372036854775808 == 0) = decide (b < 9223372036854775808) := by
  have e := u64_and_nat b 9223372036854775808 hb (by omega)
  rw [show (9223372036854775808 : Nat) = 2 ^ 63 from rfl, nat_bit, show (2 : Nat) ^ 63 = 9223372036854775808 from rfl] at e
  have e' : Go.bits .and .u64 (b : Int) 9223372036854775808 = ((b / 9223372036854775808 % 2 * 9223372036854775808 : Nat) : Int) := e
  rw [e']
  by_cases h : b < 9223372036854775808
  · simp [h]; omega
  · simp [h]; omega

end Go.Proofs.YtgdgdifnpdcgkaaGreatDoor

namespace Go.Proofs.YtgdgdifnpdcgkaaGreatDoor
open Go.RowKit

theorem IsInf_pos (b : Nat) (v : Bool) (w : World) (h : (Ieee.double.order b 9218868437227405311 == some .gt) = v) : Calls Tryz.prog 47 #[.float .f64 b, .int .i64 1] w fun e w' => e = .returned (.bool v) ∧ w = w' := by
  have h1 : (FloatKind.f64.format.order b 9218868437227405311 == some .gt) = v := h
  go_enter Tryz.func47, Tryz.ntmps47
  go_wp2
  go_ret
  exact ⟨rfl, rfl⟩
theorem IsInf_neg (b : Nat) (v : Bool) (w : World) (h : (Ieee.double.order (b ^^^ 9223372036854775808) 9218868437227405311 == some .gt) = v) : Calls Tryz.prog 47 #[.float .f64 b, .int .i64 (-1)] w fun e w' => e = .returned (.bool v) ∧ w = w' := by
  have h1 : (FloatKind.f64.format.order (b ^^^ 9223372036854775808) 9218868437227405311 == some .gt) = v := h
  have n1 : ∀ W : World, (Op.unary UnOp.neg (.float .f64 b)).run Tryz.prog W = .ok (.float .f64 (b ^^^ 9223372036854775808)) W := fun W => rfl
  go_enter Tryz.func47, Tryz.ntmps47
  go_wp2
  go_ret
  exact ⟨rfl, rfl⟩
theorem top_neg (b : Nat) (hb : b < 18446744073709551616) : decide (wrap64 (b : Int) < 0) = !decide (b < 9223372036854775808) := by
  unfold wrap64
  by_cases h : b < 9223372036854775808
  · simp [h]; omega
  · simp [h]; omega
theorem Signbit_any (b : Nat) (w : World) (hb : b < 18446744073709551616) : Calls Tryz.prog 48 #[.float .f64 b] w fun e w' => e = .returned (.bool (!decide (b < 9223372036854775808))) ∧ w = w' := by
  have e1 := Tryz.f64bits b
  have HT := Lib.hid (top_neg b hb)
  go_enter Tryz.func48, Tryz.ntmps48
  go_wp2
  go_ret
  exact ⟨by rw [← HT.out]; rfl, rfl⟩

set_option maxHeartbeats 1000000 in
theorem plain_nan (b : Nat) (w : World) (h : 9218868437227405312 < rung b) : Calls Tryz.prog 24 #[.float .f64 b] w fun e w' => e = .returned (.string ⟨#[110, 97, 110]⟩) ∧ w = w' := by
  have h1 : FloatKind.f64.format.order b b = none := order_nan h
  go_enter Tryz.func24, Tryz.ntmps24
  go_wp2
  go_ret
  exact ⟨rfl, rfl⟩

/-- the text of what is no number but nought -/
def plainB (b : Nat) : List UInt8 := if rung b = 9218868437227405312 then (if b < 9223372036854775808 then [105, 110, 102] else [45, 105, 110, 102]) else if rung b = 0 then (if b < 9223372036854775808 then [48] else [45, 48]) else []

set_option maxRecDepth 100000 in
set_option maxHeartbeats 1000000 in
theorem plain_some (b : Nat) (w : World) (hb : b < 18446744073709551616) (h : rung b ≤ 9218868437227405312) : Calls Tryz.prog 24 #[.float .f64 b] w fun e w' => e = .returned (.string ⟨(plainB b).toArray⟩) ∧ w = w' := by
  have h0 : FloatKind.f64.format.order b b = some .eq := order_self h
  by_cases hi : rung b = 9218868437227405312
  · have hn : rung (b ^^^ 9223372036854775808) = 9218868437227405312 := by rw [neg_rung]; exact hi
    have HP := Lib.hid (fun W => IsInf_pos b _ W (order_max_inf hb hi))
    have HN := Lib.hid (fun W => IsInf_neg b _ W (order_max_inf (neg_lt b hb) hn))
    have ht := neg_top b hb
    by_cases hs : b < 9223372036854775808
    · have e1 : decide (b < 9223372036854775808) = true := by simpa using hs
      rw [e1] at HP
      have e2 : plainB b = [105, 110, 102] := by unfold plainB; rw [if_pos hi, if_pos hs]
      rw [e2]
      go_enter Tryz.func24, Tryz.ntmps24
      go_wp2_with fail
      refine (HP.out _).mono ?_; rintro e w' ⟨rfl, rfl⟩
      go_wp2
      go_ret
      exact ⟨rfl, rfl⟩
    · have e1 : decide (b < 9223372036854775808) = false := by simpa using hs
      have e3 : decide (b ^^^ 9223372036854775808 < 9223372036854775808) = true := by simpa using ht.2 hs
      rw [e1] at HP
      rw [e3] at HN
      have e2 : plainB b = [45, 105, 110, 102] := by unfold plainB; rw [if_pos hi, if_neg hs]
      rw [e2]
      go_enter Tryz.func24, Tryz.ntmps24
      go_wp2_with fail
      refine (HP.out _).mono ?_; rintro e w' ⟨rfl, rfl⟩
      go_wp2_with fail
      refine (HN.out _).mono ?_; rintro e w' ⟨rfl, rfl⟩
      go_wp2
      go_ret
      exact ⟨rfl, rfl⟩
  · have hf : rung b < 9218868437227405312 := by omega
    have HP := Lib.hid (fun W => IsInf_pos b _ W (order_max_fin hf))
    have HN := Lib.hid (fun W => IsInf_neg b _ W (order_max_fin (b := b ^^^ 9223372036854775808) (by rw [neg_rung]; exact hf)))
    have HS := Lib.hid (fun W => Signbit_any b W hb)
    have hz := order_nought hf
    by_cases h1 : rung b = 0
    · have hz' : (FloatKind.f64.format.order b 0 == some .eq) = true := by rw [show FloatKind.f64.format = Ieee.double from rfl, hz]; simpa using h1
      by_cases hs : b < 9223372036854775808
      · have e1 : decide (b < 9223372036854775808) = true := by simpa using hs
        rw [e1] at HS
        have e2 : plainB b = [48] := by unfold plainB; rw [if_neg hi, if_pos h1, if_pos hs]
        rw [e2]
        go_enter Tryz.func24, Tryz.ntmps24
        go_wp2_with fail
        refine (HP.out _).mono ?_; rintro e w' ⟨rfl, rfl⟩
        go_wp2_with fail
        refine (HN.out _).mono ?_; rintro e w' ⟨rfl, rfl⟩
        go_wp2_with fail
        refine (HS.out _).mono ?_; rintro e w' ⟨rfl, rfl⟩
        go_wp2
        go_ret
        exact ⟨rfl, rfl⟩
      · have e1 : decide (b < 9223372036854775808) = false := by simpa using hs
        rw [e1] at HS
        have e2 : plainB b = [45, 48] := by unfold plainB; rw [if_neg hi, if_pos h1, if_neg hs]
        rw [e2]
        go_enter Tryz.func24, Tryz.ntmps24
        go_wp2_with fail
        refine (HP.out _).mono ?_; rintro e w' ⟨rfl, rfl⟩
        go_wp2_with fail
        refine (HN.out _).mono ?_; rintro e w' ⟨rfl, rfl⟩
        go_wp2_with fail
        refine (HS.out _).mono ?_; rintro e w' ⟨rfl, rfl⟩
        go_wp2
        go_ret
        exact ⟨rfl, rfl⟩
    · have hz' : (FloatKind.f64.format.order b 0 == some .eq) = false := by rw [show FloatKind.f64.format = Ieee.double from rfl, hz]; simpa using h1
      have e2 : plainB b = [] := by unfold plainB; rw [if_neg hi, if_neg h1]
      rw [e2]
      go_enter Tryz.func24, Tryz.ntmps24
      go_wp2_with fail
      refine (HP.out _).mono ?_; rintro e w' ⟨rfl, rfl⟩
      go_wp2_with fail
      refine (HN.out _).mono ?_; rintro e w' ⟨rfl, rfl⟩
      go_wp2
      go_ret
      exact ⟨rfl, rfl⟩

end Go.Proofs.YtgdgdifnpdcgkaaGreatDoor
