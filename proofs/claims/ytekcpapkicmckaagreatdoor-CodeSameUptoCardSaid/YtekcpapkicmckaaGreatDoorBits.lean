/- Contracts of math/bits: Sub32, Add32, Len32, LeadingZeros32. -/
import Derived.Test.YtekcpapkicmckaaGreatDoorLimA
import Derived.Test.YtekcpapkicmckaaGreatDoorShelf
namespace Go.Proofs.YtekcpapkicmckaaGreatDoor
open Go.RowKit

set_option maxHeartbeats 400000 in
theorem Add32_any (x y c : Nat) (w : World) (hx : x < 4294967296) (hy : y < 4294967296) (hc : c ≤ 1) :
    Calls Tryz.prog 249 #[.int .u32 x, .int .u32 y, .int .u32 c] w fun e w' => e = .returned (.tuple #[.int .u32 ((x + y + c) % 4294967296 : Nat), .int .u32 ((x + y + c) / 4294967296 : Nat)]) ∧ w = w' := by
  go_enter Tryz.func249, Tryz.ntmps249
  go_wp2
  go_ret2
  exact ⟨ret_eq (by simp), rfl⟩

/-- what is borrowed -/
def borr (x y c : Nat) : Nat := if x < y + c then 1 else 0
def diff (x y c : Nat) : Nat := (x + 4294967296 - y - c) % 4294967296
theorem borr_spec (x y c : Nat) (hx : x < 4294967296) (hy : y < 4294967296) (hc : c ≤ 1) : diff x y c + y + c = x + borr x y c * 4294967296 ∧ borr x y c ≤ 1 ∧ diff x y c < 4294967296 := by
  unfold borr diff
  split <;> omega

theorem wrap_u32 (n : Int) (h0 : 0 ≤ n) (h1 : n < 4294967296) : IntKind.u32.wrap n = n := by rw [IntKind.wrap_u32]; omega
theorem bits32 (a b : Nat) (ha : a < 4294967296) (hb : b < 4294967296) : Go.bits .and .u32 a b = ((a &&& b : Nat) : Int) ∧ Go.bits .or .u32 a b = ((a ||| b : Nat) : Int) ∧ Go.bits .xor .u32 a b = ((a ^^^ b : Nat) : Int) := by
  obtain ⟨h1, h2⟩ := bits_nat .u32 32 (by decide) (fun n h0 h1 => wrap_u32 n h0 (by simpa using h1)) a b (by simpa using ha) (by simpa using hb)
  refine ⟨h1, h2, ?_⟩
  have e1 : (BitVec.ofInt 32 (a : Int)).toNat = a := by rw [BitVec.ofInt_natCast, BitVec.toNat_ofNat]; exact Nat.mod_eq_of_lt (by omega)
  have e2 : (BitVec.ofInt 32 (b : Int)).toNat = b := by rw [BitVec.ofInt_natCast, BitVec.toNat_ofNat]; exact Nat.mod_eq_of_lt (by omega)
  show IntKind.u32.wrap ((BitVec.ofInt 32 (a : Int) ^^^ BitVec.ofInt 32 (b : Int)).toNat : Int) = _
  have hx : a ^^^ b < 2 ^ 32 := Nat.xor_lt_two_pow (by omega) (by omega)
  rw [BitVec.toNat_xor, e1, e2]
  exact wrap_u32 _ (by omega) (by omega)

theorem top_bit (n : Nat) (h : n < 4294967296) : n.testBit 31 = decide (2147483648 ≤ n) := by
  rw [Nat.testBit_eq_decide_div_mod_eq]
  simp only [show (2 : Nat) ^ 31 = 2147483648 from rfl]
  congr 1
  apply propext
  omega

theorem sub_bits (x y d : Nat) (hx : x < 4294967296) (hy : y < 4294967296) (hd : d < 4294967296) :
    Go.bits .or .u32 (Go.bits .and .u32 (Go.bits .xor .u32 IntKind.u32.max x) y) (Go.bits .and .u32 (Go.bits .xor .u32 IntKind.u32.max (Go.bits .xor .u32 x y)) d) / 2147483648 =
      ((if (x < 2147483648 ∧ 2147483648 ≤ y) ∨ ((2147483648 ≤ x ↔ 2147483648 ≤ y) ∧ 2147483648 ≤ d) then 1 else 0 : Nat) : Int) := by
  have hm : (IntKind.u32.max : Int) = ((4294967295 : Nat) : Int) := rfl
  have l1 : 4294967295 ^^^ x < 4294967296 := Nat.xor_lt_two_pow (n := 32) (by omega) (by omega)
  have l2 : x ^^^ y < 4294967296 := Nat.xor_lt_two_pow (n := 32) (by omega) (by omega)
  have l3 : 4294967295 ^^^ (x ^^^ y) < 4294967296 := Nat.xor_lt_two_pow (n := 32) (by omega) (by omega)
  have l4 : (4294967295 ^^^ x) &&& y < 4294967296 := Nat.and_lt_two_pow (n := 32) _ (by omega)
  have l5 : (4294967295 ^^^ (x ^^^ y)) &&& d < 4294967296 := Nat.and_lt_two_pow (n := 32) _ (by omega)
  have l6 : ((4294967295 ^^^ x) &&& y) ||| ((4294967295 ^^^ (x ^^^ y)) &&& d) < 4294967296 := Nat.or_lt_two_pow (n := 32) (by omega) (by omega)
  rw [hm, (bits32 _ _ (by omega) hx).2.2, (bits32 _ _ hx hy).2.2, (bits32 _ _ l1 hy).1, (bits32 _ _ (by omega) l2).2.2, (bits32 _ _ l3 hd).1, (bits32 _ _ l4 l5).2.1]
  have hb := top_bit _ l6
  rw [Nat.testBit_or, Nat.testBit_and, Nat.testBit_and, Nat.testBit_xor, Nat.testBit_xor, Nat.testBit_xor, top_bit x hx, top_bit y hy, top_bit d hd, show Nat.testBit 4294967295 31 = true from by decide] at hb
  generalize ((4294967295 ^^^ x) &&& y) ||| ((4294967295 ^^^ (x ^^^ y)) &&& d) = n at hb l6
  have key : ((x < 2147483648 ∧ 2147483648 ≤ y) ∨ ((2147483648 ≤ x ↔ 2147483648 ≤ y) ∧ 2147483648 ≤ d)) ↔ 2147483648 ≤ n := by
    by_cases h1 : 2147483648 ≤ x <;> by_cases h2 : 2147483648 ≤ y <;> by_cases h3 : 2147483648 ≤ d <;> simp [h1, h2, h3] at hb ⊢ <;> omega
  by_cases hn : 2147483648 ≤ n
  · rw [if_pos (key.2 hn)]; omega
  · rw [if_neg (fun h => hn (key.1 h))]; omega

set_option maxHeartbeats 400000 in
theorem Sub32_any (x y c : Nat) (w : World) (hx : x < 4294967296) (hy : y < 4294967296) (hc : c ≤ 1) :
    Calls Tryz.prog 248 #[.int .u32 x, .int .u32 y, .int .u32 c] w fun e w' => e = .returned (.tuple #[.int .u32 (diff x y c : Nat), .int .u32 (borr x y c : Nat)]) ∧ w = w' := by
  have e1 : ((x : Int) - y - c) % 4294967296 = (diff x y c : Nat) := by unfold diff; omega
  have hd : diff x y c < 4294967296 := Nat.mod_lt _ (by omega)
  have e2 : Go.bits .or .u32 (Go.bits .and .u32 (Go.bits .xor .u32 IntKind.u32.max x) y) (Go.bits .and .u32 (Go.bits .xor .u32 IntKind.u32.max (Go.bits .xor .u32 x y)) (diff x y c : Nat)) / 2147483648 = ((borr x y c : Nat) : Int) := by
    rw [sub_bits x y _ hx hy hd]
    congr 1
    unfold borr diff
    split <;> split <;> omega
  have hs : IntKind.u32.signed = false := rfl
  clear hx hy hc hd
  go_enter Tryz.func248, Tryz.ntmps248
  go_wp2
  go_ret2
  exact ⟨ret_eq (by simp [e1]), rfl⟩

/-! ### lengths in bits -/
def blen (n : Nat) : Nat := if n = 0 then 0 else n.log2 + 1
theorem blen_zero : blen 0 = 0 := rfl
theorem blen_lt (n : Nat) : n < 2 ^ blen n := by
  unfold blen
  split
  · omega
  · exact Nat.lt_log2_self
theorem blen_ge {n : Nat} (h : n ≠ 0) : 2 ^ (blen n - 1) ≤ n := by
  unfold blen
  rw [if_neg h]
  exact Nat.log2_self_le h
theorem blen_pos {n : Nat} (h : n ≠ 0) : 0 < blen n := by unfold blen; rw [if_neg h]; omega
theorem blen_unique {n k : Nat} (h1 : 2 ^ k ≤ n) (h2 : n < 2 ^ (k + 1)) : blen n = k + 1 := by
  have hn : n ≠ 0 := by have := Nat.pow_pos (n := k) (show 0 < 2 by omega); omega
  have h3 := blen_lt n
  have h4 := blen_ge hn
  have h5 : k < blen n := (Nat.pow_lt_pow_iff_right (by omega)).1 (Nat.lt_of_le_of_lt h1 h3)
  have h6 : blen n - 1 < k + 1 := (Nat.pow_lt_pow_iff_right (by omega)).1 (Nat.lt_of_le_of_lt h4 h2)
  omega
theorem blen_le {n k : Nat} (h : n < 2 ^ k) : blen n ≤ k := by
  by_cases hn : n = 0
  · subst hn; rw [blen_zero]; omega
  · have h4 := blen_ge hn
    have h6 : blen n - 1 < k := (Nat.pow_lt_pow_iff_right (by omega)).1 (Nat.lt_of_le_of_lt h4 h)
    omega
theorem blen_gt {n k : Nat} (h : 2 ^ k ≤ n) : k < blen n :=
  (Nat.pow_lt_pow_iff_right (show 1 < 2 by omega)).1 (Nat.lt_of_le_of_lt h (blen_lt n))
theorem blen_half (n : Nat) (h : n ≠ 0) : blen n = blen (n / 2) + 1 := by
  by_cases h2 : n / 2 = 0
  · rw [h2, blen_zero]
    have : n = 1 := by omega
    subst this
    rfl
  · have h3 := blen_lt (n / 2)
    have h4 := blen_ge h2
    have h5 := blen_pos h2
    obtain ⟨k, hk⟩ : ∃ k, blen (n / 2) = k + 1 := ⟨blen (n / 2) - 1, by omega⟩
    rw [hk] at h3 h4 ⊢
    simp only [Nat.add_sub_cancel] at h4
    rw [Nat.pow_succ] at h3
    exact blen_unique (by rw [Nat.pow_succ]; omega) (by rw [Nat.pow_succ, Nat.pow_succ]; omega)
theorem bitLen_blen (x : Nat) (h : x < 2 ^ 64) : Lib.bitLen x = blen x := by
  have key : ∀ f x, x < 2 ^ f → Lib.bitLenAux f x = blen x := by
    intro f
    induction f with
    | zero => intro x hx; have : x = 0 := by simpa using hx
              subst this; rfl
    | succ f ih =>
      intro x hx
      unfold Lib.bitLenAux
      by_cases h0 : x = 0
      · rw [if_pos h0, h0, blen_zero]
      · rw [if_neg h0, ih (x / 2) (by rw [Nat.pow_succ] at hx; omega), blen_half x h0, Nat.add_comm]
  exact key 64 x h

theorem Len32_any (x : Nat) (w : World) (hx : x < 4294967296) :
    Calls Tryz.prog 194 #[.int .u32 x] w fun e w' => e = .returned (.int .i64 (blen x : Nat)) ∧ w = w' := by
  refine (Tryz.bits_Len32 x w (by omega) (by omega)).mono ?_
  rintro e w' ⟨rfl, rfl⟩
  rw [Int.toNat_natCast, bitLen_blen x (by omega)]
  exact ⟨rfl, rfl⟩
theorem LeadingZeros32_any (x : Nat) (w : World) (hx : x < 4294967296) :
    Calls Tryz.prog 222 #[.int .u32 x] w fun e w' => e = .returned (.int .i64 (32 - blen x : Nat)) ∧ w = w' := by
  refine (Tryz.bits_LeadingZeros32 x w (by omega) (by omega)).mono ?_
  rintro e w' ⟨rfl, rfl⟩
  rw [Int.toNat_natCast, bitLen_blen x (by omega)]
  have := blen_le (n := x) (k := 32) (by omega)
  exact ⟨ret_eq (by congr 1; omega), rfl⟩

end Go.Proofs.YtekcpapkicmckaaGreatDoor
