/- Go's float printing (internal/strconv): Mul64, the unrounded numbers. -/
import Derived.Test.YtgdgdifnpdcgkaaGreatDoorProg
import Derived.WalkKit
import Derived.Lib.Hide
import Derived.BigQuiet
import Derived.Shelf.Small.Bits
import Derived.Handy
namespace Go.Proofs.YtgdgdifnpdcgkaaGreatDoor
open Go.RowKit

theorem wrapU {n : Int} (h0 : 0 ≤ n) (h1 : n < 18446744073709551616) : IntKind.u64.wrap n = n := by
  have e : IntKind.u64.wrap n = n % 18446744073709551616 := rfl
  rw [e]; omega
theorem wrapU_mod (n : Int) : IntKind.u64.wrap n = n % 18446744073709551616 := rfl

theorem maskU (i : Nat) (hi : i ≤ 64) (x : Nat) (hx : x < 18446744073709551616) : Go.bits .and .u64 (x : Int) ((2 : Int) ^ i - 1) = ((x % 2 ^ i : Nat) : Int) := by
  have h := bits_mask .u64 64 (by decide) (fun n h0 h1 => wrapU h0 (by simpa using h1)) i hi (x : Int) (by omega) (by
    rw [show ((2 : Int) ^ 64) = 18446744073709551616 from rfl]; omega)
  rw [h, Int.natCast_emod, Int.natCast_pow]; rfl
theorem lowU (x : Nat) (hx : x < 18446744073709551616) : Go.bits .and .u64 (x : Int) 4294967295 = ((x % 4294967296 : Nat) : Int) := by
  have h := maskU 32 (by omega) x hx
  rw [show ((2 : Int) ^ 32 - 1) = 4294967295 from rfl, show (2 : Nat) ^ 32 = 4294967296 from rfl] at h
  exact h

theorem mul_hi (x y : Nat) : x * y / 18446744073709551616 = (x / 4294967296) * (y / 4294967296) + ((x / 4294967296) * (y % 4294967296) + (x % 4294967296) * (y % 4294967296) / 4294967296) / 4294967296 + (((x / 4294967296) * (y % 4294967296) + (x % 4294967296) * (y % 4294967296) / 4294967296) % 4294967296 + (x % 4294967296) * (y / 4294967296)) / 4294967296 := by
  have hx : x = 4294967296 * (x / 4294967296) + x % 4294967296 := by omega
  have hy : y = 4294967296 * (y / 4294967296) + y % 4294967296 := by omega
  have e : x * y = 18446744073709551616 * ((x / 4294967296) * (y / 4294967296)) + 4294967296 * ((x / 4294967296) * (y % 4294967296) + (x % 4294967296) * (y / 4294967296)) + (x % 4294967296) * (y % 4294967296) := by
    conv => lhs; rw [hx, hy]
    generalize x / 4294967296 = x1
    generalize y / 4294967296 = y1
    generalize x % 4294967296 = x0
    generalize y % 4294967296 = y0
    rw [Nat.mul_add, Nat.add_mul, Nat.add_mul]
    have e1 : 4294967296 * x1 * (4294967296 * y1) = 18446744073709551616 * (x1 * y1) := by
      rw [Nat.mul_assoc, Nat.mul_left_comm x1, ← Nat.mul_assoc]
    have e2 : x0 * (4294967296 * y1) = 4294967296 * (x0 * y1) := Nat.mul_left_comm ..
    have e3 : 4294967296 * x1 * y0 = 4294967296 * (x1 * y0) := Nat.mul_assoc ..
    rw [e1, e2, e3]; omega
  rw [e]
  generalize (x / 4294967296) * (y / 4294967296) = a
  generalize (x / 4294967296) * (y % 4294967296) = b
  generalize (x % 4294967296) * (y / 4294967296) = c
  generalize (x % 4294967296) * (y % 4294967296) = d
  omega

set_option maxRecDepth 100000 in
theorem Mul64_any (x y : Nat) (w : World) (hx : x < 18446744073709551616) (hy : y < 18446744073709551616) :
    Calls Tryz.prog 84 #[.int .u64 x, .int .u64 y] w fun e w' => e = .returned (.tuple #[.int .u64 (x * y / 18446744073709551616 : Nat), .int .u64 (x * y % 18446744073709551616 : Nat)]) ∧ w = w' := by
  have hh := mul_hi x y
  have hl : IntKind.u64.wrap ((x : Int) * y) = ((x * y % 18446744073709551616 : Nat) : Int) := by rw [wrapU_mod, Int.natCast_emod, Int.natCast_mul]; rfl
  have b1 : (x / 4294967296) * (y / 4294967296) ≤ 4294967295 * 4294967295 := Nat.mul_le_mul (by omega) (by omega)
  have b2 : (x / 4294967296) * (y % 4294967296) ≤ 4294967295 * 4294967295 := Nat.mul_le_mul (by omega) (by omega)
  have b3 : (x % 4294967296) * (y / 4294967296) ≤ 4294967295 * 4294967295 := Nat.mul_le_mul (by omega) (by omega)
  have b4 : (x % 4294967296) * (y % 4294967296) ≤ 4294967295 * 4294967295 := Nat.mul_le_mul (by omega) (by omega)
  have f1 := lowU x hx
  have f2 := lowU y hy
  have f3 : (x : Int) / 4294967296 = ((x / 4294967296 : Nat) : Int) := by rw [Int.natCast_ediv]; rfl
  have f4 : (y : Int) / 4294967296 = ((y / 4294967296 : Nat) : Int) := by rw [Int.natCast_ediv]; rfl
  generalize x * y / 18446744073709551616 = HI at *
  generalize x * y % 18446744073709551616 = LO at *
  generalize x / 4294967296 = x1 at *
  generalize y / 4294967296 = y1 at *
  generalize x % 4294967296 = x0 at *
  generalize y % 4294967296 = y0 at *
  have g1 : (x0 : Int) * y0 = ((x0 * y0 : Nat) : Int) := by rw [Int.natCast_mul]
  have g2 : (x1 : Int) * y0 = ((x1 * y0 : Nat) : Int) := by rw [Int.natCast_mul]
  have g3 : (x0 : Int) * y1 = ((x0 * y1 : Nat) : Int) := by rw [Int.natCast_mul]
  have g4 : (x1 : Int) * y1 = ((x1 * y1 : Nat) : Int) := by rw [Int.natCast_mul]
  generalize x1 * y1 = a at *
  generalize x1 * y0 = b at *
  generalize x0 * y1 = c at *
  generalize x0 * y0 = d at *
  obtain ⟨t, ht⟩ : ∃ t, b + d / 4294967296 = t := ⟨_, rfl⟩
  rw [ht] at hh
  have f5 := lowU t (by omega)
  have g5 : (b : Int) + (d : Int) / 4294967296 = (t : Int) := by omega
  have ht2 : t < 18446744073709551616 := by omega
  have HT := Lib.hid ht
  have HH := Lib.hid hh
  have ht3 : t % 4294967296 < 4294967296 := Nat.mod_lt _ (by omega)
  generalize hm : t % 4294967296 = tm at *
  have HM := Lib.hid hm
  clear hh ht hx hy hm
  go_enter Tryz.func84, Tryz.ntmps84
  go_wp2
  go_ret2
  exact ⟨by rw [HH.out]; simp, rfl⟩

theorem bool2_u64 (b : Bool) (w : World) : Calls Tryz.prog 183 #[.bool b] w fun e w' => e = .returned (.int .u64 (if b then 1 else 0)) ∧ w = w' := by
  cases b
  all_goals
    go_enter Tryz.func183, Tryz.ntmps183
    go_wp2
    go_ret
    exact ⟨rfl, rfl⟩

theorem nudge_any (u : Nat) (d : Int) (r : Nat) (w : World) (hr : (u : Int) + d = r) (h : r < 18446744073709551616) :
    Calls Tryz.prog 168 #[.int .u64 u, .int .i64 d] w fun e w' => e = .returned (.int .u64 r) ∧ w = w' := by
  have h1 : IntKind.u64.wrap ((u : Int) + IntKind.u64.wrap d) = (r : Int) := by
    rw [wrapU_mod, wrapU_mod, Int.add_emod_emod, hr]; omega
  clear h
  go_enter Tryz.func168, Tryz.ntmps168
  go_wp2
  go_ret
  exact ⟨rfl, rfl⟩
theorem ceil_any (u : Nat) (w : World) (h : u < 18446744073709551613) :
    Calls Tryz.prog 169 #[.int .u64 u] w fun e w' => e = .returned (.int .u64 ((u + 3) / 4 : Nat)) ∧ w = w' := by
  go_enter Tryz.func169, Tryz.ntmps169
  go_wp2
  go_ret
  exact ⟨by simp, rfl⟩
theorem floor_any (u : Nat) (w : World) (h : u < 18446744073709551616) :
    Calls Tryz.prog 170 #[.int .u64 u] w fun e w' => e = .returned (.int .u64 (u / 4 : Nat)) ∧ w = w' := by
  go_enter Tryz.func170, Tryz.ntmps170
  go_wp2
  go_ret
  exact ⟨by simp, rfl⟩
theorem round_any (u : Nat) (w : World) (h : u < 18446744073709551612) :
    Calls Tryz.prog 171 #[.int .u64 u] w fun e w' => e = .returned (.int .u64 ((u + 1 + u / 4 % 2) / 4 : Nat)) ∧ w = w' := by
  have h1 := maskU 1 (by omega) (u / 4) (by omega)
  rw [show ((2 : Int) ^ 1 - 1) = 1 from rfl, Nat.pow_one] at h1
  have h2 : (u : Int) / 4 = ((u / 4 : Nat) : Int) := by rw [Int.natCast_ediv]; rfl
  have h3 : u / 4 % 2 < 2 := Nat.mod_lt _ (by omega)
  have h4 : u / 4 ≤ u := Nat.div_le_self _ _
  generalize u / 4 = q at *
  obtain ⟨p, hp⟩ : ∃ p, q % 2 = p := ⟨_, rfl⟩
  rw [hp] at h1 h3
  rw [hp]
  clear hp
  go_enter Tryz.func171, Tryz.ntmps171
  go_wp2
  go_ret
  exact ⟨by simp, rfl⟩

end Go.Proofs.YtgdgdifnpdcgkaaGreatDoor
