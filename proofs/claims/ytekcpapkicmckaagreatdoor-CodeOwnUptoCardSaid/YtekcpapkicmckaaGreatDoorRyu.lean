/- Go's float printing (internal/strconv): Mul64, the unrounded numbers. Go's float printing: uscale, prescale. Go's float printing: prescale, shortFloat of a wide number. Go's float printing: shortFloat of a power of two. Go's float printing: setDigits. Go's float printing: fmtEFG, the form 'e'. Go's float printing: ftoa64 of a positive number whose shortest text has one digit, the form 'e'. Go's float printing: strconv.FormatFloat of a positive number whose shortest text has one digit, the form 'e'. -/
import Derived.Test.YtekcpapkicmckaaGreatDoorProg
import Derived.WalkKit
import Derived.Lib.Hide
import Derived.BigQuiet
import Derived.Shelf.Small.Bits
import Derived.Handy
import Derived.Deep.QuietTactic
import Derived.Laws.BitsAllLaws
import Derived.Test.YtekcpapkicmckaaGreatDoorShelf
import Derived.Test.YtekcpapkicmckaaGreatDoorMem
import Derived.Laws.IdiomStrings
namespace Go.Proofs.YtekcpapkicmckaaGreatDoor
open Go.RowKit

theorem wrapU {n : Int} (h0 : 0 ≤ n) (h1 : n < 18446744073709551616) : IntKind.u64.wrap n = n := by
  have e : IntKind.u64.wrap n = n % 18446744073709551616 := rfl
  rw [e]; omega
theorem wrapU_mod (n : Int) : IntKind.u64.wrap n = n % 18446744073709551616 := rfl

theorem maskU (i : Nat) (hi : i ≤ 64) (x : Nat) (hx : x < 18446744073709551616) : Go.bits .and .u64 (x : Int) ((2 : Int) ^ i - 1) = ((x % 2 ^ i : Nat) : Int) := by
  have h := bits_mask .u64 64 (by decide) (fun n h0 h1 => wrapU h0 (by simpa using h1)) i hi (x : Int) (by omega) (by
    rw [show ((2 : Int) ^ 64) = 18446744073709551616 from rfl]; omega)
  rw [h, Int.natCast_emod, Int.natCast_pow]; rfl
theorem lowU (x : Nat) (hx : x < 18446744073709551616) : Go.bits .and .u64 (x : Int) 4294967295 = ((x % 4294967296 : Nat) : Int) := by
  have h := maskU 32 (by omega) x hx
  rw [show ((2 : Int) ^ 32 - 1) = 4294967295 from rfl, show (2 : Nat) ^ 32 = 4294967296 from rfl] at h
  exact h

theorem mul_hi (x y : Nat) : x * y / 18446744073709551616 = (x / 4294967296) * (y / 4294967296) + ((x / 4294967296) * (y % 4294967296) + (x % 4294967296) * (y % 4294967296) / 4294967296) / 4294967296 + (((x / 4294967296) * (y % 4294967296) + (x % 4294967296) * (y % 4294967296) / 4294967296) % 4294967296 + (x % 4294967296) * (y / 4294967296)) / 4294967296 := by
  have hx : x = 4294967296 * (x / 4294967296) + x % 4294967296 := by omega
  have hy : y = 4294967296 * (y / 4294967296) + y % 4294967296 := by omega
  have e : x * y = 18446744073709551616 * ((x / 4294967296) * (y / 4294967296)) + 4294967296 * ((x / 4294967296) * (y % 4294967296) + (x % 4294967296) * (y / 4294967296)) + (x % 4294967296) * (y % 4294967296) := by
    conv => lhs; rw [hx, hy]
    generalize x / 4294967296 = x1
    generalize y / 4294967296 = y1
    generalize x % 4294967296 = x0
    generalize y % 4294967296 = y0
    rw [Nat.mul_add, Nat.add_mul, Nat.add_mul]
    have e1 : 4294967296 * x1 * (4294967296 * y1) = 18446744073709551616 * (x1 * y1) := by
      rw [Nat.mul_assoc, Nat.mul_left_comm x1, ← Nat.mul_assoc]
    have e2 : x0 * (4294967296 * y1) = 4294967296 * (x0 * y1) := Nat.mul_left_comm ..
    have e3 : 4294967296 * x1 * y0 = 4294967296 * (x1 * y0) := Nat.mul_assoc ..
    rw [e1, e2, e3]; omega
  rw [e]
  generalize (x / 4294967296) * (y / 4294967296) = a
  generalize (x / 4294967296) * (y % 4294967296) = b
  generalize (x % 4294967296) * (y / 4294967296) = c
  generalize (x % 4294967296) * (y % 4294967296) = d
  omega

set_option maxRecDepth 100000 in
theorem Mul64_any (x y : Nat) (w : World) (hx : x < 18446744073709551616) (hy : y < 18446744073709551616) :
    Calls Tryz.prog 153 #[.int .u64 x, .int .u64 y] w fun e w' => e = .returned (.tuple #[.int .u64 (x * y / 18446744073709551616 : Nat), .int .u64 (x * y % 18446744073709551616 : Nat)]) ∧ w = w' := by
  have hh := mul_hi x y
  have hl : IntKind.u64.wrap ((x : Int) * y) = ((x * y % 18446744073709551616 : Nat) : Int) := by rw [wrapU_mod, Int.natCast_emod, Int.natCast_mul]; rfl
  have b1 : (x / 4294967296) * (y / 4294967296) ≤ 4294967295 * 4294967295 := Nat.mul_le_mul (by omega) (by omega)
  have b2 : (x / 4294967296) * (y % 4294967296) ≤ 4294967295 * 4294967295 := Nat.mul_le_mul (by omega) (by omega)
  have b3 : (x % 4294967296) * (y / 4294967296) ≤ 4294967295 * 4294967295 := Nat.mul_le_mul (by omega) (by omega)
  have b4 : (x % 4294967296) * (y % 4294967296) ≤ 4294967295 * 4294967295 := Nat.mul_le_mul (by omega) (by omega)
  have f1 := lowU x hx
  have f2 := lowU y hy
  have f3 : (x : Int) / 4294967296 = ((x / 4294967296 : Nat) : Int) := by rw [Int.natCast_ediv]; rfl
  have f4 : (y : Int) / 4294967296 = ((y / 4294967296 : Nat) : Int) := by rw [Int.natCast_ediv]; rfl
  generalize x * y / 18446744073709551616 = HI at *
  generalize x * y % 18446744073709551616 = LO at *
  generalize x / 4294967296 = x1 at *
  generalize y / 4294967296 = y1 at *
  generalize x % 4294967296 = x0 at *
  generalize y % 4294967296 = y0 at *
  have g1 : (x0 : Int) * y0 = ((x0 * y0 : Nat) : Int) := by rw [Int.natCast_mul]
  have g2 : (x1 : Int) * y0 = ((x1 * y0 : Nat) : Int) := by rw [Int.natCast_mul]
  have g3 : (x0 : Int) * y1 = ((x0 * y1 : Nat) : Int) := by rw [Int.natCast_mul]
  have g4 : (x1 : Int) * y1 = ((x1 * y1 : Nat) : Int) := by rw [Int.natCast_mul]
  generalize x1 * y1 = a at *
  generalize x1 * y0 = b at *
  generalize x0 * y1 = c at *
  generalize x0 * y0 = d at *
  obtain ⟨t, ht⟩ : ∃ t, b + d / 4294967296 = t := ⟨_, rfl⟩
  rw [ht] at hh
  have f5 := lowU t (by omega)
  have g5 : (b : Int) + (d : Int) / 4294967296 = (t : Int) := by omega
  have ht2 : t < 18446744073709551616 := by omega
  have HT := Lib.hid ht
  have HH := Lib.hid hh
  have ht3 : t % 4294967296 < 4294967296 := Nat.mod_lt _ (by omega)
  generalize hm : t % 4294967296 = tm at *
  have HM := Lib.hid hm
  clear hh ht hx hy hm
  go_enter Tryz.func153, Tryz.ntmps153
  go_wp2
  go_ret2
  exact ⟨by rw [HH.out]; simp, rfl⟩

theorem bool2_u64 (b : Bool) (w : World) : Calls Tryz.prog 250 #[.bool b] w fun e w' => e = .returned (.int .u64 (if b then 1 else 0)) ∧ w = w' := by
  cases b
  all_goals
    go_enter Tryz.func250, Tryz.ntmps250
    go_wp2
    go_ret
    exact ⟨rfl, rfl⟩

theorem nudge_any (u : Nat) (d : Int) (r : Nat) (w : World) (hr : (u : Int) + d = r) (h : r < 18446744073709551616) :
    Calls Tryz.prog 232 #[.int .u64 u, .int .i64 d] w fun e w' => e = .returned (.int .u64 r) ∧ w = w' := by
  have h1 : IntKind.u64.wrap ((u : Int) + IntKind.u64.wrap d) = (r : Int) := by
    rw [wrapU_mod, wrapU_mod, Int.add_emod_emod, hr]; omega
  clear h
  go_enter Tryz.func232, Tryz.ntmps232
  go_wp2
  go_ret
  exact ⟨rfl, rfl⟩
theorem ceil_any (u : Nat) (w : World) (h : u < 18446744073709551613) :
    Calls Tryz.prog 233 #[.int .u64 u] w fun e w' => e = .returned (.int .u64 ((u + 3) / 4 : Nat)) ∧ w = w' := by
  go_enter Tryz.func233, Tryz.ntmps233
  go_wp2
  go_ret
  exact ⟨by simp, rfl⟩
theorem floor_any (u : Nat) (w : World) (h : u < 18446744073709551616) :
    Calls Tryz.prog 234 #[.int .u64 u] w fun e w' => e = .returned (.int .u64 (u / 4 : Nat)) ∧ w = w' := by
  go_enter Tryz.func234, Tryz.ntmps234
  go_wp2
  go_ret
  exact ⟨by simp, rfl⟩
theorem round_any (u : Nat) (w : World) (h : u < 18446744073709551612) :
    Calls Tryz.prog 235 #[.int .u64 u] w fun e w' => e = .returned (.int .u64 ((u + 1 + u / 4 % 2) / 4 : Nat)) ∧ w = w' := by
  have h1 := maskU 1 (by omega) (u / 4) (by omega)
  rw [show ((2 : Int) ^ 1 - 1) = 1 from rfl, Nat.pow_one] at h1
  have h2 : (u : Int) / 4 = ((u / 4 : Nat) : Int) := by rw [Int.natCast_ediv]; rfl
  have h3 : u / 4 % 2 < 2 := Nat.mod_lt _ (by omega)
  have h4 : u / 4 ≤ u := Nat.div_le_self _ _
  generalize u / 4 = q at *
  obtain ⟨p, hp⟩ : ∃ p, q % 2 = p := ⟨_, rfl⟩
  rw [hp] at h1 h3
  rw [hp]
  clear hp
  go_enter Tryz.func235, Tryz.ntmps235
  go_wp2
  go_ret
  exact ⟨by simp, rfl⟩

end Go.Proofs.YtekcpapkicmckaaGreatDoor

namespace Go.Proofs.YtekcpapkicmckaaGreatDoor
open Go.RowKit

theorem shrU (n : Nat) (s : Nat) : (n : Int) / 2 ^ s = ((n / 2 ^ s : Nat) : Int) := by rw [Int.natCast_ediv, Int.natCast_pow]; rfl
theorem and63 : ∀ s : Fin 64, Go.bits .and .i64 ((s.val : Nat) : Int) 63 = ((s.val : Nat) : Int) := by decide

theorem bool2_quiet (b : Bool) (w : World) (q : Nat) : Calls Tryz.prog 250 #[.bool b] (w.drewN q) fun e w' => e = .returned (.int .u64 (if b then 1 else 0)) ∧ w' = w.drewN q :=
  (bool2_u64 b _).mono fun _ _ ⟨h1, h2⟩ => ⟨h1, h2.symm⟩

/-- the same, of the products' halves -/
def uscaleR (hi mid m2 s : Nat) : Nat :=
  if hi / 2 ^ s * 2 ^ s ≠ hi then (hi / 2 ^ s) ||| 1
  else ((hi + 18446744073709551616 - (if mid < m2 then 1 else 0)) % 18446744073709551616 / 2 ^ s) ||| (if 1 < (mid + 18446744073709551616 - m2) % 18446744073709551616 then 1 else 0)
theorem uscaleR_one {hi mid m2 s q : Nat} (hq : hi / 2 ^ s = q) (h : q * 2 ^ s ≠ hi) : uscaleR hi mid m2 s = q ||| 1 := by
  unfold uscaleR; rw [hq, if_pos h]
theorem uscaleR_two {hi mid m2 s h1 q2 dd : Nat} {k d : Bool} (h : hi / 2 ^ s * 2 ^ s = hi) (hk : decide (mid < m2) = k) (h1e : (hi + 18446744073709551616 - (if k then 1 else 0)) % 18446744073709551616 = h1)
    (hq2 : h1 / 2 ^ s = q2) (hdd : (mid + 18446744073709551616 - m2) % 18446744073709551616 = dd) (hd : decide (1 < dd) = d) : uscaleR hi mid m2 s = q2 ||| (if d then 1 else 0) := by
  unfold uscaleR
  rw [if_neg (by simp [h]), hdd]
  subst hk hd
  simp only [decide_eq_true_eq] at h1e ⊢
  rw [h1e, hq2]

section
variable (x H L s g hi mid m2 lo2 : Nat) (w : World)
    (M1 : Hid (∀ W : World, Calls Tryz.prog 153 #[.int .u64 x, .int .u64 H] W fun e w' => e = .returned (.tuple #[.int .u64 hi, .int .u64 mid]) ∧ W = w'))
    (M2 : Hid (∀ W : World, Calls Tryz.prog 153 #[.int .u64 x, .int .u64 L] W fun e w' => e = .returned (.tuple #[.int .u64 m2, .int .u64 lo2]) ∧ W = w'))
    (c0 : w.cell? ⟨g, 0, none⟩ = some (.int .u64 H)) (c1 : w.cell? ⟨g, 1, none⟩ = some (.int .u64 L)) (c2 : w.cell? ⟨g, 2, none⟩ = some (.int .i64 s))
include M1 M2 c0 c1 c2

omit M2 c1 in
set_option maxRecDepth 100000 in
set_option maxHeartbeats 1000000 in
theorem uscale_one (hs : s < 64) (ha : Go.bits .and .i64 (s : Int) 63 = (s : Int)) (q qq r : Nat) (b1 : hi < 18446744073709551616) (hqm : qq ≤ hi) (d1 : (hi : Int) / 2 ^ s = (q : Int)) (d2 : (q : Int) * 2 ^ s = (qq : Int)) (hb : ((qq : Int) != (hi : Int)) = true)
    (o1 : Go.bits .or .u64 (q : Int) 1 = (r : Int)) :
    Calls Tryz.prog 231 #[.int .u64 x, .pointer (some ⟨g, 0, none⟩)] w fun e w' => e = .returned (.int .u64 r) ∧ ∃ q, w' = w.drewN q := by
  go_enter Tryz.func231, Tryz.ntmps231
  go_wp2_with (first | (go_at_call 153; with_reducible refine (M1.out _).mono ?_; rintro ex w' ⟨rfl, rfl⟩))
  go_ret
  exact ⟨rfl, 0, rfl⟩

set_option maxRecDepth 100000 in
set_option maxHeartbeats 1000000 in
theorem uscale_two (hs : s < 64) (ha : Go.bits .and .i64 (s : Int) 63 = (s : Int)) (k d : Bool) (q h1 q2 dd r : Nat) (b1 : hi < 18446744073709551616) (d1 : (hi : Int) / 2 ^ s = (q : Int)) (d2 : (q : Int) * 2 ^ s = (hi : Int))
    (hk1 : decide (mid < m2) = k) (hk2 : decide ((mid : Int) < m2) = k) (w4 : IntKind.u64.wrap ((hi : Int) - (if k then 1 else 0)) = (h1 : Int)) (w5 : k = false → h1 = hi) (d3 : (h1 : Int) / 2 ^ s = (q2 : Int)) (w3 : IntKind.u64.wrap ((mid : Int) - m2) = (dd : Int))
    (hd1 : decide (1 < dd) = d) (hd2 : decide ((1 : Int) < dd) = d) (hq2b : q2 ≤ h1) (o2 : Go.bits .or .u64 (q2 : Int) (if d then 1 else 0) = (r : Int)) :
    Calls Tryz.prog 231 #[.int .u64 x, .pointer (some ⟨g, 0, none⟩)] w fun e w' => e = .returned (.int .u64 r) ∧ ∃ q, w' = w.drewN q := by
  have HB := Lib.hid (fun (b : Bool) (W : World) => bool2_u64 b W)
  have HB2 := Lib.hid (fun (b : Bool) (W : World) q => bool2_quiet b W q)
  cases k
  · have e := w5 rfl
    subst e
    obtain rfl : q = q2 := by omega
    clear w5
    cases d
    · simp only [Bool.false_eq_true, if_false] at w4 o2
      have hd : ¬ 1 < dd := by simpa using hd1
      have hk : ¬ mid < m2 := by simpa using hk1
      go_enter Tryz.func231, Tryz.ntmps231
      go_wp2_with (first
        | (go_at_call 153; first | (with_reducible refine (M1.out _).mono ?_; rintro ex w' ⟨rfl, rfl⟩) | (with_reducible refine (M2.out _).mono ?_; rintro ex w' ⟨rfl, rfl⟩))
        | (go_at_call 250; refine (HB.out false _).mono ?_; rintro ex w' ⟨rfl, rfl⟩))
      go_quiet (first | (go_at_call 250; with_reducible refine Calls.quiet_of_same (HB2.out _ _ _)))
      go_wp2
      go_ret
      exact ⟨rfl, _, rfl⟩
    · simp only [if_true, Bool.false_eq_true, if_false] at w4 o2
      have hd : 1 < dd := by simpa using hd1
      have hk : ¬ mid < m2 := by simpa using hk1
      go_enter Tryz.func231, Tryz.ntmps231
      go_wp2_with (first
        | (go_at_call 153; first | (with_reducible refine (M1.out _).mono ?_; rintro ex w' ⟨rfl, rfl⟩) | (with_reducible refine (M2.out _).mono ?_; rintro ex w' ⟨rfl, rfl⟩))
        | (go_at_call 250; refine (HB.out false _).mono ?_; rintro ex w' ⟨rfl, rfl⟩))
      go_quiet (first | (go_at_call 250; with_reducible refine Calls.quiet_of_same (HB2.out _ _ _)))
      go_wp2
      go_ret
      exact ⟨rfl, _, rfl⟩
  · clear w5
    cases d
    · simp only [if_true, Bool.false_eq_true, if_false] at w4 o2
      have hd : ¬ 1 < dd := by simpa using hd1
      have hk : mid < m2 := by simpa using hk1
      go_enter Tryz.func231, Tryz.ntmps231
      go_wp2_with (first
        | (go_at_call 153; first | (with_reducible refine (M1.out _).mono ?_; rintro ex w' ⟨rfl, rfl⟩) | (with_reducible refine (M2.out _).mono ?_; rintro ex w' ⟨rfl, rfl⟩))
        | (go_at_call 250; refine (HB.out true _).mono ?_; rintro ex w' ⟨rfl, rfl⟩))
      go_quiet (first | (go_at_call 250; with_reducible refine Calls.quiet_of_same (HB2.out _ _ _)))
      go_wp2
      go_ret
      exact ⟨rfl, _, rfl⟩
    · simp only [if_true] at w4 o2
      have hd : 1 < dd := by simpa using hd1
      have hk : mid < m2 := by simpa using hk1
      go_enter Tryz.func231, Tryz.ntmps231
      go_wp2_with (first
        | (go_at_call 153; first | (with_reducible refine (M1.out _).mono ?_; rintro ex w' ⟨rfl, rfl⟩) | (with_reducible refine (M2.out _).mono ?_; rintro ex w' ⟨rfl, rfl⟩))
        | (go_at_call 250; refine (HB.out true _).mono ?_; rintro ex w' ⟨rfl, rfl⟩))
      go_quiet (first | (go_at_call 250; with_reducible refine Calls.quiet_of_same (HB2.out _ _ _)))
      go_wp2
      go_ret
      exact ⟨rfl, _, rfl⟩
end

theorem uscale_any (x H L s g : Nat) (w : World) (hx : x < 18446744073709551616) (hH : H < 18446744073709551616) (hL : L < 18446744073709551616) (hs : s < 64)
    (c0 : w.cell? ⟨g, 0, none⟩ = some (.int .u64 H)) (c1 : w.cell? ⟨g, 1, none⟩ = some (.int .u64 L)) (c2 : w.cell? ⟨g, 2, none⟩ = some (.int .i64 s)) :
    Calls Tryz.prog 231 #[.int .u64 x, .pointer (some ⟨g, 0, none⟩)] w fun e w' => e = .returned (.int .u64 (uscaleR (x * H / 18446744073709551616) (x * H % 18446744073709551616) (x * L / 18446744073709551616) s)) ∧ ∃ q, w' = w.drewN q := by
  have M1 := Lib.hid (fun W => Mul64_any x H W hx hH)
  have M2 := Lib.hid (fun W => Mul64_any x L W hx hL)
  have b1 : x * H / 18446744073709551616 < 18446744073709551616 := Nat.div_lt_of_lt_mul (Nat.mul_lt_mul'' hx hH)
  have b2 : x * H % 18446744073709551616 < 18446744073709551616 := Nat.mod_lt _ (by omega)
  have b3 : x * L / 18446744073709551616 < 18446744073709551616 := Nat.div_lt_of_lt_mul (Nat.mul_lt_mul'' hx hL)
  generalize x * H / 18446744073709551616 = hi at *
  generalize x * H % 18446744073709551616 = mid at *
  generalize x * L / 18446744073709551616 = m2 at *
  generalize x * L % 18446744073709551616 = lo2 at *
  have ha := and63 ⟨s, hs⟩
  simp only at ha
  obtain ⟨q, hq⟩ : ∃ q, hi / 2 ^ s = q := ⟨_, rfl⟩
  have hqh : q ≤ hi := by rw [← hq]; exact Nat.div_le_self _ _
  have hqm : q * 2 ^ s ≤ hi := by rw [← hq]; exact Nat.div_mul_le_self _ _
  have d1 := shrU hi s
  rw [hq] at d1
  have d2 : (q : Int) * 2 ^ s = ((q * 2 ^ s : Nat) : Int) := by rw [Int.natCast_mul, Int.natCast_pow]; rfl
  by_cases hne : q * 2 ^ s = hi
  · have w3 : IntKind.u64.wrap ((mid : Int) - m2) = (((mid + 18446744073709551616 - m2) % 18446744073709551616 : Nat) : Int) := by rw [wrapU_mod]; omega
    obtain ⟨dd, hdd⟩ : ∃ dd, (mid + 18446744073709551616 - m2) % 18446744073709551616 = dd := ⟨_, rfl⟩
    rw [hdd] at w3
    obtain ⟨k, hk1⟩ : ∃ k, decide (mid < m2) = k := ⟨_, rfl⟩
    obtain ⟨d, hd1⟩ : ∃ d, decide (1 < dd) = d := ⟨_, rfl⟩
    have hk2 : decide ((mid : Int) < m2) = k := by rw [← hk1]; simp
    have hd2 : decide ((1 : Int) < dd) = d := by rw [← hd1]; congr 1; simp; omega
    obtain ⟨h1, hh1⟩ : ∃ h1, (hi + 18446744073709551616 - (if k then 1 else 0)) % 18446744073709551616 = h1 := ⟨_, rfl⟩
    obtain ⟨c, hc⟩ : ∃ c : Nat, (if k then 1 else 0) = c := ⟨_, rfl⟩
    have hc2 : (if k then (1 : Int) else 0) = (c : Int) := by rw [← hc]; cases k <;> rfl
    have hc3 : c ≤ 1 := by rw [← hc]; cases k <;> decide
    have hc4 : k = false → c = 0 := fun e => by rw [← hc, e]; rfl
    have w4 : IntKind.u64.wrap ((hi : Int) - (if k then 1 else 0)) = (h1 : Int) := by
      rw [hc] at hh1
      rw [wrapU_mod, hc2, ← hh1]
      omega
    have w5 : k = false → h1 = hi := fun e => by
      rw [hc, hc4 e] at hh1
      omega
    have hh1b : h1 < 18446744073709551616 := by rw [← hh1]; exact Nat.mod_lt _ (by omega)
    obtain ⟨q2, hq2⟩ : ∃ q2, h1 / 2 ^ s = q2 := ⟨_, rfl⟩
    have d3 := shrU h1 s
    rw [hq2] at d3
    have hq2b : q2 ≤ h1 := by rw [← hq2]; exact Nat.div_le_self _ _
    rw [uscaleR_two (by rw [hq]; exact hne) hk1 hh1 hq2 hdd hd1]
    have o2 : Go.bits .or .u64 (q2 : Int) (if d then 1 else 0) = ((q2 ||| (if d then 1 else 0) : Nat) : Int) := by
      cases d
      · exact u64_or_nat q2 0 (by omega) (by omega)
      · exact u64_or_nat q2 1 (by omega) (by omega)
    exact uscale_two x H L s g hi mid m2 lo2 w M1 M2 c0 c1 c2 hs ha k d q h1 q2 dd _ b1 d1 (by rw [d2, hne]) hk1 hk2 w4 w5 d3 w3 hd1 hd2 hq2b o2
  · rw [uscaleR_one hq hne]
    exact uscale_one x H s g hi mid w M1 c0 c2 hs ha q _ _ b1 hqm d1 d2 (by simp; omega) (u64_or_nat q 1 (by omega) (by omega))

end Go.Proofs.YtekcpapkicmckaaGreatDoor

namespace Go.Proofs.YtekcpapkicmckaaGreatDoor
open Go.RowKit

/-- an entry of the table of powers -/
structure PowAt (w : World) (k H L : Nat) : Prop where
  hi : w.cell? ⟨12, k * 2, none⟩ = some (.int .u64 H)
  lo : w.cell? ⟨12, k * 2 + 1, none⟩ = some (.int .u64 L)

set_option maxRecDepth 100000 in
set_option maxHeartbeats 1000000 in
theorem prescale_any (g : Nat) (e p lp : Int) (k H L : Nat) (w : World) (hk : p + 348 = k) (hk2 : k < 696) (hp : PowAt w k H L)
    (he1 : -100000 ≤ e) (he2 : e ≤ 100000) (hl1 : -100000 ≤ lp) (hl2 : lp ≤ 100000)
    (f0 : ∃ v, w.cell? ⟨g, 0, none⟩ = some v) (f1 : ∃ v, w.cell? ⟨g, 1, none⟩ = some v) (f2 : ∃ v, w.cell? ⟨g, 2, none⟩ = some v) (ff : ∀ j, w.frozen? ⟨g, j, none⟩ = false) :
    Calls Tryz.prog 229 #[.pointer (some ⟨g, 0, none⟩), .int .i64 e, .int .i64 p, .int .i64 lp] w fun ex w' => ex = .returned (.tuple #[]) ∧
      w' = (((w.setCell ⟨g, 0, none⟩ (.int .u64 H)).setCell ⟨g, 1, none⟩ (.int .u64 L)).setCell ⟨g, 2, none⟩ (.int .i64 (-(e + lp + 3)))) := by
  obtain ⟨v0, f0⟩ := f0
  obtain ⟨v1, f1⟩ := f1
  obtain ⟨v2, f2⟩ := f2
  obtain ⟨p1, p2⟩ := hp
  obtain rfl : p = (k : Int) - 348 := by omega
  clear hk
  go_enter Tryz.func229, Tryz.ntmps229
  go_wp2
  go_returns
  exact ⟨rfl, rfl⟩

theorem wrapI {n : Int} (h0 : 0 ≤ n) (h1 : n < 9223372036854775808) : IntKind.i64.wrap n = n := by
  simp [IntKind.wrap, IntKind.bits, IntKind.signed]; omega
theorem maskI (i : Nat) (hi : i ≤ 63) (x : Nat) (hx : x < 9223372036854775808) : Go.bits .and .i64 (x : Int) ((2 : Int) ^ i - 1) = ((x % 2 ^ i : Nat) : Int) := by
  have h := bits_mask .i64 63 (by decide) (fun n h0 h1 => wrapI h0 (by simpa using h1)) i hi (x : Int) (by omega) (by
    rw [show ((2 : Int) ^ 63) = 9223372036854775808 from rfl]; omega)
  rw [h, Int.natCast_emod, Int.natCast_pow]; rfl

theorem log2_any (x : Int) (w : World) (h1 : -100000 ≤ x) (h2 : x ≤ 100000) : Calls Tryz.prog 230 #[.int .i64 x] w fun e w' => e = .returned (.int .i64 (x * 108853 / 32768)) ∧ w = w' := by
  go_enter Tryz.func230, Tryz.ntmps230
  go_wp2
  go_ret
  exact ⟨rfl, rfl⟩

/-- what uscale answers of a number and an entry of the table -/
def uscaleN (x H L s : Nat) : Nat := uscaleR (x * H / 18446744073709551616) (x * H % 18446744073709551616) (x * L / 18446744073709551616) s

theorem cell_of_block {W : World} {g j : Nat} {cs : Array Value} {t : TypeId} {fr : Nat × Nat} {v : Value} (hk : W.heap[g]? = some (.cells cs t fr)) (hv : cs[j]? = some v) : W.cell? ⟨g, j, none⟩ = some v := by
  simp [World.cell?, hk, hv]
theorem frozen_of_block {W : World} {g j : Nat} {cs : Array Value} {t : TypeId} (hk : W.heap[g]? = some (.cells cs t (0, 0))) : W.frozen? ⟨g, j, none⟩ = false := by
  simp [World.frozen?, hk]

theorem PowAt.below {w w' : World} {k H L : Nat} (h : PowAt w k H L) (hb : Below w.heap.size w w') : PowAt w' k H L :=
  ⟨(hb.cell (World.block_lt_of_cell? w _ h.hi)).trans h.hi, (hb.cell (World.block_lt_of_cell? w _ h.lo)).trans h.lo⟩

theorem uscale_at (x : Nat) (xi : Int) (H L s g r : Nat) (w : World) (hxi : xi = (x : Int)) (hx : x < 18446744073709551616) (hH : H < 18446744073709551616) (hL : L < 18446744073709551616) (hs : s < 64) (h : uscaleN x H L s = r)
    (hk : w.heap[g]? = some (.cells #[.int .u64 H, .int .u64 L, .int .i64 s] 314 (0, 0))) :
    Calls Tryz.prog 231 #[.int .u64 xi, .pointer (some ⟨g, 0, none⟩)] w fun e w' => e = .returned (.int .u64 r) ∧ ∃ q, w' = w.drewN q := by
  subst hxi h
  exact uscale_any x H L s g w hx hH hL hs (by simp [World.cell?, hk]) (by simp [World.cell?, hk]) (by simp [World.cell?, hk])

end Go.Proofs.YtekcpapkicmckaaGreatDoor

namespace Go.Proofs.YtekcpapkicmckaaGreatDoor
open Go.RowKit

theorem skewed_any (x : Int) (w : World) (h1 : -100000 ≤ x) (h2 : x ≤ 100000) : Calls Tryz.prog 228 #[.int .i64 x] w fun e w' => e = .returned (.int .i64 ((x * 631305 - 261663) / 2097152)) ∧ w = w' := by
  go_enter Tryz.func228, Tryz.ntmps228
  go_wp2
  go_ret
  exact ⟨rfl, rfl⟩

set_option maxRecDepth 100000 in
set_option maxHeartbeats 2000000 in
theorem short_skew (m : Nat) (e p lp : Int) (k s H L U1 U2 U3 V1 V2 odd d : Nat) (r : Int) (w : World)
    (hm2 : m = 9223372036854775808) (he1 : -1085 < e) (he2 : e ≤ 2000)
    (hp : -(((e + 11) * 631305 - 261663) / 2097152) = p) (hlp : p * 108853 / 32768 = lp) (hk : p + 348 = k) (hk2 : k < 696) (hT : PowAt w k H L) (hs : -(e + lp + 3) = s) (hs2 : s < 64) (hH : H < 18446744073709551616) (hL : L < 18446744073709551616)
    (hodd : m / 2048 % 2 = odd) (h1 : uscaleN (m - 512) H L s = U1) (h2 : uscaleN (m + 1024) H L s = U2) (h3 : uscaleN m H L s = U3)
    (hU1 : U1 < 9223372036854775808) (hU2 : U2 < 9223372036854775808) (hU2' : 1 ≤ U2) (hU3 : U3 < 9223372036854775808)
    (hV1 : (U1 + odd + 3) / 4 = V1) (hV2 : (U2 - odd) / 4 = V2)
    (hd : (V1 ≤ V2 / 10 * 10 ∧ d = V2 / 10 ∧ r = -(p - 1)) ∨ (V2 / 10 * 10 < V1 ∧ V1 < V2 ∧ d = (U3 + 1 + U3 / 4 % 2) / 4 ∧ r = -p) ∨ (V2 / 10 * 10 < V1 ∧ V2 ≤ V1 ∧ d = V1 ∧ r = -p)) :
    Calls Tryz.prog 208 #[.int .u64 m, .int .i64 e] w fun ex w' => ex = .returned (.tuple #[.int .u64 d, .int .i64 r]) ∧ Below w.heap.size w w' := by
  have hw := (Below.refl w.heap.size w).alloc (Nat.le_refl _) (.cells #[.int .u64 0, .int .u64 0, .int .i64 0] 314)
  have hne : ((m : Int) == 9223372036854775808) = true := by simp; omega
  have g1 : (m : Int) / 2048 = ((m / 2048 : Nat) : Int) := by rw [Int.natCast_ediv]; rfl
  have g2 := maskI 1 (by omega) (m / 2048) (by omega)
  rw [show ((2 : Int) ^ 1 - 1) = 1 from rfl, Nat.pow_one, hodd] at g2
  have g3 : m / 2048 < 9007199254740992 := by omega
  generalize m / 2048 = mq at *
  have hee : decide (-1085 < e) = true := decide_eq_true he1
  have hmb : m ≤ 9223372036854775808 := by omega
  have hmc : 9223372036854775808 ≤ m := by omega
  clear hm2
  have HD := Lib.hid hd
  have HT := Lib.hid hT
  have HS := Lib.hid hs
  have HK := Lib.hid hk
  have H1 := Lib.hid h1
  have H2 := Lib.hid h2
  have H3 := Lib.hid h3
  have HV1 := Lib.hid hV1
  have HV2 := Lib.hid hV2
  have hpb : -1000 ≤ p ∧ p ≤ 1000 := by omega
  obtain ⟨hpb1, hpb2⟩ := hpb
  have hlb : -100000 ≤ lp ∧ lp ≤ 100000 := by omega
  obtain ⟨hlb1, hlb2⟩ := hlb
  have HODD := Lib.hid hodd
  have hob : odd ≤ 1 := by omega
  clear hd hT hs hk h1 h2 h3 hV1 hV2 hodd
  go_enter Tryz.func208, Tryz.ntmps208
  go_wp2_with (first
    | (go_at_call 228; refine (skewed_any _ _ (by omega) (by omega)).mono ?_; rintro ex w1 ⟨rfl, rfl⟩)
    | (go_at_call 230; refine (log2_any _ _ (by omega) (by omega)).mono ?_; rintro ex w1 ⟨rfl, rfl⟩))
  have hk0 := heap_alloc_new w (.cells #[.int .u64 0, .int .u64 0, .int .i64 0] 314)
  refine (prescale_any w.heap.size e p lp k H L _ HK.out hk2 (HT.out.below hw) (by omega) (by omega) (by omega) (by omega) ⟨_, cell_of_block hk0 rfl⟩ ⟨_, cell_of_block hk0 rfl⟩ ⟨_, cell_of_block hk0 rfl⟩ (fun j => frozen_of_block hk0)).mono ?_
  rintro ex w1 ⟨rfl, hw1⟩
  have hw2 : w1 = w.alloc (.cells #[.int .u64 H, .int .u64 L, .int .i64 s] 314) := by
    rw [hw1, HS.out, World.setCell_alloc_at _ _ _ _ _ rfl, World.setCell_alloc_at _ _ _ _ _ rfl, World.setCell_alloc_at _ _ _ _ _ rfl]
    rfl
  subst hw2
  have hk := heap_alloc_new w (.cells #[.int .u64 H, .int .u64 L, .int .i64 s] 314)
  have hB := (Below.refl w.heap.size w).alloc (Nat.le_refl _) (.cells #[.int .u64 H, .int .u64 L, .int .i64 s] 314)
  generalize w.alloc (.cells #[.int .u64 H, .int .u64 L, .int .i64 s] 314) = w2 at *
  have HU1 := Lib.hid (uscale_at (m - 512) ((m : Int) - 512) H L s w.heap.size U1 w2 (by omega) (by omega) hH hL hs2 H1.out hk)
  have HU2 := Lib.hid (fun q => uscale_at (m + 1024) ((m : Int) + 1024) H L s w.heap.size U2 (w2.drewN q) (by omega) (by omega) hH hL hs2 H2.out hk)
  have HU3 := Lib.hid (fun q => uscale_at m (m : Int) H L s w.heap.size U3 (w2.drewN q) rfl (by omega) hH hL hs2 H3.out hk)
  have HB := Lib.hid (fun q => (show Below w.heap.size w (w2.drewN q) from hB.trans ⟨rfl, rfl, rfl, Nat.le_refl _, fun _ _ => rfl⟩))
  obtain ⟨N1, hN1⟩ : ∃ N1, U1 + odd = N1 := ⟨_, rfl⟩
  obtain ⟨N2, hN2⟩ : ∃ N2, U2 - odd = N2 := ⟨_, rfl⟩
  have hV1 := HV1.out
  have hV2 := HV2.out
  rw [hN1] at hV1
  rw [hN2] at hV2
  have hn1 : N1 < 18446744073709551613 := by omega
  have hn2 : N2 < 18446744073709551616 := by omega
  have K1 := Lib.hid (fun W => nudge_any U1 odd N1 W (by omega) (by omega))
  have K2 := Lib.hid (fun W => nudge_any U2 (-(odd : Int)) N2 W (by omega) (by omega))
  have C1 := Lib.hid (fun W => ceil_any N1 W hn1)
  have C2 := Lib.hid (fun W => floor_any N2 W hn2)
  have C3 := Lib.hid (fun W => round_any U3 W (by omega))
  rw [hV1] at C1
  rw [hV2] at C2
  have hv1 : V1 < 9223372036854775808 := by omega
  have hv2 : V2 < 9223372036854775808 := by omega
  obtain ⟨D, hD⟩ : ∃ D, V2 / 10 = D := ⟨_, rfl⟩
  obtain ⟨R3, hR3⟩ : ∃ R3, (U3 + 1 + U3 / 4 % 2) / 4 = R3 := ⟨_, rfl⟩
  rw [hR3] at C3
  have hd := HD.out
  rw [hD, hR3] at hd
  have hD2 : (V2 : Int) / 10 = (D : Int) := by rw [← hD, Int.natCast_ediv]; rfl
  have hdb : D ≤ 922337203685477580 := by omega
  clear hk hw hw1 hB H1 H2 H3 HV1 HV2 HD hV1 hV2 hN1 hN2 hD hR3 hmb hmc hH hL hU1 hU2 hU2' hU3 hn1 hn2 g1 g2 g3 hne hee hk0 hp hlp
  rcases hd with ⟨t1, rfl, rfl⟩ | ⟨t1, t2, rfl, rfl⟩ | ⟨t1, t2, rfl, rfl⟩
  · have u1 := decide_eq_true t1
    have u2 : decide ((V1 : Int) ≤ (d : Int) * 10) = true := decide_eq_true (by omega)
    have u3 : (V1 : Int) ≤ (d : Int) * 10 := by omega
    go_wp2_with (first
      | (go_at_call 231; first | (with_reducible refine HU1.out.mono ?_; rintro ex w3 ⟨rfl, q1, rfl⟩) | (with_reducible refine (HU2.out _).mono ?_; rintro ex w3 ⟨rfl, q1, rfl⟩) | (with_reducible refine (HU3.out _).mono ?_; rintro ex w3 ⟨rfl, q1, rfl⟩))
      | (go_at_call 232; first | (with_reducible refine (K1.out _).mono ?_; rintro ex w3 ⟨rfl, rfl⟩) | (with_reducible refine (K2.out _).mono ?_; rintro ex w3 ⟨rfl, rfl⟩))
      | (go_at_call 233; refine (C1.out _).mono ?_; rintro ex w3 ⟨rfl, rfl⟩)
      | (go_at_call 234; refine (C2.out _).mono ?_; rintro ex w3 ⟨rfl, rfl⟩)
      | (go_at_call 235; refine (C3.out _).mono ?_; rintro ex w3 ⟨rfl, rfl⟩))
    go_ret2
    exact ⟨rfl, HB.out _⟩
  · have t1' : ¬ V1 ≤ D * 10 := by omega
    have u1 := decide_eq_false t1'
    have u2 : decide ((V1 : Int) ≤ (D : Int) * 10) = false := decide_eq_false (by omega)
    have u3 : ¬ (V1 : Int) ≤ (D : Int) * 10 := by omega
    have v1 := decide_eq_true t2
    have v2 : decide ((V1 : Int) < V2) = true := decide_eq_true (by omega)
    have v3 : (V1 : Int) < V2 := by omega
    go_wp2_with (first
      | (go_at_call 231; first | (with_reducible refine HU1.out.mono ?_; rintro ex w3 ⟨rfl, q1, rfl⟩) | (with_reducible refine (HU2.out _).mono ?_; rintro ex w3 ⟨rfl, q1, rfl⟩) | (with_reducible refine (HU3.out _).mono ?_; rintro ex w3 ⟨rfl, q1, rfl⟩))
      | (go_at_call 232; first | (with_reducible refine (K1.out _).mono ?_; rintro ex w3 ⟨rfl, rfl⟩) | (with_reducible refine (K2.out _).mono ?_; rintro ex w3 ⟨rfl, rfl⟩))
      | (go_at_call 233; refine (C1.out _).mono ?_; rintro ex w3 ⟨rfl, rfl⟩)
      | (go_at_call 234; refine (C2.out _).mono ?_; rintro ex w3 ⟨rfl, rfl⟩)
      | (go_at_call 235; refine (C3.out _).mono ?_; rintro ex w3 ⟨rfl, rfl⟩))
    go_ret2
    exact ⟨rfl, HB.out _⟩
  · have t1' : ¬ d ≤ D * 10 := by omega
    have u1 := decide_eq_false t1'
    have u2 : decide ((d : Int) ≤ (D : Int) * 10) = false := decide_eq_false (by omega)
    have u3 : ¬ (d : Int) ≤ (D : Int) * 10 := by omega
    have t2' : ¬ d < V2 := by omega
    have v1 := decide_eq_false t2'
    have v2 : decide ((d : Int) < V2) = false := decide_eq_false (by omega)
    have v3 : ¬ (d : Int) < V2 := by omega
    go_wp2_with (first
      | (go_at_call 231; first | (with_reducible refine HU1.out.mono ?_; rintro ex w3 ⟨rfl, q1, rfl⟩) | (with_reducible refine (HU2.out _).mono ?_; rintro ex w3 ⟨rfl, q1, rfl⟩) | (with_reducible refine (HU3.out _).mono ?_; rintro ex w3 ⟨rfl, q1, rfl⟩))
      | (go_at_call 232; first | (with_reducible refine (K1.out _).mono ?_; rintro ex w3 ⟨rfl, rfl⟩) | (with_reducible refine (K2.out _).mono ?_; rintro ex w3 ⟨rfl, rfl⟩))
      | (go_at_call 233; refine (C1.out _).mono ?_; rintro ex w3 ⟨rfl, rfl⟩)
      | (go_at_call 234; refine (C2.out _).mono ?_; rintro ex w3 ⟨rfl, rfl⟩)
      | (go_at_call 235; refine (C3.out _).mono ?_; rintro ex w3 ⟨rfl, rfl⟩))
    go_ret2
    exact ⟨rfl, HB.out _⟩

end Go.Proofs.YtekcpapkicmckaaGreatDoor

namespace Go.Proofs.YtekcpapkicmckaaGreatDoor
open Go.RowKit Go.Sort Go.Lib

/-- the place's digit, counted from the right -/
def dig (u j : Nat) : Nat := 48 + u / 10 ^ j % 10
theorem dg_toNat (u j : Nat) : (dg u j).toNat = dig u j := by
  unfold dg dig
  have : u / 10 ^ j % 10 < 10 := Nat.mod_lt _ (by omega)
  rw [UInt8.toNat_ofNat']
  omega

theorem dig_zero {v t j : Nat} (h : j < t) : dig (v * 10 ^ t) j = 48 := by
  unfold dig
  obtain ⟨k, rfl⟩ : ∃ k, t = j + 1 + k := ⟨t - (j + 1), by omega⟩
  rw [Nat.pow_add, Nat.pow_add, Nat.pow_one, Nat.mul_assoc (10 ^ j), Nat.mul_left_comm v, Nat.mul_div_cancel_left _ (Nat.pow_pos (by omega)), Nat.mul_left_comm v, Nat.mul_mod_right]
theorem dig_last {v t : Nat} : dig (v * 10 ^ t) t = 48 + v % 10 := by
  unfold dig
  rw [Nat.mul_div_cancel _ (Nat.pow_pos (by omega))]

/-- the row holds the digits -/
def Digs (w : World) (blk nd u : Nat) : Prop := ∀ j, j < nd → w.cell? ⟨blk, j, none⟩ = some (.int .u8 (dig u (nd - 1 - j) : Nat))

theorem putRow_grownBy (enc : UInt8 → Value) (w : World) (blk off : Nat) (d : Array UInt8) (n : Nat) : w.grownBy ((putRow enc w blk off d).drewN n) (some blk) :=
  ⟨rfl, rfl, rfl, by simp, fun i hi hne => by
    have e : blk ≠ i := fun e => hne (by rw [e])
    show (putRow enc w blk off d).heap[i]? = w.heap[i]?
    simp [putRow, mapBlock, Array.getElem?_modify, e]⟩

set_option maxHeartbeats 1000000 in
theorem setDigits_any (blk L c v t nd : Nat) (p : Int) (d : Array UInt8) (w : World) (hd : d.size = nd) (hH : Holds (fun (b : UInt8) => Value.int .u8 (b.toNat : Int)) w blk 0 d) (hL : nd ≤ L) (hLc : L ≤ c) (hL2 : L ≤ 1000000) (hv : v % 10 ≠ 0) (ht : t < nd) (hu : v * 10 ^ t < 10 ^ nd) (hu64 : v * 10 ^ t < 18446744073709551616) (hp1 : -100000 ≤ p) (hp2 : p ≤ 100000) :
    Calls Tryz.prog 203 #[.slice (some ⟨blk, 0, none⟩) L c, .int .u64 (v * 10 ^ t : Nat), .int .i64 p, .int .i64 nd] w fun e w' =>
      e = .returned (.tuple #[.int .i64 (nd + p), .int .i64 ((nd - t : Nat) : Int)]) ∧ Digs w' blk nd (v * 10 ^ t) ∧ w.grownBy w' (some blk) := by
  have HF := Lib.hid (Tryz.internal_strconv_formatBase10 blk 0 c (v * 10 ^ t) d w hH (by rw [hd]; exact hu) hu64 (by omega))
  rw [hd] at HF
  have HZ := Lib.hid (fun j (h : j < t) => dig_zero (v := v) h)
  have HN := Lib.hid (dig_last (v := v) (t := t))
  generalize v * 10 ^ t = u at *
  clear hu hu64
  go_enter Tryz.func203, Tryz.ntmps203
  go_wp2_with (first | (go_at_call 147; refine HF.out.mono ?_; rintro ex w1 ⟨rfl, n1, v', dk, rfl, hinv⟩))
  have hsz : dk.size = nd := hinv.size
  have hG := putRow_grownBy (fun (b : UInt8) => Value.int .u8 (b.toNat : Int)) w blk 0 dk n1
  have hD : Digs ((putRow (fun (b : UInt8) => Value.int .u8 (b.toNat : Int)) w blk 0 dk).drewN n1) blk nd u := fun j hj => by
    have h1 := cell?_putRow (fun (b : UInt8) => Value.int .u8 (b.toNat : Int)) w blk 0 d dk hH (by rw [hsz, hd]) j (by omega)
    rw [Nat.zero_add] at h1
    rw [hinv.done j (by omega) hj, dg_toNat] at h1
    exact h1
  generalize (putRow (fun (b : UInt8) => Value.int .u8 (b.toNat : Int)) w blk 0 dk).drewN n1 = w1 at *
  have HD := Lib.hid hD
  have HG := Lib.hid hG
  clear hD hG hinv hsz hH hd
  go_loop [3] (fun x => ∃ i : Nat, nd - t ≤ i ∧ i ≤ nd ∧ x = .int .i64 i) (fun x => (RowKit.intOf x).toNat)
  case atStart => exact ⟨nd, by omega, Nat.le_refl _, rfl⟩
  case round =>
    obtain ⟨i, hi1, hi2, rfl⟩ := hrel
    have hpos : (0 : Int) < (i : Int) := by omega
    have hpos2 : decide ((0 : Int) < (i : Int)) = true := decide_eq_true hpos
    have hpos3 : decide (0 < i) = true := decide_eq_true (by omega)
    have hc := HD.out (i - 1) (by omega)
    obtain ⟨k, rfl⟩ : ∃ k, i = k + 1 := ⟨i - 1, by omega⟩
    rw [Nat.add_sub_cancel] at hc
    by_cases hk : nd - 1 - k < t
    · rw [HZ.out _ hk] at hc
      go_wp2
      go_round
      case rel => exact ⟨k, by omega, by omega, by go_num⟩
      case measure => simp [RowKit.intOf]
    · have hk2 : nd - 1 - k = t := by omega
      rw [hk2, HN.out] at hc
      have hv2 : v % 10 < 10 := Nat.mod_lt _ (by omega)
      generalize v % 10 = z at *
      have hz1 : (((48 + z : Nat) : Int) == 48) = false := by simp; omega
      have HK := Lib.hid (show k + 1 = nd - t by omega)
      go_wp2
      go_ret2
      exact ⟨by rw [← HK.out]; rfl, HD.out, HG.out⟩


end Go.Proofs.YtekcpapkicmckaaGreatDoor

namespace Go.Proofs.YtekcpapkicmckaaGreatDoor
open Go.RowKit

theorem Tryz.under_b8 : Tryz.prog.underlying 140 = some (.slice 5) := Tryz.underlying140
theorem Tryz.info_u8 : (Tryz.prog.info? 5).map (fun i => (i.zero, i.size, i.bytes)) = some (some (.int .u8 0), 1, 1) := by kernel_rfl

def u8s (xs : List Nat) : List Value := xs.map fun (x : Nat) => .int .u8 (x : Int)
theorem sl_two (w : World) (a b : Value) : Sl (w.alloc (.cells #[a, b] 5)) (some ⟨w.heap.size, 0, none⟩) 2 2 [a, b] :=
  ⟨rfl, Nat.le_refl _, by omega, fun _ => ⟨w.heap.size, 0, rfl, fun j hj => by
    have hk := heap_alloc_new w (.cells #[a, b] 5)
    obtain rfl | rfl : j = 0 ∨ j = 1 := by omega
    · exact cell_of_block hk rfl
    · exact cell_of_block hk rfl⟩⟩

/-- what is appended to what has been appended -/
theorem grown_then {w w1 w2 : World} {G A1 A2 : Option Addr} (h1 : w.grownBy w1 (blockOf G)) (hA : blockOf A1 = blockOf G ∨ ∃ k, blockOf A1 = some k ∧ w.heap.size ≤ k) (h2 : w1.grownBy w2 (blockOf A1)) (hB : blockOf A2 = blockOf A1 ∨ ∃ k, blockOf A2 = some k ∧ w1.heap.size ≤ k) :
    w.grownBy w2 (blockOf G) ∧ (blockOf A2 = blockOf G ∨ ∃ k, blockOf A2 = some k ∧ w.heap.size ≤ k) := by
  refine ⟨⟨by rw [h2.os, h1.os], by rw [h2.tape, h1.tape], by rw [h2.output, h1.output], Nat.le_trans h1.size h2.size, fun i hi hne => ?_⟩, ?_⟩
  · rw [h2.block i (Nat.lt_of_lt_of_le hi h1.size) (fun e => ?_), h1.block i hi hne]
    rcases hA with h | ⟨k, h, hk⟩
    · exact hne (by rw [← h]; exact e)
    · rw [h] at e
      simp only [Option.some.injEq] at e
      omega
  · rcases hB with h | ⟨k, h, hk⟩
    · rw [h]; exact hA
    · exact .inr ⟨k, h, Nat.le_trans h1.size hk⟩

set_option maxRecDepth 100000 in
set_option maxHeartbeats 1000000 in
/-- one digit, a small negative exponent -/
theorem fmtE_one (base n c blk L cS ch x : Nat) (G : Option Addr) (ys : List Nat) (dp : Int) (w : World) (hbase : base ≤ w.heap.size) (hm : Mine 5 w base G n c (u8s ys)) (hn : n ≤ 1000)
    (hc : w.cell? ⟨blk, 0, none⟩ = some (.int .u8 ch)) (hL : 1 ≤ L) (hx : dp - 1 = -(x : Int)) (hx1 : 1 ≤ x) (hx2 : x < 10) :
    Calls Tryz.prog 201 #[.slice G n c, .bool false, .slice (some ⟨blk, 0, none⟩) L cS, .int .i64 dp, .int .i64 1, .int .i64 0, .int .u8 101, .bool true] w fun e w' =>
      ∃ G' c', e = .returned (.slice G' (n + 5) c') ∧ Mine 5 w' base G' (n + 5) c' (u8s (ys ++ [ch, 101, 45, 48, 48 + x])) ∧ w.grownBy w' (blockOf G) := by
  go_enter Tryz.func201, Tryz.ntmps201
  go_wp2_with (first
    | (at_builtin; refine app_one base rfl _ _ _ _ (.int .u8 0) 1 rfl Tryz.under_b8 Tryz.info_u8 rfl (by omega) G _ _ _ (.int .u8 (ch : Int)) rfl rfl rfl hm hbase (by omega) ?_
       intro A1 c1 w1 hm1 hg1 ho1
       have hb1 := Nat.le_trans hbase hg1.size)
    | (at_builtin; refine app_one base rfl _ _ _ _ (.int .u8 0) 1 rfl Tryz.under_b8 Tryz.info_u8 rfl (by omega) A1 _ _ _ (.int .u8 101) rfl rfl rfl hm1 hb1 (by omega) ?_
       intro A2 c2 w2 hm2 hg2 ho2
       have hb2 := Nat.le_trans hb1 hg2.size
       obtain ⟨hg3, ho3⟩ := grown_then hg1 ho1 hg2 ho2)
    | (at_builtin; refine app_one base rfl _ _ _ _ (.int .u8 0) 1 rfl Tryz.under_b8 Tryz.info_u8 rfl (by omega) A2 _ _ _ (.int .u8 45) rfl rfl rfl hm2 hb2 (by omega) ?_
       intro A3 c3 w3 hm3 hg4 ho4
       have hb3 := Nat.le_trans hb2 hg4.size
       obtain ⟨hg5, ho5⟩ := grown_then hg3 ho3 hg4 ho4
       have hal := (Below.refl w3.heap.size w3).alloc (Nat.le_refl _) (.cells #[.int .u8 48, .int .u8 ((x : Int) + 48)] 5)
       have hm4 := hm3.below hal
       have hsl : Sl (w3.alloc (.cells #[.int .u8 48, .int .u8 ((x : Int) + 48)] 5)) (some ⟨w3.heap.size, 0, none⟩) 2 2 [.int .u8 48, .int .u8 ((x : Int) + 48)] := sl_two _ _ _
       have hb4 := Nat.le_trans hb3 hal.size)
    | (at_builtin; refine app_all base rfl _ _ _ _ (.int .u8 0) 1 rfl Tryz.under_b8 Tryz.info_u8 rfl (by omega) A3 _ _ _ (some ⟨w3.heap.size, 0, none⟩) 2 2 _ rfl rfl (by intro u hu; simp at hu; rcases hu with rfl | rfl <;> rfl) hm4 hsl hb4 (by omega) (fun h => by cases h) (fun h => by cases h) ?_
       intro _ A5 c5 w5 hm5 hg6 ho6))
  go_ret
  have g7 := (grown_then hg5 ho5 (grownBy_of_below hal (blockOf A3)) (.inl rfl)).1
  have g8 := (grown_then g7 ho5 hg6 (ho6.imp id (fun ⟨k, h1, h2⟩ => ⟨k, h1, h2⟩))).1
  have e : u8s ys ++ [.int .u8 (ch : Int)] ++ [.int .u8 101] ++ [.int .u8 45] ++ [.int .u8 48, .int .u8 ((x : Int) + 48)] = u8s (ys ++ [ch, 101, 45, 48, 48 + x]) := by
    simp [u8s, Int.add_comm]
  rw [e] at hm5
  exact ⟨A5, c5, rfl, hm5, g8⟩

end Go.Proofs.YtekcpapkicmckaaGreatDoor

namespace Go.Proofs.YtekcpapkicmckaaGreatDoor
open Go.RowKit

theorem Tryz.sf64bits (b : Nat) (W : World) : (callFunc 198 #[.float .f64 b]).run Tryz.prog W = .ok (.value (.int .u64 (b : Int))) W := by kernel_rfl

theorem bitLen_zero (f : Nat) : Lib.bitLenAux f 0 = 0 := by cases f <;> simp [Lib.bitLenAux]
theorem bitLen_of : ∀ (f k : Nat) (x : Nat), 2 ^ k ≤ x → x < 2 ^ (k + 1) → x < 2 ^ f → Lib.bitLenAux f x = k + 1 := by
  intro f
  induction f with
  | zero => intro k x h1 h2 h3; have := Nat.pow_pos (n := k) (show 0 < 2 by omega); rw [Nat.pow_zero] at h3; omega
  | succ f ih =>
    intro k x h1 h2 h3
    have hx : x ≠ 0 := by have := Nat.pow_pos (n := k) (show 0 < 2 by omega); omega
    unfold Lib.bitLenAux
    rw [if_neg hx]
    cases k with
    | zero =>
      rw [Nat.pow_zero] at h1
      rw [show x / 2 = 0 by rw [Nat.pow_succ, Nat.pow_zero] at h2; omega, bitLen_zero]
    | succ k =>
      rw [Nat.pow_succ] at h1 h2 h3
      rw [ih k (x / 2) (by omega) (by omega) (by omega), Nat.add_comm]

theorem holds_zeros {W : World} {g : Nat} {t : TypeId} (hk : W.heap[g]? = some (.cells (Array.replicate 32 (.int .u8 0)) t (0, 0))) : Go.Sort.Holds (fun (b : UInt8) => Value.int .u8 (b.toNat : Int)) W g 0 (Array.replicate 16 0) := by
  intro j hj
  have hj2 : j < 16 := by simpa using hj
  refine ⟨?_, frozen_of_block hk⟩
  have e : (Array.replicate 16 (0 : UInt8))[j]! = 0 := by rw [getElem!_pos _ j hj]; simp
  rw [e, Nat.zero_add]
  refine cell_of_block hk ?_
  rw [Array.getElem?_replicate, if_pos (by omega)]; rfl

theorem orU (i : Nat) (a b : Nat) (hb : b < 2 ^ i) (hs : a * 2 ^ i + b < 18446744073709551616) :
    Go.bits .or .u64 (b : Int) ((a * 2 ^ i : Nat) : Int) = ((a * 2 ^ i + b : Nat) : Int) := by
  rw [u64_or_nat b (a * 2 ^ i) (by omega) (by omega), Nat.or_comm, nat_join i (a * 2 ^ i) b (Nat.mul_mod_left _ _) hb]

set_option maxRecDepth 100000 in
set_option maxHeartbeats 4000000 in
theorem ftoa64_one (base b E M0 c cd : Nat) (D : Option Addr) (w : World) (hbase : base ≤ w.heap.size) (hD : Mine 5 w base D 0 cd (u8s []))
    (hb : b < 9223372036854775808) (hE : b / 4503599627370496 = E) (hE1 : 0 < E) (hE2 : E < 2047) (hM : b % 4503599627370496 = M0) (hc1 : 1 ≤ c) (hc2 : c ≤ 9)
    (HSF : ∀ W, Below w.heap.size w W → Calls Tryz.prog 208 #[.int .u64 ((M0 + 4503599627370496) * 2048 : Nat), .int .i64 ((E : Int) - 1086)] W fun ex W' => ex = .returned (.tuple #[.int .u64 (c * 1000000000000000 : Nat), .int .i64 (-16)]) ∧ Below W.heap.size W W')
    (HND : ∀ W, Below w.heap.size w W → Calls Tryz.prog 146 #[.int .u64 (c * 1000000000000000 : Nat)] W fun ex W' => ex = .returned (.int .i64 16) ∧ W = W') :
    Calls Tryz.prog 170 #[.slice D 0 cd, .float .f64 b, .int .u8 101, .int .i64 (-1)] w fun ex w' =>
      ∃ G c', ex = .returned (.slice G 5 c') ∧ Mine 5 w' base G 5 c' (u8s [48 + c, 101, 45, 48, 49]) ∧ w.grownBy w' (blockOf D) := by
  have e0 := Tryz.sf64bits b
  have e1 : ((b : Int) / 9223372036854775808 != 0) = false := by have : (b : Int) / 9223372036854775808 = 0 := by omega
                                                                 simp [this]
  have e2 : (b : Int) / 4503599627370496 = (E : Int) := by omega
  have e3 := maskI 11 (by omega) E (by omega)
  rw [show ((2 : Int) ^ 11 - 1) = 2047 from rfl, show (2 : Nat) ^ 11 = 2048 from rfl, Nat.mod_eq_of_lt (by omega)] at e3
  have e4 := maskU 52 (by omega) b (by omega)
  rw [show ((2 : Int) ^ 52 - 1) = 4503599627370495 from rfl, show (2 : Nat) ^ 52 = 4503599627370496 from rfl, hM] at e4
  have hMb : M0 < 4503599627370496 := by omega
  have e5 := orU 52 1 M0 (by rw [show (2 : Nat) ^ 52 = 4503599627370496 from rfl]; exact hMb) (by rw [show (2 : Nat) ^ 52 = 4503599627370496 from rfl]; omega)
  rw [show (1 * 2 ^ 52 : Nat) = 4503599627370496 from rfl] at e5
  obtain ⟨mant, hmant⟩ : ∃ mant, M0 + 4503599627370496 = mant := ⟨_, rfl⟩
  rw [show 4503599627370496 + M0 = mant by omega] at e5
  have e6 : Go.bits .or .u64 (M0 : Int) 4503599627370496 = (mant : Int) := e5
  rw [hmant] at HSF
  have hm1 : 4503599627370496 ≤ mant := by omega
  have hm2 : mant < 9007199254740992 := by omega
  have HL : Hid (∀ W : World, Calls Tryz.prog 182 #[.int .u64 mant] W fun ex W' => ex = .returned (.int .i64 53) ∧ W = W') := Lib.hid (fun W => (Tryz.bits_Len64 mant W (by omega) (by omega)).mono (by
    rintro ex W' ⟨rfl, rfl⟩
    refine ⟨?_, rfl⟩
    rw [Int.toNat_natCast, show Lib.bitLen mant = 53 from bitLen_of 64 52 mant (by rw [show (2 : Nat) ^ 52 = 4503599627370496 from rfl]; exact hm1) (by rw [show (2 : Nat) ^ (52 + 1) = 9007199254740992 from rfl]; exact hm2) (by rw [show (2 : Nat) ^ 64 = 18446744073709551616 from rfl]; omega)]
    rfl))
  have HE : ((E : Int) == 2047) = false := by simp; omega
  have HE0 : ((E : Int) == 0) = false := by simp; omega
  have hmz : ((mant : Int) == 0) = false := by simp; omega
  obtain ⟨u, hu⟩ : ∃ u, c * 1000000000000000 = u := ⟨_, rfl⟩
  rw [hu] at HSF HND
  have hee : (E : Int) - 1086 = (E : Int) + -1023 - 11 - 52 := by omega
  have hmm : ((mant * 2048 : Nat) : Int) = (mant : Int) * 2048 := by rw [Int.natCast_mul]; rfl
  rw [hee, hmm] at HSF
  have HDL := Lib.hid (fun k h => (hD.lt k h).2)
  have HSF2 := Lib.hid HSF
  have HND2 := Lib.hid HND
  have HU := Lib.hid hu
  clear hee hmm hu
  clear HSF HND hb hE hM e5 hmant
  go_enter Tryz.func170, Tryz.ntmps170
  go_wp2_with (first
    | (go_at_call 182; refine (HL.out _).mono ?_; rintro ex w1 ⟨rfl, rfl⟩))
  go_quiet (fail)
  have hq : Below w.heap.size w (w.drewN nq) := ⟨rfl, rfl, rfl, Nat.le_refl _, fun _ _ => rfl⟩
  have hDq := hD.below hq
  have HQ := Lib.hid hq
  have hsz : (w.drewN nq).heap.size = w.heap.size := rfl
  clear hD hq e1 e2 e3
  generalize w.drewN nq = w1 at *
  go_wp2_with (first
    | (go_at_call 182; refine (HL.out _).mono ?_; rintro ex w2 ⟨rfl, rfl⟩))
  have hal := (Below.refl w1.heap.size w1).alloc (Nat.le_refl _) (.cells (Array.replicate 32 (.int .u8 0)) 285)
  have hk0 := heap_alloc_new w1 (.cells (Array.replicate 32 (.int .u8 0)) 285)
  have hlt0 : w1.heap.size < (w1.alloc (.cells (Array.replicate 32 (.int .u8 0)) 285)).heap.size := by simp
  refine (HSF2.out _ (below_then HQ.out HQ.out.size hal)).mono ?_
  rintro ex w2 ⟨rfl, hb2⟩
  have hk2 := (hb2.block w1.heap.size hlt0).trans hk0
  have hlt2 : w1.heap.size < w2.heap.size := Nat.lt_of_lt_of_le hlt0 hb2.size
  have hb3 := below_then hal hal.size hb2
  have hD2 := hDq.below hb3
  have hb4 := below_then HQ.out HQ.out.size hb3
  rw [hsz] at hk2 hlt2
  clear hb2 hk0 hlt0 hal
  have hsd := fun (W : World) (hk : W.heap[w.heap.size]? = some (.cells (Array.replicate 32 (.int .u8 0)) 285 (0, 0))) => setDigits_any w.heap.size 32 32 c 15 16 (-16) (Array.replicate 16 0) W (by simp) (holds_zeros hk) (by omega) (by omega) (by omega) (by omega) (by omega) (by omega) (by omega) (by omega) (by omega)
  have hu10 : c * 10 ^ 15 = u := by rw [← HU.out]
  rw [hu10] at hsd
  have HSD := Lib.hid hsd
  have HN2 := Lib.hid (fun W (h : Below w2.heap.size w2 W) => HND2.out W (below_then hb4 hb4.size h))
  have HB4 := Lib.hid hb4
  have HD2 := Lib.hid hD2
  have hbr : Below w2.heap.size w2 w2.drew := ⟨rfl, rfl, rfl, Nat.le_refl _, fun _ _ => rfl⟩
  clear hsd hu10 hb3 hb4 hD2 hDq
  go_wp2
  go_region_with (first
    | (go_at_call 146; refine (HN2.out _ hbr).mono ?_; rintro ex w3 ⟨rfl, rfl⟩)
    | (go_at_call 203; refine (HSD.out w2.drew hk2).mono ?_; rintro ex w4 ⟨rfl, hdg, hgr⟩))
  have hsz4 : w.heap.size ≤ w4.heap.size := Nat.le_trans HB4.out.size hgr.size
  have HGA : Hid (w.grownBy w4 (blockOf D)) := Lib.hid ⟨by rw [hgr.os]; exact HB4.out.os, by rw [hgr.tape]; exact HB4.out.tape, by rw [hgr.output]; exact HB4.out.output, hsz4, fun i hi _ =>
    (hgr.block i (Nat.lt_trans hi hlt2) (fun e => by simp only [Option.some.injEq] at e; omega)).trans (HB4.out.block i hi)⟩
  have hm4 : Mine 5 w4 base D 0 cd (u8s []) := (HD2.out.below hbr).kept hgr (by
    cases hA : blockOf D with
    | none => exact .inl rfl
    | some k =>
      refine .inr (fun e => ?_)
      simp only [Option.some.injEq] at e
      have := HDL.out k hA
      omega)
  have hc0 := hdg 0 (by omega)
  rw [show 16 - 1 - 0 = 15 from rfl, ← HU.out, show c * 1000000000000000 = c * 10 ^ 15 from rfl, dig_last, Nat.mod_eq_of_lt (by omega)] at hc0
  have HFM := Lib.hid (fmtE_one base 0 cd w.heap.size 32 32 (48 + c) 1 D [] 0 w4 (Nat.le_trans hbase hsz4) hm4 (by omega) hc0 (by omega) rfl (by omega) (by omega))
  clear hdg hgr hm4 hc0 hbr HSD HN2 HB4 HD2 hk2 hlt2
  go_wp2_with (first | (go_at_call 201; refine HFM.out.mono ?_; rintro ex w5 ⟨G5, c5, rfl, hm5, hg5⟩))
  go_ret
  exact ⟨G5, c5, rfl, hm5, (grown_then (A1 := D) (A2 := D) HGA.out (.inl rfl) hg5 (.inl rfl)).1⟩

end Go.Proofs.YtekcpapkicmckaaGreatDoor

namespace Go.Proofs.YtekcpapkicmckaaGreatDoor
open Go.RowKit

theorem u8s_text (W : World) (base : Nat) (G : Option Addr) (c : Nat) (l : List UInt8) (hl : 0 < l.length) (h : Mine 5 W base G l.length c (u8s (l.map UInt8.toNat))) (q : Nat) :
    (convert 140 9 (.slice G l.length c)).run Tryz.prog (W.drewN q) = .ok (.string ⟨l.toArray⟩) (W.drewN q) := by
  obtain ⟨b, o, rfl, hc⟩ := h.sl.cells hl
  refine run_convert_bytes_back (W.drewN q) _ _ 5 ⟨b, o, none⟩ c l Tryz.under_b8 Tryz.underlying5 Tryz.underlying9 (fun j hj => ?_)
  rw [add_row]
  have h1 := hc j hj
  have h2 : (u8s (l.map UInt8.toNat)).getD j undef = .int .u8 (l[j].toNat : Int) := by
    simp [u8s, List.getD, List.getElem?_eq_getElem (show j < l.length from hj)]
  rw [h2] at h1
  exact h1

set_option maxRecDepth 100000 in
set_option maxHeartbeats 4000000 in
theorem formatInner_one (b E M0 c : Nat) (ch : UInt8) (hch : ch.toNat = 48 + c) (w : World)
    (hb : b < 9223372036854775808) (hE : b / 4503599627370496 = E) (hE1 : 0 < E) (hE2 : E < 2047) (hM : b % 4503599627370496 = M0) (hc1 : 1 ≤ c) (hc2 : c ≤ 9)
    (HSF : ∀ W, Below w.heap.size w W → Calls Tryz.prog 208 #[.int .u64 ((M0 + 4503599627370496) * 2048 : Nat), .int .i64 ((E : Int) - 1086)] W fun ex W' => ex = .returned (.tuple #[.int .u64 (c * 1000000000000000 : Nat), .int .i64 (-16)]) ∧ Below W.heap.size W W')
    (HND : ∀ W, Below w.heap.size w W → Calls Tryz.prog 146 #[.int .u64 (c * 1000000000000000 : Nat)] W fun ex W' => ex = .returned (.int .i64 16) ∧ W = W') :
    Calls Tryz.prog 136 #[.float .f64 b, .int .u8 101, .int .i64 (-1), .int .i64 64] w fun ex w' =>
      ex = .returned (.string ⟨#[ch, 101, 45, 48, 49]⟩) ∧ Below w.heap.size w w' := by
  have hmake := make_row (P := Tryz.prog) 140 5 (.int .u8 0) 1 Tryz.under_b8 Tryz.info_u8 rfl (by omega) 0 24 (by omega) (by omega)
  push_cast at hmake
  have HFT := Lib.hid (fun (W : World) (hq : Below w.heap.size w W) => by
    have hal := (Below.refl W.heap.size W).alloc (Nat.le_refl _) (.cells (Array.replicate 24 (.int .u8 0)) 5)
    have hal2 := below_then hq hq.size hal
    exact ftoa64_one W.heap.size b E M0 c 24 (some ⟨W.heap.size, 0, none⟩) (W.alloc (.cells (Array.replicate 24 (.int .u8 0)) 5)) (by simp) (Mine.made 5 W W.heap.size (.int .u8 0) 0 24 (Nat.le_refl _) (by omega) (by omega))
      hb hE hE1 hE2 hM hc1 hc2 (fun W2 h2 => HSF W2 (below_then hal2 hal2.size h2)) (fun W2 h2 => HND W2 (below_then hal2 hal2.size h2)))
  have hconv := fun (W : World) (G : Option Addr) (c' : Nat) (h : Mine 5 W w.heap.size G 5 c' (u8s [48 + c, 101, 45, 48, 49])) (q : Nat) =>
    u8s_text W w.heap.size G c' [ch, 101, 45, 48, 49] (by simp) (by
      have e2 : [ch, 101, 45, 48, 49].map UInt8.toNat = [48 + c, 101, 45, 48, 49] := by rw [List.map_cons, hch]; rfl
      rw [e2]
      exact h) q
  have HCV := Lib.hid hconv
  clear HSF HND hconv hE hM
  go_enter Tryz.func136, Tryz.ntmps136
  have hmx : max (3 : Int) 24 = 24 := rfl
  go_wp2_with (first | (go_at_call 170; refine (HFT.out w (Below.refl _ _)).mono ?_; rintro ex w1 ⟨G, c', rfl, hm, hg⟩))
  have hal := (Below.refl w.heap.size w).alloc (Nat.le_refl _) (.cells (Array.replicate 24 (.int .u8 0)) 5)
  have hb1 : Below w.heap.size w w1 := below_grown hal (by simp) hg (by simp [blockOf])
  have hcv : (convert 140 9 (.slice G 5 c')).run Tryz.prog w1 = .ok (.string ⟨#[ch, 101, 45, 48, 49]⟩) w1 := HCV.out w1 G c' hm 0
  go_wp2
  rw [hcv]
  go_wp2
  go_ret
  exact ⟨rfl, hb1⟩

set_option maxRecDepth 100000 in
set_option maxHeartbeats 4000000 in
theorem FormatFloat_one (b E M0 c : Nat) (ch : UInt8) (hch : ch.toNat = 48 + c) (w : World)
    (hb : b < 9223372036854775808) (hE : b / 4503599627370496 = E) (hE1 : 0 < E) (hE2 : E < 2047) (hM : b % 4503599627370496 = M0) (hc1 : 1 ≤ c) (hc2 : c ≤ 9)
    (HSF : ∀ W, Below w.heap.size w W → Calls Tryz.prog 208 #[.int .u64 ((M0 + 4503599627370496) * 2048 : Nat), .int .i64 ((E : Int) - 1086)] W fun ex W' => ex = .returned (.tuple #[.int .u64 (c * 1000000000000000 : Nat), .int .i64 (-16)]) ∧ Below W.heap.size W W')
    (HND : ∀ W, Below w.heap.size w W → Calls Tryz.prog 146 #[.int .u64 (c * 1000000000000000 : Nat)] W fun ex W' => ex = .returned (.int .i64 16) ∧ W = W') :
    Calls Tryz.prog 105 #[.float .f64 b, .int .u8 101, .int .i64 (-1), .int .i64 64] w fun ex w' =>
      ex = .returned (.string ⟨#[ch, 101, 45, 48, 49]⟩) ∧ Below w.heap.size w w' := by
  have H := Lib.hid (formatInner_one b E M0 c ch hch w hb hE hE1 hE2 hM hc1 hc2 HSF HND)
  clear HSF HND hE hM
  go_enter Tryz.func105, Tryz.ntmps105
  go_wp2_with (first | (go_at_call 136; refine H.out.mono ?_; rintro ex w1 ⟨rfl, hb1⟩))
  go_ret
  exact ⟨rfl, hb1⟩

/-! ### numDigits of such a number, out of the table -/
theorem nDigits_tab (c : Nat) (h1 : 1 ≤ c) (h2 : c ≤ 9) : Lib.nDigits (c * 1000000000000000) = 16 :=
  Lib.nDigits_unique 15 _ (by omega) (by omega)

end Go.Proofs.YtekcpapkicmckaaGreatDoor
