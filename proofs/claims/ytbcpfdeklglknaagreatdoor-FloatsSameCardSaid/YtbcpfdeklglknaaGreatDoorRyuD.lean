/- Go's float printing (internal/strconv): Mul64, the unrounded numbers. Go's float printing: uscale, prescale. Go's float printing: prescale, shortFloat of a wide number. Go's float printing: shortFloat of a power of two. -/
import Derived.Test.YtbcpfdeklglknaaGreatDoorProg
import Derived.WalkKit
import Derived.Lib.Hide
import Derived.BigQuiet
import Derived.Shelf.Small.Bits
import Derived.Handy
import Derived.Deep.QuietTactic
import Derived.Laws.BitsAllLaws
namespace Go.Proofs.YtbcpfdeklglknaaGreatDoor
open Go.RowKit

theorem wrapU {n : Int} (h0 : 0 ≤ n) (h1 : n < 18446744073709551616) : IntKind.u64.wrap n = n := by
  have e : IntKind.u64.wrap n = n % 18446744073709551616 := rfl
  rw [e]; omega
theorem wrapU_mod (n : Int) : IntKind.u64.wrap n = n % 18446744073709551616 := rfl

theorem maskU (i : Nat) (hi : i ≤ 64) (x : Nat) (hx : x < 18446744073709551616) : Go.bits .and .u64 (x : Int) ((2 : Int) ^ i - 1) = ((x % 2 ^ i : Nat) : Int) := by
  have h := bits_mask .u64 64 (by decide) (fun n h0 h1 => wrapU h0 (by simpa using h1)) i hi (x : Int) (by omega) (by
    rw [show ((2 : Int) ^ 64) = 18446744073709551616 from rfl]; omega)
  rw [h, Int.natCast_emod, Int.natCast_pow]; rfl
theorem lowU (x : Nat) (hx : x < 18446744073709551616) : Go.bits .and .u64 (x : Int) 4294967295 = ((x % 4294967296 : Nat) : Int) := by
  have h := maskU 32 (by omega) x hx
  rw [show ((2 : Int) ^ 32 - 1) = 4294967295 from rfl, show (2 : Nat) ^ 32 = 4294967296 from rfl] at h
  exact h

theorem mul_hi (x y : Nat) : x * y / 18446744073709551616 = (x / 4294967296) * (y / 4294967296) + ((x / 4294967296) * (y % 4294967296) + (x % 4294967296) * (y % 4294967296) / 4294967296) / 4294967296 + (((x / 4294967296) * (y % 4294967296) + (x % 4294967296) * (y % 4294967296) / 4294967296) % 4294967296 + (x % 4294967296) * (y / 4294967296)) / 4294967296 := by
  have hx : x = 4294967296 * (x / 4294967296) + x % 4294967296 := by omega
  have hy : y = 4294967296 * (y / 4294967296) + y % 4294967296 := by omega
  have e : x * y = 18446744073709551616 * ((x / 4294967296) * (y / 4294967296)) + 4294967296 * ((x / 4294967296) * (y % 4294967296) + (x % 4294967296) * (y / 4294967296)) + (x % 4294967296) * (y % 4294967296) := by
    conv => lhs; rw [hx, hy]
    generalize x / 4294967296 = x1
    generalize y / 4294967296 = y1
    generalize x % 4294967296 = x0
    generalize y % 4294967296 = y0
    rw [Nat.mul_add, Nat.add_mul, Nat.add_mul]
    have e1 : 4294967296 * x1 * (4294967296 * y1) = 18446744073709551616 * (x1 * y1) := by
      rw [Nat.mul_assoc, Nat.mul_left_comm x1, ← Nat.mul_assoc]
    have e2 : x0 * (4294967296 * y1) = 4294967296 * (x0 * y1) := Nat.mul_left_comm ..
    have e3 : 4294967296 * x1 * y0 = 4294967296 * (x1 * y0) := Nat.mul_assoc ..
    rw [e1, e2, e3]; omega
  rw [e]
  generalize (x / 4294967296) * (y / 4294967296) = a
  generalize (x / 4294967296) * (y % 4294967296) = b
  generalize (x % 4294967296) * (y / 4294967296) = c
  generalize (x % 4294967296) * (y % 4294967296) = d
  omega

set_option maxRecDepth 100000 in
theorem Mul64_any (x y : Nat) (w : World) (hx : x < 18446744073709551616) (hy : y < 18446744073709551616) :
    Calls Tryz.prog 88 #[.int .u64 x, .int .u64 y] w fun e w' => e = .returned (.tuple #[.int .u64 (x * y / 18446744073709551616 : Nat), .int .u64 (x * y % 18446744073709551616 : Nat)]) ∧ w = w' := by
  have hh := mul_hi x y
  have hl : IntKind.u64.wrap ((x : Int) * y) = ((x * y % 18446744073709551616 : Nat) : Int) := by rw [wrapU_mod, Int.natCast_emod, Int.natCast_mul]; rfl
  have b1 : (x / 4294967296) * (y / 4294967296) ≤ 4294967295 * 4294967295 := Nat.mul_le_mul (by omega) (by omega)
  have b2 : (x / 4294967296) * (y % 4294967296) ≤ 4294967295 * 4294967295 := Nat.mul_le_mul (by omega) (by omega)
  have b3 : (x % 4294967296) * (y / 4294967296) ≤ 4294967295 * 4294967295 := Nat.mul_le_mul (by omega) (by omega)
  have b4 : (x % 4294967296) * (y % 4294967296) ≤ 4294967295 * 4294967295 := Nat.mul_le_mul (by omega) (by omega)
  have f1 := lowU x hx
  have f2 := lowU y hy
  have f3 : (x : Int) / 4294967296 = ((x / 4294967296 : Nat) : Int) := by rw [Int.natCast_ediv]; rfl
  have f4 : (y : Int) / 4294967296 = ((y / 4294967296 : Nat) : Int) := by rw [Int.natCast_ediv]; rfl
  generalize x * y / 18446744073709551616 = HI at *
  generalize x * y % 18446744073709551616 = LO at *
  generalize x / 4294967296 = x1 at *
  generalize y / 4294967296 = y1 at *
  generalize x % 4294967296 = x0 at *
  generalize y % 4294967296 = y0 at *
  have g1 : (x0 : Int) * y0 = ((x0 * y0 : Nat) : Int) := by rw [Int.natCast_mul]
  have g2 : (x1 : Int) * y0 = ((x1 * y0 : Nat) : Int) := by rw [Int.natCast_mul]
  have g3 : (x0 : Int) * y1 = ((x0 * y1 : Nat) : Int) := by rw [Int.natCast_mul]
  have g4 : (x1 : Int) * y1 = ((x1 * y1 : Nat) : Int) := by rw [Int.natCast_mul]
  generalize x1 * y1 = a at *
  generalize x1 * y0 = b at *
  generalize x0 * y1 = c at *
  generalize x0 * y0 = d at *
  obtain ⟨t, ht⟩ : ∃ t, b + d / 4294967296 = t := ⟨_, rfl⟩
  rw [ht] at hh
  have f5 := lowU t (by omega)
  have g5 : (b : Int) + (d : Int) / 4294967296 = (t : Int) := by omega
  have ht2 : t < 18446744073709551616 := by omega
  have HT := Lib.hid ht
  have HH := Lib.hid hh
  have ht3 : t % 4294967296 < 4294967296 := Nat.mod_lt _ (by omega)
  generalize hm : t % 4294967296 = tm at *
  have HM := Lib.hid hm
  clear hh ht hx hy hm
  go_enter Tryz.func88, Tryz.ntmps88
  go_wp2
  go_ret2
  exact ⟨by rw [HH.out]; simp, rfl⟩

theorem bool2_u64 (b : Bool) (w : World) : Calls Tryz.prog 168 #[.bool b] w fun e w' => e = .returned (.int .u64 (if b then 1 else 0)) ∧ w = w' := by
  cases b
  all_goals
    go_enter Tryz.func168, Tryz.ntmps168
    go_wp2
    go_ret
    exact ⟨rfl, rfl⟩

theorem nudge_any (u : Nat) (d : Int) (r : Nat) (w : World) (hr : (u : Int) + d = r) (h : r < 18446744073709551616) :
    Calls Tryz.prog 153 #[.int .u64 u, .int .i64 d] w fun e w' => e = .returned (.int .u64 r) ∧ w = w' := by
  have h1 : IntKind.u64.wrap ((u : Int) + IntKind.u64.wrap d) = (r : Int) := by
    rw [wrapU_mod, wrapU_mod, Int.add_emod_emod, hr]; omega
  clear h
  go_enter Tryz.func153, Tryz.ntmps153
  go_wp2
  go_ret
  exact ⟨rfl, rfl⟩
theorem ceil_any (u : Nat) (w : World) (h : u < 18446744073709551613) :
    Calls Tryz.prog 154 #[.int .u64 u] w fun e w' => e = .returned (.int .u64 ((u + 3) / 4 : Nat)) ∧ w = w' := by
  go_enter Tryz.func154, Tryz.ntmps154
  go_wp2
  go_ret
  exact ⟨by simp, rfl⟩
theorem floor_any (u : Nat) (w : World) (h : u < 18446744073709551616) :
    Calls Tryz.prog 155 #[.int .u64 u] w fun e w' => e = .returned (.int .u64 (u / 4 : Nat)) ∧ w = w' := by
  go_enter Tryz.func155, Tryz.ntmps155
  go_wp2
  go_ret
  exact ⟨by simp, rfl⟩
theorem round_any (u : Nat) (w : World) (h : u < 18446744073709551612) :
    Calls Tryz.prog 156 #[.int .u64 u] w fun e w' => e = .returned (.int .u64 ((u + 1 + u / 4 % 2) / 4 : Nat)) ∧ w = w' := by
  have h1 := maskU 1 (by omega) (u / 4) (by omega)
  rw [show ((2 : Int) ^ 1 - 1) = 1 from rfl, Nat.pow_one] at h1
  have h2 : (u : Int) / 4 = ((u / 4 : Nat) : Int) := by rw [Int.natCast_ediv]; rfl
  have h3 : u / 4 % 2 < 2 := Nat.mod_lt _ (by omega)
  have h4 : u / 4 ≤ u := Nat.div_le_self _ _
  generalize u / 4 = q at *
  obtain ⟨p, hp⟩ : ∃ p, q % 2 = p := ⟨_, rfl⟩
  rw [hp] at h1 h3
  rw [hp]
  clear hp
  go_enter Tryz.func156, Tryz.ntmps156
  go_wp2
  go_ret
  exact ⟨by simp, rfl⟩

end Go.Proofs.YtbcpfdeklglknaaGreatDoor

namespace Go.Proofs.YtbcpfdeklglknaaGreatDoor
open Go.RowKit

theorem shrU (n : Nat) (s : Nat) : (n : Int) / 2 ^ s = ((n / 2 ^ s : Nat) : Int) := by rw [Int.natCast_ediv, Int.natCast_pow]; rfl
theorem and63 : ∀ s : Fin 64, Go.bits .and .i64 ((s.val : Nat) : Int) 63 = ((s.val : Nat) : Int) := by decide

theorem ret_eq' {u v : Value} (h : u = v) : Ending.returned u = .returned v := by rw [h]
theorem bool2_quiet (b : Bool) (w : World) (q : Nat) : Calls Tryz.prog 168 #[.bool b] (w.drewN q) fun e w' => e = .returned (.int .u64 (if b then 1 else 0)) ∧ w' = w.drewN q :=
  (bool2_u64 b _).mono fun _ _ ⟨h1, h2⟩ => ⟨h1, h2.symm⟩

/-- the same, of the products' halves -/
def uscaleR (hi mid m2 s : Nat) : Nat :=
  if hi / 2 ^ s * 2 ^ s ≠ hi then (hi / 2 ^ s) ||| 1
  else ((hi + 18446744073709551616 - (if mid < m2 then 1 else 0)) % 18446744073709551616 / 2 ^ s) ||| (if 1 < (mid + 18446744073709551616 - m2) % 18446744073709551616 then 1 else 0)
theorem uscaleR_one {hi mid m2 s q : Nat} (hq : hi / 2 ^ s = q) (h : q * 2 ^ s ≠ hi) : uscaleR hi mid m2 s = q ||| 1 := by
  unfold uscaleR; rw [hq, if_pos h]
theorem uscaleR_two {hi mid m2 s h1 q2 dd : Nat} {k d : Bool} (h : hi / 2 ^ s * 2 ^ s = hi) (hk : decide (mid < m2) = k) (h1e : (hi + 18446744073709551616 - (if k then 1 else 0)) % 18446744073709551616 = h1)
    (hq2 : h1 / 2 ^ s = q2) (hdd : (mid + 18446744073709551616 - m2) % 18446744073709551616 = dd) (hd : decide (1 < dd) = d) : uscaleR hi mid m2 s = q2 ||| (if d then 1 else 0) := by
  unfold uscaleR
  rw [if_neg (by simp [h]), hdd]
  subst hk hd
  simp only [decide_eq_true_eq] at h1e ⊢
  rw [h1e, hq2]

section
variable (x H L s g hi mid m2 lo2 : Nat) (w : World)
    (M1 : Hid (∀ W : World, Calls Tryz.prog 88 #[.int .u64 x, .int .u64 H] W fun e w' => e = .returned (.tuple #[.int .u64 hi, .int .u64 mid]) ∧ W = w'))
    (M2 : Hid (∀ W : World, Calls Tryz.prog 88 #[.int .u64 x, .int .u64 L] W fun e w' => e = .returned (.tuple #[.int .u64 m2, .int .u64 lo2]) ∧ W = w'))
    (c0 : w.cell? ⟨g, 0, none⟩ = some (.int .u64 H)) (c1 : w.cell? ⟨g, 1, none⟩ = some (.int .u64 L)) (c2 : w.cell? ⟨g, 2, none⟩ = some (.int .i64 s))
include M1 M2 c0 c1 c2

omit M2 c1 in
set_option maxRecDepth 100000 in
set_option maxHeartbeats 1000000 in
theorem uscale_one (hs : s < 64) (ha : Go.bits .and .i64 (s : Int) 63 = (s : Int)) (q qq r : Nat) (b1 : hi < 18446744073709551616) (hqm : qq ≤ hi) (d1 : (hi : Int) / 2 ^ s = (q : Int)) (d2 : (q : Int) * 2 ^ s = (qq : Int)) (hb : ((qq : Int) != (hi : Int)) = true)
    (o1 : Go.bits .or .u64 (q : Int) 1 = (r : Int)) :
    Calls Tryz.prog 152 #[.int .u64 x, .pointer (some ⟨g, 0, none⟩)] w fun e w' => e = .returned (.int .u64 r) ∧ ∃ q, w' = w.drewN q := by
  go_enter Tryz.func152, Tryz.ntmps152
  go_wp2_with (first | (go_at_call 88; with_reducible refine (M1.out _).mono ?_; rintro ex w' ⟨rfl, rfl⟩))
  go_ret
  exact ⟨rfl, 0, rfl⟩

set_option maxRecDepth 100000 in
set_option maxHeartbeats 1000000 in
theorem uscale_two (hs : s < 64) (ha : Go.bits .and .i64 (s : Int) 63 = (s : Int)) (k d : Bool) (q h1 q2 dd r : Nat) (b1 : hi < 18446744073709551616) (d1 : (hi : Int) / 2 ^ s = (q : Int)) (d2 : (q : Int) * 2 ^ s = (hi : Int))
    (hk1 : decide (mid < m2) = k) (hk2 : decide ((mid : Int) < m2) = k) (w4 : IntKind.u64.wrap ((hi : Int) - (if k then 1 else 0)) = (h1 : Int)) (w5 : k = false → h1 = hi) (d3 : (h1 : Int) / 2 ^ s = (q2 : Int)) (w3 : IntKind.u64.wrap ((mid : Int) - m2) = (dd : Int))
    (hd1 : decide (1 < dd) = d) (hd2 : decide ((1 : Int) < dd) = d) (hq2b : q2 ≤ h1) (o2 : Go.bits .or .u64 (q2 : Int) (if d then 1 else 0) = (r : Int)) :
    Calls Tryz.prog 152 #[.int .u64 x, .pointer (some ⟨g, 0, none⟩)] w fun e w' => e = .returned (.int .u64 r) ∧ ∃ q, w' = w.drewN q := by
  have HB := Lib.hid (fun (b : Bool) (W : World) => bool2_u64 b W)
  have HB2 := Lib.hid (fun (b : Bool) (W : World) q => bool2_quiet b W q)
  cases k
  · have e := w5 rfl
    subst e
    obtain rfl : q = q2 := by omega
    clear w5
    cases d
    · simp only [Bool.false_eq_true, if_false] at w4 o2
      have hd : ¬ 1 < dd := by simpa using hd1
      have hk : ¬ mid < m2 := by simpa using hk1
      go_enter Tryz.func152, Tryz.ntmps152
      go_wp2_with (first
        | (go_at_call 88; first | (with_reducible refine (M1.out _).mono ?_; rintro ex w' ⟨rfl, rfl⟩) | (with_reducible refine (M2.out _).mono ?_; rintro ex w' ⟨rfl, rfl⟩))
        | (go_at_call 168; refine (HB.out false _).mono ?_; rintro ex w' ⟨rfl, rfl⟩))
      go_quiet (first | (go_at_call 168; with_reducible refine Calls.quiet_of_same (HB2.out _ _ _)))
      go_wp2
      go_ret
      exact ⟨rfl, _, rfl⟩
    · simp only [if_true, Bool.false_eq_true, if_false] at w4 o2
      have hd : 1 < dd := by simpa using hd1
      have hk : ¬ mid < m2 := by simpa using hk1
      go_enter Tryz.func152, Tryz.ntmps152
      go_wp2_with (first
        | (go_at_call 88; first | (with_reducible refine (M1.out _).mono ?_; rintro ex w' ⟨rfl, rfl⟩) | (with_reducible refine (M2.out _).mono ?_; rintro ex w' ⟨rfl, rfl⟩))
        | (go_at_call 168; refine (HB.out false _).mono ?_; rintro ex w' ⟨rfl, rfl⟩))
      go_quiet (first | (go_at_call 168; with_reducible refine Calls.quiet_of_same (HB2.out _ _ _)))
      go_wp2
      go_ret
      exact ⟨rfl, _, rfl⟩
  · clear w5
    cases d
    · simp only [if_true, Bool.false_eq_true, if_false] at w4 o2
      have hd : ¬ 1 < dd := by simpa using hd1
      have hk : mid < m2 := by simpa using hk1
      go_enter Tryz.func152, Tryz.ntmps152
      go_wp2_with (first
        | (go_at_call 88; first | (with_reducible refine (M1.out _).mono ?_; rintro ex w' ⟨rfl, rfl⟩) | (with_reducible refine (M2.out _).mono ?_; rintro ex w' ⟨rfl, rfl⟩))
        | (go_at_call 168; refine (HB.out true _).mono ?_; rintro ex w' ⟨rfl, rfl⟩))
      go_quiet (first | (go_at_call 168; with_reducible refine Calls.quiet_of_same (HB2.out _ _ _)))
      go_wp2
      go_ret
      exact ⟨rfl, _, rfl⟩
    · simp only [if_true] at w4 o2
      have hd : 1 < dd := by simpa using hd1
      have hk : mid < m2 := by simpa using hk1
      go_enter Tryz.func152, Tryz.ntmps152
      go_wp2_with (first
        | (go_at_call 88; first | (with_reducible refine (M1.out _).mono ?_; rintro ex w' ⟨rfl, rfl⟩) | (with_reducible refine (M2.out _).mono ?_; rintro ex w' ⟨rfl, rfl⟩))
        | (go_at_call 168; refine (HB.out true _).mono ?_; rintro ex w' ⟨rfl, rfl⟩))
      go_quiet (first | (go_at_call 168; with_reducible refine Calls.quiet_of_same (HB2.out _ _ _)))
      go_wp2
      go_ret
      exact ⟨rfl, _, rfl⟩
end

theorem uscale_any (x H L s g : Nat) (w : World) (hx : x < 18446744073709551616) (hH : H < 18446744073709551616) (hL : L < 18446744073709551616) (hs : s < 64)
    (c0 : w.cell? ⟨g, 0, none⟩ = some (.int .u64 H)) (c1 : w.cell? ⟨g, 1, none⟩ = some (.int .u64 L)) (c2 : w.cell? ⟨g, 2, none⟩ = some (.int .i64 s)) :
    Calls Tryz.prog 152 #[.int .u64 x, .pointer (some ⟨g, 0, none⟩)] w fun e w' => e = .returned (.int .u64 (uscaleR (x * H / 18446744073709551616) (x * H % 18446744073709551616) (x * L / 18446744073709551616) s)) ∧ ∃ q, w' = w.drewN q := by
  have M1 := Lib.hid (fun W => Mul64_any x H W hx hH)
  have M2 := Lib.hid (fun W => Mul64_any x L W hx hL)
  have b1 : x * H / 18446744073709551616 < 18446744073709551616 := Nat.div_lt_of_lt_mul (Nat.mul_lt_mul'' hx hH)
  have b2 : x * H % 18446744073709551616 < 18446744073709551616 := Nat.mod_lt _ (by omega)
  have b3 : x * L / 18446744073709551616 < 18446744073709551616 := Nat.div_lt_of_lt_mul (Nat.mul_lt_mul'' hx hL)
  generalize x * H / 18446744073709551616 = hi at *
  generalize x * H % 18446744073709551616 = mid at *
  generalize x * L / 18446744073709551616 = m2 at *
  generalize x * L % 18446744073709551616 = lo2 at *
  have ha := and63 ⟨s, hs⟩
  simp only at ha
  obtain ⟨q, hq⟩ : ∃ q, hi / 2 ^ s = q := ⟨_, rfl⟩
  have hqh : q ≤ hi := by rw [← hq]; exact Nat.div_le_self _ _
  have hqm : q * 2 ^ s ≤ hi := by rw [← hq]; exact Nat.div_mul_le_self _ _
  have d1 := shrU hi s
  rw [hq] at d1
  have d2 : (q : Int) * 2 ^ s = ((q * 2 ^ s : Nat) : Int) := by rw [Int.natCast_mul, Int.natCast_pow]; rfl
  by_cases hne : q * 2 ^ s = hi
  · have w3 : IntKind.u64.wrap ((mid : Int) - m2) = (((mid + 18446744073709551616 - m2) % 18446744073709551616 : Nat) : Int) := by rw [wrapU_mod]; omega
    obtain ⟨dd, hdd⟩ : ∃ dd, (mid + 18446744073709551616 - m2) % 18446744073709551616 = dd := ⟨_, rfl⟩
    rw [hdd] at w3
    obtain ⟨k, hk1⟩ : ∃ k, decide (mid < m2) = k := ⟨_, rfl⟩
    obtain ⟨d, hd1⟩ : ∃ d, decide (1 < dd) = d := ⟨_, rfl⟩
    have hk2 : decide ((mid : Int) < m2) = k := by rw [← hk1]; simp
    have hd2 : decide ((1 : Int) < dd) = d := by rw [← hd1]; congr 1; simp; omega
    obtain ⟨h1, hh1⟩ : ∃ h1, (hi + 18446744073709551616 - (if k then 1 else 0)) % 18446744073709551616 = h1 := ⟨_, rfl⟩
    obtain ⟨c, hc⟩ : ∃ c : Nat, (if k then 1 else 0) = c := ⟨_, rfl⟩
    have hc2 : (if k then (1 : Int) else 0) = (c : Int) := by rw [← hc]; cases k <;> rfl
    have hc3 : c ≤ 1 := by rw [← hc]; cases k <;> decide
    have hc4 : k = false → c = 0 := fun e => by rw [← hc, e]; rfl
    have w4 : IntKind.u64.wrap ((hi : Int) - (if k then 1 else 0)) = (h1 : Int) := by
      rw [hc] at hh1
      rw [wrapU_mod, hc2, ← hh1]
      omega
    have w5 : k = false → h1 = hi := fun e => by
      rw [hc, hc4 e] at hh1
      omega
    have hh1b : h1 < 18446744073709551616 := by rw [← hh1]; exact Nat.mod_lt _ (by omega)
    obtain ⟨q2, hq2⟩ : ∃ q2, h1 / 2 ^ s = q2 := ⟨_, rfl⟩
    have d3 := shrU h1 s
    rw [hq2] at d3
    have hq2b : q2 ≤ h1 := by rw [← hq2]; exact Nat.div_le_self _ _
    rw [uscaleR_two (by rw [hq]; exact hne) hk1 hh1 hq2 hdd hd1]
    have o2 : Go.bits .or .u64 (q2 : Int) (if d then 1 else 0) = ((q2 ||| (if d then 1 else 0) : Nat) : Int) := by
      cases d
      · exact u64_or_nat q2 0 (by omega) (by omega)
      · exact u64_or_nat q2 1 (by omega) (by omega)
    exact uscale_two x H L s g hi mid m2 lo2 w M1 M2 c0 c1 c2 hs ha k d q h1 q2 dd _ b1 d1 (by rw [d2, hne]) hk1 hk2 w4 w5 d3 w3 hd1 hd2 hq2b o2
  · rw [uscaleR_one hq hne]
    exact uscale_one x H s g hi mid w M1 c0 c2 hs ha q _ _ b1 hqm d1 d2 (by simp; omega) (u64_or_nat q 1 (by omega) (by omega))

end Go.Proofs.YtbcpfdeklglknaaGreatDoor

namespace Go.Proofs.YtbcpfdeklglknaaGreatDoor
open Go.RowKit

/-- an entry of the table of powers -/
structure PowAt (w : World) (k H L : Nat) : Prop where
  hi : w.cell? ⟨11, k * 2, none⟩ = some (.int .u64 H)
  lo : w.cell? ⟨11, k * 2 + 1, none⟩ = some (.int .u64 L)

set_option maxRecDepth 100000 in
set_option maxHeartbeats 1000000 in
theorem prescale_any (g : Nat) (e p lp : Int) (k H L : Nat) (w : World) (hk : p + 348 = k) (hk2 : k < 696) (hp : PowAt w k H L)
    (he1 : -100000 ≤ e) (he2 : e ≤ 100000) (hl1 : -100000 ≤ lp) (hl2 : lp ≤ 100000)
    (f0 : ∃ v, w.cell? ⟨g, 0, none⟩ = some v) (f1 : ∃ v, w.cell? ⟨g, 1, none⟩ = some v) (f2 : ∃ v, w.cell? ⟨g, 2, none⟩ = some v) (ff : ∀ j, w.frozen? ⟨g, j, none⟩ = false) :
    Calls Tryz.prog 150 #[.pointer (some ⟨g, 0, none⟩), .int .i64 e, .int .i64 p, .int .i64 lp] w fun ex w' => ex = .returned (.tuple #[]) ∧
      w' = (((w.setCell ⟨g, 0, none⟩ (.int .u64 H)).setCell ⟨g, 1, none⟩ (.int .u64 L)).setCell ⟨g, 2, none⟩ (.int .i64 (-(e + lp + 3)))) := by
  obtain ⟨v0, f0⟩ := f0
  obtain ⟨v1, f1⟩ := f1
  obtain ⟨v2, f2⟩ := f2
  obtain ⟨p1, p2⟩ := hp
  obtain rfl : p = (k : Int) - 348 := by omega
  clear hk
  go_enter Tryz.func150, Tryz.ntmps150
  go_wp2
  go_returns
  exact ⟨rfl, rfl⟩

theorem wrapI {n : Int} (h0 : 0 ≤ n) (h1 : n < 9223372036854775808) : IntKind.i64.wrap n = n := by
  simp [IntKind.wrap, IntKind.bits, IntKind.signed]; omega
theorem maskI (i : Nat) (hi : i ≤ 63) (x : Nat) (hx : x < 9223372036854775808) : Go.bits .and .i64 (x : Int) ((2 : Int) ^ i - 1) = ((x % 2 ^ i : Nat) : Int) := by
  have h := bits_mask .i64 63 (by decide) (fun n h0 h1 => wrapI h0 (by simpa using h1)) i hi (x : Int) (by omega) (by
    rw [show ((2 : Int) ^ 63) = 9223372036854775808 from rfl]; omega)
  rw [h, Int.natCast_emod, Int.natCast_pow]; rfl

theorem log10_any (x : Int) (w : World) (h1 : -100000 ≤ x) (h2 : x ≤ 100000) : Calls Tryz.prog 111 #[.int .i64 x] w fun e w' => e = .returned (.int .i64 (x * 78913 / 262144)) ∧ w = w' := by
  go_enter Tryz.func111, Tryz.ntmps111
  go_wp2
  go_ret
  exact ⟨rfl, rfl⟩
theorem log2_any (x : Int) (w : World) (h1 : -100000 ≤ x) (h2 : x ≤ 100000) : Calls Tryz.prog 151 #[.int .i64 x] w fun e w' => e = .returned (.int .i64 (x * 108853 / 32768)) ∧ w = w' := by
  go_enter Tryz.func151, Tryz.ntmps151
  go_wp2
  go_ret
  exact ⟨rfl, rfl⟩

/-- what uscale answers of a number and an entry of the table -/
def uscaleN (x H L s : Nat) : Nat := uscaleR (x * H / 18446744073709551616) (x * H % 18446744073709551616) (x * L / 18446744073709551616) s

theorem cell_of_block {W : World} {g j : Nat} {cs : Array Value} {t : TypeId} {fr : Nat × Nat} {v : Value} (hk : W.heap[g]? = some (.cells cs t fr)) (hv : cs[j]? = some v) : W.cell? ⟨g, j, none⟩ = some v := by
  simp [World.cell?, hk, hv]
theorem frozen_of_block {W : World} {g j : Nat} {cs : Array Value} {t : TypeId} (hk : W.heap[g]? = some (.cells cs t (0, 0))) : W.frozen? ⟨g, j, none⟩ = false := by
  simp [World.frozen?, hk]

theorem PowAt.below {w w' : World} {k H L : Nat} (h : PowAt w k H L) (hb : Below w.heap.size w w') : PowAt w' k H L :=
  ⟨(hb.cell (World.block_lt_of_cell? w _ h.hi)).trans h.hi, (hb.cell (World.block_lt_of_cell? w _ h.lo)).trans h.lo⟩

theorem uscale_at (x : Nat) (xi : Int) (H L s g r : Nat) (w : World) (hxi : xi = (x : Int)) (hx : x < 18446744073709551616) (hH : H < 18446744073709551616) (hL : L < 18446744073709551616) (hs : s < 64) (h : uscaleN x H L s = r)
    (hk : w.heap[g]? = some (.cells #[.int .u64 H, .int .u64 L, .int .i64 s] 189 (0, 0))) :
    Calls Tryz.prog 152 #[.int .u64 xi, .pointer (some ⟨g, 0, none⟩)] w fun e w' => e = .returned (.int .u64 r) ∧ ∃ q, w' = w.drewN q := by
  subst hxi h
  exact uscale_any x H L s g w hx hH hL hs (by simp [World.cell?, hk]) (by simp [World.cell?, hk]) (by simp [World.cell?, hk])

set_option maxRecDepth 100000 in
set_option maxHeartbeats 2000000 in
theorem short_norm (m : Nat) (e p lp : Int) (k s H L U1 U2 U3 V1 V2 odd d : Nat) (r : Int) (w : World)
    (hm : m < 18446744073709549568) (hm2 : 9223372036854775808 < m) (he1 : -1085 ≤ e) (he2 : e ≤ 2000)
    (hp : -((e + 11) * 78913 / 262144) = p) (hlp : p * 108853 / 32768 = lp) (hk : p + 348 = k) (hk2 : k < 696) (hT : PowAt w k H L) (hs : -(e + lp + 3) = s) (hs2 : s < 64) (hH : H < 18446744073709551616) (hL : L < 18446744073709551616)
    (hodd : m / 2048 % 2 = odd) (h1 : uscaleN (m - 1024) H L s = U1) (h2 : uscaleN (m + 1024) H L s = U2) (h3 : uscaleN m H L s = U3)
    (hU1 : U1 < 9223372036854775808) (hU2 : U2 < 9223372036854775808) (hU2' : 1 ≤ U2) (hU3 : U3 < 9223372036854775808)
    (hV1 : (U1 + odd + 3) / 4 = V1) (hV2 : (U2 - odd) / 4 = V2)
    (hd : (V1 ≤ V2 / 10 * 10 ∧ d = V2 / 10 ∧ r = -(p - 1)) ∨ (V2 / 10 * 10 < V1 ∧ V1 < V2 ∧ d = (U3 + 1 + U3 / 4 % 2) / 4 ∧ r = -p) ∨ (V2 / 10 * 10 < V1 ∧ V2 ≤ V1 ∧ d = V1 ∧ r = -p)) :
    Calls Tryz.prog 134 #[.int .u64 m, .int .i64 e] w fun ex w' => ex = .returned (.tuple #[.int .u64 d, .int .i64 r]) ∧ Below w.heap.size w w' := by
  have hw := (Below.refl w.heap.size w).alloc (Nat.le_refl _) (.cells #[.int .u64 0, .int .u64 0, .int .i64 0] 189)
  have hne : ((m : Int) == 9223372036854775808) = false := by simp; omega
  have g1 : (m : Int) / 2048 = ((m / 2048 : Nat) : Int) := by rw [Int.natCast_ediv]; rfl
  have g2 := maskI 1 (by omega) (m / 2048) (by omega)
  rw [show ((2 : Int) ^ 1 - 1) = 1 from rfl, Nat.pow_one, hodd] at g2
  have g3 : m / 2048 < 9007199254740992 := by omega
  generalize m / 2048 = mq at *
  have hee : decide (-1085 ≤ e) = true := decide_eq_true he1
  have HD := Lib.hid hd
  have HT := Lib.hid hT
  have HS := Lib.hid hs
  have HK := Lib.hid hk
  have H1 := Lib.hid h1
  have H2 := Lib.hid h2
  have H3 := Lib.hid h3
  have HV1 := Lib.hid hV1
  have HV2 := Lib.hid hV2
  have hpb : -1000 ≤ p ∧ p ≤ 1000 := by omega
  obtain ⟨hpb1, hpb2⟩ := hpb
  have hlb : -100000 ≤ lp ∧ lp ≤ 100000 := by omega
  obtain ⟨hlb1, hlb2⟩ := hlb
  have HODD := Lib.hid hodd
  have hob : odd ≤ 1 := by omega
  clear hd hT hs hk h1 h2 h3 hV1 hV2 hodd
  go_enter Tryz.func134, Tryz.ntmps134
  go_wp2_with (first
    | (go_at_call 111; refine (log10_any _ _ (by omega) (by omega)).mono ?_; rintro ex w1 ⟨rfl, rfl⟩)
    | (go_at_call 151; refine (log2_any _ _ (by omega) (by omega)).mono ?_; rintro ex w1 ⟨rfl, rfl⟩))
  have hk0 := heap_alloc_new w (.cells #[.int .u64 0, .int .u64 0, .int .i64 0] 189)
  refine (prescale_any w.heap.size e p lp k H L _ HK.out hk2 (HT.out.below hw) (by omega) (by omega) (by omega) (by omega) ⟨_, cell_of_block hk0 rfl⟩ ⟨_, cell_of_block hk0 rfl⟩ ⟨_, cell_of_block hk0 rfl⟩ (fun j => frozen_of_block hk0)).mono ?_
  rintro ex w1 ⟨rfl, hw1⟩
  have hw2 : w1 = w.alloc (.cells #[.int .u64 H, .int .u64 L, .int .i64 s] 189) := by
    rw [hw1, HS.out, World.setCell_alloc_at _ _ _ _ _ rfl, World.setCell_alloc_at _ _ _ _ _ rfl, World.setCell_alloc_at _ _ _ _ _ rfl]
    rfl
  subst hw2
  have hk := heap_alloc_new w (.cells #[.int .u64 H, .int .u64 L, .int .i64 s] 189)
  have hB := (Below.refl w.heap.size w).alloc (Nat.le_refl _) (.cells #[.int .u64 H, .int .u64 L, .int .i64 s] 189)
  generalize w.alloc (.cells #[.int .u64 H, .int .u64 L, .int .i64 s] 189) = w2 at *
  have HU1 := Lib.hid (uscale_at (m - 1024) ((m : Int) - 1024) H L s w.heap.size U1 w2 (by omega) (by omega) hH hL hs2 H1.out hk)
  have HU2 := Lib.hid (fun q => uscale_at (m + 1024) ((m : Int) + 1024) H L s w.heap.size U2 (w2.drewN q) (by omega) (by omega) hH hL hs2 H2.out hk)
  have HU3 := Lib.hid (fun q => uscale_at m (m : Int) H L s w.heap.size U3 (w2.drewN q) rfl (by omega) hH hL hs2 H3.out hk)
  have HB := Lib.hid (fun q => (show Below w.heap.size w (w2.drewN q) from hB.trans ⟨rfl, rfl, rfl, Nat.le_refl _, fun _ _ => rfl⟩))
  obtain ⟨N1, hN1⟩ : ∃ N1, U1 + odd = N1 := ⟨_, rfl⟩
  obtain ⟨N2, hN2⟩ : ∃ N2, U2 - odd = N2 := ⟨_, rfl⟩
  have hV1 := HV1.out
  have hV2 := HV2.out
  rw [hN1] at hV1
  rw [hN2] at hV2
  have hn1 : N1 < 18446744073709551613 := by omega
  have hn2 : N2 < 18446744073709551616 := by omega
  have K1 := Lib.hid (fun W => nudge_any U1 odd N1 W (by omega) (by omega))
  have K2 := Lib.hid (fun W => nudge_any U2 (-(odd : Int)) N2 W (by omega) (by omega))
  have C1 := Lib.hid (fun W => ceil_any N1 W hn1)
  have C2 := Lib.hid (fun W => floor_any N2 W hn2)
  have C3 := Lib.hid (fun W => round_any U3 W (by omega))
  rw [hV1] at C1
  rw [hV2] at C2
  have hv1 : V1 < 9223372036854775808 := by omega
  have hv2 : V2 < 9223372036854775808 := by omega
  obtain ⟨D, hD⟩ : ∃ D, V2 / 10 = D := ⟨_, rfl⟩
  obtain ⟨R3, hR3⟩ : ∃ R3, (U3 + 1 + U3 / 4 % 2) / 4 = R3 := ⟨_, rfl⟩
  rw [hR3] at C3
  have hd := HD.out
  rw [hD, hR3] at hd
  have hD2 : (V2 : Int) / 10 = (D : Int) := by rw [← hD, Int.natCast_ediv]; rfl
  have hdb : D ≤ 922337203685477580 := by omega
  clear hk hw hw1 hB H1 H2 H3 HV1 HV2 HD hV1 hV2 hN1 hN2 hD hR3 hm hm2 hH hL hU1 hU2 hU2' hU3 hn1 hn2 g1 g2 g3 hne hee hk0 hp hlp
  rcases hd with ⟨t1, rfl, rfl⟩ | ⟨t1, t2, rfl, rfl⟩ | ⟨t1, t2, rfl, rfl⟩
  · have u1 := decide_eq_true t1
    have u2 : decide ((V1 : Int) ≤ (d : Int) * 10) = true := decide_eq_true (by omega)
    have u3 : (V1 : Int) ≤ (d : Int) * 10 := by omega
    go_wp2_with (first
      | (go_at_call 152; first | (with_reducible refine HU1.out.mono ?_; rintro ex w3 ⟨rfl, q1, rfl⟩) | (with_reducible refine (HU2.out _).mono ?_; rintro ex w3 ⟨rfl, q1, rfl⟩) | (with_reducible refine (HU3.out _).mono ?_; rintro ex w3 ⟨rfl, q1, rfl⟩))
      | (go_at_call 153; first | (with_reducible refine (K1.out _).mono ?_; rintro ex w3 ⟨rfl, rfl⟩) | (with_reducible refine (K2.out _).mono ?_; rintro ex w3 ⟨rfl, rfl⟩))
      | (go_at_call 154; refine (C1.out _).mono ?_; rintro ex w3 ⟨rfl, rfl⟩)
      | (go_at_call 155; refine (C2.out _).mono ?_; rintro ex w3 ⟨rfl, rfl⟩)
      | (go_at_call 156; refine (C3.out _).mono ?_; rintro ex w3 ⟨rfl, rfl⟩))
    go_ret2
    exact ⟨rfl, HB.out _⟩
  · have t1' : ¬ V1 ≤ D * 10 := by omega
    have u1 := decide_eq_false t1'
    have u2 : decide ((V1 : Int) ≤ (D : Int) * 10) = false := decide_eq_false (by omega)
    have u3 : ¬ (V1 : Int) ≤ (D : Int) * 10 := by omega
    have v1 := decide_eq_true t2
    have v2 : decide ((V1 : Int) < V2) = true := decide_eq_true (by omega)
    have v3 : (V1 : Int) < V2 := by omega
    go_wp2_with (first
      | (go_at_call 152; first | (with_reducible refine HU1.out.mono ?_; rintro ex w3 ⟨rfl, q1, rfl⟩) | (with_reducible refine (HU2.out _).mono ?_; rintro ex w3 ⟨rfl, q1, rfl⟩) | (with_reducible refine (HU3.out _).mono ?_; rintro ex w3 ⟨rfl, q1, rfl⟩))
      | (go_at_call 153; first | (with_reducible refine (K1.out _).mono ?_; rintro ex w3 ⟨rfl, rfl⟩) | (with_reducible refine (K2.out _).mono ?_; rintro ex w3 ⟨rfl, rfl⟩))
      | (go_at_call 154; refine (C1.out _).mono ?_; rintro ex w3 ⟨rfl, rfl⟩)
      | (go_at_call 155; refine (C2.out _).mono ?_; rintro ex w3 ⟨rfl, rfl⟩)
      | (go_at_call 156; refine (C3.out _).mono ?_; rintro ex w3 ⟨rfl, rfl⟩))
    go_ret2
    exact ⟨rfl, HB.out _⟩
  · have t1' : ¬ d ≤ D * 10 := by omega
    have u1 := decide_eq_false t1'
    have u2 : decide ((d : Int) ≤ (D : Int) * 10) = false := decide_eq_false (by omega)
    have u3 : ¬ (d : Int) ≤ (D : Int) * 10 := by omega
    have t2' : ¬ d < V2 := by omega
    have v1 := decide_eq_false t2'
    have v2 : decide ((d : Int) < V2) = false := decide_eq_false (by omega)
    have v3 : ¬ (d : Int) < V2 := by omega
    go_wp2_with (first
      | (go_at_call 152; first | (with_reducible refine HU1.out.mono ?_; rintro ex w3 ⟨rfl, q1, rfl⟩) | (with_reducible refine (HU2.out _).mono ?_; rintro ex w3 ⟨rfl, q1, rfl⟩) | (with_reducible refine (HU3.out _).mono ?_; rintro ex w3 ⟨rfl, q1, rfl⟩))
      | (go_at_call 153; first | (with_reducible refine (K1.out _).mono ?_; rintro ex w3 ⟨rfl, rfl⟩) | (with_reducible refine (K2.out _).mono ?_; rintro ex w3 ⟨rfl, rfl⟩))
      | (go_at_call 154; refine (C1.out _).mono ?_; rintro ex w3 ⟨rfl, rfl⟩)
      | (go_at_call 155; refine (C2.out _).mono ?_; rintro ex w3 ⟨rfl, rfl⟩)
      | (go_at_call 156; refine (C3.out _).mono ?_; rintro ex w3 ⟨rfl, rfl⟩))
    go_ret2
    exact ⟨rfl, HB.out _⟩

end Go.Proofs.YtbcpfdeklglknaaGreatDoor

namespace Go.Proofs.YtbcpfdeklglknaaGreatDoor
open Go.RowKit

theorem skewed_any (x : Int) (w : World) (h1 : -100000 ≤ x) (h2 : x ≤ 100000) : Calls Tryz.prog 149 #[.int .i64 x] w fun e w' => e = .returned (.int .i64 ((x * 631305 - 261663) / 2097152)) ∧ w = w' := by
  go_enter Tryz.func149, Tryz.ntmps149
  go_wp2
  go_ret
  exact ⟨rfl, rfl⟩

set_option maxRecDepth 100000 in
set_option maxHeartbeats 2000000 in
theorem short_skew (m : Nat) (e p lp : Int) (k s H L U1 U2 U3 V1 V2 odd d : Nat) (r : Int) (w : World)
    (hm2 : m = 9223372036854775808) (he1 : -1085 < e) (he2 : e ≤ 2000)
    (hp : -(((e + 11) * 631305 - 261663) / 2097152) = p) (hlp : p * 108853 / 32768 = lp) (hk : p + 348 = k) (hk2 : k < 696) (hT : PowAt w k H L) (hs : -(e + lp + 3) = s) (hs2 : s < 64) (hH : H < 18446744073709551616) (hL : L < 18446744073709551616)
    (hodd : m / 2048 % 2 = odd) (h1 : uscaleN (m - 512) H L s = U1) (h2 : uscaleN (m + 1024) H L s = U2) (h3 : uscaleN m H L s = U3)
    (hU1 : U1 < 9223372036854775808) (hU2 : U2 < 9223372036854775808) (hU2' : 1 ≤ U2) (hU3 : U3 < 9223372036854775808)
    (hV1 : (U1 + odd + 3) / 4 = V1) (hV2 : (U2 - odd) / 4 = V2)
    (hd : (V1 ≤ V2 / 10 * 10 ∧ d = V2 / 10 ∧ r = -(p - 1)) ∨ (V2 / 10 * 10 < V1 ∧ V1 < V2 ∧ d = (U3 + 1 + U3 / 4 % 2) / 4 ∧ r = -p) ∨ (V2 / 10 * 10 < V1 ∧ V2 ≤ V1 ∧ d = V1 ∧ r = -p)) :
    Calls Tryz.prog 134 #[.int .u64 m, .int .i64 e] w fun ex w' => ex = .returned (.tuple #[.int .u64 d, .int .i64 r]) ∧ Below w.heap.size w w' := by
  have hw := (Below.refl w.heap.size w).alloc (Nat.le_refl _) (.cells #[.int .u64 0, .int .u64 0, .int .i64 0] 189)
  have hne : ((m : Int) == 9223372036854775808) = true := by simp; omega
  have g1 : (m : Int) / 2048 = ((m / 2048 : Nat) : Int) := by rw [Int.natCast_ediv]; rfl
  have g2 := maskI 1 (by omega) (m / 2048) (by omega)
  rw [show ((2 : Int) ^ 1 - 1) = 1 from rfl, Nat.pow_one, hodd] at g2
  have g3 : m / 2048 < 9007199254740992 := by omega
  generalize m / 2048 = mq at *
  have hee : decide (-1085 < e) = true := decide_eq_true he1
  have hmb : m ≤ 9223372036854775808 := by omega
  have hmc : 9223372036854775808 ≤ m := by omega
  clear hm2
  have HD := Lib.hid hd
  have HT := Lib.hid hT
  have HS := Lib.hid hs
  have HK := Lib.hid hk
  have H1 := Lib.hid h1
  have H2 := Lib.hid h2
  have H3 := Lib.hid h3
  have HV1 := Lib.hid hV1
  have HV2 := Lib.hid hV2
  have hpb : -1000 ≤ p ∧ p ≤ 1000 := by omega
  obtain ⟨hpb1, hpb2⟩ := hpb
  have hlb : -100000 ≤ lp ∧ lp ≤ 100000 := by omega
  obtain ⟨hlb1, hlb2⟩ := hlb
  have HODD := Lib.hid hodd
  have hob : odd ≤ 1 := by omega
  clear hd hT hs hk h1 h2 h3 hV1 hV2 hodd
  go_enter Tryz.func134, Tryz.ntmps134
  go_wp2_with (first
    | (go_at_call 149; refine (skewed_any _ _ (by omega) (by omega)).mono ?_; rintro ex w1 ⟨rfl, rfl⟩)
    | (go_at_call 151; refine (log2_any _ _ (by omega) (by omega)).mono ?_; rintro ex w1 ⟨rfl, rfl⟩))
  have hk0 := heap_alloc_new w (.cells #[.int .u64 0, .int .u64 0, .int .i64 0] 189)
  refine (prescale_any w.heap.size e p lp k H L _ HK.out hk2 (HT.out.below hw) (by omega) (by omega) (by omega) (by omega) ⟨_, cell_of_block hk0 rfl⟩ ⟨_, cell_of_block hk0 rfl⟩ ⟨_, cell_of_block hk0 rfl⟩ (fun j => frozen_of_block hk0)).mono ?_
  rintro ex w1 ⟨rfl, hw1⟩
  have hw2 : w1 = w.alloc (.cells #[.int .u64 H, .int .u64 L, .int .i64 s] 189) := by
    rw [hw1, HS.out, World.setCell_alloc_at _ _ _ _ _ rfl, World.setCell_alloc_at _ _ _ _ _ rfl, World.setCell_alloc_at _ _ _ _ _ rfl]
    rfl
  subst hw2
  have hk := heap_alloc_new w (.cells #[.int .u64 H, .int .u64 L, .int .i64 s] 189)
  have hB := (Below.refl w.heap.size w).alloc (Nat.le_refl _) (.cells #[.int .u64 H, .int .u64 L, .int .i64 s] 189)
  generalize w.alloc (.cells #[.int .u64 H, .int .u64 L, .int .i64 s] 189) = w2 at *
  have HU1 := Lib.hid (uscale_at (m - 512) ((m : Int) - 512) H L s w.heap.size U1 w2 (by omega) (by omega) hH hL hs2 H1.out hk)
  have HU2 := Lib.hid (fun q => uscale_at (m + 1024) ((m : Int) + 1024) H L s w.heap.size U2 (w2.drewN q) (by omega) (by omega) hH hL hs2 H2.out hk)
  have HU3 := Lib.hid (fun q => uscale_at m (m : Int) H L s w.heap.size U3 (w2.drewN q) rfl (by omega) hH hL hs2 H3.out hk)
  have HB := Lib.hid (fun q => (show Below w.heap.size w (w2.drewN q) from hB.trans ⟨rfl, rfl, rfl, Nat.le_refl _, fun _ _ => rfl⟩))
  obtain ⟨N1, hN1⟩ : ∃ N1, U1 + odd = N1 := ⟨_, rfl⟩
  obtain ⟨N2, hN2⟩ : ∃ N2, U2 - odd = N2 := ⟨_, rfl⟩
  have hV1 := HV1.out
  have hV2 := HV2.out
  rw [hN1] at hV1
  rw [hN2] at hV2
  have hn1 : N1 < 18446744073709551613 := by omega
  have hn2 : N2 < 18446744073709551616 := by omega
  have K1 := Lib.hid (fun W => nudge_any U1 odd N1 W (by omega) (by omega))
  have K2 := Lib.hid (fun W => nudge_any U2 (-(odd : Int)) N2 W (by omega) (by omega))
  have C1 := Lib.hid (fun W => ceil_any N1 W hn1)
  have C2 := Lib.hid (fun W => floor_any N2 W hn2)
  have C3 := Lib.hid (fun W => round_any U3 W (by omega))
  rw [hV1] at C1
  rw [hV2] at C2
  have hv1 : V1 < 9223372036854775808 := by omega
  have hv2 : V2 < 9223372036854775808 := by omega
  obtain ⟨D, hD⟩ : ∃ D, V2 / 10 = D := ⟨_, rfl⟩
  obtain ⟨R3, hR3⟩ : ∃ R3, (U3 + 1 + U3 / 4 % 2) / 4 = R3 := ⟨_, rfl⟩
  rw [hR3] at C3
  have hd := HD.out
  rw [hD, hR3] at hd
  have hD2 : (V2 : Int) / 10 = (D : Int) := by rw [← hD, Int.natCast_ediv]; rfl
  have hdb : D ≤ 922337203685477580 := by omega
  clear hk hw hw1 hB H1 H2 H3 HV1 HV2 HD hV1 hV2 hN1 hN2 hD hR3 hmb hmc hH hL hU1 hU2 hU2' hU3 hn1 hn2 g1 g2 g3 hne hee hk0 hp hlp
  rcases hd with ⟨t1, rfl, rfl⟩ | ⟨t1, t2, rfl, rfl⟩ | ⟨t1, t2, rfl, rfl⟩
  · have u1 := decide_eq_true t1
    have u2 : decide ((V1 : Int) ≤ (d : Int) * 10) = true := decide_eq_true (by omega)
    have u3 : (V1 : Int) ≤ (d : Int) * 10 := by omega
    go_wp2_with (first
      | (go_at_call 152; first | (with_reducible refine HU1.out.mono ?_; rintro ex w3 ⟨rfl, q1, rfl⟩) | (with_reducible refine (HU2.out _).mono ?_; rintro ex w3 ⟨rfl, q1, rfl⟩) | (with_reducible refine (HU3.out _).mono ?_; rintro ex w3 ⟨rfl, q1, rfl⟩))
      | (go_at_call 153; first | (with_reducible refine (K1.out _).mono ?_; rintro ex w3 ⟨rfl, rfl⟩) | (with_reducible refine (K2.out _).mono ?_; rintro ex w3 ⟨rfl, rfl⟩))
      | (go_at_call 154; refine (C1.out _).mono ?_; rintro ex w3 ⟨rfl, rfl⟩)
      | (go_at_call 155; refine (C2.out _).mono ?_; rintro ex w3 ⟨rfl, rfl⟩)
      | (go_at_call 156; refine (C3.out _).mono ?_; rintro ex w3 ⟨rfl, rfl⟩))
    go_ret2
    exact ⟨rfl, HB.out _⟩
  · have t1' : ¬ V1 ≤ D * 10 := by omega
    have u1 := decide_eq_false t1'
    have u2 : decide ((V1 : Int) ≤ (D : Int) * 10) = false := decide_eq_false (by omega)
    have u3 : ¬ (V1 : Int) ≤ (D : Int) * 10 := by omega
    have v1 := decide_eq_true t2
    have v2 : decide ((V1 : Int) < V2) = true := decide_eq_true (by omega)
    have v3 : (V1 : Int) < V2 := by omega
    go_wp2_with (first
      | (go_at_call 152; first | (with_reducible refine HU1.out.mono ?_; rintro ex w3 ⟨rfl, q1, rfl⟩) | (with_reducible refine (HU2.out _).mono ?_; rintro ex w3 ⟨rfl, q1, rfl⟩) | (with_reducible refine (HU3.out _).mono ?_; rintro ex w3 ⟨rfl, q1, rfl⟩))
      | (go_at_call 153; first | (with_reducible refine (K1.out _).mono ?_; rintro ex w3 ⟨rfl, rfl⟩) | (with_reducible refine (K2.out _).mono ?_; rintro ex w3 ⟨rfl, rfl⟩))
      | (go_at_call 154; refine (C1.out _).mono ?_; rintro ex w3 ⟨rfl, rfl⟩)
      | (go_at_call 155; refine (C2.out _).mono ?_; rintro ex w3 ⟨rfl, rfl⟩)
      | (go_at_call 156; refine (C3.out _).mono ?_; rintro ex w3 ⟨rfl, rfl⟩))
    go_ret2
    exact ⟨rfl, HB.out _⟩
  · have t1' : ¬ d ≤ D * 10 := by omega
    have u1 := decide_eq_false t1'
    have u2 : decide ((d : Int) ≤ (D : Int) * 10) = false := decide_eq_false (by omega)
    have u3 : ¬ (d : Int) ≤ (D : Int) * 10 := by omega
    have t2' : ¬ d < V2 := by omega
    have v1 := decide_eq_false t2'
    have v2 : decide ((d : Int) < V2) = false := decide_eq_false (by omega)
    have v3 : ¬ (d : Int) < V2 := by omega
    go_wp2_with (first
      | (go_at_call 152; first | (with_reducible refine HU1.out.mono ?_; rintro ex w3 ⟨rfl, q1, rfl⟩) | (with_reducible refine (HU2.out _).mono ?_; rintro ex w3 ⟨rfl, q1, rfl⟩) | (with_reducible refine (HU3.out _).mono ?_; rintro ex w3 ⟨rfl, q1, rfl⟩))
      | (go_at_call 153; first | (with_reducible refine (K1.out _).mono ?_; rintro ex w3 ⟨rfl, rfl⟩) | (with_reducible refine (K2.out _).mono ?_; rintro ex w3 ⟨rfl, rfl⟩))
      | (go_at_call 154; refine (C1.out _).mono ?_; rintro ex w3 ⟨rfl, rfl⟩)
      | (go_at_call 155; refine (C2.out _).mono ?_; rintro ex w3 ⟨rfl, rfl⟩)
      | (go_at_call 156; refine (C3.out _).mono ?_; rintro ex w3 ⟨rfl, rfl⟩))
    go_ret2
    exact ⟨rfl, HB.out _⟩

end Go.Proofs.YtbcpfdeklglknaaGreatDoor
