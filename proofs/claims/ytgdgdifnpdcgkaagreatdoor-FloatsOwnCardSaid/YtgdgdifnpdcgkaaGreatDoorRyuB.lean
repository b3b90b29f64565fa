/- Go's float printing: uscale, prescale. -/
import Derived.Test.YtgdgdifnpdcgkaaGreatDoorRyuA
import Derived.Deep.QuietTactic
import Derived.Laws.BitsAllLaws
namespace Go.Proofs.YtgdgdifnpdcgkaaGreatDoor
open Go.RowKit

theorem shrU (n : Nat) (s : Nat) : (n : Int) / 2 ^ s = ((n / 2 ^ s : Nat) : Int) := by rw [Int.natCast_ediv, Int.natCast_pow]; rfl
theorem and63 : ∀ s : Fin 64, Go.bits .and .i64 ((s.val : Nat) : Int) 63 = ((s.val : Nat) : Int) := by decide

theorem ret_eq' {u v : Value} (h : u = v) : Ending.returned u = .returned v := by rw [h]
theorem bool2_quiet (b : Bool) (w : World) (q : Nat) : Calls Tryz.prog 183 #[.bool b] (w.drewN q) fun e w' => e = .returned (.int .u64 (if b then 1 else 0)) ∧ w' = w.drewN q :=
  (bool2_u64 b _).mono fun _ _ ⟨h1, h2⟩ => ⟨h1, h2.symm⟩

/-- the same, of the products' halves -/
def uscaleR (hi mid m2 s : Nat) : Nat :=
  if hi / 2 ^ s * 2 ^ s ≠ hi then (hi / 2 ^ s) ||| 1
  else ((hi + 18446744073709551616 - (if mid < m2 then 1 else 0)) % 18446744073709551616 / 2 ^ s) ||| (if 1 < (mid + 18446744073709551616 - m2) % 18446744073709551616 then 1 else 0)
theorem uscaleR_one {hi mid m2 s q : Nat} (hq : hi / 2 ^ s = q) (h : q * 2 ^ s ≠ hi) : uscaleR hi mid m2 s = q ||| 1 := by
  unfold uscaleR; rw [hq, if_pos h]
theorem uscaleR_two {hi mid m2 s h1 q2 dd : Nat} {k d : Bool} (h : hi / 2 ^ s * 2 ^ s = hi) (hk : decide (mid < m2) = k) (h1e : (hi + 18446744073709551616 - (if k then 1 else 0)) % 18446744073709551616 = h1)
    (hq2 : h1 / 2 ^ s = q2) (hdd : (mid + 18446744073709551616 - m2) % 18446744073709551616 = dd) (hd : decide (1 < dd) = d) : uscaleR hi mid m2 s = q2 ||| (if d then 1 else 0) := by
  unfold uscaleR
  rw [if_neg (by simp [h]), hdd]
  subst hk hd
  simp only [decide_eq_true_eq] at h1e ⊢
  rw [h1e, hq2]

section
variable (x H L s g hi mid m2 lo2 : Nat) (w : World)
    (M1 : Hid (∀ W : World, Calls Tryz.prog 84 #[.int .u64 x, .int .u64 H] W fun e w' => e = .returned (.tuple #[.int .u64 hi, .int .u64 mid]) ∧ W = w'))
    (M2 : Hid (∀ W : World, Calls Tryz.prog 84 #[.int .u64 x, .int .u64 L] W fun e w' => e = .returned (.tuple #[.int .u64 m2, .int .u64 lo2]) ∧ W = w'))
    (c0 : w.cell? ⟨g, 0, none⟩ = some (.int .u64 H)) (c1 : w.cell? ⟨g, 1, none⟩ = some (.int .u64 L)) (c2 : w.cell? ⟨g, 2, none⟩ = some (.int .i64 s))
include M1 M2 c0 c1 c2

omit M2 c1 in
set_option maxRecDepth 100000 in
set_option maxHeartbeats 1000000 in
theorem uscale_one (hs : s < 64) (ha : Go.bits .and .i64 (s : Int) 63 = (s : Int)) (q qq r : Nat) (b1 : hi < 18446744073709551616) (hqm : qq ≤ hi) (d1 : (hi : Int) / 2 ^ s = (q : Int)) (d2 : (q : Int) * 2 ^ s = (qq : Int)) (hb : ((qq : Int) != (hi : Int)) = true)
    (o1 : Go.bits .or .u64 (q : Int) 1 = (r : Int)) :
    Calls Tryz.prog 167 #[.int .u64 x, .pointer (some ⟨g, 0, none⟩)] w fun e w' => e = .returned (.int .u64 r) ∧ ∃ q, w' = w.drewN q := by
  go_enter Tryz.func167, Tryz.ntmps167
  go_wp2_with (first | (go_at_call 84; with_reducible refine (M1.out _).mono ?_; rintro ex w' ⟨rfl, rfl⟩))
  go_ret
  exact ⟨rfl, 0, rfl⟩

set_option maxRecDepth 100000 in
set_option maxHeartbeats 1000000 in
theorem uscale_two (hs : s < 64) (ha : Go.bits .and .i64 (s : Int) 63 = (s : Int)) (k d : Bool) (q h1 q2 dd r : Nat) (b1 : hi < 18446744073709551616) (d1 : (hi : Int) / 2 ^ s = (q : Int)) (d2 : (q : Int) * 2 ^ s = (hi : Int))
    (hk1 : decide (mid < m2) = k) (hk2 : decide ((mid : Int) < m2) = k) (w4 : IntKind.u64.wrap ((hi : Int) - (if k then 1 else 0)) = (h1 : Int)) (w5 : k = false → h1 = hi) (d3 : (h1 : Int) / 2 ^ s = (q2 : Int)) (w3 : IntKind.u64.wrap ((mid : Int) - m2) = (dd : Int))
    (hd1 : decide (1 < dd) = d) (hd2 : decide ((1 : Int) < dd) = d) (hq2b : q2 ≤ h1) (o2 : Go.bits .or .u64 (q2 : Int) (if d then 1 else 0) = (r : Int)) :
    Calls Tryz.prog 167 #[.int .u64 x, .pointer (some ⟨g, 0, none⟩)] w fun e w' => e = .returned (.int .u64 r) ∧ ∃ q, w' = w.drewN q := by
  have HB := Lib.hid (fun (b : Bool) (W : World) => bool2_u64 b W)
  have HB2 := Lib.hid (fun (b : Bool) (W : World) q => bool2_quiet b W q)
  cases k
  · have e := w5 rfl
    subst e
    obtain rfl : q = q2 := by omega
    clear w5
    cases d
    · simp only [Bool.false_eq_true, if_false] at w4 o2
      have hd : ¬ 1 < dd := by simpa using hd1
      have hk : ¬ mid < m2 := by simpa using hk1
      go_enter Tryz.func167, Tryz.ntmps167
      go_wp2_with (first
        | (go_at_call 84; first | (with_reducible refine (M1.out _).mono ?_; rintro ex w' ⟨rfl, rfl⟩) | (with_reducible refine (M2.out _).mono ?_; rintro ex w' ⟨rfl, rfl⟩))
        | (go_at_call 183; refine (HB.out false _).mono ?_; rintro ex w' ⟨rfl, rfl⟩))
      go_quiet (first | (go_at_call 183; with_reducible refine Calls.quiet_of_same (HB2.out _ _ _)))
      go_wp2
      go_ret
      exact ⟨rfl, _, rfl⟩
    · simp only [if_true, Bool.false_eq_true, if_false] at w4 o2
      have hd : 1 < dd := by simpa using hd1
      have hk : ¬ mid < m2 := by simpa using hk1
      go_enter Tryz.func167, Tryz.ntmps167
      go_wp2_with (first
        | (go_at_call 84; first | (with_reducible refine (M1.out _).mono ?_; rintro ex w' ⟨rfl, rfl⟩) | (with_reducible refine (M2.out _).mono ?_; rintro ex w' ⟨rfl, rfl⟩))
        | (go_at_call 183; refine (HB.out false _).mono ?_; rintro ex w' ⟨rfl, rfl⟩))
      go_quiet (first | (go_at_call 183; with_reducible refine Calls.quiet_of_same (HB2.out _ _ _)))
      go_wp2
      go_ret
      exact ⟨rfl, _, rfl⟩
  · clear w5
    cases d
    · simp only [if_true, Bool.false_eq_true, if_false] at w4 o2
      have hd : ¬ 1 < dd := by simpa using hd1
      have hk : mid < m2 := by simpa using hk1
      go_enter Tryz.func167, Tryz.ntmps167
      go_wp2_with (first
        | (go_at_call 84; first | (with_reducible refine (M1.out _).mono ?_; rintro ex w' ⟨rfl, rfl⟩) | (with_reducible refine (M2.out _).mono ?_; rintro ex w' ⟨rfl, rfl⟩))
        | (go_at_call 183; refine (HB.out true _).mono ?_; rintro ex w' ⟨rfl, rfl⟩))
      go_quiet (first | (go_at_call 183; with_reducible refine Calls.quiet_of_same (HB2.out _ _ _)))
      go_wp2
      go_ret
      exact ⟨rfl, _, rfl⟩
    · simp only [if_true] at w4 o2
      have hd : 1 < dd := by simpa using hd1
      have hk : mid < m2 := by simpa using hk1
      go_enter Tryz.func167, Tryz.ntmps167
      go_wp2_with (first
        | (go_at_call 84; first | (with_reducible refine (M1.out _).mono ?_; rintro ex w' ⟨rfl, rfl⟩) | (with_reducible refine (M2.out _).mono ?_; rintro ex w' ⟨rfl, rfl⟩))
        | (go_at_call 183; refine (HB.out true _).mono ?_; rintro ex w' ⟨rfl, rfl⟩))
      go_quiet (first | (go_at_call 183; with_reducible refine Calls.quiet_of_same (HB2.out _ _ _)))
      go_wp2
      go_ret
      exact ⟨rfl, _, rfl⟩
end

theorem uscale_any (x H L s g : Nat) (w : World) (hx : x < 18446744073709551616) (hH : H < 18446744073709551616) (hL : L < 18446744073709551616) (hs : s < 64)
    (c0 : w.cell? ⟨g, 0, none⟩ = some (.int .u64 H)) (c1 : w.cell? ⟨g, 1, none⟩ = some (.int .u64 L)) (c2 : w.cell? ⟨g, 2, none⟩ = some (.int .i64 s)) :
    Calls Tryz.prog 167 #[.int .u64 x, .pointer (some ⟨g, 0, none⟩)] w fun e w' => e = .returned (.int .u64 (uscaleR (x * H / 18446744073709551616) (x * H % 18446744073709551616) (x * L / 18446744073709551616) s)) ∧ ∃ q, w' = w.drewN q := by
  have M1 := Lib.hid (fun W => Mul64_any x H W hx hH)
  have M2 := Lib.hid (fun W => Mul64_any x L W hx hL)
  have b1 : x * H / 18446744073709551616 < 18446744073709551616 := Nat.div_lt_of_lt_mul (Nat.mul_lt_mul'' hx hH)
  have b2 : x * H % 18446744073709551616 < 18446744073709551616 := Nat.mod_lt _ (by omega)
  have b3 : x * L / 18446744073709551616 < 18446744073709551616 := Nat.div_lt_of_lt_mul (Nat.mul_lt_mul'' hx hL)
  generalize x * H / 18446744073709551616 = hi at *
  generalize x * H % 18446744073709551616 = mid at *
  generalize x * L / 18446744073709551616 = m2 at *
  generalize x * L % 18446744073709551616 = lo2 at *
  have ha := and63 ⟨s, hs⟩
  simp only at ha
  obtain ⟨q, hq⟩ : ∃ q, hi / 2 ^ s = q := ⟨_, rfl⟩
  have hqh : q ≤ hi := by rw [← hq]; exact Nat.div_le_self _ _
  have hqm : q * 2 ^ s ≤ hi := by rw [← hq]; exact Nat.div_mul_le_self _ _
  have d1 := shrU hi s
  rw [hq] at d1
  have d2 : (q : Int) * 2 ^ s = ((q * 2 ^ s : Nat) : Int) := by rw [Int.natCast_mul, Int.natCast_pow]; rfl
  by_cases hne : q * 2 ^ s = hi
  · have w3 : IntKind.u64.wrap ((mid : Int) - m2) = (((mid + 18446744073709551616 - m2) % 18446744073709551616 : Nat) : Int) := by rw [wrapU_mod]; omega
    obtain ⟨dd, hdd⟩ : ∃ dd, (mid + 18446744073709551616 - m2) % 18446744073709551616 = dd := ⟨_, rfl⟩
    rw [hdd] at w3
    obtain ⟨k, hk1⟩ : ∃ k, decide (mid < m2) = k := ⟨_, rfl⟩
    obtain ⟨d, hd1⟩ : ∃ d, decide (1 < dd) = d := ⟨_, rfl⟩
    have hk2 : decide ((mid : Int) < m2) = k := by rw [← hk1]; simp
    have hd2 : decide ((1 : Int) < dd) = d := by rw [← hd1]; congr 1; simp; omega
    obtain ⟨h1, hh1⟩ : ∃ h1, (hi + 18446744073709551616 - (if k then 1 else 0)) % 18446744073709551616 = h1 := ⟨_, rfl⟩
    obtain ⟨c, hc⟩ : ∃ c : Nat, (if k then 1 else 0) = c := ⟨_, rfl⟩
    have hc2 : (if k then (1 : Int) else 0) = (c : Int) := by rw [← hc]; cases k <;> rfl
    have hc3 : c ≤ 1 := by rw [← hc]; cases k <;> decide
    have hc4 : k = false → c = 0 := fun e => by rw [← hc, e]; rfl
    have w4 : IntKind.u64.wrap ((hi : Int) - (if k then 1 else 0)) = (h1 : Int) := by
      rw [hc] at hh1
      rw [wrapU_mod, hc2, ← hh1]
      omega
    have w5 : k = false → h1 = hi := fun e => by
      rw [hc, hc4 e] at hh1
      omega
    have hh1b : h1 < 18446744073709551616 := by rw [← hh1]; exact Nat.mod_lt _ (by omega)
    obtain ⟨q2, hq2⟩ : ∃ q2, h1 / 2 ^ s = q2 := ⟨_, rfl⟩
    have d3 := shrU h1 s
    rw [hq2] at d3
    have hq2b : q2 ≤ h1 := by rw [← hq2]; exact Nat.div_le_self _ _
    rw [uscaleR_two (by rw [hq]; exact hne) hk1 hh1 hq2 hdd hd1]
    have o2 : Go.bits .or .u64 (q2 : Int) (if d then 1 else 0) = ((q2 ||| (if d then 1 else 0) : Nat) : Int) := by
      cases d
      · exact u64_or_nat q2 0 (by omega) (by omega)
      · exact u64_or_nat q2 1 (by omega) (by omega)
    exact uscale_two x H L s g hi mid m2 lo2 w M1 M2 c0 c1 c2 hs ha k d q h1 q2 dd _ b1 d1 (by rw [d2, hne]) hk1 hk2 w4 w5 d3 w3 hd1 hd2 hq2b o2
  · rw [uscaleR_one hq hne]
    exact uscale_one x H s g hi mid w M1 c0 c2 hs ha q _ _ b1 hqm d1 d2 (by simp; omega) (u64_or_nat q 1 (by omega) (by omega))

end Go.Proofs.YtgdgdifnpdcgkaaGreatDoor
