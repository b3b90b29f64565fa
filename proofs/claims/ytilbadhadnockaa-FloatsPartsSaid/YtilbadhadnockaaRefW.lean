/- The reference's numbers (thicketref02): from, Of. -/
import Derived.Test.YtilbadhadnockaaWide
import Derived.Test.YtilbadhadnockaaFlo
namespace Go.Proofs.Ytilbadhadnockaa
open Go.RowKit

set_option maxHeartbeats 400000 in
theorem rfrom_any (x : Nat) (w : World) (hx : x < 18446744073709551616) :
    Calls Try.prog 16 #[.int .u64 x] w fun e w' => ∃ A c, e = .returned (.slice A (limbs x).length c) ∧ Num w' A (limbs x).length c (limbs x) ∧ Below w.heap.size w w' := by
  obtain ⟨hlim, hval⟩ := limbs_two x hx
  have hown := own_block w w.heap.size _ hlim (Nat.le_refl _) (by simp)
  have hcs : (u32s [x % 4294967296, x / 4294967296]).toArray = #[.int .u32 ((x : Int) % 4294967296), .int .u32 ((x : Int) / 4294967296)] := by simp [u32s]
  rw [hcs] at hown
  have hN := rnorm_any _ _ _ _ _ hown.num
  have h1 := hown.top
  rw [hval] at h1 hN
  have HN := Lib.hid hN
  clear hcs hval hN
  go_enter Try.func16, Try.ntmps16
  go_wp2_with (first | (go_at_call 22; refine HN.out.mono ?_; rintro e w' ⟨rfl, rfl⟩))
  go_ret
  exact ⟨_, _, rfl, h1, (Below.refl _ _).alloc (Nat.le_refl _) _⟩

/-- what Of answers: infinite, no number, mantissa, exponent -/
def ofOf (b : Nat) : Bool × Bool × Nat × Int :=
  if fexp b = 2047 then (decide (fman b = 0), decide (fman b ≠ 0), fman b, 0)
  else if fexp b = 0 then (false, false, fman b, -1074)
  else (false, false, fman b + 4503599627370496, (fexp b : Int) - 1075)

set_option maxHeartbeats 1000000 in
theorem Of_any (b : Nat) (w : World) (hb : b < 18446744073709551616) :
    Calls Try.prog 5 #[.int .u64 b, .agg #[.int .i64 53, .int .i64 (-1074), .int .i64 971]] w fun e w' =>
      e = .returned (.agg #[.bool (fneg b), .bool (ofOf b).1, .bool (ofOf b).2.1, .int .u64 (ofOf b).2.2.1, .int .i64 (ofOf b).2.2.2]) ∧ Below w.heap.size w w' := by
  have hB : ∀ o, Below w.heap.size w (w.alloc o) := fun o => (Below.refl _ _).alloc (Nat.le_refl _) o
  have e1 : (Go.bits .and .u64 ((b : Int) / 9223372036854775808) 1 == 1) = fneg b := by
    have h := mask64 1 (by omega) (b / 9223372036854775808) (by omega)
    rw [show ((2 : Int) ^ 1 - 1) = 1 from rfl] at h
    rw [show ((b : Int) / 9223372036854775808) = ((b / 9223372036854775808 : Nat) : Int) by rw [Int.natCast_ediv]; rfl, h]
    unfold fneg
    by_cases h : 9223372036854775808 ≤ b
    · have : b / 9223372036854775808 % 2 ^ 1 = 1 := by omega
      simp [this, h]
    · have : b / 9223372036854775808 % 2 ^ 1 = 0 := by omega
      simp [this]; omega
  have e2 : Go.bits .and .u64 ((b : Int) / 4503599627370496) 2047 = ((fexp b : Nat) : Int) := by
    have h := mask64 11 (by omega) (b / 4503599627370496) (by omega)
    rw [show ((2 : Int) ^ 11 - 1) = 2047 from rfl, show (2 : Nat) ^ 11 = 2048 from rfl] at h
    unfold fexp; rw [← h, Int.natCast_ediv]; rfl
  have e3 : Go.bits .and .u64 (b : Int) 4503599627370495 = ((fman b : Nat) : Int) := by
    have h := mask64 52 (by omega) b hb
    rw [show ((2 : Int) ^ 52 - 1) = 4503599627370495 from rfl, show (2 : Nat) ^ 52 = 4503599627370496 from rfl] at h
    exact h
  have e4 : Go.bits .or .u64 ((fman b : Nat) : Int) 4503599627370496 = ((fman b + 4503599627370496 : Nat) : Int) := by
    have h := or_join64 52 1 (fman b) (by have := fman_lt b; rw [show (2 : Nat) ^ 52 = 4503599627370496 from rfl]; exact this) (by have := fman_lt b; rw [show (2 : Nat) ^ 52 = 4503599627370496 from rfl]; omega)
    rw [show (1 * 2 ^ 52 : Nat) = 4503599627370496 from rfl] at h
    rw [show Go.bits .or .u64 ((fman b : Nat) : Int) 4503599627370496 = Go.bits .or .u64 4503599627370496 ((fman b : Nat) : Int) by simp only [Go.bits, BitVec.or_comm], Nat.add_comm]
    exact h
  have hE := fexp_lt b
  have hM := fman_lt b
  have HP : Hid (ofOf b = if fexp b = 2047 then (decide (fman b = 0), decide (fman b ≠ 0), fman b, 0) else if fexp b = 0 then (false, false, fman b, -1074) else (false, false, fman b + 4503599627370496, (fexp b : Int) - 1075)) := Lib.hid rfl
  generalize ofOf b = pb at HP ⊢
  generalize fexp b = E at e2 hE HP
  generalize fman b = M at e3 e4 hM HP
  generalize fneg b = N at e1 ⊢
  by_cases h1 : E = 2047
  · subst h1
    by_cases h2 : M = 0
    · subst h2
      have HQ := Lib.hid (show pb = (true, false, 0, 0) by rw [HP.out]; rfl)
      clear HP hb
      go_enter Try.func5, Try.ntmps5
      go_wp2
      refine bodyPost_ret (v := .agg #[.bool N, .bool true, .bool false, .int .u64 0, .int .i64 0]) (by simp [results, Try.results5, go_sem]) rfl ⟨by first | (rw [HQ.out]; rfl) | rw [HQ.out], ((hB _).alloc (by simp) _).alloc (by simp; omega) _⟩
    · have hm0 : ((M : Int) == 0) = false := by simpa using h2
      have HQ := Lib.hid (show pb = (false, true, M, 0) by rw [HP.out]; rw [if_pos rfl, decide_eq_false h2, decide_eq_true h2])
      clear HP hb
      go_enter Try.func5, Try.ntmps5
      go_wp2
      refine bodyPost_ret (v := .agg #[.bool N, .bool false, .bool true, .int .u64 (M : Int), .int .i64 0]) (by simp [h2, results, Try.results5, go_sem]) rfl ⟨by first | (rw [HQ.out]; rfl) | rw [HQ.out], ((hB _).alloc (by simp) _).alloc (by simp; omega) _⟩
  · have he7 : ((E : Int) == 2047) = false := by simp; omega
    by_cases h3 : E = 0
    · subst h3
      have HQ := Lib.hid (show pb = (false, false, M, -1074) by rw [HP.out]; rw [if_neg h1, if_pos rfl])
      clear HP hb
      go_enter Try.func5, Try.ntmps5
      go_wp2
      refine bodyPost_ret (v := .agg #[.bool N, .bool false, .bool false, .int .u64 (M : Int), .int .i64 (-1074)]) (by simp [results, Try.results5, go_sem]) rfl ⟨by first | (rw [HQ.out]; rfl) | rw [HQ.out], ((hB _).alloc (by simp) _).alloc (by simp; omega) _⟩
    · have he0 : ((E : Int) == 0) = false := by simpa using h3
      have HQ := Lib.hid (show pb = (false, false, M + 4503599627370496, (E : Int) - 1075) by rw [HP.out]; rw [if_neg h1, if_neg h3])
      clear HP hb
      go_enter Try.func5, Try.ntmps5
      go_wp2
      refine bodyPost_ret (v := .agg #[.bool N, .bool false, .bool false, .int .u64 ((M + 4503599627370496 : Nat) : Int), .int .i64 ((E : Int) - 1075)]) (by simp [results, Try.results5, go_sem]; omega) rfl ⟨by first | (rw [HQ.out]; rfl) | rw [HQ.out], ((hB _).alloc (by simp) _).alloc (by simp; omega) _⟩

end Go.Proofs.Ytilbadhadnockaa
