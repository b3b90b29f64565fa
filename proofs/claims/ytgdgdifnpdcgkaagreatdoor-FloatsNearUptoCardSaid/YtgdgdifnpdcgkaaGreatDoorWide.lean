/- Small contracts: thicketlaw02.same; the bits of a float. -/
import Derived.Test.YtgdgdifnpdcgkaaGreatDoorLimA
import Derived.BigQuiet
import Derived.Deep.LoopGhost
namespace Go.Proofs.YtgdgdifnpdcgkaaGreatDoor
open Go.RowKit

theorem Own.top {w : World} {base : Nat} {A : Option Addr} {n c : Nat} {xs : List Nat} (h : Own w base A n c xs) : Num w A (limbs (val xs)).length c (limbs (val xs)) := by
  have h1 := h.num.pre (limbs (val xs)).length c (by rw [← h.len]; exact limbs_length_val h.lim) (Nat.le_trans (by rw [← h.len]; exact limbs_length_val h.lim) h.mine.cap)
  rwa [← limbs_take h.lim] at h1

theorem Tryz.f64bits (b : Nat) (W : World) : (callFunc 15 #[.float .f64 b]).run Tryz.prog W = .ok (.value (.int .u64 (b : Int))) W := by kernel_rfl

theorem mask64 (i : Nat) (hi : i ≤ 64) (x : Nat) (hx : x < 18446744073709551616) : Go.bits .and .u64 (x : Int) ((2 : Int) ^ i - 1) = ((x % 2 ^ i : Nat) : Int) := by
  have h := bits_mask .u64 64 (by decide) (fun n h0 h1 => wrap_u64 h0 (by simpa using h1)) i hi (x : Int) (by omega) (by
    rw [show ((2 : Int) ^ 64) = 18446744073709551616 from rfl]; omega)
  rw [h, Int.natCast_emod, Int.natCast_pow]; rfl

theorem Tryz.f64from (b : Nat) (W : World) : (callFunc 7 #[.int .u64 (b : Int)]).run Tryz.prog W = .ok (.value (.float .f64 b)) W := by kernel_rfl

set_option maxHeartbeats 1000000 in
theorem same_any (A B : Option Addr) (n c m d : Nat) (xs ys : List Nat) (w : World) (hx : Num w A n c xs) (hy : Num w B m d ys) :
    Calls Tryz.prog 9 #[.slice A n c, .slice B m d] w fun e w' => e = .returned (.bool (decide (xs = ys))) ∧ ∃ q, w' = w.drewN q := by
  by_cases hnm : n = m
  · subst hnm
    have hnb := hx.sl.big
    have hLX := hx.lim
    have hLY := hy.lim
    have HX := Lib.hid hx.len
    have HY := Lib.hid hy.len
    go_enter Tryz.func9, Tryz.ntmps9
    go_wp2
    go_loopw [5] (fun ix wr => ∃ (k q : Nat), k ≤ n ∧ ix = .int .i64 k ∧ wr = w.drewN q ∧ Hid (∀ j, j < k → nth xs j = nth ys j)) (fun ix _ => n - (intOf ix).toNat)
    case atStart => exact ⟨0, 0, Nat.zero_le _, rfl, rfl, Lib.hid (fun j hj => absurd hj (Nat.not_lt_zero j))⟩
    case round =>
      obtain ⟨k, q, hk, rfl, rfl, HD⟩ := hrel
      by_cases h0 : k < n
      · obtain ⟨b1, o1, rfl, hc1⟩ := hx.cells (by omega)
        obtain ⟨b2, o2, rfl, hc2⟩ := hy.cells (by omega)
        have hcx := hc1 k h0
        have hcy := hc2 k h0
        clear hc1 hc2
        have hbx := nth_lt hLX k
        have hby := nth_lt hLY k
        have HK := Lib.hid h0
        by_cases hxy : nth xs k = nth ys k
        · have HE := Lib.hid hxy
          rw [hxy] at hcx
          clear hxy
          go_wp2
          go_quiet (fail)
          go_wp2
          go_roundw
          case rel =>
            refine ⟨k + 1, _, h0, by go_num, by first | rfl | (simp only [World.drewN_drewN]; rfl), Lib.hid (fun j hj => ?_)⟩
            by_cases hjk : j = k
            · rw [hjk]; exact HE.out
            · exact HD.out j (by omega)
          case measure => simp [intOf]; omega
        · have HE := Lib.hid hxy
          have hne : (((nth xs k : Nat) : Int) != ((nth ys k : Nat) : Int)) = true := by simp; omega
          clear hxy
          go_wp2
          go_quiet (fail)
          go_wp2
          go_ret
          have e : xs ≠ ys := fun h => HE.out (by rw [h])
          exact ⟨by rw [decide_eq_false e]; rfl, _, World.drewN_drewN ..⟩
      · obtain rfl : k = n := by omega
        go_wp2
        go_ret
        have e : xs = ys := ext_nth (by rw [HX.out, HY.out]) (fun j hj => HD.out j (by rw [HX.out] at hj; exact hj))
        exact ⟨by rw [decide_eq_true e]; rfl, q, rfl⟩
  · have hne : ((n : Int) != (m : Int)) = true := by simp; omega
    have e : xs ≠ ys := fun h => hnm (by rw [← hx.len, ← hy.len, h])
    rw [decide_eq_false e]
    have HN := Lib.hid hnm
    clear hnm
    go_enter Tryz.func9, Tryz.ntmps9
    go_wp2
    go_ret
    exact ⟨rfl, 0, rfl⟩

end Go.Proofs.YtgdgdifnpdcgkaaGreatDoor
