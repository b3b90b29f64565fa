/- The contract of thicketlaw19.sums. -/
import Derived.Test.YtekcpapkicmckaaGreatDoorRfc
namespace Go.Proofs.YtekcpapkicmckaaGreatDoor
open Go.RowKit

set_option maxRecDepth 100000 in
set_option maxHeartbeats 1000000 in
theorem sums_any (A B : Option Addr) (n c m d : Nat) (xs ys : List Int) (w : World) (hx : Ints w A n c xs) (hy : Ints w B m d ys) :
    Calls Tryz.prog 24 #[.slice A n c, .slice B m d] w fun e w' => e = .returned (.bool (decide (xs = ys))) ∧ ∃ q, w' = w.drewN q := by
  by_cases hnm : n = m
  · subst hnm
    have hnb := hx.sl.big
    have HX := Lib.hid hx.len
    have HY := Lib.hid hy.len
    have HC := Lib.hid (fun (h : 0 < n) => hx.cells h)
    have HD := Lib.hid (fun (h : 0 < n) => hy.cells h)
    clear hx hy
    go_enter Tryz.func24, Tryz.ntmps24
    go_wp2
    go_loopw [13] (fun ix wr => ∃ (k q : Nat), k ≤ n ∧ ix = .int .i64 k ∧ wr = w.drewN q ∧ Hid (∀ j, j < k → xs.getD j 0 = ys.getD j 0)) (fun ix _ => n - (intOf ix).toNat)
    case atStart => exact ⟨0, 0, Nat.zero_le _, rfl, rfl, Lib.hid (fun j hj => absurd hj (Nat.not_lt_zero j))⟩
    case round =>
      obtain ⟨k, q, hk, rfl, rfl, HE⟩ := hrel
      by_cases hlt : k < n
      · obtain ⟨b1, o1, rfl, h1⟩ := HC.out (by omega)
        obtain ⟨b2, o2, rfl, h2⟩ := HD.out (by omega)
        have e1 : w.cell? ⟨b1, o1 + k, none⟩ = some (.int .i64 (xs.getD k 0)) := h1 k hlt
        have e2 : w.cell? ⟨b2, o2 + k, none⟩ = some (.int .i64 (ys.getD k 0)) := h2 k hlt
        clear h1 h2
        obtain ⟨x, hxx⟩ : ∃ x, xs.getD k 0 = x := ⟨_, rfl⟩
        obtain ⟨y, hyy⟩ : ∃ y, ys.getD k 0 = y := ⟨_, rfl⟩
        rw [hxx] at e1
        rw [hyy] at e2
        have HXX := Lib.hid hxx
        have HYY := Lib.hid hyy
        clear hxx hyy
        by_cases hxy : x = y
        · subst hxy
          have HE2 : Hid (∀ j, j < k + 1 → xs.getD j 0 = ys.getD j 0) := Lib.hid (fun j hj => by
            by_cases h : j = k
            · rw [h, HXX.out, HYY.out]
            · exact HE.out j (by omega))
          go_wp2
          go_quiet (fail)
          go_wp2
          go_roundw
          case rel => exact ⟨k + 1, q + nq, hlt, by go_num, by first | rfl | exact World.drewN_drewN .., HE2⟩
          case measure => simp [intOf]; omega
        · have f1 : (x != y) = true := by simpa using hxy
          have f2 : decide (x = y) = false := by simpa using hxy
          have e : xs ≠ ys := fun h => hxy (by rw [← HXX.out, ← HYY.out, h])
          have HNE := Lib.hid e
          clear e hxy
          go_wp2
          go_quiet (fail)
          go_wp2
          go_ret
          exact ⟨by rw [decide_eq_false HNE.out]; rfl, _, World.drewN_drewN ..⟩
      · obtain rfl : k = n := by omega
        go_wp2
        go_ret
        have e : xs = ys := ext_getD (by rw [HX.out, HY.out]) (fun j hj => HE.out j (by rw [HX.out] at hj; exact hj))
        exact ⟨by rw [decide_eq_true e]; rfl, q, rfl⟩
  · have hne : ((n : Int) != (m : Int)) = true := by simp; omega
    have e : xs ≠ ys := fun h => hnm (by rw [← hx.len, ← hy.len, h])
    rw [decide_eq_false e]
    have HN := Lib.hid hnm
    clear hnm
    go_enter Tryz.func24, Tryz.ntmps24
    go_wp2
    go_ret
    exact ⟨rfl, 0, rfl⟩

end Go.Proofs.YtekcpapkicmckaaGreatDoor
