/- floats.Shortest of 0.1 and of 0.5, whole. -/
import Derived.Test.YtekcpapkicmckaaGreatDoorSho
namespace Go.Proofs.YtekcpapkicmckaaGreatDoor
open Go.RowKit

theorem nd_at (c : Nat) (w : World) (h1 : 1 ≤ c) (h2 : c ≤ 9) (hT : TabsS w) : ∀ W, Below w.heap.size w W → Calls Tryz.prog 146 #[.int .u64 (c * 1000000000000000 : Nat)] W fun ex W' => ex = .returned (.int .i64 16) ∧ W = W' := by
  intro W hW
  refine (Tryz.internal_strconv_numDigits (c * 1000000000000000) (by omega) (by omega) W (hT.below hW).ten).mono ?_
  rintro ex W' ⟨rfl, rfl⟩
  rw [nDigits_tab c h1 h2]
  exact ⟨rfl, rfl⟩

theorem short_half (w : World) (hT : TabsS w) : ∀ W, Below w.heap.size w W → Calls Tryz.prog 208 #[.int .u64 ((0 + 4503599627370496) * 2048 : Nat), .int .i64 (((1022 : Nat) : Int) - 1086)] W fun ex W' => ex = .returned (.tuple #[.int .u64 (5 * 1000000000000000 : Nat), .int .i64 (-16)]) ∧ Below W.heap.size W W' := by
  intro W hW
  have h := short_skew 9223372036854775808 (-64) 17 56 365 5 12800000000000000000 0 199999999999999989 200000000000000023 200000000000000000 49999999999999998 50000000000000005 0 5000000000000000 (-16) W
    rfl (by omega) (by omega) (by decide) (by decide) (by decide) (by omega) (hT.below hW).pow (by decide) (by omega) (by omega) (by omega)
    (by decide) (by kernel_rfl) (by kernel_rfl) (by kernel_rfl) (by omega) (by omega) (by omega) (by omega) (by decide) (by decide) (.inl ⟨by decide, by decide, by decide⟩)
  exact h

theorem Shortest_half (w : World) (hT : TabsS w) : Calls Tryz.prog 57 #[.float .f64 4602678819172646912] w fun e w' => e = .returned (.string ⟨#[48, 46, 53]⟩) ∧ Below w.heap.size w w' := by
  have H := Lib.hid (shortest_one 4602678819172646912 53 w (.inr rfl) (.inr rfl) hT (FormatFloat_one 4602678819172646912 1022 0 5 53 (by decide) w (by omega) (by decide) (by omega) (by omega) (by decide) (by omega) (by omega) (short_half w hT) (nd_at 5 w (by omega) (by omega) hT)))
  clear hT
  go_enter Tryz.func57, Tryz.ntmps57
  go_wp2_with (first | (go_at_call 82; refine H.out.mono ?_; rintro e w1 ⟨rfl, hb1⟩))
  go_ret
  exact ⟨rfl, hb1⟩

end Go.Proofs.YtekcpapkicmckaaGreatDoor
