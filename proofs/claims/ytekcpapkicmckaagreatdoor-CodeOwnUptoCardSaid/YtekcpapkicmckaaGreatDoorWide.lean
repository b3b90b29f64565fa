/- Small contracts: thicketlaw02.same; the bits of a float. -/
import Derived.Test.YtekcpapkicmckaaGreatDoorLimA
import Derived.BigQuiet
import Derived.Deep.LoopGhost
namespace Go.Proofs.YtekcpapkicmckaaGreatDoor
open Go.RowKit

theorem Own.top {w : World} {base : Nat} {A : Option Addr} {n c : Nat} {xs : List Nat} (h : Own w base A n c xs) : Num w A (limbs (val xs)).length c (limbs (val xs)) := by
  have h1 := h.num.pre (limbs (val xs)).length c (by rw [← h.len]; exact limbs_length_val h.lim) (Nat.le_trans (by rw [← h.len]; exact limbs_length_val h.lim) h.mine.cap)
  rwa [← limbs_take h.lim] at h1

theorem Tryz.f64bits (b : Nat) (W : World) : (callFunc 51 #[.float .f64 b]).run Tryz.prog W = .ok (.value (.int .u64 (b : Int))) W := by kernel_rfl

theorem Tryz.f64from (b : Nat) (W : World) : (callFunc 137 #[.int .u64 (b : Int)]).run Tryz.prog W = .ok (.value (.float .f64 b)) W := by kernel_rfl

end Go.Proofs.YtekcpapkicmckaaGreatDoor
