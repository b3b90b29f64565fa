/- math.Inf and math.Copysign. -/
import Derived.Test.YtbcpfdeklglknaaGreatDoorNumb
namespace Go.Proofs.YtbcpfdeklglknaaGreatDoor
open Go.RowKit

theorem Tryz.f64bitsN (b : Nat) (W : World) : (callFunc 8 #[.float .f64 b]).run Tryz.prog W = .ok (.value (.int .u64 (b : Int))) W := by kernel_rfl

theorem Inf_pos (w : World) : Calls Tryz.prog 13 #[.int .i64 1] w fun e w' => e = .returned (.float .f64 9218868437227405312) ∧ w = w' := by
  have ez := Tryz.f64fromZ
  go_enter Tryz.func13, Tryz.ntmps13
  go_wp2
  go_ret
  exact ⟨rfl, rfl⟩
theorem Copysign_pos (w : World) : Calls Tryz.prog 15 #[.float .f64 0, .float .f64 4607182418800017408] w fun e w' => e = .returned (.float .f64 0) ∧ w = w' := by
  have ez := Tryz.f64fromZ
  have e0 := Tryz.f64bitsN
  go_enter Tryz.func15, Tryz.ntmps15
  go_wp2
  go_ret
  exact ⟨rfl, rfl⟩


end Go.Proofs.YtbcpfdeklglknaaGreatDoor
