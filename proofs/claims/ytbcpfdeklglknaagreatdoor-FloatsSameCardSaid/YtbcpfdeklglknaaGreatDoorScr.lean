/- floats.Read of "0.1": digits. -/
import Derived.Test.YtbcpfdeklglknaaGreatDoorScn
namespace Go.Proofs.YtbcpfdeklglknaaGreatDoor
open Go.RowKit

theorem digit_at (c : Int) (b : Bool) (w : World) (hc : (c = 48 ∧ b = true) ∨ (c = 46 ∧ b = false) ∨ (c = 49 ∧ b = true)) : Calls Tryz.prog 120 #[.int .u8 c, .bool false] w fun e w' => e = .returned (.bool b) ∧ w = w' := by
  rcases hc with ⟨rfl, rfl⟩ | ⟨rfl, rfl⟩ | ⟨rfl, rfl⟩
  all_goals
    go_enter Tryz.func120, Tryz.ntmps120
    go_wp2
    go_ret
    exact ⟨rfl, rfl⟩

theorem digit_quiet (c : Int) (b : Bool) (w : World) (q : Nat) (hc : (c = 48 ∧ b = true) ∨ (c = 46 ∧ b = false) ∨ (c = 49 ∧ b = true)) : Calls Tryz.prog 120 #[.int .u8 c, .bool false] (w.drewN q) fun e w' => e = .returned (.bool b) ∧ w' = w.drewN q :=
  (digit_at c b (w.drewN q) hc).mono (by rintro e w' ⟨rfl, rfl⟩; exact ⟨rfl, rfl⟩)

/-- digits from a place to another one -/
theorem run_at (S a z : Nat) (w : World) (x : UInt8) (h : ScanAt w S a) (haz : (a = 0 ∧ z = 1 ∧ x = 48) ∨ (a = 2 ∧ z = 3 ∧ x = 49)) :
    Calls Tryz.prog 93 #[.pointer (some ⟨S, 0, none⟩), .bool false] w fun e w' => e = .returned (.tuple #[.string ⟨#[x]⟩, .bool true]) ∧ ScanAt w' S z ∧ w.grownBy w' (some S) := by
  have b0 := at0
  have b1 := at1
  have b2 := at2
  have hi0 := h.i
  rcases haz with ⟨rfl, rfl, rfl⟩ | ⟨rfl, rfl, rfl⟩
  · go_enter Tryz.func93, Tryz.ntmps93
    go_wp2
    go_loopg [] 1 (fun k wr => k ≤ 1 ∧ ScanAt wr S (1 - k) ∧ w.grownBy wr (some S))
    case atStart => exact ⟨Nat.le_refl _, h, Go.World.grownBy.refl _ _⟩
    case round =>
      obtain ⟨hk, hsc, hg⟩ := hrel
      have h2 : gk = 1 ∨ gk = 0 := by omega
      rcases h2 with rfl | rfl
      · have hsc : ScanAt wr S 0 := hsc
        have hs := hsc.s
        have hi := hsc.i
        have HD := Lib.hid (fun q => digit_quiet 48 true wr q (by decide))
        go_wp2
        go_quiet (first | (go_at_call 120; with_reducible refine Calls.quiet_of_same (HD.out _)))
        have hsc2 := hsc.below (show Below wr.heap.size wr (wr.drewN nq) from ⟨rfl, rfl, rfl, Nat.le_refl _, fun _ _ => rfl⟩)
        have hg2 := grownBy_drewN hg nq
        generalize wr.drewN nq = w3 at *
        clear hsc hg hs hi HD
        have hi := hsc2.i
        have hf := hsc2.f
        have hm := hsc2.moved 1
        have hg3 := hg2.trans (setCell_grownBy w3 S 1 (.int .i64 ((1 : Nat) : Int)))
        go_wp2
        go_roundg 0
        case measure => omega
        case rel => exact ⟨by omega, hm, hg3⟩
      · have hsc : ScanAt wr S 1 := hsc
        have hs := hsc.s
        have hi := hsc.i
        have HD := Lib.hid (fun q => digit_quiet 46 false wr q (by decide))
        go_wp2
        go_quiet (first | (go_at_call 120; with_reducible refine Calls.quiet_of_same (HD.out _)))
        have hsc2 := hsc.below (show Below wr.heap.size wr (wr.drewN nq) from ⟨rfl, rfl, rfl, Nat.le_refl _, fun _ _ => rfl⟩)
        have hg2 := grownBy_drewN hg nq
        generalize wr.drewN nq = w3 at *
        clear hsc hg hs hi HD
        have hs := hsc2.s
        have hi := hsc2.i
        go_wp2
        go_quiet (fail)
        go_wp2
        have e : (ByteArray.mk #[48, 46, 49]).extract 0 1 = ⟨#[48]⟩ := by kernel_rfl
        refine bodyPost_ret (v := .tuple #[.string ⟨#[48]⟩, .bool true]) (by simp [e, results, Tryz.results93, go_sem]) rfl ⟨rfl, hsc2.below ⟨rfl, rfl, rfl, Nat.le_refl _, fun _ _ => rfl⟩, grownBy_drewN hg2 _⟩
  · go_enter Tryz.func93, Tryz.ntmps93
    go_wp2
    go_loopg [] 1 (fun k wr => k ≤ 1 ∧ ScanAt wr S (3 - k) ∧ w.grownBy wr (some S))
    case atStart => exact ⟨Nat.le_refl _, h, Go.World.grownBy.refl _ _⟩
    case round =>
      obtain ⟨hk, hsc, hg⟩ := hrel
      have h2 : gk = 1 ∨ gk = 0 := by omega
      rcases h2 with rfl | rfl
      · have hsc : ScanAt wr S 2 := hsc
        have hs := hsc.s
        have hi := hsc.i
        have HD := Lib.hid (fun q => digit_quiet 49 true wr q (by decide))
        go_wp2
        go_quiet (first | (go_at_call 120; with_reducible refine Calls.quiet_of_same (HD.out _)))
        have hsc2 := hsc.below (show Below wr.heap.size wr (wr.drewN nq) from ⟨rfl, rfl, rfl, Nat.le_refl _, fun _ _ => rfl⟩)
        have hg2 := grownBy_drewN hg nq
        generalize wr.drewN nq = w3 at *
        clear hsc hg hs hi HD
        have hi := hsc2.i
        have hf := hsc2.f
        have hm := hsc2.moved 3
        have hg3 := hg2.trans (setCell_grownBy w3 S 1 (.int .i64 ((3 : Nat) : Int)))
        go_wp2
        go_roundg 0
        case measure => omega
        case rel => exact ⟨by omega, hm, hg3⟩
      · have hsc : ScanAt wr S 3 := hsc
        have hs := hsc.s
        have hi := hsc.i
        have HD := Lib.hid (fun q => digit_quiet 46 false wr q (by decide))
        go_wp2
        go_quiet (first | (go_at_call 120; with_reducible refine Calls.quiet_of_same (HD.out _)))
        have hsc2 := hsc.below (show Below wr.heap.size wr (wr.drewN nq) from ⟨rfl, rfl, rfl, Nat.le_refl _, fun _ _ => rfl⟩)
        have hg2 := grownBy_drewN hg nq
        generalize wr.drewN nq = w3 at *
        clear hsc hg hs hi HD
        have hs := hsc2.s
        have hi := hsc2.i
        go_wp2
        go_quiet (fail)
        go_wp2
        have e : (ByteArray.mk #[48, 46, 49]).extract 2 3 = ⟨#[49]⟩ := by kernel_rfl
        refine bodyPost_ret (v := .tuple #[.string ⟨#[49]⟩, .bool true]) (by simp [e, results, Tryz.results93, go_sem]) rfl ⟨rfl, hsc2.below ⟨rfl, rfl, rfl, Nat.le_refl _, fun _ _ => rfl⟩, grownBy_drewN hg2 _⟩

end Go.Proofs.YtbcpfdeklglknaaGreatDoor
