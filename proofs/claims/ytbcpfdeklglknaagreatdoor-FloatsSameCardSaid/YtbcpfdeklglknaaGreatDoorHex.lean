/- floats.Hex of 1: the text "0x1p+0". -/
import Derived.Test.YtbcpfdeklglknaaGreatDoorShp
import Derived.Test.YtbcpfdeklglknaaGreatDoorFlo
namespace Go.Proofs.YtbcpfdeklglknaaGreatDoor
open Go.RowKit

set_option maxRecDepth 100000 in
set_option maxHeartbeats 1000000 in
theorem tz16 (w : World) (h : w.cell? ⟨10, 15, none⟩ = some (.int .u8 4)) : Calls Tryz.prog 115 #[.int .u64 16] w fun e w' => e = .returned (.int .i64 4) ∧ w = w' := by
  have f1 : IntKind.u64.wrap (-16) = 18446744073709551600 := by decide
  have f2 : Go.bits .and .u64 16 18446744073709551600 = 16 := by decide
  have f3 : IntKind.u64.wrap (16 * 285870213051353865) = 4573923408821661840 := by decide
  go_enter Tryz.func115, Tryz.ntmps115
  go_wp2
  go_ret
  exact ⟨rfl, rfl⟩

theorem pow16 (w : World) : Calls Tryz.prog 114 #[.int .i64 16] w fun e w' => e = .returned (.bool true) ∧ w = w' := by
  have f1 : Go.bits .and .i64 16 15 = 0 := by decide
  go_enter Tryz.func114, Tryz.ntmps114
  go_wp2
  go_ret
  exact ⟨rfl, rfl⟩

set_option maxRecDepth 100000 in
set_option maxHeartbeats 1000000 in
theorem fmtBits (w : World) (h : w.cell? ⟨10, 15, none⟩ = some (.int .u8 4)) : Calls Tryz.prog 83 #[.slice none 0 0, .int .u64 0, .int .i64 16, .bool false, .bool false] w fun e w' => e = .returned (.tuple #[.slice none 0 0, .string ⟨#[48]⟩]) ∧ Below w.heap.size w w' := by
  have hB := (Below.refl w.heap.size w).alloc (Nat.le_refl _) (.cells Tryz.zeroCells150 150)
  have h0 : (w.alloc (.cells Tryz.zeroCells150 150)).cell? ⟨10, 15, none⟩ = some (.int .u8 4) := (hB.cell (World.block_lt_of_cell? w _ h)).trans h
  have HZ := Lib.hid (tz16 (w.alloc (.cells Tryz.zeroCells150 150)) h0)
  have HP := Lib.hid (fun W => pow16 W)
  have f1 : Go.bits .and .u64 4 7 = 4 := by decide
  have f2 : Go.bits .and .i64 4 7 = 4 := by decide
  go_enter Tryz.func83, Tryz.ntmps83
  go_wp2_with (first | (go_at_call 114; refine (HP.out _).mono ?_; rintro e w1 ⟨rfl, rfl⟩) | (go_at_call 115; refine HZ.out.mono ?_; rintro e w1 ⟨rfl, rfl⟩))
  have hk := heap_alloc_new w (.cells Tryz.zeroCells150 150)
  have hc : (w.alloc (.cells Tryz.zeroCells150 150)).cell? ⟨w.heap.size, 64, none⟩ = some (.int .u8 0) := cell_of_block hk (by kernel_rfl)
  have hf : (w.alloc (.cells Tryz.zeroCells150 150)).frozen? ⟨w.heap.size, 64, none⟩ = false := frozen_of_block hk
  have hB2 := hB.setCell (p := ⟨w.heap.size, 64, none⟩) (Nat.le_refl _) (.int .u8 48)
  have hst := World.cell?_setCell_same' _ ⟨w.heap.size, 64, none⟩ (.int .u8 48) (by rw [hc]; rfl)
  generalize w.alloc (.cells Tryz.zeroCells150 150) = w1 at *
  have hc2 : (w1.setCell ⟨w.heap.size, 64, none⟩ (.int .u8 48)).cell? ⟨w.heap.size, 64, none⟩ = some (.int .u8 48) := hst
  have hcv : (convert 22 9 (.slice (some ⟨w.heap.size, 64, none⟩) 1 1)).run Tryz.prog (w1.setCell ⟨w.heap.size, 64, none⟩ (.int .u8 48)) = .ok (.string ⟨#[48]⟩) (w1.setCell ⟨w.heap.size, 64, none⟩ (.int .u8 48)) :=
    run_convert_bytes_back _ _ _ 5 ⟨w.heap.size, 64, none⟩ 1 [48] Tryz.under_b8 Tryz.underlying5 Tryz.underlying9 (fun j hj => by
      obtain rfl : j = 0 := by simpa using hj
      rw [add_row]
      exact hc2)
  clear h h0 hk HZ HP hst hc2
  go_loopw [1, 13] (fun ux ix wr => ux = .int .u64 0 ∧ ix = .int .i64 65 ∧ wr = w1) (fun _ _ _ => 0)
  case atStart => exact ⟨rfl, rfl, rfl⟩
  case round =>
    obtain ⟨rfl, rfl, rfl⟩ := hrel
    go_wp2
    erw [hcv]
    go_wp2
    refine bodyPost_ret (v := .tuple #[.slice none 0 0, .string ⟨#[48]⟩]) (by simp [results, Tryz.results83, go_sem]) rfl ⟨rfl, hB2⟩

theorem fmtUintIn (w : World) (h : w.cell? ⟨10, 15, none⟩ = some (.int .u8 4)) : Calls Tryz.prog 46 #[.int .u64 0, .int .i64 16] w fun e w' => e = .returned (.string ⟨#[48]⟩) ∧ Below w.heap.size w w' := by
  have H := Lib.hid (fmtBits w h)
  go_enter Tryz.func46, Tryz.ntmps46
  go_wp2_with (first | (go_at_call 83; refine H.out.mono ?_; rintro e w1 ⟨rfl, hb⟩))
  go_ret
  exact ⟨rfl, hb⟩

theorem fmtUint (w : World) (h : w.cell? ⟨10, 15, none⟩ = some (.int .u8 4)) : Calls Tryz.prog 21 #[.int .u64 0, .int .i64 16] w fun e w' => e = .returned (.string ⟨#[48]⟩) ∧ Below w.heap.size w w' := by
  have H := Lib.hid (fmtUintIn w h)
  go_enter Tryz.func21, Tryz.ntmps21
  go_wp2_with (first | (go_at_call 46; refine H.out.mono ?_; rintro e w1 ⟨rfl, hb⟩))
  go_ret
  exact ⟨rfl, hb⟩

theorem t_twelve : (Lib.repeatL [48] 12).toArray = #[48, 48, 48, 48, 48, 48, 48, 48, 48, 48, 48, 48] := by kernel_rfl
theorem t_zeros : (Lib.trimRightB [48, 48, 48, 48, 48, 48, 48, 48, 48, 48, 48, 48, 48] 48).toArray = #[] := by kernel_rfl
theorem t_dec0 : (Lib.decDigits 0).toArray = #[48] := by kernel_rfl
theorem t_parts1 : partsOf 4607182418800017408 = (4503599627370496, -52, 2) := by kernel_rfl
theorem t_fneg1 : fneg 4607182418800017408 = false := by kernel_rfl

set_option maxRecDepth 100000 in
set_option maxHeartbeats 1000000 in
theorem Hex_one (w : World) (h : w.cell? ⟨10, 15, none⟩ = some (.int .u8 4)) : Calls Tryz.prog 10 #[.float .f64 4607182418800017408] w fun e w' => e = .returned (.string ⟨#[48, 120, 49, 112, 43, 48]⟩) ∧ Below w.heap.size w w' := by
  have HP := Parts_any 4607182418800017408 w (by omega)
  rw [t_parts1, t_fneg1] at HP
  replace HP := Lib.hid HP
  have HU := Lib.hid (fmtUint w h)
  have HR0 := fun W => Tryz.strings_Repeat ⟨#[48]⟩ 12 W (by omega) (by simp [ByteArray.size])
  rw [show (ByteArray.mk #[48]).data.toList = [48] from rfl, t_twelve] at HR0
  have HR := Lib.hid HR0
  clear HR0
  have f1 : Go.bits .and .u64 4503599627370496 4503599627370495 = 0 := by decide
  go_enter Tryz.func10, Tryz.ntmps10
  go_wp2_with (first
    | (go_at_call 19; refine HP.out.mono ?_; rintro e w1 ⟨rfl, rfl⟩)
    | (go_at_call 21; refine HU.out.mono ?_; rintro e w1 ⟨rfl, hb1⟩)
    | (go_at_call 23; refine (HR.out _).mono ?_; rintro e w2 ⟨rfl, hb2⟩))
  have HT := Tryz.strings_TrimRight_one ⟨#[48, 48, 48, 48, 48, 48, 48, 48, 48, 48, 48, 48, 48]⟩ 48 (by decide) w2 (by simp [ByteArray.size])
  rw [show (ByteArray.mk #[48, 48, 48, 48, 48, 48, 48, 48, 48, 48, 48, 48, 48]).data.toList = [48, 48, 48, 48, 48, 48, 48, 48, 48, 48, 48, 48, 48] from rfl, t_zeros] at HT
  replace HT := Lib.hid HT
  have HI := Tryz.strconv_Itoa_small 0 (by omega) w2
  rw [t_dec0] at HI
  replace HI := Lib.hid HI
  go_wp2_with (first
    | (go_at_call 22; refine HT.out.mono ?_; rintro e w3 ⟨rfl, rfl⟩)
    | (go_at_call 24; refine HI.out.mono ?_; rintro e w3 ⟨rfl, rfl⟩))
  go_ret
  exact ⟨by kernel_rfl, below_then hb1 hb1.size hb2⟩

end Go.Proofs.YtbcpfdeklglknaaGreatDoor
