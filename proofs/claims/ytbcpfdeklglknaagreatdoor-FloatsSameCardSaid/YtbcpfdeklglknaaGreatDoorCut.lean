/- floats.Read of "0.1": cut, taken. -/
import Derived.Test.YtbcpfdeklglknaaGreatDoorScf
namespace Go.Proofs.YtbcpfdeklglknaaGreatDoor
open Go.RowKit

/-- a text's cells -/
abbrev textCells (d : ByteArray) (b : Int) : Array Value := #[.bool false, .bool false, .bool false, .string d, .bool false, .int .i64 b, .string ⟨#[]⟩]

theorem TextAt.setN {w : World} {T : Nat} {d : ByteArray} {b : Nat} (h : TextAt w T d b) : TextAt (w.setCell ⟨T, 0, none⟩ (.bool false)) T d b :=
  heap_setCell_same w T 0 _ _ (.bool false) h

set_option maxRecDepth 100000 in
set_option maxHeartbeats 4000000 in
theorem cut_at (w : World) :
    Calls Tryz.prog 25 #[.string ⟨#[48, 46, 49]⟩] w fun e w' => e = .returned (.tuple #[.agg (textCells ⟨#[48, 49]⟩ 1), .int .i64 (-1)]) ∧ Below w.heap.size w w' := by
  go_enter Tryz.func25, Tryz.ntmps25
  go_wp2_with fail
  have hB : Below w.heap.size w (((w.alloc (.cells (textCells ⟨#[]⟩ 0) 35)).alloc (.cells #[.string ⟨#[48, 46, 49]⟩, .int .i64 0] 101)).alloc (.cells (textCells ⟨#[]⟩ 0) 35)) :=
    (((Below.refl _ _).alloc (Nat.le_refl _) _).alloc (by simp) _).alloc (by simp; omega) _
  have hz : (((w.alloc (.cells (textCells ⟨#[]⟩ 0) 35)).alloc (.cells #[.string ⟨#[48, 46, 49]⟩, .int .i64 0] 101)).alloc (.cells (textCells ⟨#[]⟩ 0) 35)).heap.size = w.heap.size + 1 + 1 + 1 := by simp
  have hR : (((w.alloc (.cells (textCells ⟨#[]⟩ 0) 35)).alloc (.cells #[.string ⟨#[48, 46, 49]⟩, .int .i64 0] 101)).alloc (.cells (textCells ⟨#[]⟩ 0) 35)).heap[w.heap.size]? = some (.cells (textCells ⟨#[]⟩ 0) 35 (0, 0)) := by
    show (((w.heap.push _).push _).push _)[w.heap.size]? = _
    simp only [Array.getElem?_push, Array.size_push]
    rw [if_neg (by omega), if_neg (by omega), if_pos trivial]
  have hS : (((w.alloc (.cells (textCells ⟨#[]⟩ 0) 35)).alloc (.cells #[.string ⟨#[48, 46, 49]⟩, .int .i64 0] 101)).alloc (.cells (textCells ⟨#[]⟩ 0) 35)).heap[w.heap.size + 1]? = some (.cells #[.string ⟨#[48, 46, 49]⟩, .int .i64 0] 101 (0, 0)) := by
    show (((w.heap.push _).push _).push _)[w.heap.size + 1]? = _
    simp only [Array.getElem?_push, Array.size_push]
    rw [if_neg (by omega), if_pos trivial]
  have hT : TextAt (((w.alloc (.cells (textCells ⟨#[]⟩ 0) 35)).alloc (.cells #[.string ⟨#[48, 46, 49]⟩, .int .i64 0] 101)).alloc (.cells (textCells ⟨#[]⟩ 0) 35)) (w.heap.size + 1 + 1) ⟨#[]⟩ 0 := by
    show (((w.heap.push _).push _).push _)[w.heap.size + 1 + 1]? = _
    simp only [Array.getElem?_push, Array.size_push]
    rw [if_pos trivial]
    rfl
  generalize (((w.alloc (.cells (textCells ⟨#[]⟩ 0) 35)).alloc (.cells #[.string ⟨#[48, 46, 49]⟩, .int .i64 0] 101)).alloc (.cells (textCells ⟨#[]⟩ 0) 35)) = w3 at hB hz hR hS hT ⊢
  have h3 : ScanAt w3 (w.heap.size + 1) 0 := ⟨by omega, cell_of_block hS rfl, cell_of_block hS rfl, frozen_of_block hS⟩
  clear hS
  have HM := Lib.hid (takes_minus _ w3 h3)
  refine HM.out.mono ?_; rintro e w4 ⟨rfl, hb4⟩
  have h4 := h3.below hb4
  have t4 := hT.below hb4
  have R4 := (hb4.block w.heap.size (by omega)).trans hR
  have B4 := below_then hB (by omega) hb4
  have z4 : w.heap.size + 1 + 1 + 1 ≤ w4.heap.size := by have := hb4.size; omega
  clear h3 hT hR hB hz HM hb4
  have f4 : w4.frozen? ⟨w.heap.size + 1 + 1, 0, none⟩ = false := frozen_of_block t4
  have c4 : w4.cell? ⟨w.heap.size + 1 + 1, 0, none⟩ = some (.bool false) := cell_of_block t4 rfl
  have h5 := h4.other (T := w.heap.size + 1 + 1) (k := 0) (by omega) (.bool false)
  have t5 := t4.setN
  have B5 := B4.setCell (p := ⟨w.heap.size + 1 + 1, 0, none⟩) (by simp; omega) (.bool false)
  have R5 : (w4.setCell ⟨w.heap.size + 1 + 1, 0, none⟩ (.bool false)).heap[w.heap.size]? = _ := (setCell_other (by omega) _ _).trans R4
  have z5 : w.heap.size + 1 + 1 + 1 ≤ (w4.setCell ⟨w.heap.size + 1 + 1, 0, none⟩ (.bool false)).heap.size := by rw [setCell_size]; exact z4
  have c5 : (w4.setCell ⟨w.heap.size + 1 + 1, 0, none⟩ (.bool false)).cell? ⟨w.heap.size + 1 + 1, 0, none⟩ = some (.bool false) := cell_of_block t5 rfl
  have HB5 := Lib.hid (byte_zero _ _ h5)
  go_wp2_with fail
  refine HB5.out.mono ?_; rintro e w6 ⟨rfl, q, rfl⟩
  have d6 : Below (w4.setCell ⟨w.heap.size + 1 + 1, 0, none⟩ (.bool false)).heap.size (w4.setCell ⟨w.heap.size + 1 + 1, 0, none⟩ (.bool false)) ((w4.setCell ⟨w.heap.size + 1 + 1, 0, none⟩ (.bool false)).drewN q) := ⟨rfl, rfl, rfl, Nat.le_refl _, fun _ _ => rfl⟩
  have h6 := h5.below d6
  have t6 := t5.below d6
  have B6 := below_then B5 (by omega) d6
  have R6 := (d6.block w.heap.size (by omega)).trans R5
  have z6 : w.heap.size + 1 + 1 + 1 ≤ ((w4.setCell ⟨w.heap.size + 1 + 1, 0, none⟩ (.bool false)).drewN q).heap.size := z5
  generalize (w4.setCell ⟨w.heap.size + 1 + 1, 0, none⟩ (.bool false)).drewN q = w6 at h6 t6 B6 R6 z6 ⊢
  clear HB5 h5 t5 B5 R5 z5 d6 c5 f4 c4 h4 t4 R4 B4 z4
  have HB6 := Lib.hid (byte_zero _ _ h6)
  go_wp2_with fail
  refine HB6.out.mono ?_; rintro e w7 ⟨rfl, q2, rfl⟩
  have d7 : Below w6.heap.size w6 (w6.drewN q2) := ⟨rfl, rfl, rfl, Nat.le_refl _, fun _ _ => rfl⟩
  have h7 := h6.below d7
  have t7 := t6.below d7
  have B7 := below_then B6 (by omega) d7
  have R7 := (d7.block w.heap.size (by omega)).trans R6
  have z7 : w.heap.size + 1 + 1 + 1 ≤ (w6.drewN q2).heap.size := z6
  generalize w6.drewN q2 = w7 at h7 t7 B7 R7 z7 ⊢
  clear HB6 h6 t6 B6 R6 z6 d7
  have HF := Lib.hid (figures_at (w.heap.size + 1) (w.heap.size + 1 + 1) w7 h7 t7 (by omega))
  go_wp2_with fail
  refine HF.out.mono ?_; rintro e w8 ⟨rfl, h8, t8, b8⟩
  have R8 := (b8.block w.heap.size (by omega)).trans R7
  have B8 := B7.trans (b8.mono (by omega))
  clear HF h7 t7 B7 R7 z7 b8
  have s8 := h8.s
  have i8 : w8.cell? ⟨w.heap.size + 1, 1, none⟩ = some (.int .i64 3) := h8.i
  have c0 : w8.cell? ⟨w.heap.size + 1 + 1, 0, none⟩ = some (.bool false) := cell_of_block t8 rfl
  have r0 : w8.cell? ⟨w.heap.size, 0, none⟩ = some (.bool false) := cell_of_block R8 rfl
  have c1 : w8.cell? ⟨w.heap.size + 1 + 1, 1, none⟩ = some (.bool false) := cell_of_block t8 rfl
  have r1 : w8.cell? ⟨w.heap.size, 1, none⟩ = some (.bool false) := cell_of_block R8 rfl
  have c2 : w8.cell? ⟨w.heap.size + 1 + 1, 2, none⟩ = some (.bool false) := cell_of_block t8 rfl
  have r2 : w8.cell? ⟨w.heap.size, 2, none⟩ = some (.bool false) := cell_of_block R8 rfl
  have c3 : w8.cell? ⟨w.heap.size + 1 + 1, 3, none⟩ = some (.string ⟨#[48, 49]⟩) := cell_of_block t8 rfl
  have r3 : w8.cell? ⟨w.heap.size, 3, none⟩ = some (.string ⟨#[]⟩) := cell_of_block R8 rfl
  have c4 : w8.cell? ⟨w.heap.size + 1 + 1, 4, none⟩ = some (.bool false) := cell_of_block t8 rfl
  have r4 : w8.cell? ⟨w.heap.size, 4, none⟩ = some (.bool false) := cell_of_block R8 rfl
  have c5 : w8.cell? ⟨w.heap.size + 1 + 1, 5, none⟩ = some (.int .i64 1) := cell_of_block t8 rfl
  have r5 : w8.cell? ⟨w.heap.size, 5, none⟩ = some (.int .i64 0) := cell_of_block R8 rfl
  have c6 : w8.cell? ⟨w.heap.size + 1 + 1, 6, none⟩ = some (.string ⟨#[]⟩) := cell_of_block t8 rfl
  have r6 : w8.cell? ⟨w.heap.size, 6, none⟩ = some (.string ⟨#[]⟩) := cell_of_block R8 rfl
  have fr : ∀ j, w8.frozen? ⟨w.heap.size, j, none⟩ = false := fun j => frozen_of_block R8
  have hsz8 : w.heap.size < w8.heap.size := lt_of_block R8
  go_wp2
  have hk := setCell_row (vs := [.bool false, .bool false, .bool false, .string ⟨#[48, 49]⟩, .bool false, .int .i64 1, .string ⟨#[]⟩]) (setCell_row (vs := [.bool false, .bool false, .bool false, .string ⟨#[48, 49]⟩, .bool false, .int .i64 0, .string ⟨#[]⟩]) (setCell_row (vs := [.bool false, .bool false, .bool false, .string ⟨#[48, 49]⟩, .bool false, .int .i64 0, .string ⟨#[]⟩]) (setCell_row (vs := [.bool false, .bool false, .bool false, .string ⟨#[]⟩, .bool false, .int .i64 0, .string ⟨#[]⟩]) (setCell_row (vs := [.bool false, .bool false, .bool false, .string ⟨#[]⟩, .bool false, .int .i64 0, .string ⟨#[]⟩]) (setCell_row (vs := [.bool false, .bool false, .bool false, .string ⟨#[]⟩, .bool false, .int .i64 0, .string ⟨#[]⟩]) (setCell_row (vs := [.bool false, .bool false, .bool false, .string ⟨#[]⟩, .bool false, .int .i64 0, .string ⟨#[]⟩]) (R8) 0 (.bool false)) 1 (.bool false)) 2 (.bool false)) 3 (.string ⟨#[48, 49]⟩)) 4 (.bool false)) 5 (.int .i64 1)) 6 (.string ⟨#[]⟩)
  refine bodyPost_ret (v := .tuple #[.agg (textCells ⟨#[48, 49]⟩ 1), .int .i64 (-1)]) ?_ rfl ⟨rfl, ?_⟩
  · exact results_row_tmp (fn := Tryz.f25) (p := 2) (u := 3) (ty := 35) rfl _ _ w.heap.size 35 (textCells ⟨#[48, 49]⟩ 1) (0, 0) _ rfl hk Tryz.underlying35 rfl (by kernel_rfl)
  · exact ((((((B8.setCell (Nat.le_refl _) _).setCell (Nat.le_refl _) _).setCell (Nat.le_refl _) _).setCell (Nat.le_refl _) _).setCell (Nat.le_refl _) _).setCell (Nat.le_refl _) _).setCell (Nat.le_refl _) _

end Go.Proofs.YtbcpfdeklglknaaGreatDoor
