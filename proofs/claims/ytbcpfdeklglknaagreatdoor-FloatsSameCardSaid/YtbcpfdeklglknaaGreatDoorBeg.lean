/- floats.Read of "0.1" whole; the statements' own check at their beginning. -/
import Derived.Test.YtbcpfdeklglknaaGreatDoorTak
import Derived.Test.YtbcpfdeklglknaaGreatDoorHex
import Derived.Test.YtbcpfdeklglknaaGreatDoorNumb
namespace Go.Proofs.YtbcpfdeklglknaaGreatDoor
open Go.RowKit

theorem isE_tenth : IsE 1 10 (-56) := ⟨by omega, by unfold fits sideA sideB; decide, .inr (by unfold fits sideA sideB; decide)⟩
theorem tenth_bits : withSign false (amount (nearNum 1 10 (-56)).1 (nearNum 1 10 (-56)).2.1 (nearNum 1 10 (-56)).2.2) = 4591870180066957722 := by decide

set_option maxRecDepth 100000 in
set_option maxHeartbeats 1000000 in
theorem Read_tenth (w : World) (hW : WideAt w) :
    Calls Tryz.prog 6 #[.string ⟨#[48, 46, 49]⟩] w fun e w' => e = .returned (.tuple #[.float .f64 4591870180066957722, .int .i64 0, .int .i64 0]) ∧ Below w.heap.size w w' := by
  have HT := Lib.hid (taken_at w)
  go_enter Tryz.func6, Tryz.ntmps6
  go_wp2_with fail
  refine HT.out.mono ?_; rintro e w1 ⟨rfl, b1⟩
  have B2 := b1.alloc b1.size (.cells (textCells ⟨#[48, 49]⟩ 1) 35)
  have T2 : TextAt (w1.alloc (.cells (textCells ⟨#[48, 49]⟩ 1) 35)) w1.heap.size ⟨#[48, 49]⟩ 1 := heap_alloc_new w1 _
  go_upto_region 2 with (fail)
  generalize w1.alloc (.cells (textCells ⟨#[48, 49]⟩ 1) 35) = w2 at B2 T2 ⊢
  have c0 : w2.cell? ⟨w1.heap.size, 0, none⟩ = some (.bool false) := cell_of_block T2 rfl
  have c1 : w2.cell? ⟨w1.heap.size, 1, none⟩ = some (.bool false) := cell_of_block T2 rfl
  have c2 : w2.cell? ⟨w1.heap.size, 2, none⟩ = some (.bool false) := cell_of_block T2 rfl
  have c3 : w2.cell? ⟨w1.heap.size, 3, none⟩ = some (.string ⟨#[48, 49]⟩) := cell_of_block T2 rfl
  have c4 : w2.cell? ⟨w1.heap.size, 4, none⟩ = some (.bool false) := cell_of_block T2 rfl
  have c5 : w2.cell? ⟨w1.heap.size, 5, none⟩ = some (.int .i64 1) := cell_of_block T2 rfl
  have c6 : w2.cell? ⟨w1.heap.size, 6, none⟩ = some (.string ⟨#[]⟩) := cell_of_block T2 rfl
  have HQ := Lib.hid (quotient_at w2)
  go_wp2_with fail
  refine HQ.out.mono ?_; rintro e w3 ⟨A, n, c, B, m, d, xs, ys, rfl, ha, hb, hN, hD, hn, hm, b3⟩
  have T3 := T2.below b3
  have B3 := below_then B2 (by have := B2.size; omega) b3
  have c0 : w3.cell? ⟨w1.heap.size, 0, none⟩ = some (.bool false) := cell_of_block T3 rfl
  have HNU := number_any false A B n c m d xs ys w3 (hW.below B3) ha hb (by omega) (by omega) (by omega) (by omega)
  rw [hN, hD] at HNU
  replace HNU := Lib.hid HNU
  clear hN hD T2 T3 c1 c2 c3 c4 c5 c6 ha hb HT HQ
  go_wp2_with fail
  refine HNU.out.mono ?_; rintro e w4 ⟨e0, hE, rfl, b4⟩
  obtain rfl := hE.unique isE_tenth
  rw [tenth_bits]
  have B4 := below_then B3 (by have := B3.size; omega) b4
  go_wp2
  go_ret3
  exact ⟨rfl, B4⟩

/-- all variables that the check reads -/
structure Begs (w : World) : Prop where
  tabs : Tabs w
  tz : w.cell? ⟨10, 15, none⟩ = some (.int .u8 4)
theorem Begs.below {w w' : World} (h : Begs w) (hb : Below w.heap.size w w') : Begs w' :=
  ⟨h.tabs.below hb, (hb.cell (World.block_lt_of_cell? w _ h.tz)).trans h.tz⟩

set_option maxRecDepth 100000 in
set_option maxHeartbeats 1000000 in
theorem begins_any (w : World) (h : Begs w) : Calls Tryz.prog 4 #[] w fun e w' => e = .returned (.bool true) ∧ Below w.heap.size w w' := by
  have HR := Lib.hid (Read_tenth w h.tabs.wide)
  have e1 := Tryz.f64bits 4591870180066957722
  go_enter Tryz.func4, Tryz.ntmps4
  go_wp2_with fail
  refine HR.out.mono ?_; rintro e w1 ⟨rfl, b1⟩
  have h1 := h.below b1
  have HS := Lib.hid (Shortest_tenth w1 h1.tabs)
  clear HR
  go_wp2_with fail
  refine HS.out.mono ?_; rintro e w2 ⟨rfl, b2⟩
  have h2 := h1.below b2
  have HH := Lib.hid (Hex_one w2 h2.tz)
  have B2 := below_then b1 b1.size b2
  clear HS h1 b2
  go_wp2_with fail
  refine HH.out.mono ?_; rintro e w3 ⟨rfl, b3⟩
  have B3 := below_then B2 B2.size b3
  go_wp2
  go_ret
  exact ⟨rfl, B3⟩

end Go.Proofs.YtbcpfdeklglknaaGreatDoor
