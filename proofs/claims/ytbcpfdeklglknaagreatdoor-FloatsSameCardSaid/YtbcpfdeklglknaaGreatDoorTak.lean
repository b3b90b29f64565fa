/- floats.Read of "0.1": taken, power, quotient, the number. -/
import Derived.Test.YtbcpfdeklglknaaGreatDoorCut
import Derived.Test.YtbcpfdeklglknaaGreatDoorPrint
import Derived.Test.YtbcpfdeklglknaaGreatDoorPow
namespace Go.Proofs.YtbcpfdeklglknaaGreatDoor
open Go.RowKit

theorem results_cell_tmp2 {fn : Func} {p u v : Tmp} {ty : TypeId} (h : fn.results = #[.cell p ty, .tmp u, .tmp v]) (tmps : Array Value) (P : Program) (w : World) :
    (results fn tmps).run P w =
      ((asAddr (tmps.getD p undef)).run P w).andThen fun a w₁ => ((loadVar ty a).run P w₁).andThen fun x w₂ => .ok (.tuple #[x, tmps.getD u undef, tmps.getD v undef]) w₂ := by
  simp only [results, h]
  simp [Sem.run_bind, Result.andThen]
theorem results_row_tmp2 {P : Program} {fn : Func} {p u v : Tmp} {ty : TypeId} (h : fn.results = #[.cell p ty, .tmp u, .tmp v]) (tmps : Array Value) (w : World) (g : Nat) (t : TypeId) (cs : Array Value) (fr : Nat × Nat) (d : TypeDesc)
    (hp : tmps.getD p undef = .pointer (some ⟨g, 0, none⟩)) (hg : w.heap[g]? = some (.cells cs t fr))
    (hu : P.underlying ty = some d) (hd : (match d with | .struct _ | .array _ _ => true | _ => false) = true) (hi : (P.info? ty).map (·.size) = some cs.size) :
    (results fn tmps).run P w = .ok (.tuple #[.agg cs, tmps.getD u undef, tmps.getD v undef]) w := by
  rw [results_cell_tmp2 h, hp]
  simp [asAddr, run_loadVar_row w g t ty cs fr d hg hu hd hi]

set_option maxRecDepth 100000 in
set_option maxHeartbeats 400000 in
theorem taken_at (w : World) :
    Calls Tryz.prog 11 #[.string ⟨#[48, 46, 49]⟩] w fun e w' => e = .returned (.tuple #[.agg (textCells ⟨#[48, 49]⟩ 1), .int .i64 0, .int .i64 0]) ∧ Below w.heap.size w w' := by
  have HC := Lib.hid (fun W => cut_at W)
  have hB := (Below.refl w.heap.size w).alloc (Nat.le_refl _) (.cells (textCells ⟨#[]⟩ 0) 35)
  have hR := heap_alloc_new w (.cells (textCells ⟨#[]⟩ 0) 35)
  have hz : (w.alloc (.cells (textCells ⟨#[]⟩ 0) 35)).heap.size = w.heap.size + 1 := by simp
  go_enter Tryz.func11, Tryz.ntmps11
  go_wp2_with fail
  generalize w.alloc (.cells (textCells ⟨#[]⟩ 0) 35) = w1 at hB hR hz ⊢
  refine (HC.out _).mono ?_; rintro e w2 ⟨rfl, hb2⟩
  have R2 := (hb2.block w.heap.size (by omega)).trans hR
  have B2 := below_then hB (by omega) hb2
  have z2 := hb2.size
  clear hB hR hb2
  have hlt : w.heap.size < w2.heap.size := lt_of_block R2
  have B3 := B2.alloc (Nat.le_of_lt hlt) (.cells (textCells ⟨#[48, 49]⟩ 1) 35)
  have R3 : (w2.alloc (.cells (textCells ⟨#[48, 49]⟩ 1) 35)).heap[w.heap.size]? = _ := (Below.heap_alloc w2 _ _ hlt).trans R2
  have T3 : TextAt (w2.alloc (.cells (textCells ⟨#[48, 49]⟩ 1) 35)) w2.heap.size ⟨#[48, 49]⟩ 1 := heap_alloc_new w2 _
  go_upto_region 6 with (fail)
  generalize w2.alloc (.cells (textCells ⟨#[48, 49]⟩ 1) 35) = w3 at B3 R3 T3 ⊢
  have c0 : w3.cell? ⟨w2.heap.size, 0, none⟩ = some (.bool false) := cell_of_block T3 rfl
  have r0 : w3.cell? ⟨w.heap.size, 0, none⟩ = some (.bool false) := cell_of_block R3 rfl
  have c1 : w3.cell? ⟨w2.heap.size, 1, none⟩ = some (.bool false) := cell_of_block T3 rfl
  have r1 : w3.cell? ⟨w.heap.size, 1, none⟩ = some (.bool false) := cell_of_block R3 rfl
  have c2 : w3.cell? ⟨w2.heap.size, 2, none⟩ = some (.bool false) := cell_of_block T3 rfl
  have r2 : w3.cell? ⟨w.heap.size, 2, none⟩ = some (.bool false) := cell_of_block R3 rfl
  have c3 : w3.cell? ⟨w2.heap.size, 3, none⟩ = some (.string ⟨#[48, 49]⟩) := cell_of_block T3 rfl
  have r3 : w3.cell? ⟨w.heap.size, 3, none⟩ = some (.string ⟨#[]⟩) := cell_of_block R3 rfl
  have c4 : w3.cell? ⟨w2.heap.size, 4, none⟩ = some (.bool false) := cell_of_block T3 rfl
  have r4 : w3.cell? ⟨w.heap.size, 4, none⟩ = some (.bool false) := cell_of_block R3 rfl
  have c5 : w3.cell? ⟨w2.heap.size, 5, none⟩ = some (.int .i64 1) := cell_of_block T3 rfl
  have r5 : w3.cell? ⟨w.heap.size, 5, none⟩ = some (.int .i64 0) := cell_of_block R3 rfl
  have c6 : w3.cell? ⟨w2.heap.size, 6, none⟩ = some (.string ⟨#[]⟩) := cell_of_block T3 rfl
  have r6 : w3.cell? ⟨w.heap.size, 6, none⟩ = some (.string ⟨#[]⟩) := cell_of_block R3 rfl
  have fr : ∀ j, w3.frozen? ⟨w.heap.size, j, none⟩ = false := fun j => frozen_of_block R3
  go_wp2
  have hk := setCell_row (vs := [.bool false, .bool false, .bool false, .string ⟨#[48, 49]⟩, .bool false, .int .i64 1, .string ⟨#[]⟩]) (setCell_row (vs := [.bool false, .bool false, .bool false, .string ⟨#[48, 49]⟩, .bool false, .int .i64 0, .string ⟨#[]⟩]) (setCell_row (vs := [.bool false, .bool false, .bool false, .string ⟨#[48, 49]⟩, .bool false, .int .i64 0, .string ⟨#[]⟩]) (setCell_row (vs := [.bool false, .bool false, .bool false, .string ⟨#[]⟩, .bool false, .int .i64 0, .string ⟨#[]⟩]) (setCell_row (vs := [.bool false, .bool false, .bool false, .string ⟨#[]⟩, .bool false, .int .i64 0, .string ⟨#[]⟩]) (setCell_row (vs := [.bool false, .bool false, .bool false, .string ⟨#[]⟩, .bool false, .int .i64 0, .string ⟨#[]⟩]) (setCell_row (vs := [.bool false, .bool false, .bool false, .string ⟨#[]⟩, .bool false, .int .i64 0, .string ⟨#[]⟩]) (R3) 0 (.bool false)) 1 (.bool false)) 2 (.bool false)) 3 (.string ⟨#[48, 49]⟩)) 4 (.bool false)) 5 (.int .i64 1)) 6 (.string ⟨#[]⟩)
  refine bodyPost_ret (v := .tuple #[.agg (textCells ⟨#[48, 49]⟩ 1), .int .i64 0, .int .i64 0]) ?_ rfl ⟨rfl, ?_⟩
  · exact results_row_tmp2 (fn := Tryz.f11) (p := 2) (u := 3) (v := 4) (ty := 35) rfl _ _ w.heap.size 35 (textCells ⟨#[48, 49]⟩ 1) (0, 0) _ rfl hk Tryz.underlying35 rfl (by kernel_rfl)
  · exact ((((((B3.setCell (Nat.le_refl _) _).setCell (Nat.le_refl _) _).setCell (Nat.le_refl _) _).setCell (Nat.le_refl _) _).setCell (Nat.le_refl _) _).setCell (Nat.le_refl _) _).setCell (Nat.le_refl _) _

theorem power_empty (w : World) : Calls Tryz.prog 31 #[.string ⟨#[]⟩] w fun e w' => e = .returned (.int .i64 0) ∧ w = w' := by
  go_enter Tryz.func31, Tryz.ntmps31
  go_wp2
  go_loopw [4, 16] (fun nx ix wr => nx = .int .i64 0 ∧ ix = .int .i64 0 ∧ wr = w) (fun _ _ _ => 0)
  case atStart => exact ⟨rfl, rfl, rfl⟩
  case round =>
    obtain ⟨rfl, rfl, rfl⟩ := hrel
    go_wp2
    go_ret
    exact ⟨rfl, rfl⟩

/-- what the text's quotient is -/
def QuoPost (w : World) (N D : Nat) (e : Ending) (w' : World) : Prop :=
  ∃ A n c B m d xs ys, e = .returned (.tuple #[.slice A n c, .slice B m d, .bool false, .bool false]) ∧ Num w' A n c xs ∧ Num w' B m d ys ∧ val xs = N ∧ val ys = D ∧ n ≤ 4096 ∧ m ≤ 4096 ∧ Below w.heap.size w w'

set_option maxRecDepth 100000 in
set_option maxHeartbeats 1000000 in
theorem quotient_at (w : World) :
    Calls Tryz.prog 14 #[.agg (textCells ⟨#[48, 49]⟩ 1)] w (QuoPost w 1 10) := by
  have hB := (Below.refl w.heap.size w).alloc (Nat.le_refl _) (.cells (textCells ⟨#[48, 49]⟩ 1) 35)
  have hT : TextAt (w.alloc (.cells (textCells ⟨#[48, 49]⟩ 1) 35)) w.heap.size ⟨#[48, 49]⟩ 1 := heap_alloc_new w _
  have l1 : limbs 1 = [1] := by rw [limbs_pos (by omega)]; simp [limbs_zero]
  have HF := From_any 1
  rw [l1] at HF
  replace HF := Lib.hid (fun W => HF W (by omega))
  go_enter Tryz.func14, Tryz.ntmps14
  go_wp2_with fail
  generalize w.alloc (.cells (textCells ⟨#[48, 49]⟩ 1) 35) = w1 at hB hT ⊢
  refine (HF.out _).mono ?_; rintro e w2 ⟨A1, rfl, o2, b2⟩
  have t2 := hT.below b2
  have lT := lt_of_block hT
  have B2 := below_then hB hB.size b2
  clear hB hT b2 HF l1
  have c4 : w2.cell? ⟨w.heap.size, 4, none⟩ = some (.bool false) := cell_of_block t2 rfl
  have c3 : w2.cell? ⟨w.heap.size, 3, none⟩ = some (.string ⟨#[48, 49]⟩) := cell_of_block t2 rfl
  have HR := Read_any ⟨#[48, 49]⟩ w2 (by unfold AllDig; simp) (by decide) (by decide)
  rw [show dv (ByteArray.mk #[48, 49]).data.toList = 1 from rfl, show limbs 1 = [1] by rw [limbs_pos (by omega)]; simp [limbs_zero]] at HR
  replace HR := Lib.hid HR
  go_wp2_with fail
  refine HR.out.mono ?_; rintro e w3 ⟨A2, rfl, o3, b3⟩
  have t3 := t2.below b3
  have n3 := o2.below b3
  have B3 := below_then B2 (by have := B2.size; omega) b3
  clear c4 c3 HR t2 o2 b3 B2
  have c5 : w3.cell? ⟨w.heap.size, 5, none⟩ = some (.int .i64 1) := cell_of_block t3 rfl
  have c6 : w3.cell? ⟨w.heap.size, 6, none⟩ = some (.string ⟨#[]⟩) := cell_of_block t3 rfl
  have HP := Lib.hid (fun q => (power_empty (w3.drewN q)).mono (by rintro e W ⟨rfl, rfl⟩; exact ⟨rfl, rfl⟩) : ∀ q, Calls Tryz.prog 31 #[.string ⟨#[]⟩] (w3.drewN q) fun e W => e = .returned (.int .i64 0) ∧ W = w3.drewN q)
  go_wp2
  go_quiet (first | (go_at_call 31; with_reducible refine Calls.quiet_of_same (HP.out _)))
  have d4 : Below w3.heap.size w3 (w3.drewN nq) := ⟨rfl, rfl, rfl, Nat.le_refl _, fun _ _ => rfl⟩
  have n4 := n3.below d4
  have o4 := o3.below d4
  have B4 := below_then B3 (by have := B3.size; omega) d4
  generalize w3.drewN nq = w4 at n4 o4 B4 ⊢
  clear c5 c6 HP t3 n3 o3 B3 d4
  have HPR := Print_any A2 1 1 [1] w4 o4.num (by omega)
  rw [show (Lib.decDigits (val [1])).toArray = #[49] by kernel_rfl] at HPR
  replace HPR := Lib.hid HPR
  go_wp2_with fail
  refine HPR.out.mono ?_; rintro e w5 ⟨rfl, b5⟩
  have n5 := n4.below b5
  have o5 := o4.below b5
  have B5 := below_then B4 (by have := B4.size; omega) b5
  clear HPR n4 o4 B4 b5
  have HL := Len_any A2 1 1 [1] w5 o5.num
  rw [show blen (val [1]) = 1 by decide] at HL
  replace HL := Lib.hid HL
  go_wp2_with fail
  refine HL.out.mono ?_; rintro e w6 ⟨rfl, rfl⟩
  go_wp2_with fail
  have o7 : Own (w5.alloc (.cells #[.int .u32 10] 65)) w5.heap.size (some ⟨w5.heap.size, 0, none⟩) 1 1 [10] := by
    have := own_block w5 w5.heap.size [10] (Lim.cons (by omega) Lim.nil) (by simp) (by simp)
    simpa [u32s] using this
  have d7 := (Below.refl w5.heap.size w5).alloc (Nat.le_refl _) (.cells #[.int .u32 10] 65)
  have B7 := below_then B5 (by have := B5.size; omega) d7
  have o8 := o5.below d7
  generalize w5.alloc (.cells #[.int .u32 10] 65) = w7 at o7 B7 o8 ⊢
  have HPW := Pow_any _ 1 1 [10] 1 w7 o7.num (by omega) (by omega) (by decide)
  rw [show val [10] ^ 1 = 10 by rfl] at HPW
  have HPW := Lib.hid HPW
  refine HPW.out.mono ?_; rintro e w8 ⟨A8, rfl, o9, b9⟩
  have o10 := o8.below b9
  have B9 := below_then B7 (by have := B7.size; omega) b9
  have l9 : (limbs 10).length ≤ 4096 := by decide +kernel
  clear HPW o7 d7 o8 B7 b9 n5 o5 B5 HL
  go_wp2
  refine bodyPost_ret (v := .tuple #[.slice A2 1 1, .slice A8 (limbs 10).length (limbs 10).length, .bool false, .bool false]) (by simp [results, Tryz.results14, go_sem]) rfl ?_
  exact ⟨A2, 1, 1, A8, _, _, [1], limbs 10, rfl, o10.num, o9.num, rfl, val_limbs _, by omega, l9, B9⟩

end Go.Proofs.YtbcpfdeklglknaaGreatDoor
