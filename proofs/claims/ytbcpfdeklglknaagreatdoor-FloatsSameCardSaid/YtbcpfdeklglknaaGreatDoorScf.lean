/- floats.Read of "0.1": figures. -/
import Derived.Test.YtbcpfdeklglknaaGreatDoorScr
namespace Go.Proofs.YtbcpfdeklglknaaGreatDoor
open Go.RowKit

/-- a text's parts, as far as this one fills them -/
def TextAt (w : World) (T : Nat) (d : ByteArray) (b : Nat) : Prop :=
  w.heap[T]? = some (.cells #[.bool false, .bool false, .bool false, .string d, .bool false, .int .i64 (b : Int), .string ⟨#[]⟩] 35 (0, 0))

theorem TextAt.kept {w w' : World} {T S : Nat} {d : ByteArray} {b : Nat} (h : TextAt w T d b) (hg : w.grownBy w' (some S)) (hne : T ≠ S) : TextAt w' T d b :=
  (hg.block T (lt_of_block h) (by simpa using hne)).trans h
theorem TextAt.below {w w' : World} {T : Nat} {d : ByteArray} {b : Nat} (h : TextAt w T d b) (hb : Below w.heap.size w w') : TextAt w' T d b := (hb.block T (lt_of_block h)).trans h
theorem TextAt.setD {w : World} {T : Nat} {d : ByteArray} {b : Nat} (h : TextAt w T d b) (d' : ByteArray) : TextAt (w.setCell ⟨T, 3, none⟩ (.string d')) T d' b :=
  heap_setCell_same w T 3 _ _ (.string d') h
theorem TextAt.setB {w : World} {T : Nat} {d : ByteArray} {b : Nat} (h : TextAt w T d b) (b' : Nat) : TextAt (w.setCell ⟨T, 5, none⟩ (.int .i64 (b' : Int))) T d b' :=
  heap_setCell_same w T 5 _ _ (.int .i64 (b' : Int)) h
theorem ScanAt.other {w : World} {S i T k : Nat} (h : ScanAt w S i) (hne : S ≠ T) (v : Value) : ScanAt (w.setCell ⟨T, k, none⟩ v) S i :=
  ⟨by rw [setCell_size]; exact h.lt, (World.cell?_setCell_other _ _ _ _ (by simp)).trans h.s, (World.cell?_setCell_other _ _ _ _ (by simp)).trans h.i, by rw [World.frozen?_setCell]; exact h.f⟩
theorem grown_below {w w' : World} {S B : Nat} (hg : w.grownBy w' (some S)) (hB : B ≤ S) (hS : S < w.heap.size) : Below B w w' :=
  ⟨hg.os, hg.tape, hg.output, hg.size, fun i hi => hg.block i (by omega) (by simp; omega)⟩

set_option maxRecDepth 100000 in
set_option maxHeartbeats 4000000 in
theorem figures_at (S T : Nat) (w : World) (h : ScanAt w S 0) (ht : TextAt w T ⟨#[]⟩ 0) (hST : S < T) :
    Calls Tryz.prog 61 #[.pointer (some ⟨S, 0, none⟩), .pointer (some ⟨T, 0, none⟩)] w fun e w' => e = .returned (.int .i64 (-1)) ∧ ScanAt w' S 3 ∧ TextAt w' T ⟨#[48, 49]⟩ 1 ∧ Below S w w' := by
  have b1 := at1
  have HB := Lib.hid (fun q => (byte_zero S (w.drewN q) (h.below ⟨rfl, rfl, rfl, Nat.le_refl _, fun _ _ => rfl⟩)))
  have hs := h.s
  have hi := h.i
  go_enter Tryz.func61, Tryz.ntmps61
  go_wp2
  go_quiet (first | (go_at_call 59; with_reducible refine Calls.quiet_of (HB.out _)))
  have hd : Below w.heap.size w (w.drewN nq) := ⟨rfl, rfl, rfl, Nat.le_refl _, fun _ _ => rfl⟩
  have h1 := h.below hd
  have t1 := ht.below hd
  have B1 : Below S w (w.drewN nq) := hd.mono (Nat.le_of_lt h.lt)
  generalize w.drewN nq = w1 at h1 t1 B1 ⊢
  clear hd HB hs hi h ht
  have k4 : w1.cell? ⟨T, 4, none⟩ = some (.bool false) := cell_of_block t1 rfl
  have HR := Lib.hid (run_at S 0 1 w1 48 h1 (.inl ⟨rfl, rfl, rfl⟩))
  go_wp2_with fail
  refine HR.out.mono ?_
  rintro e w2 ⟨rfl, h2, g2⟩
  have t2 := t1.kept g2 (by omega)
  have B2 : Below S w w2 := B1.trans (grown_below g2 (Nat.le_refl _) h1.lt)
  clear k4 HR t1 g2 h1 B1
  have k3 : w2.cell? ⟨T, 3, none⟩ = some (.string ⟨#[]⟩) := cell_of_block t2 rfl
  have f3 : w2.frozen? ⟨T, 3, none⟩ = false := frozen_of_block t2
  have h3 := h2.other (T := T) (k := 3) (by omega) (.string ⟨#[48]⟩)
  have t3 := t2.setD ⟨#[48]⟩
  have B3 := B2.setCell (p := ⟨T, 3, none⟩) (show S ≤ T by omega) (.string ⟨#[48]⟩)
  have HT := Lib.hid (takes_dot S _ h3)
  go_wp2_with fail
  refine HT.out.mono ?_
  rintro e w4 ⟨rfl, h4, g4⟩
  have t4 := t3.kept g4 (by omega)
  have B4 : Below S w w4 := B3.trans (grown_below g4 (Nat.le_refl _) h3.lt)
  clear HT t3 g4 h3 B3 k3 f3 t2 h2 B2
  have k4 : w4.cell? ⟨T, 4, none⟩ = some (.bool false) := cell_of_block t4 rfl
  have HR := Lib.hid (run_at S 2 3 w4 49 h4 (.inr ⟨rfl, rfl, rfl⟩))
  go_wp2_with fail
  refine HR.out.mono ?_
  rintro e w5 ⟨rfl, h5, g5⟩
  have t5 := t4.kept g5 (by omega)
  have B5 : Below S w w5 := B4.trans (grown_below g5 (Nat.le_refl _) h4.lt)
  clear k4 HR t4 g5 h4 B4
  have k3 : w5.cell? ⟨T, 3, none⟩ = some (.string ⟨#[48]⟩) := cell_of_block t5 rfl
  have f3 : w5.frozen? ⟨T, 3, none⟩ = false := frozen_of_block t5
  have e1 : (ByteArray.mk #[48]) ++ (ByteArray.mk #[49]) = ⟨#[48, 49]⟩ := by kernel_rfl
  have h6 := h5.other (T := T) (k := 3) (by omega) (.string ⟨#[48, 49]⟩)
  have t6 := t5.setD ⟨#[48, 49]⟩
  have B6 := B5.setCell (p := ⟨T, 3, none⟩) (show S ≤ T by omega) (.string ⟨#[48, 49]⟩)
  have k5 : (w5.setCell ⟨T, 3, none⟩ (.string ⟨#[48, 49]⟩)).cell? ⟨T, 5, none⟩ = some (.int .i64 0) := cell_of_block t6 rfl
  have f5 : (w5.setCell ⟨T, 3, none⟩ (.string ⟨#[48, 49]⟩)).frozen? ⟨T, 5, none⟩ = false := frozen_of_block t6
  have h7 := h6.other (T := T) (k := 5) (by omega) (.int .i64 1)
  have t7 : TextAt ((w5.setCell ⟨T, 3, none⟩ (.string ⟨#[48, 49]⟩)).setCell ⟨T, 5, none⟩ (.int .i64 1)) T ⟨#[48, 49]⟩ 1 := t6.setB 1
  have B7 := B6.setCell (p := ⟨T, 5, none⟩) (show S ≤ T by omega) (.int .i64 1)
  have k7 : ((w5.setCell ⟨T, 3, none⟩ (.string ⟨#[48, 49]⟩)).setCell ⟨T, 5, none⟩ (.int .i64 1)).cell? ⟨T, 4, none⟩ = some (.bool false) := cell_of_block t7 rfl
  have HE := Lib.hid (takes_end S _ h7)
  clear h6 t6 B6 t5 B5 h5
  go_wp2_with fail
  refine HE.out.mono ?_
  rintro e w8 ⟨rfl, hb8⟩
  have t8 := t7.below hb8
  have h8 := h7.below hb8
  have B8 := B7.trans (hb8.mono (Nat.le_of_lt h7.lt))
  have k8 : w8.cell? ⟨T, 4, none⟩ = some (.bool false) := cell_of_block t8 rfl
  clear HE k7 k3 f3 k5 f5 h7 t7 B7 hb8
  go_wp2
  go_ret
  exact ⟨rfl, h8, t8, B8⟩

end Go.Proofs.YtbcpfdeklglknaaGreatDoor
