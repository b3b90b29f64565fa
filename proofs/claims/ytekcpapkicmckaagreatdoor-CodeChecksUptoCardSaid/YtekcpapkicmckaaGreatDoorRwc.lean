/- The walk of thicketlaw19.CodeChecks. -/
import Derived.Test.YtekcpapkicmckaaGreatDoorLvs
import Derived.Test.YtekcpapkicmckaaGreatDoorRfc
import Derived.Test.YtekcpapkicmckaaGreatDoorRcy
namespace Go.Proofs.YtekcpapkicmckaaGreatDoor
open Go.RowKit

theorem alikeL_refl : ∀ ops : List OpV, alikeL ops ops = true
  | [] => rfl
  | v :: l => by simp [alikeL, alikeV, alikeL_refl l]
theorem same_ops_refl (ops : List OpV) (F O : Int) : sameV F O F O ops ops = true := by
  unfold sameV
  simp [alikeL_refl]

set_option maxHeartbeats 4000000 in
set_option maxRecDepth 100000 in
theorem checks_true (F O F' O' : Int) (A A' : Option Addr) (n c n' c' : Nat) (ops ops' : List OpV) (w : World) (hp : OpsAt w A n c ops) (hq : OpsAt w A' n' c' ops') (hn : n ≤ 1048576) (hcb : ∀ u ∈ ops, u.cats.length ≤ 1048576) (hT : TabsS w) :
    Calls Tryz.prog 7 #[.agg #[.int .i64 F, .int .i64 O, .slice A n c], .agg #[.int .i64 F', .int .i64 O', .slice A' n' c']] w fun e w' => e = .returned (.bool true) ∧ Below w.heap.size w w' := by
  have HP := Lib.hid (fun W (h : Below w.heap.size w W) => hp.below h)
  have HQ := Lib.hid (fun W (h : Below w.heap.size w W) => hq.below h)
  have HT := Lib.hid (fun W (h : Below w.heap.size w W) => hT.below h)
  have HCB := Lib.hid (fun u hu => Nat.le_trans (hcb u hu) (show 1048576 ≤ 1000000000000 by omega))
  obtain ⟨K1, K2, hK⟩ : ∃ K1 K2, checkV F O ops = (K1, K2) := ⟨_, _, rfl⟩
  have hC1 := fun W h => Check_any F O A n c ops W (HP.out W h)
  have hC2 := fun W h => rCheck_any F O A n c ops W (HP.out W h)
  rw [hK] at hC1 hC2
  obtain ⟨y, hy⟩ : ∃ y, sameV F O F' O' ops ops' = y := ⟨_, rfl⟩
  have hS1 := fun W h => Same_any F O F' O' A A' n c n' c' ops ops' W (HP.out W h) (HQ.out W h)
  have hS2 := fun W h => rSame_any F O F' O' A A' n c n' c' ops ops' W (HP.out W h) (HQ.out W h)
  rw [hy] at hS1 hS2
  have HC1 := Lib.hid hC1
  have HC2 := Lib.hid hC2
  have HS1 := Lib.hid hS1
  have HS2 := Lib.hid hS2
  have HRF := Lib.hid (same_ops_refl ops F O)
  clear hp hq hT hcb hK hC1 hC2 hy hS1 hS2
  go_enter Tryz.func7, Tryz.ntmps7
  go_upto_region 1 with (fail)
  have hh : ∀ a b : Obj, ((w.alloc a).alloc b).heap[w.heap.size]? = some a ∧ ((w.alloc a).alloc b).heap[w.heap.size + 1]? = some b ∧ Below w.heap.size w ((w.alloc a).alloc b) := fun a b => by
    refine ⟨?_, ?_, ((Below.refl _ _).alloc (Nat.le_refl _) _).alloc (by simp) _⟩
    all_goals
      show ((w.heap.push a).push b)[_]? = _
      simp only [Array.getElem?_push, Array.size_push]
      repeat (first | rw [if_pos trivial] | rw [if_neg (by omega)] | rw [if_pos (by omega)])
  obtain ⟨k1, k2, b2⟩ := hh (.cells #[.int .i64 F, .int .i64 O, .slice A n c] 30) (.cells #[.int .i64 F', .int .i64 O', .slice A' n' c'] 30)
  clear hh
  generalize (w.alloc (.cells #[.int .i64 F, .int .i64 O, .slice A n c] 30)).alloc (.cells #[.int .i64 F', .int .i64 O', .slice A' n' c'] 30) = w2 at k1 k2 b2 ⊢
  have p0 : w2.cell? ⟨w.heap.size, 0, none⟩ = some (.int .i64 F) := cell_of_block k1 rfl
  have p1 : w2.cell? ⟨w.heap.size, 1, none⟩ = some (.int .i64 O) := cell_of_block k1 rfl
  have p2 : w2.cell? ⟨w.heap.size, 2, none⟩ = some (.slice A n c) := cell_of_block k1 rfl
  have HD1 := Lib.hid (HC1.out w2 b2)
  unfold chkOf at HD1
  go_wp2_with fail
  refine HD1.out.mono ?_; rintro e w3 ⟨rfl, b3⟩
  have q1 := (b3.block _ (lt_of_block k1)).trans k1
  have q2 := (b3.block _ (lt_of_block k2)).trans k2
  have B3 := below_then b2 b2.size b3
  clear p0 p1 p2 k1 k2 b2 b3 HD1
  have p0 : w3.cell? ⟨w.heap.size, 0, none⟩ = some (.int .i64 F) := cell_of_block q1 rfl
  have p1 : w3.cell? ⟨w.heap.size, 1, none⟩ = some (.int .i64 O) := cell_of_block q1 rfl
  have p2 : w3.cell? ⟨w.heap.size, 2, none⟩ = some (.slice A n c) := cell_of_block q1 rfl
  have HD2 := Lib.hid (HC2.out w3 B3)
  unfold chkOf at HD2
  go_wp2_with fail
  refine HD2.out.mono ?_; rintro e w4 ⟨rfl, b4⟩
  have k1 := (b4.block _ (lt_of_block q1)).trans q1
  have k2 := (b4.block _ (lt_of_block q2)).trans q2
  have B4 := below_then B3 B3.size b4
  have HB4 := Lib.hid B4
  have KS := Lib.hid (fun (W : World) (hW : Below w4.heap.size w4 W) => And.intro ((hW.block _ (lt_of_block k1)).trans k1) ((hW.block _ (lt_of_block k2)).trans k2))
  have HW := Lib.hid (fun (W : World) (hW : Below w4.heap.size w4 W) => below_then HB4.out HB4.out.size hW)
  clear p0 p1 p2 q1 q2 k1 k2 B3 B4 b4 HD2 HC1 HC2
  go_upto_region 3 with (fail)
  have hdr : Below w4.heap.size w4 w4.drew := (Below.refl _ _).drew
  go_region_held3 (fun W => W.cell? ⟨w.heap.size, 0, none⟩ = some (.int .i64 F) ∧ W.cell? ⟨w.heap.size, 1, none⟩ = some (.int .i64 O) ∧ W.cell? ⟨w.heap.size, 2, none⟩ = some (.slice A n c) ∧
      W.cell? ⟨w.heap.size + 1, 0, none⟩ = some (.int .i64 F') ∧ W.cell? ⟨w.heap.size + 1, 1, none⟩ = some (.int .i64 O') ∧ W.cell? ⟨w.heap.size + 1, 2, none⟩ = some (.slice A' n' c'))
    (first
      | exact ⟨cell_of_block (KS.out _ (by assumption)).1 rfl, cell_of_block (KS.out _ (by assumption)).1 rfl, cell_of_block (KS.out _ (by assumption)).1 rfl, cell_of_block (KS.out _ (by assumption)).2 rfl, cell_of_block (KS.out _ (by assumption)).2 rfl, cell_of_block (KS.out _ (by assumption)).2 rfl⟩
      | exact ⟨cell_of_block (KS.out _ (Below.refl _ _)).1 rfl, cell_of_block (KS.out _ (Below.refl _ _)).1 rfl, cell_of_block (KS.out _ (Below.refl _ _)).1 rfl, cell_of_block (KS.out _ (Below.refl _ _)).2 rfl, cell_of_block (KS.out _ (Below.refl _ _)).2 rfl, cell_of_block (KS.out _ (Below.refl _ _)).2 rfl⟩)
    (first
      | (go_at_call 15; (with_reducible refine (lives_any _ (HT.out _ (HW.out _ (by assumption)))).mono ?_); rintro e w5 ⟨rfl, b5⟩; have b5' := chainB (w3 := w4) (by assumption) b5)
      | (go_at_call 16; (with_reducible refine (HS2.out _ (HW.out _ (by assumption))).mono ?_); rintro e w5 ⟨rfl, b5⟩; have b5' := chainB (w3 := w4) (by assumption) b5; try (have hcp := hcp.below b5))
      | (go_at_call 29; (with_reducible refine (HS1.out _ (HW.out _ (by assumption))).mono ?_); rintro e w5 ⟨rfl, b5⟩; have b5' := chainB (w3 := w4) (by assumption) b5; try (have hcp := hcp.below b5))
      | (go_at_call 18; (with_reducible refine (Copy_any F O A n c ops _ (HP.out _ (HW.out _ (by assumption))) (by omega) HCB.out).mono ?_); rintro e w5 ⟨A2, n2, c2, rfl, hcp0, b5⟩; have hcp := hcp0.opsAt; have b5' := chainB (w3 := w4) (by assumption) b5)
      | (go_at_call 29; (with_reducible refine (Same_any F O F O A A2 n c n2 c2 ops ops _ (HP.out _ (HW.out _ (by assumption))) hcp).mono ?_); rintro e w5 ⟨rfl, b5⟩; have b5' := chainB (w3 := w4) (by assumption) b5; rw [HRF.out]))
  all_goals
    go_wp2
    go_ret
    exact ⟨rfl, HW.out _ (by assumption)⟩

end Go.Proofs.YtekcpapkicmckaaGreatDoor
