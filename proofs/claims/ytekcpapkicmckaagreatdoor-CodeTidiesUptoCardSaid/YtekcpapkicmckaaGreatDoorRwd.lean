/- The walk of thicketlaw19.CodeTidies. -/
import Derived.Test.YtekcpapkicmckaaGreatDoorRwr
import Derived.Test.YtekcpapkicmckaaGreatDoorRtd
namespace Go.Proofs.YtekcpapkicmckaaGreatDoor
open Go.RowKit

theorem CompilePost.any {F O K FF OO : Int} {T : List OpV} {w : World} {e : Ending} {w' : World} (h1 : (if K = 0 then F else 0) = FF) (h2 : (if K = 0 then O else 0) = OO) (h : CompilePost F O (T, K) w e w') :
    ∃ A n c, e = .returned (.tuple #[.agg #[.int .i64 FF, .int .i64 OO, .slice A n c], .int .i64 K]) ∧ OwnOps w' w.heap.size A n c T ∧ Below w.heap.size w w' := by
  subst h1 h2
  exact h

set_option maxHeartbeats 4000000 in
set_option maxRecDepth 100000 in
theorem tidies_true (F O : Int) (A : Option Addr) (n c : Nat) (ops : List OpV) (w : World) (hp : OpsAt w A n c ops) (hn : n ≤ 1048576) (hcb : ∀ u ∈ ops, u.cats.length ≤ 1048576) (hT : TabsS w) :
    Calls Tryz.prog 4 #[.agg #[.int .i64 F, .int .i64 O, .slice A n c]] w fun e w' => e = .returned (.bool true) ∧ Below w.heap.size w w' := by
  have HP := Lib.hid (fun W (h : Below w.heap.size w W) => hp.below h)
  have HT := Lib.hid (fun W (h : Below w.heap.size w W) => hT.below h)
  have HCB := Lib.hid (fun u hu => Nat.le_trans (hcb u hu) (show 1048576 ≤ 1000000000000 by omega))
  obtain ⟨T, K, hR⟩ : ∃ T K, tidyV F O ops = (T, K) := ⟨_, _, rfl⟩
  obtain ⟨FF, hFF⟩ : ∃ FF, (if K = 0 then F else 0) = FF := ⟨_, rfl⟩
  obtain ⟨OO, hOO⟩ : ∃ OO, (if K = 0 then O else 0) = OO := ⟨_, rfl⟩
  have HF := Lib.hid hFF
  have HO := Lib.hid hOO
  have HR := Lib.hid hR
  have HLN := Lib.hid hp.len
  clear hp hT hcb hR hFF hOO
  go_enter Tryz.func4, Tryz.ntmps4
  go_upto_region 1 with (fail)
  have b2 := (Below.refl w.heap.size w).alloc (Nat.le_refl _) (.cells #[.int .i64 F, .int .i64 O, .slice A n c] 30)
  have k2 := heap_alloc_new w (.cells #[.int .i64 F, .int .i64 O, .slice A n c] 30)
  generalize w.alloc (.cells #[.int .i64 F, .int .i64 O, .slice A n c] 30) = w2 at b2 k2 ⊢
  have p0 : w2.cell? ⟨w.heap.size, 0, none⟩ = some (.int .i64 F) := cell_of_block k2 rfl
  have p1 : w2.cell? ⟨w.heap.size, 1, none⟩ = some (.int .i64 O) := cell_of_block k2 rfl
  have p2 : w2.cell? ⟨w.heap.size, 2, none⟩ = some (.slice A n c) := cell_of_block k2 rfl
  have HCP := Lib.hid (Copy_any F O A n c ops w2 (HP.out _ b2) (by omega) HCB.out)
  go_wp2_with fail
  refine HCP.out.mono ?_; rintro e w3 ⟨A2, n2, c2, rfl, ho, b3⟩
  obtain rfl : n = n2 := by have := ho.len; have := HLN.out; omega
  have B3 := below_then b2 b2.size b3
  have k3 := (b3.block _ (lt_of_block k2)).trans k2
  clear p0 p1 p2 b2 k2 HCP b3
  go_upto_region 2 with (fail)
  have b4 := (Below.refl w3.heap.size w3).alloc (Nat.le_refl _) (.cells #[.int .i64 F, .int .i64 O, .slice A2 n c2] 30)
  have h4 := heap_alloc_new w3 (.cells #[.int .i64 F, .int .i64 O, .slice A2 n c2] 30)
  generalize w3.alloc (.cells #[.int .i64 F, .int .i64 O, .slice A2 n c2] 30) = w4 at b4 h4 ⊢
  have hc4 := ho.opsAt.below b4
  have k4 := (b4.block _ (lt_of_block k3)).trans k3
  have HB4 := Lib.hid (below_then B3 B3.size b4)
  have HW4 := Lib.hid (fun (W : World) (hW : Below w4.heap.size w4 W) => below_then HB4.out HB4.out.size hW)
  have HC := Lib.hid (fun (W : World) (hW : Below w4.heap.size w4 W) => hc4.below hW)
  have KS4 := Lib.hid (fun (W : World) (hW : Below w4.heap.size w4 W) => And.intro ((hW.block _ (lt_of_block k4)).trans k4) ((hW.block _ (lt_of_block h4)).trans h4))
  have hTd := Tidy_any F O A2 n c2 ops w4 hc4 (by omega) HCB.out
  rw [HR.out] at hTd
  have HTD := Lib.hid (hTd.mono fun _ _ h => h.any HF.out HO.out)
  have p0 : w4.cell? ⟨w3.heap.size, 0, none⟩ = some (.int .i64 F) := cell_of_block h4 rfl
  have p1 : w4.cell? ⟨w3.heap.size, 1, none⟩ = some (.int .i64 O) := cell_of_block h4 rfl
  have p2 : w4.cell? ⟨w3.heap.size, 2, none⟩ = some (.slice A2 n c2) := cell_of_block h4 rfl
  clear ho B3 k3 b4 h4 hc4 k4 hTd
  go_wp2_with fail
  refine HTD.out.mono ?_; rintro e w5 ⟨A3, n3, c3, rfl, ho5, b5⟩
  clear p0 p1 p2 HTD
  have HB5 := Lib.hid b5
  have HO5 := Lib.hid ho5
  clear b5 ho5
  go_upto_region 3 with (fail)
  have b6 := (Below.refl w5.heap.size w5).alloc (Nat.le_refl _) (.cells #[.int .i64 FF, .int .i64 OO, .slice A3 n3 c3] 30)
  have h6 := heap_alloc_new w5 (.cells #[.int .i64 FF, .int .i64 OO, .slice A3 n3 c3] 30)
  generalize w5.alloc (.cells #[.int .i64 FF, .int .i64 OO, .slice A3 n3 c3] 30) = w6 at b6 h6 ⊢
  have hq6 := HO5.out.opsAt.below b6
  have B6 := below_then HB5.out HB5.out.size b6
  have HB6 := Lib.hid B6
  have HQ := Lib.hid (fun (W : World) (hW : Below w6.heap.size w6 W) => hq6.below hW)
  have KS6 := Lib.hid (fun (W : World) (hW : Below w6.heap.size w6 W) => (hW.block _ (lt_of_block h6)).trans h6)
  have HW6 := Lib.hid (fun (W : World) (hW : Below w6.heap.size w6 W) => below_then HB6.out HB6.out.size hW)
  have hRd := rTidy_any F O A n c ops w6 (HP.out _ (HW4.out _ B6)) (by omega) HCB.out
  rw [HR.out] at hRd
  have HRD := Lib.hid (hRd.mono fun _ _ h => h.any HF.out HO.out)
  have p0 : w6.cell? ⟨w.heap.size, 0, none⟩ = some (.int .i64 F) := cell_of_block (KS4.out _ B6).1 rfl
  have p1 : w6.cell? ⟨w.heap.size, 1, none⟩ = some (.int .i64 O) := cell_of_block (KS4.out _ B6).1 rfl
  have p2 : w6.cell? ⟨w.heap.size, 2, none⟩ = some (.slice A n c) := cell_of_block (KS4.out _ B6).1 rfl
  clear b6 h6 hq6 B6 hRd HO5 HB5
  go_wp2_with fail
  refine HRD.out.mono ?_; rintro e w7 ⟨A4, n4, c4, rfl, ho7, b7⟩
  clear p0 p1 p2 HRD
  have HB7 := Lib.hid b7
  have HO7 := Lib.hid ho7
  clear b7 ho7
  go_upto_region 4 with (fail)
  have b8 := (Below.refl w7.heap.size w7).alloc (Nat.le_refl _) (.cells #[.int .i64 FF, .int .i64 OO, .slice A4 n4 c4] 30)
  have h8 := heap_alloc_new w7 (.cells #[.int .i64 FF, .int .i64 OO, .slice A4 n4 c4] 30)
  generalize w7.alloc (.cells #[.int .i64 FF, .int .i64 OO, .slice A4 n4 c4] 30) = w8 at b8 h8 ⊢
  have hr8 := HO7.out.opsAt.below b8
  have HB8 := Lib.hid (below_then HB7.out HB7.out.size b8)
  have HRr := Lib.hid (fun (W : World) (hW : Below w8.heap.size w8 W) => hr8.below hW)
  have KS8 := Lib.hid (fun (W : World) (hW : Below w8.heap.size w8 W) => (hW.block _ (lt_of_block h8)).trans h8)
  have HW8 := Lib.hid (fun (W : World) (hW : Below w8.heap.size w8 W) => below_then HB8.out HB8.out.size hW)
  have HL := Lib.hid (lives_any w8 (HT.out _ (HW4.out _ (HW6.out _ HB8.out))))
  clear b8 h8 hr8 HO7 HB7
  go_wp2_with fail
  refine HL.out.mono ?_; rintro e w9 ⟨rfl, b9⟩
  have HB9 := Lib.hid b9
  have p0 : w9.cell? ⟨w5.heap.size, 0, none⟩ = some (.int .i64 FF) := cell_of_block (KS6.out _ (HW8.out _ b9)) rfl
  have p1 : w9.cell? ⟨w5.heap.size, 1, none⟩ = some (.int .i64 OO) := cell_of_block (KS6.out _ (HW8.out _ b9)) rfl
  have p2 : w9.cell? ⟨w5.heap.size, 2, none⟩ = some (.slice A3 n3 c3) := cell_of_block (KS6.out _ (HW8.out _ b9)) rfl
  have r0 : w9.cell? ⟨w7.heap.size, 0, none⟩ = some (.int .i64 FF) := cell_of_block (KS8.out _ b9) rfl
  have r1 : w9.cell? ⟨w7.heap.size, 1, none⟩ = some (.int .i64 OO) := cell_of_block (KS8.out _ b9) rfl
  have r2 : w9.cell? ⟨w7.heap.size, 2, none⟩ = some (.slice A4 n4 c4) := cell_of_block (KS8.out _ b9) rfl
  have hS := rSame_any FF OO FF OO A3 A4 n3 c3 n4 c4 T T w9 (HQ.out _ (HW8.out _ b9)) (HRr.out _ b9)
  rw [sameR_refl] at hS
  have HS := Lib.hid hS
  clear hS b9 HL
  go_wp2_with fail
  refine HS.out.mono ?_; rintro e w10 ⟨rfl, b10⟩
  have B10 := chainB HB9.out b10
  clear p0 p1 p2 r0 r1 r2 HS b10
  have p0 : w10.cell? ⟨w3.heap.size, 0, none⟩ = some (.int .i64 F) := cell_of_block (KS4.out _ (HW6.out _ (HW8.out _ B10))).2 rfl
  have p1 : w10.cell? ⟨w3.heap.size, 1, none⟩ = some (.int .i64 O) := cell_of_block (KS4.out _ (HW6.out _ (HW8.out _ B10))).2 rfl
  have p2 : w10.cell? ⟨w3.heap.size, 2, none⟩ = some (.slice A2 n c2) := cell_of_block (KS4.out _ (HW6.out _ (HW8.out _ B10))).2 rfl
  have r0 : w10.cell? ⟨w.heap.size, 0, none⟩ = some (.int .i64 F) := cell_of_block (KS4.out _ (HW6.out _ (HW8.out _ B10))).1 rfl
  have r1 : w10.cell? ⟨w.heap.size, 1, none⟩ = some (.int .i64 O) := cell_of_block (KS4.out _ (HW6.out _ (HW8.out _ B10))).1 rfl
  have r2 : w10.cell? ⟨w.heap.size, 2, none⟩ = some (.slice A n c) := cell_of_block (KS4.out _ (HW6.out _ (HW8.out _ B10))).1 rfl
  have hS := rSame_any F O F O A2 A n c2 n c ops ops w10 (HC.out _ (HW6.out _ (HW8.out _ B10))) (HP.out _ (HW4.out _ (HW6.out _ (HW8.out _ B10))))
  rw [sameR_refl] at hS
  have HS := Lib.hid hS
  have HB10 := Lib.hid B10
  clear hS B10
  go_wp2_with fail
  refine HS.out.mono ?_; rintro e w11 ⟨rfl, b11⟩
  have HB11 := Lib.hid (HW4.out _ (HW6.out _ (HW8.out _ (chainB HB10.out b11))))
  clear p0 p1 p2 r0 r1 r2 b11
  go_wp2
  go_ret
  exact ⟨rfl, HB11.out⟩

end Go.Proofs.YtekcpapkicmckaaGreatDoor
