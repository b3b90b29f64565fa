/- The walk of thicketlaw19.CodeRuns. -/
import Derived.Test.YtekcpapkicmckaaGreatDoorLvs
import Derived.Test.YtekcpapkicmckaaGreatDoorRfc
import Derived.Test.YtekcpapkicmckaaGreatDoorRru
import Derived.Test.YtekcpapkicmckaaGreatDoorRcy
namespace Go.Proofs.YtekcpapkicmckaaGreatDoor
open Go.RowKit

theorem alikeR_refl : ∀ ops : List OpV, alikeL ops ops = true
  | [] => rfl
  | v :: l => by simp [alikeL, alikeV, alikeR_refl l]
theorem sameR_refl (ops : List OpV) (F O : Int) : sameV F O F O ops ops = true := by
  unfold sameV
  simp [alikeR_refl]

theorem RunsPost.parts {R1 R2 : List Int} {R3 : Int} {w : World} {e : Ending} {w' : World} (h : RunsPost (R1, R2, R3) w e w') :
    ∃ SA sn sc, e = .returned (.tuple #[.slice SA sn sc, .int .i64 (R2.length : Int), .int .i64 R3]) ∧ OwnInts 2 w' w.heap.size SA sn sc R1 ∧ Below w.heap.size w w' := h
theorem TracePost.parts {R1 R2 : List Int} {R3 : Int} {w : World} {e : Ending} {w' : World} (h : TracePost (R1, R2, R3) w e w') :
    ∃ DA dn dc, e = .returned (.tuple #[.slice DA dn dc, .int .i64 R3]) ∧ OwnInts 3 w' w.heap.size DA dn dc R2 ∧ Below w.heap.size w w' := h
theorem RunPost.parts {R1 R2 : List Int} {R3 : Int} {w : World} {e : Ending} {w' : World} (h : RunPost (R1, R2, R3) w e w') :
    ∃ SA sn sc DA dn dc, e = .returned (.tuple #[.slice SA sn sc, .slice DA dn dc, .int .i64 R3]) ∧ OwnInts 2 w' w.heap.size SA sn sc R1 ∧ OwnInts 3 w' w.heap.size DA dn dc R2 ∧ Below w.heap.size w w' := h
theorem drewN_below (w : World) (q : Nat) : Below w.heap.size w (w.drewN q) := below_drawn (Below.refl _ _) q

set_option maxHeartbeats 4000000 in
set_option maxRecDepth 100000 in
theorem runs_true (F O : Int) (A X : Option Addr) (n c xn xc : Nat) (ops : List OpV) (xs : List Nat) (w : World) (hp : OpsAt w A n c ops) (hx : Sl w X xn xc (fls xs)) (hn : n ≤ 1048576) (hcb : ∀ u ∈ ops, u.cats.length ≤ 1048576) (hT : TabsS w) :
    Calls Tryz.prog 5 #[.agg #[.int .i64 F, .int .i64 O, .slice A n c], .slice X xn xc] w fun e w' => e = .returned (.bool true) ∧ Below w.heap.size w w' := by
  have HP := Lib.hid (fun W (h : Below w.heap.size w W) => hp.below h)
  have HX := Lib.hid (fun W (h : Below w.heap.size w W) => hx.below h)
  have HT := Lib.hid (fun W (h : Below w.heap.size w W) => hT.below h)
  have HCB := Lib.hid (fun u hu => Nat.le_trans (hcb u hu) (show 1048576 ≤ 1000000000000 by omega))
  obtain ⟨R1, R2, R3, hR⟩ : ∃ R1 R2 R3, runV F O ops xs = (R1, R2, R3) := ⟨_, _, _, rfl⟩
  have HR := Lib.hid hR
  have HLN := Lib.hid hp.len
  clear hp hx hT hcb hR
  go_enter Tryz.func5, Tryz.ntmps5
  go_upto_region 1 with (fail)
  have b2 := (Below.refl w.heap.size w).alloc (Nat.le_refl _) (.cells #[.int .i64 F, .int .i64 O, .slice A n c] 30)
  have k2 := heap_alloc_new w (.cells #[.int .i64 F, .int .i64 O, .slice A n c] 30)
  generalize w.alloc (.cells #[.int .i64 F, .int .i64 O, .slice A n c] 30) = w2 at b2 k2 ⊢
  have p0 : w2.cell? ⟨w.heap.size, 0, none⟩ = some (.int .i64 F) := cell_of_block k2 rfl
  have p1 : w2.cell? ⟨w.heap.size, 1, none⟩ = some (.int .i64 O) := cell_of_block k2 rfl
  have p2 : w2.cell? ⟨w.heap.size, 2, none⟩ = some (.slice A n c) := cell_of_block k2 rfl
  have HCP := Lib.hid (Copy_any F O A n c ops w2 (HP.out _ b2) (by omega) HCB.out)
  go_wp2_with fail
  refine HCP.out.mono ?_; rintro e w3 ⟨A2, n2, c2, rfl, ho, b3⟩
  obtain rfl : n = n2 := by have := ho.len; have := HLN.out; omega
  have B3 := below_then b2 b2.size b3
  have k3 := (b3.block _ (lt_of_block k2)).trans k2
  clear p0 p1 p2 b2 k2 HCP b3
  go_upto_region 2 with (fail)
  have b4 := (Below.refl w3.heap.size w3).alloc (Nat.le_refl _) (.cells #[.int .i64 F, .int .i64 O, .slice A2 n c2] 30)
  have h4 := heap_alloc_new w3 (.cells #[.int .i64 F, .int .i64 O, .slice A2 n c2] 30)
  generalize w3.alloc (.cells #[.int .i64 F, .int .i64 O, .slice A2 n c2] 30) = w4 at b4 h4 ⊢
  have hc4 := ho.opsAt.below b4
  have k4 := (b4.block _ (lt_of_block k3)).trans k3
  have HB4 := Lib.hid (below_then B3 B3.size b4)
  have HW := Lib.hid (fun (W : World) (hW : Below w4.heap.size w4 W) => below_then HB4.out HB4.out.size hW)
  have KS := Lib.hid (fun (W : World) (hW : Below w4.heap.size w4 W) => And.intro ((hW.block _ (lt_of_block k4)).trans k4) ((hW.block _ (lt_of_block h4)).trans h4))
  have HC := Lib.hid (fun (W : World) (hW : Below w4.heap.size w4 W) => hc4.below hW)
  have hR1 := Run_any F O A2 X n c2 xn xc ops xs w4 hc4 (HX.out _ HB4.out) (by omega)
  rw [HR.out] at hR1
  have HR1 := Lib.hid (hR1.mono fun _ _ h => h.parts)
  have p0 : w4.cell? ⟨w3.heap.size, 0, none⟩ = some (.int .i64 F) := cell_of_block h4 rfl
  have p1 : w4.cell? ⟨w3.heap.size, 1, none⟩ = some (.int .i64 O) := cell_of_block h4 rfl
  have p2 : w4.cell? ⟨w3.heap.size, 2, none⟩ = some (.slice A2 n c2) := cell_of_block h4 rfl
  clear ho B3 k3 b4 h4 hc4 k4 hR1
  go_wp2_with fail
  refine HR1.out.mono ?_; rintro e w5 ⟨SA, sn, sc, rfl, hs5, b5⟩
  clear p0 p1 p2 HR1
  have p0 : w5.cell? ⟨w3.heap.size, 0, none⟩ = some (.int .i64 F) := cell_of_block (KS.out _ b5).2 rfl
  have p1 : w5.cell? ⟨w3.heap.size, 1, none⟩ = some (.int .i64 O) := cell_of_block (KS.out _ b5).2 rfl
  have p2 : w5.cell? ⟨w3.heap.size, 2, none⟩ = some (.slice A2 n c2) := cell_of_block (KS.out _ b5).2 rfl
  have hR2 := Trace_any F O A2 X n c2 xn xc ops xs w5 (HC.out _ b5) (HX.out _ (HW.out _ b5)) (by omega)
  rw [HR.out] at hR2
  have HR2 := Lib.hid (hR2.mono fun _ _ h => h.parts)
  have HB5 := Lib.hid b5
  have HS5 := Lib.hid hs5.ints
  clear b5 hs5 hR2
  go_wp2_with fail
  refine HR2.out.mono ?_; rintro e w6 ⟨DA, dn, dc, rfl, hd6, b6⟩
  have B6 := chainB HB5.out b6
  clear p0 p1 p2 HR2
  have p0 : w6.cell? ⟨w.heap.size, 0, none⟩ = some (.int .i64 F) := cell_of_block (KS.out _ B6).1 rfl
  have p1 : w6.cell? ⟨w.heap.size, 1, none⟩ = some (.int .i64 O) := cell_of_block (KS.out _ B6).1 rfl
  have p2 : w6.cell? ⟨w.heap.size, 2, none⟩ = some (.slice A n c) := cell_of_block (KS.out _ B6).1 rfl
  have hR3 := rRun_any F O A X n c xn xc ops xs w6 (HP.out _ (HW.out _ B6)) (HX.out _ (HW.out _ B6)) (by omega)
  rw [HR.out] at hR3
  have HR3 := Lib.hid (hR3.mono fun _ _ h => h.parts)
  have HS6 := Lib.hid (HS5.out.below b6)
  have HD6 := Lib.hid hd6.ints
  have HB6 := Lib.hid B6
  clear b6 hd6 hR3 HS5 HB5 B6
  go_wp2_with fail
  refine HR3.out.mono ?_; rintro e w7 ⟨UA, un, uc, VA, vn, vc, rfl, hu7, hv7, b7⟩
  obtain rfl : R2.length = vn := hv7.len
  have B7 := chainB HB6.out b7
  have HS7 := Lib.hid (HS6.out.below b7)
  have HD7 := Lib.hid (HD6.out.below b7)
  have HU7 := Lib.hid hu7.ints
  have HV7 := Lib.hid hv7.ints
  have HL := Lib.hid (lives_any w7 (HT.out _ (HW.out _ B7)))
  have HB7 := Lib.hid B7
  clear p0 p1 p2 HR3 HS6 HD6 HB6 b7 hu7 hv7 B7
  go_wp2_with fail
  refine HL.out.mono ?_; rintro e w8 ⟨rfl, b8⟩
  have B8 := chainB HB7.out b8
  have hS8 := (sums_any SA UA sn sc un uc R1 R1 w8 (HS7.out.below b8) (HU7.out.below b8)).mono (fun e w' (h : e = .returned (.bool (decide (R1 = R1))) ∧ ∃ q, w' = w8.drewN q) => (show e = .returned (.bool true) ∧ ∃ q, w' = w8.drewN q from ⟨by rw [h.1, decide_eq_true rfl], h.2⟩))
  have HS8 := Lib.hid hS8
  have HB8 := Lib.hid B8
  have HD8 := Lib.hid (HD7.out.below b8)
  have HV8 := Lib.hid (HV7.out.below b8)
  clear HL hS8 B8 b8 HD7 HV7 HS7 HU7
  go_wp2_with fail
  refine HS8.out.mono ?_; rintro e w9 ⟨rfl, q9, rfl⟩
  have b9 := drewN_below w8 q9
  have hI9 := (ints_any DA VA dn dc R2.length vc R2 R2 _ (HD8.out.below b9) (HV8.out.below b9)).mono (fun e w' (h : e = .returned (.bool (decide (R2 = R2))) ∧ ∃ q, w' = (w8.drewN q9).drewN q) => (show e = .returned (.bool true) ∧ ∃ q, w' = (w8.drewN q9).drewN q from ⟨by rw [h.1, decide_eq_true rfl], h.2⟩))
  have HI9 := Lib.hid hI9
  have HB9 := Lib.hid (chainB HB8.out b9)
  clear hI9 b9 HS8 HD8 HV8
  go_wp2_with fail
  refine HI9.out.mono ?_; rintro e w10 ⟨rfl, q10, rfl⟩
  have b10 := drewN_below (w8.drewN q9) q10
  have B10 := chainB HB9.out b10
  generalize (w8.drewN q9).drewN q10 = w10 at B10 ⊢
  have p0 : w10.cell? ⟨w.heap.size, 0, none⟩ = some (.int .i64 F) := cell_of_block (KS.out _ B10).1 rfl
  have p1 : w10.cell? ⟨w.heap.size, 1, none⟩ = some (.int .i64 O) := cell_of_block (KS.out _ B10).1 rfl
  have p2 : w10.cell? ⟨w.heap.size, 2, none⟩ = some (.slice A n c) := cell_of_block (KS.out _ B10).1 rfl
  have r0 : w10.cell? ⟨w3.heap.size, 0, none⟩ = some (.int .i64 F) := cell_of_block (KS.out _ B10).2 rfl
  have r1 : w10.cell? ⟨w3.heap.size, 1, none⟩ = some (.int .i64 O) := cell_of_block (KS.out _ B10).2 rfl
  have r2 : w10.cell? ⟨w3.heap.size, 2, none⟩ = some (.slice A2 n c2) := cell_of_block (KS.out _ B10).2 rfl
  have hS := rSame_any F O F O A2 A n c2 n c ops ops w10 (HC.out _ B10) (HP.out _ (HW.out _ B10))
  rw [sameR_refl] at hS
  have HS := Lib.hid hS
  have HB10 := Lib.hid B10
  clear hS b10 HI9 B10
  go_wp2_with fail
  refine HS.out.mono ?_; rintro e w11 ⟨rfl, b11⟩
  have HB11 := Lib.hid (HW.out _ (chainB HB10.out b11))
  clear p0 p1 p2 r0 r1 r2 b11
  go_wp2
  go_ret
  exact ⟨rfl, HB11.out⟩

end Go.Proofs.YtekcpapkicmckaaGreatDoor
