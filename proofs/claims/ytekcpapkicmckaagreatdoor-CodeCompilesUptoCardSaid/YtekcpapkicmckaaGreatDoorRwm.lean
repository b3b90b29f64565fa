/- The walk of thicketlaw19.CodeCompiles. -/
import Derived.Test.YtekcpapkicmckaaGreatDoorRcp
import Derived.Test.YtekcpapkicmckaaGreatDoorEcp
namespace Go.Proofs.YtekcpapkicmckaaGreatDoor
open Go.RowKit

theorem EnsAt.below {W W' : World} {name : ByteArray} {FA : Option Addr} {fn fc : Nat} {BA : Option Addr} {bn bc : Nat} {TA : Option Addr} {tn tc : Nat} {feats : List ByteArray} {bs : List Int} {ts : List TrV} (h : EnsAt W name FA fn fc BA bn bc TA tn tc feats bs ts) (hb : Below W.heap.size W W') : EnsAt W' name FA fn fc BA bn bc TA tn tc feats bs ts :=
  ⟨h.nsize, h.ftexts.below hb, h.fmany, h.fsize, h.base.below hb, h.bmany, h.trees.below hb, h.tmany, h.nodes, h.cats⟩
theorem pCompile_any (name : ByteArray) (FA : Option Addr) (fn fc : Nat) (O : Int) (BA : Option Addr) (bn bc : Nat) (TA : Option Addr) (tn tc : Nat) (base : List Int) (ts : List TrV) (w : World) (hb : Ints w BA bn bc base) (ht : TrsAt w TA tn tc ts) (hsum : manyNodes ts ≤ 1048576) :
    Calls Tryz.prog 13 #[.agg #[.string name, .slice FA fn fc, .int .i64 O, .slice BA bn bc, .slice TA tn tc]] w (CompilePost (fn : Int) O (compileV (fn : Int) O base ts) w) := by
  by_cases hbad : O < 1 ∨ 64 < O ∨ (bn : Int) ≠ O ∨ 65536 < (fn : Int)
  · exact Compile_size name FA fn fc O BA bn bc TA tn tc base ts w hb.len hbad
  · exact Compile_good name FA fn fc O BA bn bc TA tn tc base ts w hb ht (by omega) (by omega) (by omega) (by omega) (by omega)
theorem CompilePost.both {F O K FF OO : Int} {T : List OpV} {w : World} {e : Ending} {w' : World} (h1 : (if K = 0 then F else 0) = FF) (h2 : (if K = 0 then O else 0) = OO) (h : CompilePost F O (T, K) w e w') :
    ∃ A n c, e = .returned (.tuple #[.agg #[.int .i64 FF, .int .i64 OO, .slice A n c], .int .i64 K]) ∧ OwnOps w' w.heap.size A n c T ∧ Below w.heap.size w w' := by
  subst h1 h2
  exact h
theorem alikeL_refl : ∀ l : List OpV, alikeL l l = true
  | [] => rfl
  | v :: l => by simp [alikeL, alikeV, alikeL_refl l]
theorem sameV_refl (ops : List OpV) (F O : Int) : sameV F O F O ops ops = true := by
  unfold sameV
  simp [alikeL_refl]

set_option maxHeartbeats 4000000 in
set_option maxRecDepth 100000 in
theorem compiles_true (name : ByteArray) (FA : Option Addr) (fn fc : Nat) (O : Int) (BA : Option Addr) (bn bc : Nat) (TA : Option Addr) (tn tc : Nat) (feats : List ByteArray) (base : List Int) (ts : List TrV) (w : World)
    (he : EnsAt w name FA fn fc BA bn bc TA tn tc feats base ts) (hT : TabsS w) :
    Calls Tryz.prog 3 #[.agg #[.string name, .slice FA fn fc, .int .i64 O, .slice BA bn bc, .slice TA tn tc]] w fun e w' => e = .returned (.bool true) ∧ Below w.heap.size w w' := by
  have HE := Lib.hid (fun W (h : Below w.heap.size w W) => he.below h)
  have HT := Lib.hid (fun W (h : Below w.heap.size w W) => hT.below h)
  have HNM := Lib.hid he.nodes
  obtain ⟨T, K, hR⟩ : ∃ T K, compileV (fn : Int) O base ts = (T, K) := ⟨_, _, rfl⟩
  obtain ⟨FF, hFF⟩ : ∃ FF, (if K = 0 then (fn : Int) else 0) = FF := ⟨_, rfl⟩
  obtain ⟨OO, hOO⟩ : ∃ OO, (if K = 0 then O else 0) = OO := ⟨_, rfl⟩
  have HF := Lib.hid hFF
  have HO := Lib.hid hOO
  have HR := Lib.hid hR
  clear he hT hR hFF hOO
  go_enter Tryz.func3, Tryz.ntmps3
  go_upto_region 1 with (fail)
  have b2 := (Below.refl w.heap.size w).alloc (Nat.le_refl _) (.cells #[.string name, .slice FA fn fc, .int .i64 O, .slice BA bn bc, .slice TA tn tc] 26)
  have k2 := heap_alloc_new w (.cells #[.string name, .slice FA fn fc, .int .i64 O, .slice BA bn bc, .slice TA tn tc] 26)
  generalize w.alloc (.cells #[.string name, .slice FA fn fc, .int .i64 O, .slice BA bn bc, .slice TA tn tc] 26) = w2 at b2 k2 ⊢
  have p0 : w2.cell? ⟨w.heap.size, 0, none⟩ = some (.string name) := cell_of_block k2 rfl
  have p1 : w2.cell? ⟨w.heap.size, 1, none⟩ = some (.slice FA fn fc) := cell_of_block k2 rfl
  have p2 : w2.cell? ⟨w.heap.size, 2, none⟩ = some (.int .i64 O) := cell_of_block k2 rfl
  have p3 : w2.cell? ⟨w.heap.size, 3, none⟩ = some (.slice BA bn bc) := cell_of_block k2 rfl
  have p4 : w2.cell? ⟨w.heap.size, 4, none⟩ = some (.slice TA tn tc) := cell_of_block k2 rfl
  have hcp := ECopy_any name FA fn fc O BA bn bc TA tn tc feats base ts w2 (HE.out _ b2)
  unfold ECopyPost at hcp
  have HCP := Lib.hid hcp
  have HB2 := Lib.hid b2
  have HK2 := Lib.hid k2
  clear hcp b2 k2
  go_wp2_with fail
  refine HCP.out.mono ?_; rintro e w3 ⟨FA2, fc2, BA2, bc2, TA2, tc2, rfl, hf3, hb3, ht3, b3⟩
  have B3 := below_then HB2.out HB2.out.size b3
  have k3 := (b3.block _ (lt_of_block HK2.out)).trans HK2.out
  clear p0 p1 p2 p3 p4 HCP b3
  go_upto_region 2 with (fail)
  have b4 := (Below.refl w3.heap.size w3).alloc (Nat.le_refl _) (.cells #[.string name, .slice FA2 fn fc2, .int .i64 O, .slice BA2 bn bc2, .slice TA2 tn tc2] 26)
  have h4 := heap_alloc_new w3 (.cells #[.string name, .slice FA2 fn fc2, .int .i64 O, .slice BA2 bn bc2, .slice TA2 tn tc2] 26)
  generalize w3.alloc (.cells #[.string name, .slice FA2 fn fc2, .int .i64 O, .slice BA2 bn bc2, .slice TA2 tn tc2] 26) = w4 at b4 h4 ⊢
  have hf4 := hf3.below b4
  have hb4 := hb3.below b4
  have ht4 := ht3.below b4
  have k4 := (b4.block _ (lt_of_block k3)).trans k3
  have HB4 := Lib.hid (below_then B3 B3.size b4)
  have HW4 := Lib.hid (fun (W : World) (hW : Below w4.heap.size w4 W) => below_then HB4.out HB4.out.size hW)
  have HC := Lib.hid (fun (W : World) (hW : Below w4.heap.size w4 W) => And.intro (hf4.below hW) (And.intro (hb4.below hW) (ht4.below hW)))
  have KS4 := Lib.hid (fun (W : World) (hW : Below w4.heap.size w4 W) => And.intro ((hW.block _ (lt_of_block k4)).trans k4) ((hW.block _ (lt_of_block h4)).trans h4))
  have hC4 := pCompile_any name FA2 fn fc2 O BA2 bn bc2 TA2 tn tc2 base ts w4 hb4 ht4 HNM.out
  rw [HR.out] at hC4
  have HC4 := Lib.hid (hC4.mono fun _ _ h => h.both HF.out HO.out)
  have p0 : w4.cell? ⟨w3.heap.size, 0, none⟩ = some (.string name) := cell_of_block h4 rfl
  have p1 : w4.cell? ⟨w3.heap.size, 1, none⟩ = some (.slice FA2 fn fc2) := cell_of_block h4 rfl
  have p2 : w4.cell? ⟨w3.heap.size, 2, none⟩ = some (.int .i64 O) := cell_of_block h4 rfl
  have p3 : w4.cell? ⟨w3.heap.size, 3, none⟩ = some (.slice BA2 bn bc2) := cell_of_block h4 rfl
  have p4 : w4.cell? ⟨w3.heap.size, 4, none⟩ = some (.slice TA2 tn tc2) := cell_of_block h4 rfl
  clear hf3 hb3 ht3 B3 k3 b4 h4 hf4 hb4 ht4 k4 hC4
  go_wp2_with fail
  refine HC4.out.mono ?_; rintro e w5 ⟨A3, n3, c3, rfl, ho5, b5⟩
  clear p0 p1 p2 p3 p4 HC4
  have HB5 := Lib.hid b5
  have HO5 := Lib.hid ho5
  clear b5 ho5
  go_upto_region 3 with (fail)
  have b6 := (Below.refl w5.heap.size w5).alloc (Nat.le_refl _) (.cells #[.int .i64 FF, .int .i64 OO, .slice A3 n3 c3] 30)
  have h6 := heap_alloc_new w5 (.cells #[.int .i64 FF, .int .i64 OO, .slice A3 n3 c3] 30)
  generalize w5.alloc (.cells #[.int .i64 FF, .int .i64 OO, .slice A3 n3 c3] 30) = w6 at b6 h6 ⊢
  have hq6 := HO5.out.opsAt.below b6
  have B6 := below_then HB5.out HB5.out.size b6
  have HB6 := Lib.hid B6
  have HQ := Lib.hid (fun (W : World) (hW : Below w6.heap.size w6 W) => hq6.below hW)
  have KS6 := Lib.hid (fun (W : World) (hW : Below w6.heap.size w6 W) => (hW.block _ (lt_of_block h6)).trans h6)
  have HW6 := Lib.hid (fun (W : World) (hW : Below w6.heap.size w6 W) => below_then HB6.out HB6.out.size hW)
  have hRd := rCompile_any name FA fn fc O BA bn bc TA tn tc base ts w6 (HE.out _ (HW4.out _ B6)).base (HE.out _ (HW4.out _ B6)).trees HNM.out
  rw [HR.out] at hRd
  have HRD := Lib.hid (hRd.mono fun _ _ h => h.both HF.out HO.out)
  have p0 : w6.cell? ⟨w.heap.size, 0, none⟩ = some (.string name) := cell_of_block (KS4.out _ B6).1 rfl
  have p1 : w6.cell? ⟨w.heap.size, 1, none⟩ = some (.slice FA fn fc) := cell_of_block (KS4.out _ B6).1 rfl
  have p2 : w6.cell? ⟨w.heap.size, 2, none⟩ = some (.int .i64 O) := cell_of_block (KS4.out _ B6).1 rfl
  have p3 : w6.cell? ⟨w.heap.size, 3, none⟩ = some (.slice BA bn bc) := cell_of_block (KS4.out _ B6).1 rfl
  have p4 : w6.cell? ⟨w.heap.size, 4, none⟩ = some (.slice TA tn tc) := cell_of_block (KS4.out _ B6).1 rfl
  clear b6 h6 hq6 B6 hRd HO5 HB5
  go_wp2_with fail
  refine HRD.out.mono ?_; rintro e w7 ⟨A4, n4, c4, rfl, ho7, b7⟩
  clear p0 p1 p2 p3 p4 HRD
  have HB7 := Lib.hid b7
  have HO7 := Lib.hid ho7
  clear b7 ho7
  go_upto_region 4 with (fail)
  have b8 := (Below.refl w7.heap.size w7).alloc (Nat.le_refl _) (.cells #[.int .i64 FF, .int .i64 OO, .slice A4 n4 c4] 30)
  have h8 := heap_alloc_new w7 (.cells #[.int .i64 FF, .int .i64 OO, .slice A4 n4 c4] 30)
  generalize w7.alloc (.cells #[.int .i64 FF, .int .i64 OO, .slice A4 n4 c4] 30) = w8 at b8 h8 ⊢
  have hr8 := HO7.out.opsAt.below b8
  have HB8 := Lib.hid (below_then HB7.out HB7.out.size b8)
  have HRr := Lib.hid (fun (W : World) (hW : Below w8.heap.size w8 W) => hr8.below hW)
  have KS8 := Lib.hid (fun (W : World) (hW : Below w8.heap.size w8 W) => (hW.block _ (lt_of_block h8)).trans h8)
  have HW8 := Lib.hid (fun (W : World) (hW : Below w8.heap.size w8 W) => below_then HB8.out HB8.out.size hW)
  have HL := Lib.hid (lives_any w8 (HT.out _ (HW4.out _ (HW6.out _ HB8.out))))
  clear b8 h8 hr8 HO7 HB7
  go_wp2_with fail
  refine HL.out.mono ?_; rintro e w9 ⟨rfl, b9⟩
  have HB9 := Lib.hid b9
  have p0 : w9.cell? ⟨w5.heap.size, 0, none⟩ = some (.int .i64 FF) := cell_of_block (KS6.out _ (HW8.out _ b9)) rfl
  have p1 : w9.cell? ⟨w5.heap.size, 1, none⟩ = some (.int .i64 OO) := cell_of_block (KS6.out _ (HW8.out _ b9)) rfl
  have p2 : w9.cell? ⟨w5.heap.size, 2, none⟩ = some (.slice A3 n3 c3) := cell_of_block (KS6.out _ (HW8.out _ b9)) rfl
  have r0 : w9.cell? ⟨w7.heap.size, 0, none⟩ = some (.int .i64 FF) := cell_of_block (KS8.out _ b9) rfl
  have r1 : w9.cell? ⟨w7.heap.size, 1, none⟩ = some (.int .i64 OO) := cell_of_block (KS8.out _ b9) rfl
  have r2 : w9.cell? ⟨w7.heap.size, 2, none⟩ = some (.slice A4 n4 c4) := cell_of_block (KS8.out _ b9) rfl
  have hS := rSame_any FF OO FF OO A3 A4 n3 c3 n4 c4 T T w9 (HQ.out _ (HW8.out _ b9)) (HRr.out _ b9)
  rw [sameV_refl] at hS
  have HS := Lib.hid hS
  clear hS b9 HL
  go_wp2_with fail
  refine HS.out.mono ?_; rintro e w10 ⟨rfl, b10⟩
  have B10 := chainB HB9.out b10
  clear p0 p1 p2 r0 r1 r2 HS b10
  have hE10 := HE.out _ (HW4.out _ (HW6.out _ (HW8.out _ B10)))
  have hC10 := HC.out _ (HW6.out _ (HW8.out _ B10))
  have ks10 := KS4.out _ (HW6.out _ (HW8.out _ B10))
  have p0 : w10.cell? ⟨w3.heap.size, 0, none⟩ = some (.string name) := cell_of_block ks10.2 rfl
  have p1 : w10.cell? ⟨w3.heap.size, 1, none⟩ = some (.slice FA2 fn fc2) := cell_of_block ks10.2 rfl
  have p2 : w10.cell? ⟨w3.heap.size, 2, none⟩ = some (.int .i64 O) := cell_of_block ks10.2 rfl
  have p3 : w10.cell? ⟨w3.heap.size, 3, none⟩ = some (.slice BA2 bn bc2) := cell_of_block ks10.2 rfl
  have p4 : w10.cell? ⟨w3.heap.size, 4, none⟩ = some (.slice TA2 tn tc2) := cell_of_block ks10.2 rfl
  have r0 : w10.cell? ⟨w.heap.size, 0, none⟩ = some (.string name) := cell_of_block ks10.1 rfl
  have r1 : w10.cell? ⟨w.heap.size, 1, none⟩ = some (.slice FA fn fc) := cell_of_block ks10.1 rfl
  have r2 : w10.cell? ⟨w.heap.size, 2, none⟩ = some (.int .i64 O) := cell_of_block ks10.1 rfl
  have r3 : w10.cell? ⟨w.heap.size, 3, none⟩ = some (.slice BA bn bc) := cell_of_block ks10.1 rfl
  have r4 : w10.cell? ⟨w.heap.size, 4, none⟩ = some (.slice TA tn tc) := cell_of_block ks10.1 rfl
  have HS := Lib.hid (rEnsSame_true name FA2 fn fc2 O BA2 bn bc2 TA2 tn tc2 FA fc BA bc TA tc feats base ts w10 hC10.1 hE10.ftexts hC10.2.1 hE10.base hC10.2.2 hE10.trees)
  have HB10 := Lib.hid B10
  clear B10 hE10 hC10 ks10
  go_wp2_with fail
  refine HS.out.mono ?_; rintro e w11 ⟨rfl, b11⟩
  have HB11 := Lib.hid (HW4.out _ (HW6.out _ (HW8.out _ (chainB HB10.out b11))))
  clear p0 p1 p2 p3 p4 r0 r1 r2 r3 r4 b11
  go_wp2
  go_ret
  exact ⟨rfl, HB11.out⟩

end Go.Proofs.YtekcpapkicmckaaGreatDoor
