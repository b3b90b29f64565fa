/- The contract of thicketref19.goes. -/
import Derived.Test.YtekcpapkicmckaaGreatDoorRnn
namespace Go.Proofs.YtekcpapkicmckaaGreatDoor
open Go.RowKit

theorem nodeSide_num (o : OpV) (x : Nat) (h : o.kind ≠ 2) : nodeSide ⟨2, 0, 0, o.thr, [], o.missing, 0, 0⟩ x = sideV (decide (o.kind = 2)) o.thr o.cats o.missing x := by
  unfold nodeSide sideV
  simp [h]
theorem nodeSide_cat (o : OpV) (x : Nat) (h : o.kind = 2) : nodeSide ⟨3, 0, 0, 0, o.cats, o.missing, 0, 0⟩ x = sideV (decide (o.kind = 2)) o.thr o.cats o.missing x := by
  unfold nodeSide sideV
  simp [h]

set_option maxRecDepth 100000 in
set_option maxHeartbeats 1000000 in
theorem rgoes_any (B : Option Addr) (m d : Nat) (v : OpV) (X : Option Addr) (xn xc : Nat) (xs : List Nat) (w : World) (hx : Sl w X xn xc (fls xs)) (hc : Ints w B m d v.cats) (hf0 : 0 ≤ v.feature) (hf1 : v.feature < xn) :
    Calls Tryz.prog 45 #[.agg (opCells B m d v).toArray, .slice X xn xc] w fun e w' => e = .returned (.bool (goesOn v xs)) ∧ Below w.heap.size w w' := by
  have hxl : xs.length = xn := by have := hx.len; rwa [fls_length] at this
  have hnb := hx.big
  obtain ⟨b, o, rfl, hcl⟩ := hx.cells (by omega)
  obtain ⟨f, hf⟩ := Int.eq_ofNat_of_zero_le hf0
  have hfc := hcl f (by omega)
  rw [fls_getD (by omega)] at hfc
  have hfd : v.feature.toNat = f := by omega
  obtain ⟨x, hxx⟩ : ∃ x, xs.getD f 0 = x := ⟨_, rfl⟩
  rw [hxx] at hfc
  obtain ⟨r, hr⟩ : ∃ r, goesOn v xs = r := ⟨_, rfl⟩
  rw [hr]
  unfold goesOn at hr
  rw [hfd, hxx] at hr
  have hbb := World.block_lt_of_cell? w _ hfc
  simp only at hbb
  have B1 := (Below.refl w.heap.size w).alloc (Nat.le_refl _) (.cells (opCells B m d v).toArray 75)
  have hO1 := heap_alloc_new w (.cells (opCells B m d v).toArray 75)
  unfold opCells at B1 hO1 ⊢
  obtain ⟨vf, hvf⟩ : ∃ y, v.feature = y := ⟨_, rfl⟩
  rw [hvf] at hf hf0 hf1 B1 hO1 ⊢
  subst hf
  have k1 : (f : Int) < (xn : Int) := by omega
  have hsf : ∀ (W : World) (a : Addr) (b : Nat), (store a (.float .f64 b)).run Tryz.prog W = stored Tryz.prog W a (.float .f64 b) .plain := fun W a b => run_store _ W a _ _ rfl
  clear hx hcl hxx hxl hfd hvf
  go_enter Tryz.func45, Tryz.ntmps45
  go_upto_region 1 with (fail)
  generalize w.alloc (.cells #[.int .u8 (v.kind : Int), .int .i64 (f : Int), .float .f64 v.thr, .slice B m d, .int .u8 (v.missing : Int), .int .i64 v.output, .int .i64 v.value, .int .i64 v.dest] 75) = W1 at *
  have hOl := lt_of_block hO1
  have x1 : W1.cell? ⟨b, o + f, none⟩ = some (.float .f64 x) := (B1.cell (p := ⟨b, o + f, none⟩) hbb).trans hfc
  have o0 : W1.cell? ⟨w.heap.size, 0, none⟩ = some (.int .u8 (v.kind : Int)) := cell_of_block hO1 rfl
  have o1 : W1.cell? ⟨w.heap.size, 1, none⟩ = some (.int .i64 (f : Int)) := cell_of_block hO1 rfl
  have o2 : W1.cell? ⟨w.heap.size, 2, none⟩ = some (.float .f64 v.thr) := cell_of_block hO1 rfl
  have o3 : W1.cell? ⟨w.heap.size, 3, none⟩ = some (.slice B m d) := cell_of_block hO1 rfl
  have o4 : W1.cell? ⟨w.heap.size, 4, none⟩ = some (.int .u8 (v.missing : Int)) := cell_of_block hO1 rfl
  have hbl : b < W1.heap.size := by have := B1.size; omega
  have HX1 := Lib.hid x1
  have HO1 := Lib.hid hO1
  have HC := Lib.hid (hc.below B1)
  clear hfc hc hO1
  by_cases h2 : v.kind = 2
  · have HS := Lib.hid (nodeSide_cat v x h2)
    have f1 : ((v.kind : Int) == 2) = true := by simp; omega
    have f2 : decide ((v.kind : Int) = 2) = true := by simp; omega
    have H2 := Lib.hid h2
    clear h2
    go_upto_region 4 with (fail)
    have b2 := (Below.refl W1.heap.size W1).alloc (Nat.le_refl _) (.cells #[.int .u8 3, .int .i64 0, .int .i64 0, .float .f64 0, .slice B m d, .int .u8 (v.missing : Int), .int .i64 0, .int .i64 0] 72)
    have hN := heap_alloc_new W1 (.cells #[.int .u8 3, .int .i64 0, .int .i64 0, .float .f64 0, .slice B m d, .int .u8 (v.missing : Int), .int .i64 0, .int .i64 0] 72)
    generalize W1.alloc (.cells #[.int .u8 3, .int .i64 0, .int .i64 0, .float .f64 0, .slice B m d, .int .u8 (v.missing : Int), .int .i64 0, .int .i64 0] 72) = W2 at *
    have hO2 := (b2.block _ hOl).trans HO1.out
    have x2 : W2.cell? ⟨b, o + f, none⟩ = some (.float .f64 x) := (b2.cell (p := ⟨b, o + f, none⟩) hbl).trans HX1.out
    have o1' : W2.cell? ⟨w.heap.size, 1, none⟩ = some (.int .i64 (f : Int)) := cell_of_block hO2 rfl
    have n0 : W2.cell? ⟨W1.heap.size, 0, none⟩ = _ := cell_of_block hN rfl
    have n1 : W2.cell? ⟨W1.heap.size, 1, none⟩ = _ := cell_of_block hN rfl
    have n2 : W2.cell? ⟨W1.heap.size, 2, none⟩ = _ := cell_of_block hN rfl
    have n3 : W2.cell? ⟨W1.heap.size, 3, none⟩ = _ := cell_of_block hN rfl
    have n4 : W2.cell? ⟨W1.heap.size, 4, none⟩ = _ := cell_of_block hN rfl
    have n5 : W2.cell? ⟨W1.heap.size, 5, none⟩ = _ := cell_of_block hN rfl
    have n6 : W2.cell? ⟨W1.heap.size, 6, none⟩ = _ := cell_of_block hN rfl
    have n7 : W2.cell? ⟨W1.heap.size, 7, none⟩ = _ := cell_of_block hN rfl
    have HB2 := Lib.hid (below_then B1 B1.size b2)
    have HG := Lib.hid (rGoes_any B m d x ⟨3, 0, 0, 0, v.cats, v.missing, 0, 0⟩ W2.drew ((HC.out.below (b2.trans (Below.refl _ _).drew))))
    rw [HS.out] at HG
    unfold ndCells at HG
    simp only at HG
    obtain ⟨s, hs⟩ : ∃ s, sideV (decide (v.kind = 2)) v.thr v.cats v.missing x = s := ⟨_, rfl⟩
    rw [hs] at HG
    have HRR := Lib.hid (show r = decide (s = 1) by rw [← hr, hs])
    clear o0 o1 o2 o3 o4 x1 hO2 hN b2 hs hr hOl hbl hbb B1
    go_still_tail 6, (by kernel_rfl)
    change wpList _ _ _ _ _ W2.drew
    go_wp2_with fail
    refine HG.out.mono ?_; rintro e w3 ⟨rfl, b3⟩
    have BF := below_then HB2.out HB2.out.size (show Below W2.heap.size W2 w3 from (Below.refl W2.heap.size W2).drew.trans b3)
    clear x2 o1' n0 n1 n2 n3 n4 n5 n6 n7
    go_wp2
    go_ret
    refine ⟨congrArg (fun x => Ending.returned (Value.bool x)) ?_, BF⟩
    rw [HRR.out]
    by_cases h : s = 1 <;> simp [h]
    try omega
  · have HS := Lib.hid (nodeSide_num v x h2)
    have f1 : ((v.kind : Int) == 2) = false := by simp; omega
    have f2 : decide ((v.kind : Int) = 2) = false := by simp; omega
    have H2 := Lib.hid h2
    clear h2
    go_upto_region 4 with (fail)
    have b2 := (Below.refl W1.heap.size W1).alloc (Nat.le_refl _) (.cells #[.int .u8 2, .int .i64 0, .int .i64 0, .float .f64 v.thr, .slice none 0 0, .int .u8 (v.missing : Int), .int .i64 0, .int .i64 0] 72)
    have hN := heap_alloc_new W1 (.cells #[.int .u8 2, .int .i64 0, .int .i64 0, .float .f64 v.thr, .slice none 0 0, .int .u8 (v.missing : Int), .int .i64 0, .int .i64 0] 72)
    generalize W1.alloc (.cells #[.int .u8 2, .int .i64 0, .int .i64 0, .float .f64 v.thr, .slice none 0 0, .int .u8 (v.missing : Int), .int .i64 0, .int .i64 0] 72) = W2 at *
    have hO2 := (b2.block _ hOl).trans HO1.out
    have x2 : W2.cell? ⟨b, o + f, none⟩ = some (.float .f64 x) := (b2.cell (p := ⟨b, o + f, none⟩) hbl).trans HX1.out
    have o1' : W2.cell? ⟨w.heap.size, 1, none⟩ = some (.int .i64 (f : Int)) := cell_of_block hO2 rfl
    have n0 : W2.cell? ⟨W1.heap.size, 0, none⟩ = _ := cell_of_block hN rfl
    have n1 : W2.cell? ⟨W1.heap.size, 1, none⟩ = _ := cell_of_block hN rfl
    have n2 : W2.cell? ⟨W1.heap.size, 2, none⟩ = _ := cell_of_block hN rfl
    have n3 : W2.cell? ⟨W1.heap.size, 3, none⟩ = _ := cell_of_block hN rfl
    have n4 : W2.cell? ⟨W1.heap.size, 4, none⟩ = _ := cell_of_block hN rfl
    have n5 : W2.cell? ⟨W1.heap.size, 5, none⟩ = _ := cell_of_block hN rfl
    have n6 : W2.cell? ⟨W1.heap.size, 6, none⟩ = _ := cell_of_block hN rfl
    have n7 : W2.cell? ⟨W1.heap.size, 7, none⟩ = _ := cell_of_block hN rfl
    have HB2 := Lib.hid (below_then B1 B1.size b2)
    have HG := Lib.hid (rGoes_any none 0 0 x ⟨2, 0, 0, v.thr, [], v.missing, 0, 0⟩ W2.drew (⟨Sl.nil _ 0, by simp⟩))
    rw [HS.out] at HG
    unfold ndCells at HG
    simp only at HG
    obtain ⟨s, hs⟩ : ∃ s, sideV (decide (v.kind = 2)) v.thr v.cats v.missing x = s := ⟨_, rfl⟩
    rw [hs] at HG
    have HRR := Lib.hid (show r = decide (s = 1) by rw [← hr, hs])
    clear o0 o1 o2 o3 o4 x1 hO2 hN b2 hs hr hOl hbl hbb B1
    go_still_tail 6, (by kernel_rfl)
    change wpList _ _ _ _ _ W2.drew
    go_wp2_with fail
    refine HG.out.mono ?_; rintro e w3 ⟨rfl, b3⟩
    have BF := below_then HB2.out HB2.out.size (show Below W2.heap.size W2 w3 from (Below.refl W2.heap.size W2).drew.trans b3)
    clear x2 o1' n0 n1 n2 n3 n4 n5 n6 n7
    go_wp2
    go_ret
    refine ⟨congrArg (fun x => Ending.returned (Value.bool x)) ?_, BF⟩
    rw [HRR.out]
    by_cases h : s = 1 <;> simp [h]
    try omega

end Go.Proofs.YtekcpapkicmckaaGreatDoor
