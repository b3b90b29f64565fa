/- The contract of code.right: its last operation. The contract of code.right: tests and additions. The contract of code.right: categories. The contract of code.right: jumps, ends and what is none. The contract of code.right: whole. The contract of code.Check. -/
import Derived.Test.YtekcpapkicmckaaGreatDoorOpn
namespace Go.Proofs.YtekcpapkicmckaaGreatDoor
open Go.RowKit

theorem rightV_last (F O : Int) (n i : Nat) (v : OpV) (hk : v.kind ≠ 5) (h : (i : Int) = (n : Int) - 1) : rightV F O n i v = false := by
  unfold rightV
  have : decide ((i : Int) = (n : Int) - 1 → v.kind = 5) = false := by simp [h, hk]
  simp [this]

end Go.Proofs.YtekcpapkicmckaaGreatDoor

namespace Go.Proofs.YtekcpapkicmckaaGreatDoor
open Go.RowKit

set_option maxRecDepth 100000 in
set_option maxHeartbeats 8000000 in
theorem right_kind1 (F O : Int) (b o n c i g1 g2 g : Nat) (v : OpV) (w : World) (hn : n ≤ 281474976710656) (hv : OpIn w b (o + i * 8) v) (hk : KindTab w g1 g2 g) (hi : i < n) (hkd0 : v.kind = 1) :
    Calls Tryz.prog 47 #[.agg #[.int .i64 F, .int .i64 O, .slice (some ⟨b, o, none⟩) n c], .int .i64 (i : Int), .slice (some ⟨g, 0, none⟩) 6 6] w fun e w' => e = .returned (.bool (rightV F O n i v)) ∧ Below w.heap.size w w' := by
  have HKD := Lib.hid hkd0
  clear hkd0
  obtain ⟨B, m, d, hr, hcat, hrg⟩ := hv
  have B1 := (Below.refl w.heap.size w).alloc (Nat.le_refl _) (.cells #[.int .i64 F, .int .i64 O, .slice (some ⟨b, o, none⟩) n c] 30)
  have hr1 := rangeAt_below hr B1
  have r0 : _ = some _ := range_cell (o := o + i * 8) hr1 0 rfl
  rw [Nat.add_zero] at r0
  have r1 := range_cell hr1 1 rfl
  have r2 := range_cell hr1 2 rfl
  have r3 := range_cell hr1 3 rfl
  have r4 := range_cell hr1 4 rfl
  have r5 := range_cell hr1 5 rfl
  have r6 := range_cell hr1 6 rfl
  have r7 := range_cell hr1 7 rfl
  have hsf : ∀ (W : World) (a : Addr) (b : Nat), (store a (.float .f64 b)).run Tryz.prog W = stored Tryz.prog W a (.float .f64 b) .plain := fun W a b => run_store _ W a _ _ rfl
  have B2 := B1.alloc (by simp) (.cells (opCells B m d v).toArray 75)
  have hP : ((w.alloc (.cells #[.int .i64 F, .int .i64 O, .slice (some ⟨b, o, none⟩) n c] 30)).alloc (.cells (opCells B m d v).toArray 75)).heap[w.heap.size]? = some (.cells #[.int .i64 F, .int .i64 O, .slice (some ⟨b, o, none⟩) n c] 30 (0, 0)) := by
    show ((w.heap.push _).push _)[w.heap.size]? = _
    simp only [Array.getElem?_push, Array.size_push]
    rw [if_neg (by omega), if_pos trivial]
  have hQ : ((w.alloc (.cells #[.int .i64 F, .int .i64 O, .slice (some ⟨b, o, none⟩) n c] 30)).alloc (.cells (opCells B m d v).toArray 75)).heap[w.heap.size + 1]? = some (.cells (opCells B m d v).toArray 75 (0, 0)) := by
    show ((w.heap.push _).push _)[w.heap.size + 1]? = _
    simp only [Array.getElem?_push, Array.size_push]
    rw [if_pos trivial]
  have hk2 := hk.below B2
  have hcat2 := hcat.below B2
  go_enter Tryz.func47, Tryz.ntmps47
  go_upto_region 2 with (fail)
  unfold opCells at hP hQ B2 hk2 hcat2
  clear r0 r1 r2 r3 r4 r5 r6 r7 hr1 B1 hk hcat hr
  generalize (w.alloc (.cells #[.int .i64 F, .int .i64 O, .slice (some ⟨b, o, none⟩) n c] 30)).alloc (.cells #[.int .u8 (v.kind : Int), .int .i64 v.feature, .float .f64 v.thr, .slice B m d, .int .u8 (v.missing : Int), .int .i64 v.output, .int .i64 v.value, .int .i64 v.dest] 75) = W at hP hQ B2 hk2 hcat2 ⊢
  have p0 : W.cell? ⟨w.heap.size, 0, none⟩ = some (.int .i64 F) := cell_of_block hP rfl
  have p1 : W.cell? ⟨w.heap.size, 1, none⟩ = some (.int .i64 O) := cell_of_block hP rfl
  have p2 : W.cell? ⟨w.heap.size, 2, none⟩ = some (.slice (some ⟨b, o, none⟩) n c) := cell_of_block hP rfl
  have q0 : W.cell? ⟨w.heap.size + 1, 0, none⟩ = some (.int .u8 (v.kind : Int)) := cell_of_block hQ rfl
  have q1 : W.cell? ⟨w.heap.size + 1, 1, none⟩ = some (.int .i64 v.feature) := cell_of_block hQ rfl
  have q2 : W.cell? ⟨w.heap.size + 1, 2, none⟩ = some (.float .f64 v.thr) := cell_of_block hQ rfl
  have q3 : W.cell? ⟨w.heap.size + 1, 3, none⟩ = some (.slice B m d) := cell_of_block hQ rfl
  have q4 : W.cell? ⟨w.heap.size + 1, 4, none⟩ = some (.int .u8 (v.missing : Int)) := cell_of_block hQ rfl
  have q5 : W.cell? ⟨w.heap.size + 1, 5, none⟩ = some (.int .i64 v.output) := cell_of_block hQ rfl
  have q6 : W.cell? ⟨w.heap.size + 1, 6, none⟩ = some (.int .i64 v.value) := cell_of_block hQ rfl
  have q7 : W.cell? ⟨w.heap.size + 1, 7, none⟩ = some (.int .i64 v.dest) := cell_of_block hQ rfl
  have hkd := HKD.out
  rw [hkd] at q0
  have f64 := Tryz.f64bits
  have hsg : ∀ (W : World) (a : Addr) (fn : Fn) (x y : Array Value), (store a (.func fn x y)).run Tryz.prog W = stored Tryz.prog W a (.func fn x y) .plain := fun W a fn x y => run_store _ W a _ _ rfl
  have hsn : ∀ (W : World) (a : Addr), (store a .nilFunc).run Tryz.prog W = stored Tryz.prog W a .nilFunc .plain := fun W a => run_store _ W a _ _ rfl
  have t := hk2.t
  have hcm : v.cats = [] ↔ m = 0 := by rw [← hcat2.len]; exact List.length_eq_zero_iff.symm
  have hlt : w.heap.size + 1 < W.heap.size := lt_of_block hQ
  have t0 : W.cell? ⟨g, 6, none⟩ = some (.bool true) := cell_of_block t rfl
  have t1 : W.cell? ⟨g, 7, none⟩ = some (.bool true) := cell_of_block t rfl
  have t2 : W.cell? ⟨g, 8, none⟩ = some (.bool false) := cell_of_block t rfl
  have t3 : W.cell? ⟨g, 9, none⟩ = some (.bool false) := cell_of_block t rfl
  have t4 : W.cell? ⟨g, 10, none⟩ = some (.bool true) := cell_of_block t rfl
  have t5 : W.cell? ⟨g, 11, none⟩ = some (.func (.func 73) #[] #[.pointer (some ⟨g1, 0, none⟩)]) := cell_of_block t rfl
  have B3 := (Below.refl W.heap.size W).alloc (Nat.le_refl _) (.cells #[.bool true, .bool true, .bool false, .bool false, .bool true, .func (.func 73) #[] #[.pointer (some ⟨g1, 0, none⟩)]] 126)
  have hK := heap_alloc_new W (.cells #[.bool true, .bool true, .bool false, .bool false, .bool true, .func (.func 73) #[] #[.pointer (some ⟨g1, 0, none⟩)]] 126)
  by_cases hlast : (i : Int) = (n : Int) - 1
  · have hb := rightV_last F O n i v (by rw [hkd]; decide) hlast
    have hb2 := hb
    rw [hlast] at hb2
    have HBB := Lib.hid hb
    have HBC := Lib.hid hb2
    clear hb hb2
    go_wp2
    go_ret
    first | exact ⟨congrArg (fun x => Ending.returned (Value.bool x)) HBB.out.symm, B2⟩ | exact ⟨congrArg (fun x => Ending.returned (Value.bool x)) HBC.out.symm, B2⟩
  · have hl1 : decide ((i : Int) = (n : Int) - 1) = false := by simp; omega
    go_upto_region 5 with (fail)
    generalize W.alloc (.cells #[.bool true, .bool true, .bool false, .bool false, .bool true, .func (.func 73) #[] #[.pointer (some ⟨g1, 0, none⟩)]] 126) = W2 at B3 hK ⊢
    have P0 := (B3.cell (show w.heap.size < W.heap.size by omega)).trans p0
    have P1 := (B3.cell (show w.heap.size < W.heap.size by omega)).trans p1
    have P2 := (B3.cell (show w.heap.size < W.heap.size by omega)).trans p2
    have Q0 := (B3.cell (show w.heap.size + 1 < W.heap.size by omega)).trans q0
    have Q1 := (B3.cell (show w.heap.size + 1 < W.heap.size by omega)).trans q1
    have Q2 := (B3.cell (show w.heap.size + 1 < W.heap.size by omega)).trans q2
    have Q3 := (B3.cell (show w.heap.size + 1 < W.heap.size by omega)).trans q3
    have Q4 := (B3.cell (show w.heap.size + 1 < W.heap.size by omega)).trans q4
    have Q5 := (B3.cell (show w.heap.size + 1 < W.heap.size by omega)).trans q5
    have Q6 := (B3.cell (show w.heap.size + 1 < W.heap.size by omega)).trans q6
    have Q7 := (B3.cell (show w.heap.size + 1 < W.heap.size by omega)).trans q7
    have K0 : W2.cell? ⟨W.heap.size, 0, none⟩ = some (.bool true) := cell_of_block hK rfl
    have K1 : W2.cell? ⟨W.heap.size, 1, none⟩ = some (.bool true) := cell_of_block hK rfl
    have K2 : W2.cell? ⟨W.heap.size, 2, none⟩ = some (.bool false) := cell_of_block hK rfl
    have K3 : W2.cell? ⟨W.heap.size, 3, none⟩ = some (.bool false) := cell_of_block hK rfl
    have K4 : W2.cell? ⟨W.heap.size, 4, none⟩ = some (.bool true) := cell_of_block hK rfl
    have B4 := below_then B2 (by omega) B3
    clear p0 p1 p2 q0 q1 q2 q3 q4 q5 q6 q7 t0 t1 t2 t3 t4 t5 B3 hK t hk2 hP hQ B2
    go_wp2_with fail
    all_goals
      go_ret
      refine ⟨congrArg (fun x => Ending.returned (Value.bool x)) ?_, by first | exact B4 | exact B4.trans ⟨rfl, rfl, rfl, Nat.le_refl _, fun _ _ => rfl⟩⟩
      go_light
      clear P0 P1 P2 Q0 Q1 Q2 Q3 Q4 Q5 Q6 Q7 K0 K1 K2 K3 K4 B4 hcat2 hsf hsg hsn f64
      simp_all [rightV]
      try first | rfl | omega

set_option maxRecDepth 100000 in
set_option maxHeartbeats 8000000 in
theorem right_kind3 (F O : Int) (b o n c i g1 g2 g : Nat) (v : OpV) (w : World) (hn : n ≤ 281474976710656) (hv : OpIn w b (o + i * 8) v) (hk : KindTab w g1 g2 g) (hi : i < n) (hkd0 : v.kind = 3) :
    Calls Tryz.prog 47 #[.agg #[.int .i64 F, .int .i64 O, .slice (some ⟨b, o, none⟩) n c], .int .i64 (i : Int), .slice (some ⟨g, 0, none⟩) 6 6] w fun e w' => e = .returned (.bool (rightV F O n i v)) ∧ Below w.heap.size w w' := by
  have HKD := Lib.hid hkd0
  clear hkd0
  obtain ⟨B, m, d, hr, hcat, hrg⟩ := hv
  have B1 := (Below.refl w.heap.size w).alloc (Nat.le_refl _) (.cells #[.int .i64 F, .int .i64 O, .slice (some ⟨b, o, none⟩) n c] 30)
  have hr1 := rangeAt_below hr B1
  have r0 : _ = some _ := range_cell (o := o + i * 8) hr1 0 rfl
  rw [Nat.add_zero] at r0
  have r1 := range_cell hr1 1 rfl
  have r2 := range_cell hr1 2 rfl
  have r3 := range_cell hr1 3 rfl
  have r4 := range_cell hr1 4 rfl
  have r5 := range_cell hr1 5 rfl
  have r6 := range_cell hr1 6 rfl
  have r7 := range_cell hr1 7 rfl
  have hsf : ∀ (W : World) (a : Addr) (b : Nat), (store a (.float .f64 b)).run Tryz.prog W = stored Tryz.prog W a (.float .f64 b) .plain := fun W a b => run_store _ W a _ _ rfl
  have B2 := B1.alloc (by simp) (.cells (opCells B m d v).toArray 75)
  have hP : ((w.alloc (.cells #[.int .i64 F, .int .i64 O, .slice (some ⟨b, o, none⟩) n c] 30)).alloc (.cells (opCells B m d v).toArray 75)).heap[w.heap.size]? = some (.cells #[.int .i64 F, .int .i64 O, .slice (some ⟨b, o, none⟩) n c] 30 (0, 0)) := by
    show ((w.heap.push _).push _)[w.heap.size]? = _
    simp only [Array.getElem?_push, Array.size_push]
    rw [if_neg (by omega), if_pos trivial]
  have hQ : ((w.alloc (.cells #[.int .i64 F, .int .i64 O, .slice (some ⟨b, o, none⟩) n c] 30)).alloc (.cells (opCells B m d v).toArray 75)).heap[w.heap.size + 1]? = some (.cells (opCells B m d v).toArray 75 (0, 0)) := by
    show ((w.heap.push _).push _)[w.heap.size + 1]? = _
    simp only [Array.getElem?_push, Array.size_push]
    rw [if_pos trivial]
  have hk2 := hk.below B2
  have hcat2 := hcat.below B2
  go_enter Tryz.func47, Tryz.ntmps47
  go_upto_region 2 with (fail)
  unfold opCells at hP hQ B2 hk2 hcat2
  clear r0 r1 r2 r3 r4 r5 r6 r7 hr1 B1 hk hcat hr
  generalize (w.alloc (.cells #[.int .i64 F, .int .i64 O, .slice (some ⟨b, o, none⟩) n c] 30)).alloc (.cells #[.int .u8 (v.kind : Int), .int .i64 v.feature, .float .f64 v.thr, .slice B m d, .int .u8 (v.missing : Int), .int .i64 v.output, .int .i64 v.value, .int .i64 v.dest] 75) = W at hP hQ B2 hk2 hcat2 ⊢
  have p0 : W.cell? ⟨w.heap.size, 0, none⟩ = some (.int .i64 F) := cell_of_block hP rfl
  have p1 : W.cell? ⟨w.heap.size, 1, none⟩ = some (.int .i64 O) := cell_of_block hP rfl
  have p2 : W.cell? ⟨w.heap.size, 2, none⟩ = some (.slice (some ⟨b, o, none⟩) n c) := cell_of_block hP rfl
  have q0 : W.cell? ⟨w.heap.size + 1, 0, none⟩ = some (.int .u8 (v.kind : Int)) := cell_of_block hQ rfl
  have q1 : W.cell? ⟨w.heap.size + 1, 1, none⟩ = some (.int .i64 v.feature) := cell_of_block hQ rfl
  have q2 : W.cell? ⟨w.heap.size + 1, 2, none⟩ = some (.float .f64 v.thr) := cell_of_block hQ rfl
  have q3 : W.cell? ⟨w.heap.size + 1, 3, none⟩ = some (.slice B m d) := cell_of_block hQ rfl
  have q4 : W.cell? ⟨w.heap.size + 1, 4, none⟩ = some (.int .u8 (v.missing : Int)) := cell_of_block hQ rfl
  have q5 : W.cell? ⟨w.heap.size + 1, 5, none⟩ = some (.int .i64 v.output) := cell_of_block hQ rfl
  have q6 : W.cell? ⟨w.heap.size + 1, 6, none⟩ = some (.int .i64 v.value) := cell_of_block hQ rfl
  have q7 : W.cell? ⟨w.heap.size + 1, 7, none⟩ = some (.int .i64 v.dest) := cell_of_block hQ rfl
  have hkd := HKD.out
  rw [hkd] at q0
  have f64 := Tryz.f64bits
  have hsg : ∀ (W : World) (a : Addr) (fn : Fn) (x y : Array Value), (store a (.func fn x y)).run Tryz.prog W = stored Tryz.prog W a (.func fn x y) .plain := fun W a fn x y => run_store _ W a _ _ rfl
  have hsn : ∀ (W : World) (a : Addr), (store a .nilFunc).run Tryz.prog W = stored Tryz.prog W a .nilFunc .plain := fun W a => run_store _ W a _ _ rfl
  have t := hk2.t
  have hcm : v.cats = [] ↔ m = 0 := by rw [← hcat2.len]; exact List.length_eq_zero_iff.symm
  have hlt : w.heap.size + 1 < W.heap.size := lt_of_block hQ
  have t0 : W.cell? ⟨g, 18, none⟩ = some (.bool false) := cell_of_block t rfl
  have t1 : W.cell? ⟨g, 19, none⟩ = some (.bool false) := cell_of_block t rfl
  have t2 : W.cell? ⟨g, 20, none⟩ = some (.bool false) := cell_of_block t rfl
  have t3 : W.cell? ⟨g, 21, none⟩ = some (.bool true) := cell_of_block t rfl
  have t4 : W.cell? ⟨g, 22, none⟩ = some (.bool false) := cell_of_block t rfl
  have t5 : W.cell? ⟨g, 23, none⟩ = some (.func (.func 75) #[] #[]) := cell_of_block t rfl
  have B3 := (Below.refl W.heap.size W).alloc (Nat.le_refl _) (.cells #[.bool false, .bool false, .bool false, .bool true, .bool false, .func (.func 75) #[] #[]] 126)
  have hK := heap_alloc_new W (.cells #[.bool false, .bool false, .bool false, .bool true, .bool false, .func (.func 75) #[] #[]] 126)
  by_cases hlast : (i : Int) = (n : Int) - 1
  · have hb := rightV_last F O n i v (by rw [hkd]; decide) hlast
    have hb2 := hb
    rw [hlast] at hb2
    have HBB := Lib.hid hb
    have HBC := Lib.hid hb2
    clear hb hb2
    go_wp2
    go_ret
    first | exact ⟨congrArg (fun x => Ending.returned (Value.bool x)) HBB.out.symm, B2⟩ | exact ⟨congrArg (fun x => Ending.returned (Value.bool x)) HBC.out.symm, B2⟩
  · have hl1 : decide ((i : Int) = (n : Int) - 1) = false := by simp; omega
    go_upto_region 5 with (fail)
    generalize W.alloc (.cells #[.bool false, .bool false, .bool false, .bool true, .bool false, .func (.func 75) #[] #[]] 126) = W2 at B3 hK ⊢
    have P0 := (B3.cell (show w.heap.size < W.heap.size by omega)).trans p0
    have P1 := (B3.cell (show w.heap.size < W.heap.size by omega)).trans p1
    have P2 := (B3.cell (show w.heap.size < W.heap.size by omega)).trans p2
    have Q0 := (B3.cell (show w.heap.size + 1 < W.heap.size by omega)).trans q0
    have Q1 := (B3.cell (show w.heap.size + 1 < W.heap.size by omega)).trans q1
    have Q2 := (B3.cell (show w.heap.size + 1 < W.heap.size by omega)).trans q2
    have Q3 := (B3.cell (show w.heap.size + 1 < W.heap.size by omega)).trans q3
    have Q4 := (B3.cell (show w.heap.size + 1 < W.heap.size by omega)).trans q4
    have Q5 := (B3.cell (show w.heap.size + 1 < W.heap.size by omega)).trans q5
    have Q6 := (B3.cell (show w.heap.size + 1 < W.heap.size by omega)).trans q6
    have Q7 := (B3.cell (show w.heap.size + 1 < W.heap.size by omega)).trans q7
    have K0 : W2.cell? ⟨W.heap.size, 0, none⟩ = some (.bool false) := cell_of_block hK rfl
    have K1 : W2.cell? ⟨W.heap.size, 1, none⟩ = some (.bool false) := cell_of_block hK rfl
    have K2 : W2.cell? ⟨W.heap.size, 2, none⟩ = some (.bool false) := cell_of_block hK rfl
    have K3 : W2.cell? ⟨W.heap.size, 3, none⟩ = some (.bool true) := cell_of_block hK rfl
    have K4 : W2.cell? ⟨W.heap.size, 4, none⟩ = some (.bool false) := cell_of_block hK rfl
    have B4 := below_then B2 (by omega) B3
    clear p0 p1 p2 q0 q1 q2 q3 q4 q5 q6 q7 t0 t1 t2 t3 t4 t5 B3 hK t hk2 hP hQ B2
    go_wp2_with fail
    all_goals
      go_ret
      refine ⟨congrArg (fun x => Ending.returned (Value.bool x)) ?_, by first | exact B4 | exact B4.trans ⟨rfl, rfl, rfl, Nat.le_refl _, fun _ _ => rfl⟩⟩
      go_light
      clear P0 P1 P2 Q0 Q1 Q2 Q3 Q4 Q5 Q6 Q7 K0 K1 K2 K3 K4 B4 hcat2 hsf hsg hsn f64
      simp_all [rightV]
      try first | rfl | omega

end Go.Proofs.YtekcpapkicmckaaGreatDoor

namespace Go.Proofs.YtekcpapkicmckaaGreatDoor
open Go.RowKit

set_option maxRecDepth 100000 in
set_option maxHeartbeats 8000000 in
theorem right_kind2 (F O : Int) (b o n c i g1 g2 g : Nat) (v : OpV) (w : World) (hn : n ≤ 281474976710656) (hv : OpIn w b (o + i * 8) v) (hk : KindTab w g1 g2 g) (hi : i < n) (hkd0 : v.kind = 2) :
    Calls Tryz.prog 47 #[.agg #[.int .i64 F, .int .i64 O, .slice (some ⟨b, o, none⟩) n c], .int .i64 (i : Int), .slice (some ⟨g, 0, none⟩) 6 6] w fun e w' => e = .returned (.bool (rightV F O n i v)) ∧ Below w.heap.size w w' := by
  have HKD := Lib.hid hkd0
  clear hkd0
  obtain ⟨B, m, d, hr, hcat, hrg⟩ := hv
  have B1 := (Below.refl w.heap.size w).alloc (Nat.le_refl _) (.cells #[.int .i64 F, .int .i64 O, .slice (some ⟨b, o, none⟩) n c] 30)
  have hr1 := rangeAt_below hr B1
  have r0 : _ = some _ := range_cell (o := o + i * 8) hr1 0 rfl
  rw [Nat.add_zero] at r0
  have r1 := range_cell hr1 1 rfl
  have r2 := range_cell hr1 2 rfl
  have r3 := range_cell hr1 3 rfl
  have r4 := range_cell hr1 4 rfl
  have r5 := range_cell hr1 5 rfl
  have r6 := range_cell hr1 6 rfl
  have r7 := range_cell hr1 7 rfl
  have hsf : ∀ (W : World) (a : Addr) (b : Nat), (store a (.float .f64 b)).run Tryz.prog W = stored Tryz.prog W a (.float .f64 b) .plain := fun W a b => run_store _ W a _ _ rfl
  have B2 := B1.alloc (by simp) (.cells (opCells B m d v).toArray 75)
  have hP : ((w.alloc (.cells #[.int .i64 F, .int .i64 O, .slice (some ⟨b, o, none⟩) n c] 30)).alloc (.cells (opCells B m d v).toArray 75)).heap[w.heap.size]? = some (.cells #[.int .i64 F, .int .i64 O, .slice (some ⟨b, o, none⟩) n c] 30 (0, 0)) := by
    show ((w.heap.push _).push _)[w.heap.size]? = _
    simp only [Array.getElem?_push, Array.size_push]
    rw [if_neg (by omega), if_pos trivial]
  have hQ : ((w.alloc (.cells #[.int .i64 F, .int .i64 O, .slice (some ⟨b, o, none⟩) n c] 30)).alloc (.cells (opCells B m d v).toArray 75)).heap[w.heap.size + 1]? = some (.cells (opCells B m d v).toArray 75 (0, 0)) := by
    show ((w.heap.push _).push _)[w.heap.size + 1]? = _
    simp only [Array.getElem?_push, Array.size_push]
    rw [if_pos trivial]
  have hk2 := hk.below B2
  have hcat2 := hcat.below B2
  go_enter Tryz.func47, Tryz.ntmps47
  go_upto_region 2 with (fail)
  unfold opCells at hP hQ B2 hk2 hcat2
  clear r0 r1 r2 r3 r4 r5 r6 r7 hr1 B1 hk hcat hr
  generalize (w.alloc (.cells #[.int .i64 F, .int .i64 O, .slice (some ⟨b, o, none⟩) n c] 30)).alloc (.cells #[.int .u8 (v.kind : Int), .int .i64 v.feature, .float .f64 v.thr, .slice B m d, .int .u8 (v.missing : Int), .int .i64 v.output, .int .i64 v.value, .int .i64 v.dest] 75) = W at hP hQ B2 hk2 hcat2 ⊢
  have p0 : W.cell? ⟨w.heap.size, 0, none⟩ = some (.int .i64 F) := cell_of_block hP rfl
  have p1 : W.cell? ⟨w.heap.size, 1, none⟩ = some (.int .i64 O) := cell_of_block hP rfl
  have p2 : W.cell? ⟨w.heap.size, 2, none⟩ = some (.slice (some ⟨b, o, none⟩) n c) := cell_of_block hP rfl
  have q0 : W.cell? ⟨w.heap.size + 1, 0, none⟩ = some (.int .u8 (v.kind : Int)) := cell_of_block hQ rfl
  have q1 : W.cell? ⟨w.heap.size + 1, 1, none⟩ = some (.int .i64 v.feature) := cell_of_block hQ rfl
  have q2 : W.cell? ⟨w.heap.size + 1, 2, none⟩ = some (.float .f64 v.thr) := cell_of_block hQ rfl
  have q3 : W.cell? ⟨w.heap.size + 1, 3, none⟩ = some (.slice B m d) := cell_of_block hQ rfl
  have q4 : W.cell? ⟨w.heap.size + 1, 4, none⟩ = some (.int .u8 (v.missing : Int)) := cell_of_block hQ rfl
  have q5 : W.cell? ⟨w.heap.size + 1, 5, none⟩ = some (.int .i64 v.output) := cell_of_block hQ rfl
  have q6 : W.cell? ⟨w.heap.size + 1, 6, none⟩ = some (.int .i64 v.value) := cell_of_block hQ rfl
  have q7 : W.cell? ⟨w.heap.size + 1, 7, none⟩ = some (.int .i64 v.dest) := cell_of_block hQ rfl
  have hkd := HKD.out
  rw [hkd] at q0
  have f64 := Tryz.f64bits
  have hsg : ∀ (W : World) (a : Addr) (fn : Fn) (x y : Array Value), (store a (.func fn x y)).run Tryz.prog W = stored Tryz.prog W a (.func fn x y) .plain := fun W a fn x y => run_store _ W a _ _ rfl
  have hsn : ∀ (W : World) (a : Addr), (store a .nilFunc).run Tryz.prog W = stored Tryz.prog W a .nilFunc .plain := fun W a => run_store _ W a _ _ rfl
  have t := hk2.t
  have hcm : v.cats = [] ↔ m = 0 := by rw [← hcat2.len]; exact List.length_eq_zero_iff.symm
  have hlt : w.heap.size + 1 < W.heap.size := lt_of_block hQ
  have t0 : W.cell? ⟨g, 12, none⟩ = some (.bool true) := cell_of_block t rfl
  have t1 : W.cell? ⟨g, 13, none⟩ = some (.bool false) := cell_of_block t rfl
  have t2 : W.cell? ⟨g, 14, none⟩ = some (.bool true) := cell_of_block t rfl
  have t3 : W.cell? ⟨g, 15, none⟩ = some (.bool false) := cell_of_block t rfl
  have t4 : W.cell? ⟨g, 16, none⟩ = some (.bool true) := cell_of_block t rfl
  have t5 : W.cell? ⟨g, 17, none⟩ = some (.func (.func 73) #[] #[.pointer (some ⟨g2, 0, none⟩)]) := cell_of_block t rfl
  have B3 := (Below.refl W.heap.size W).alloc (Nat.le_refl _) (.cells #[.bool true, .bool false, .bool true, .bool false, .bool true, .func (.func 73) #[] #[.pointer (some ⟨g2, 0, none⟩)]] 126)
  have hK := heap_alloc_new W (.cells #[.bool true, .bool false, .bool true, .bool false, .bool true, .func (.func 73) #[] #[.pointer (some ⟨g2, 0, none⟩)]] 126)
  by_cases hlast : (i : Int) = (n : Int) - 1
  · have hb := rightV_last F O n i v (by rw [hkd]; decide) hlast
    have hb2 := hb
    rw [hlast] at hb2
    have HBB := Lib.hid hb
    have HBC := Lib.hid hb2
    clear hb hb2
    go_wp2
    go_ret
    first | exact ⟨congrArg (fun x => Ending.returned (Value.bool x)) HBB.out.symm, B2⟩ | exact ⟨congrArg (fun x => Ending.returned (Value.bool x)) HBC.out.symm, B2⟩
  · have hl1 : decide ((i : Int) = (n : Int) - 1) = false := by simp; omega
    go_upto_region 5 with (fail)
    generalize W.alloc (.cells #[.bool true, .bool false, .bool true, .bool false, .bool true, .func (.func 73) #[] #[.pointer (some ⟨g2, 0, none⟩)]] 126) = W2 at B3 hK ⊢
    have P0 := (B3.cell (show w.heap.size < W.heap.size by omega)).trans p0
    have P1 := (B3.cell (show w.heap.size < W.heap.size by omega)).trans p1
    have P2 := (B3.cell (show w.heap.size < W.heap.size by omega)).trans p2
    have Q0 := (B3.cell (show w.heap.size + 1 < W.heap.size by omega)).trans q0
    have Q1 := (B3.cell (show w.heap.size + 1 < W.heap.size by omega)).trans q1
    have Q2 := (B3.cell (show w.heap.size + 1 < W.heap.size by omega)).trans q2
    have Q3 := (B3.cell (show w.heap.size + 1 < W.heap.size by omega)).trans q3
    have Q4 := (B3.cell (show w.heap.size + 1 < W.heap.size by omega)).trans q4
    have Q5 := (B3.cell (show w.heap.size + 1 < W.heap.size by omega)).trans q5
    have Q6 := (B3.cell (show w.heap.size + 1 < W.heap.size by omega)).trans q6
    have Q7 := (B3.cell (show w.heap.size + 1 < W.heap.size by omega)).trans q7
    have K0 : W2.cell? ⟨W.heap.size, 0, none⟩ = some (.bool true) := cell_of_block hK rfl
    have K1 : W2.cell? ⟨W.heap.size, 1, none⟩ = some (.bool false) := cell_of_block hK rfl
    have K2 : W2.cell? ⟨W.heap.size, 2, none⟩ = some (.bool true) := cell_of_block hK rfl
    have K3 : W2.cell? ⟨W.heap.size, 3, none⟩ = some (.bool false) := cell_of_block hK rfl
    have K4 : W2.cell? ⟨W.heap.size, 4, none⟩ = some (.bool true) := cell_of_block hK rfl
    have B4 := below_then B2 (by omega) B3
    have HRI := Lib.hid (rising_any B m d v.cats W2 (hcat2.below B3))
    clear p0 p1 p2 q0 q1 q2 q3 q4 q5 q6 q7 t0 t1 t2 t3 t4 t5 B3 hK t hk2 hP hQ B2
    obtain ⟨ri, hri⟩ : ∃ ri, rising v.cats = ri := ⟨_, rfl⟩
    rw [hri] at HRI
    cases ri
    all_goals go_wp2_with (first | (go_at_call 77; with_reducible refine HRI.out.mono ?_; rintro e W3 ⟨rfl, qq, rfl⟩))
    all_goals
      go_ret
      refine ⟨congrArg (fun x => Ending.returned (Value.bool x)) ?_, by first | exact B4 | exact B4.trans ⟨rfl, rfl, rfl, Nat.le_refl _, fun _ _ => rfl⟩⟩
      go_light
      clear P0 P1 P2 Q0 Q1 Q2 Q3 Q4 Q5 Q6 Q7 K0 K1 K2 K3 K4 B4 hcat2 hsf hsg hsn f64 HRI
      simp_all [rightV]
      try first | rfl | omega

end Go.Proofs.YtekcpapkicmckaaGreatDoor

namespace Go.Proofs.YtekcpapkicmckaaGreatDoor
open Go.RowKit

set_option maxRecDepth 100000 in
set_option maxHeartbeats 8000000 in
theorem right_kind4 (F O : Int) (b o n c i g1 g2 g : Nat) (v : OpV) (w : World) (hn : n ≤ 281474976710656) (hv : OpIn w b (o + i * 8) v) (hk : KindTab w g1 g2 g) (hi : i < n) (hkd0 : v.kind = 4) :
    Calls Tryz.prog 47 #[.agg #[.int .i64 F, .int .i64 O, .slice (some ⟨b, o, none⟩) n c], .int .i64 (i : Int), .slice (some ⟨g, 0, none⟩) 6 6] w fun e w' => e = .returned (.bool (rightV F O n i v)) ∧ Below w.heap.size w w' := by
  have HKD := Lib.hid hkd0
  clear hkd0
  obtain ⟨B, m, d, hr, hcat, hrg⟩ := hv
  have B1 := (Below.refl w.heap.size w).alloc (Nat.le_refl _) (.cells #[.int .i64 F, .int .i64 O, .slice (some ⟨b, o, none⟩) n c] 30)
  have hr1 := rangeAt_below hr B1
  have r0 : _ = some _ := range_cell (o := o + i * 8) hr1 0 rfl
  rw [Nat.add_zero] at r0
  have r1 := range_cell hr1 1 rfl
  have r2 := range_cell hr1 2 rfl
  have r3 := range_cell hr1 3 rfl
  have r4 := range_cell hr1 4 rfl
  have r5 := range_cell hr1 5 rfl
  have r6 := range_cell hr1 6 rfl
  have r7 := range_cell hr1 7 rfl
  have hsf : ∀ (W : World) (a : Addr) (b : Nat), (store a (.float .f64 b)).run Tryz.prog W = stored Tryz.prog W a (.float .f64 b) .plain := fun W a b => run_store _ W a _ _ rfl
  have B2 := B1.alloc (by simp) (.cells (opCells B m d v).toArray 75)
  have hP : ((w.alloc (.cells #[.int .i64 F, .int .i64 O, .slice (some ⟨b, o, none⟩) n c] 30)).alloc (.cells (opCells B m d v).toArray 75)).heap[w.heap.size]? = some (.cells #[.int .i64 F, .int .i64 O, .slice (some ⟨b, o, none⟩) n c] 30 (0, 0)) := by
    show ((w.heap.push _).push _)[w.heap.size]? = _
    simp only [Array.getElem?_push, Array.size_push]
    rw [if_neg (by omega), if_pos trivial]
  have hQ : ((w.alloc (.cells #[.int .i64 F, .int .i64 O, .slice (some ⟨b, o, none⟩) n c] 30)).alloc (.cells (opCells B m d v).toArray 75)).heap[w.heap.size + 1]? = some (.cells (opCells B m d v).toArray 75 (0, 0)) := by
    show ((w.heap.push _).push _)[w.heap.size + 1]? = _
    simp only [Array.getElem?_push, Array.size_push]
    rw [if_pos trivial]
  have hk2 := hk.below B2
  have hcat2 := hcat.below B2
  go_enter Tryz.func47, Tryz.ntmps47
  go_upto_region 2 with (fail)
  unfold opCells at hP hQ B2 hk2 hcat2
  clear r0 r1 r2 r3 r4 r5 r6 r7 hr1 B1 hk hcat hr
  generalize (w.alloc (.cells #[.int .i64 F, .int .i64 O, .slice (some ⟨b, o, none⟩) n c] 30)).alloc (.cells #[.int .u8 (v.kind : Int), .int .i64 v.feature, .float .f64 v.thr, .slice B m d, .int .u8 (v.missing : Int), .int .i64 v.output, .int .i64 v.value, .int .i64 v.dest] 75) = W at hP hQ B2 hk2 hcat2 ⊢
  have p0 : W.cell? ⟨w.heap.size, 0, none⟩ = some (.int .i64 F) := cell_of_block hP rfl
  have p1 : W.cell? ⟨w.heap.size, 1, none⟩ = some (.int .i64 O) := cell_of_block hP rfl
  have p2 : W.cell? ⟨w.heap.size, 2, none⟩ = some (.slice (some ⟨b, o, none⟩) n c) := cell_of_block hP rfl
  have q0 : W.cell? ⟨w.heap.size + 1, 0, none⟩ = some (.int .u8 (v.kind : Int)) := cell_of_block hQ rfl
  have q1 : W.cell? ⟨w.heap.size + 1, 1, none⟩ = some (.int .i64 v.feature) := cell_of_block hQ rfl
  have q2 : W.cell? ⟨w.heap.size + 1, 2, none⟩ = some (.float .f64 v.thr) := cell_of_block hQ rfl
  have q3 : W.cell? ⟨w.heap.size + 1, 3, none⟩ = some (.slice B m d) := cell_of_block hQ rfl
  have q4 : W.cell? ⟨w.heap.size + 1, 4, none⟩ = some (.int .u8 (v.missing : Int)) := cell_of_block hQ rfl
  have q5 : W.cell? ⟨w.heap.size + 1, 5, none⟩ = some (.int .i64 v.output) := cell_of_block hQ rfl
  have q6 : W.cell? ⟨w.heap.size + 1, 6, none⟩ = some (.int .i64 v.value) := cell_of_block hQ rfl
  have q7 : W.cell? ⟨w.heap.size + 1, 7, none⟩ = some (.int .i64 v.dest) := cell_of_block hQ rfl
  have hkd := HKD.out
  rw [hkd] at q0
  have f64 := Tryz.f64bits
  have hsg : ∀ (W : World) (a : Addr) (fn : Fn) (x y : Array Value), (store a (.func fn x y)).run Tryz.prog W = stored Tryz.prog W a (.func fn x y) .plain := fun W a fn x y => run_store _ W a _ _ rfl
  have hsn : ∀ (W : World) (a : Addr), (store a .nilFunc).run Tryz.prog W = stored Tryz.prog W a .nilFunc .plain := fun W a => run_store _ W a _ _ rfl
  have t := hk2.t
  have hcm : v.cats = [] ↔ m = 0 := by rw [← hcat2.len]; exact List.length_eq_zero_iff.symm
  have hlt : w.heap.size + 1 < W.heap.size := lt_of_block hQ
  have t0 : W.cell? ⟨g, 24, none⟩ = some (.bool false) := cell_of_block t rfl
  have t1 : W.cell? ⟨g, 25, none⟩ = some (.bool false) := cell_of_block t rfl
  have t2 : W.cell? ⟨g, 26, none⟩ = some (.bool false) := cell_of_block t rfl
  have t3 : W.cell? ⟨g, 27, none⟩ = some (.bool false) := cell_of_block t rfl
  have t4 : W.cell? ⟨g, 28, none⟩ = some (.bool true) := cell_of_block t rfl
  have t5 : W.cell? ⟨g, 29, none⟩ = some (.func (.func 76) #[] #[]) := cell_of_block t rfl
  have B3 := (Below.refl W.heap.size W).alloc (Nat.le_refl _) (.cells #[.bool false, .bool false, .bool false, .bool false, .bool true, .func (.func 76) #[] #[]] 126)
  have hK := heap_alloc_new W (.cells #[.bool false, .bool false, .bool false, .bool false, .bool true, .func (.func 76) #[] #[]] 126)
  by_cases hlast : (i : Int) = (n : Int) - 1
  · have hb := rightV_last F O n i v (by rw [hkd]; decide) hlast
    have hb2 := hb
    rw [hlast] at hb2
    have HBB := Lib.hid hb
    have HBC := Lib.hid hb2
    clear hb hb2
    go_wp2
    go_ret
    first | exact ⟨congrArg (fun x => Ending.returned (Value.bool x)) HBB.out.symm, B2⟩ | exact ⟨congrArg (fun x => Ending.returned (Value.bool x)) HBC.out.symm, B2⟩
  · have hl1 : decide ((i : Int) = (n : Int) - 1) = false := by simp; omega
    go_upto_region 5 with (fail)
    generalize W.alloc (.cells #[.bool false, .bool false, .bool false, .bool false, .bool true, .func (.func 76) #[] #[]] 126) = W2 at B3 hK ⊢
    have P0 := (B3.cell (show w.heap.size < W.heap.size by omega)).trans p0
    have P1 := (B3.cell (show w.heap.size < W.heap.size by omega)).trans p1
    have P2 := (B3.cell (show w.heap.size < W.heap.size by omega)).trans p2
    have Q0 := (B3.cell (show w.heap.size + 1 < W.heap.size by omega)).trans q0
    have Q1 := (B3.cell (show w.heap.size + 1 < W.heap.size by omega)).trans q1
    have Q2 := (B3.cell (show w.heap.size + 1 < W.heap.size by omega)).trans q2
    have Q3 := (B3.cell (show w.heap.size + 1 < W.heap.size by omega)).trans q3
    have Q4 := (B3.cell (show w.heap.size + 1 < W.heap.size by omega)).trans q4
    have Q5 := (B3.cell (show w.heap.size + 1 < W.heap.size by omega)).trans q5
    have Q6 := (B3.cell (show w.heap.size + 1 < W.heap.size by omega)).trans q6
    have Q7 := (B3.cell (show w.heap.size + 1 < W.heap.size by omega)).trans q7
    have K0 : W2.cell? ⟨W.heap.size, 0, none⟩ = some (.bool false) := cell_of_block hK rfl
    have K1 : W2.cell? ⟨W.heap.size, 1, none⟩ = some (.bool false) := cell_of_block hK rfl
    have K2 : W2.cell? ⟨W.heap.size, 2, none⟩ = some (.bool false) := cell_of_block hK rfl
    have K3 : W2.cell? ⟨W.heap.size, 3, none⟩ = some (.bool false) := cell_of_block hK rfl
    have K4 : W2.cell? ⟨W.heap.size, 4, none⟩ = some (.bool true) := cell_of_block hK rfl
    have B4 := below_then B2 (by omega) B3
    clear p0 p1 p2 q0 q1 q2 q3 q4 q5 q6 q7 t0 t1 t2 t3 t4 t5 B3 hK t hk2 hP hQ B2
    go_wp2_with fail
    all_goals
      go_ret
      refine ⟨congrArg (fun x => Ending.returned (Value.bool x)) ?_, by first | exact B4 | exact B4.trans ⟨rfl, rfl, rfl, Nat.le_refl _, fun _ _ => rfl⟩⟩
      go_light
      clear P0 P1 P2 Q0 Q1 Q2 Q3 Q4 Q5 Q6 Q7 K0 K1 K2 K3 K4 B4 hcat2 hsf hsg hsn f64
      simp_all [rightV]
      try first | rfl | omega

set_option maxRecDepth 100000 in
set_option maxHeartbeats 8000000 in
theorem right_kind5 (F O : Int) (b o n c i g1 g2 g : Nat) (v : OpV) (w : World) (hn : n ≤ 281474976710656) (hv : OpIn w b (o + i * 8) v) (hk : KindTab w g1 g2 g) (hi : i < n) (hkd0 : v.kind = 5) :
    Calls Tryz.prog 47 #[.agg #[.int .i64 F, .int .i64 O, .slice (some ⟨b, o, none⟩) n c], .int .i64 (i : Int), .slice (some ⟨g, 0, none⟩) 6 6] w fun e w' => e = .returned (.bool (rightV F O n i v)) ∧ Below w.heap.size w w' := by
  have HKD := Lib.hid hkd0
  clear hkd0
  obtain ⟨B, m, d, hr, hcat, hrg⟩ := hv
  have B1 := (Below.refl w.heap.size w).alloc (Nat.le_refl _) (.cells #[.int .i64 F, .int .i64 O, .slice (some ⟨b, o, none⟩) n c] 30)
  have hr1 := rangeAt_below hr B1
  have r0 : _ = some _ := range_cell (o := o + i * 8) hr1 0 rfl
  rw [Nat.add_zero] at r0
  have r1 := range_cell hr1 1 rfl
  have r2 := range_cell hr1 2 rfl
  have r3 := range_cell hr1 3 rfl
  have r4 := range_cell hr1 4 rfl
  have r5 := range_cell hr1 5 rfl
  have r6 := range_cell hr1 6 rfl
  have r7 := range_cell hr1 7 rfl
  have hsf : ∀ (W : World) (a : Addr) (b : Nat), (store a (.float .f64 b)).run Tryz.prog W = stored Tryz.prog W a (.float .f64 b) .plain := fun W a b => run_store _ W a _ _ rfl
  have B2 := B1.alloc (by simp) (.cells (opCells B m d v).toArray 75)
  have hP : ((w.alloc (.cells #[.int .i64 F, .int .i64 O, .slice (some ⟨b, o, none⟩) n c] 30)).alloc (.cells (opCells B m d v).toArray 75)).heap[w.heap.size]? = some (.cells #[.int .i64 F, .int .i64 O, .slice (some ⟨b, o, none⟩) n c] 30 (0, 0)) := by
    show ((w.heap.push _).push _)[w.heap.size]? = _
    simp only [Array.getElem?_push, Array.size_push]
    rw [if_neg (by omega), if_pos trivial]
  have hQ : ((w.alloc (.cells #[.int .i64 F, .int .i64 O, .slice (some ⟨b, o, none⟩) n c] 30)).alloc (.cells (opCells B m d v).toArray 75)).heap[w.heap.size + 1]? = some (.cells (opCells B m d v).toArray 75 (0, 0)) := by
    show ((w.heap.push _).push _)[w.heap.size + 1]? = _
    simp only [Array.getElem?_push, Array.size_push]
    rw [if_pos trivial]
  have hk2 := hk.below B2
  have hcat2 := hcat.below B2
  go_enter Tryz.func47, Tryz.ntmps47
  go_upto_region 2 with (fail)
  unfold opCells at hP hQ B2 hk2 hcat2
  clear r0 r1 r2 r3 r4 r5 r6 r7 hr1 B1 hk hcat hr
  generalize (w.alloc (.cells #[.int .i64 F, .int .i64 O, .slice (some ⟨b, o, none⟩) n c] 30)).alloc (.cells #[.int .u8 (v.kind : Int), .int .i64 v.feature, .float .f64 v.thr, .slice B m d, .int .u8 (v.missing : Int), .int .i64 v.output, .int .i64 v.value, .int .i64 v.dest] 75) = W at hP hQ B2 hk2 hcat2 ⊢
  have p0 : W.cell? ⟨w.heap.size, 0, none⟩ = some (.int .i64 F) := cell_of_block hP rfl
  have p1 : W.cell? ⟨w.heap.size, 1, none⟩ = some (.int .i64 O) := cell_of_block hP rfl
  have p2 : W.cell? ⟨w.heap.size, 2, none⟩ = some (.slice (some ⟨b, o, none⟩) n c) := cell_of_block hP rfl
  have q0 : W.cell? ⟨w.heap.size + 1, 0, none⟩ = some (.int .u8 (v.kind : Int)) := cell_of_block hQ rfl
  have q1 : W.cell? ⟨w.heap.size + 1, 1, none⟩ = some (.int .i64 v.feature) := cell_of_block hQ rfl
  have q2 : W.cell? ⟨w.heap.size + 1, 2, none⟩ = some (.float .f64 v.thr) := cell_of_block hQ rfl
  have q3 : W.cell? ⟨w.heap.size + 1, 3, none⟩ = some (.slice B m d) := cell_of_block hQ rfl
  have q4 : W.cell? ⟨w.heap.size + 1, 4, none⟩ = some (.int .u8 (v.missing : Int)) := cell_of_block hQ rfl
  have q5 : W.cell? ⟨w.heap.size + 1, 5, none⟩ = some (.int .i64 v.output) := cell_of_block hQ rfl
  have q6 : W.cell? ⟨w.heap.size + 1, 6, none⟩ = some (.int .i64 v.value) := cell_of_block hQ rfl
  have q7 : W.cell? ⟨w.heap.size + 1, 7, none⟩ = some (.int .i64 v.dest) := cell_of_block hQ rfl
  have hkd := HKD.out
  rw [hkd] at q0
  have f64 := Tryz.f64bits
  have hsg : ∀ (W : World) (a : Addr) (fn : Fn) (x y : Array Value), (store a (.func fn x y)).run Tryz.prog W = stored Tryz.prog W a (.func fn x y) .plain := fun W a fn x y => run_store _ W a _ _ rfl
  have hsn : ∀ (W : World) (a : Addr), (store a .nilFunc).run Tryz.prog W = stored Tryz.prog W a .nilFunc .plain := fun W a => run_store _ W a _ _ rfl
  have t := hk2.t
  have hcm : v.cats = [] ↔ m = 0 := by rw [← hcat2.len]; exact List.length_eq_zero_iff.symm
  have hlt : w.heap.size + 1 < W.heap.size := lt_of_block hQ
  have t0 : W.cell? ⟨g, 30, none⟩ = some (.bool false) := cell_of_block t rfl
  have t1 : W.cell? ⟨g, 31, none⟩ = some (.bool false) := cell_of_block t rfl
  have t2 : W.cell? ⟨g, 32, none⟩ = some (.bool false) := cell_of_block t rfl
  have t3 : W.cell? ⟨g, 33, none⟩ = some (.bool false) := cell_of_block t rfl
  have t4 : W.cell? ⟨g, 34, none⟩ = some (.bool false) := cell_of_block t rfl
  have t5 : W.cell? ⟨g, 35, none⟩ = some (.nilFunc) := cell_of_block t rfl
  have B3 := (Below.refl W.heap.size W).alloc (Nat.le_refl _) (.cells #[.bool false, .bool false, .bool false, .bool false, .bool false, .nilFunc] 126)
  have hK := heap_alloc_new W (.cells #[.bool false, .bool false, .bool false, .bool false, .bool false, .nilFunc] 126)
  by_cases hlast : (i : Int) = (n : Int) - 1
  all_goals
    go_upto_region 5 with (fail)
    generalize W.alloc (.cells #[.bool false, .bool false, .bool false, .bool false, .bool false, .nilFunc] 126) = W2 at B3 hK ⊢
    have P0 := (B3.cell (show w.heap.size < W.heap.size by omega)).trans p0
    have P1 := (B3.cell (show w.heap.size < W.heap.size by omega)).trans p1
    have P2 := (B3.cell (show w.heap.size < W.heap.size by omega)).trans p2
    have Q0 := (B3.cell (show w.heap.size + 1 < W.heap.size by omega)).trans q0
    have Q1 := (B3.cell (show w.heap.size + 1 < W.heap.size by omega)).trans q1
    have Q2 := (B3.cell (show w.heap.size + 1 < W.heap.size by omega)).trans q2
    have Q3 := (B3.cell (show w.heap.size + 1 < W.heap.size by omega)).trans q3
    have Q4 := (B3.cell (show w.heap.size + 1 < W.heap.size by omega)).trans q4
    have Q5 := (B3.cell (show w.heap.size + 1 < W.heap.size by omega)).trans q5
    have Q6 := (B3.cell (show w.heap.size + 1 < W.heap.size by omega)).trans q6
    have Q7 := (B3.cell (show w.heap.size + 1 < W.heap.size by omega)).trans q7
    have K0 : W2.cell? ⟨W.heap.size, 0, none⟩ = some (.bool false) := cell_of_block hK rfl
    have K1 : W2.cell? ⟨W.heap.size, 1, none⟩ = some (.bool false) := cell_of_block hK rfl
    have K2 : W2.cell? ⟨W.heap.size, 2, none⟩ = some (.bool false) := cell_of_block hK rfl
    have K3 : W2.cell? ⟨W.heap.size, 3, none⟩ = some (.bool false) := cell_of_block hK rfl
    have K4 : W2.cell? ⟨W.heap.size, 4, none⟩ = some (.bool false) := cell_of_block hK rfl
    have B4 := below_then B2 (by omega) B3
    clear p0 p1 p2 q0 q1 q2 q3 q4 q5 q6 q7 t0 t1 t2 t3 t4 t5 B3 hK t hk2 hP hQ B2
    go_wp2_with fail
    all_goals
      go_ret
      refine ⟨congrArg (fun x => Ending.returned (Value.bool x)) ?_, by first | exact B4 | exact B4.trans ⟨rfl, rfl, rfl, Nat.le_refl _, fun _ _ => rfl⟩⟩
      go_light
      clear P0 P1 P2 Q0 Q1 Q2 Q3 Q4 Q5 Q6 Q7 K0 K1 K2 K3 K4 B4 hcat2 hsf hsg hsn f64
      simp_all [rightV]
      try first | rfl | omega

set_option maxRecDepth 100000 in
set_option maxHeartbeats 8000000 in
theorem right_bad (F O : Int) (b o n c i g1 g2 g : Nat) (v : OpV) (w : World) (_hn : n ≤ 281474976710656) (hv : OpIn w b (o + i * 8) v) (hk : KindTab w g1 g2 g) (hi : i < n) (hbad : v.kind = 0 ∨ 6 ≤ v.kind) :
    Calls Tryz.prog 47 #[.agg #[.int .i64 F, .int .i64 O, .slice (some ⟨b, o, none⟩) n c], .int .i64 (i : Int), .slice (some ⟨g, 0, none⟩) 6 6] w fun e w' => e = .returned (.bool (rightV F O n i v)) ∧ Below w.heap.size w w' := by
  obtain ⟨B, m, d, hr, hcat, hrg⟩ := hv
  have B1 := (Below.refl w.heap.size w).alloc (Nat.le_refl _) (.cells #[.int .i64 F, .int .i64 O, .slice (some ⟨b, o, none⟩) n c] 30)
  have hr1 := rangeAt_below hr B1
  have r0 : _ = some _ := range_cell (o := o + i * 8) hr1 0 rfl
  rw [Nat.add_zero] at r0
  have r1 := range_cell hr1 1 rfl
  have r2 := range_cell hr1 2 rfl
  have r3 := range_cell hr1 3 rfl
  have r4 := range_cell hr1 4 rfl
  have r5 := range_cell hr1 5 rfl
  have r6 := range_cell hr1 6 rfl
  have r7 := range_cell hr1 7 rfl
  have hsf : ∀ (W : World) (a : Addr) (b : Nat), (store a (.float .f64 b)).run Tryz.prog W = stored Tryz.prog W a (.float .f64 b) .plain := fun W a b => run_store _ W a _ _ rfl
  have B2 := B1.alloc (by simp) (.cells (opCells B m d v).toArray 75)
  have hP : ((w.alloc (.cells #[.int .i64 F, .int .i64 O, .slice (some ⟨b, o, none⟩) n c] 30)).alloc (.cells (opCells B m d v).toArray 75)).heap[w.heap.size]? = some (.cells #[.int .i64 F, .int .i64 O, .slice (some ⟨b, o, none⟩) n c] 30 (0, 0)) := by
    show ((w.heap.push _).push _)[w.heap.size]? = _
    simp only [Array.getElem?_push, Array.size_push]
    rw [if_neg (by omega), if_pos trivial]
  have hQ : ((w.alloc (.cells #[.int .i64 F, .int .i64 O, .slice (some ⟨b, o, none⟩) n c] 30)).alloc (.cells (opCells B m d v).toArray 75)).heap[w.heap.size + 1]? = some (.cells (opCells B m d v).toArray 75 (0, 0)) := by
    show ((w.heap.push _).push _)[w.heap.size + 1]? = _
    simp only [Array.getElem?_push, Array.size_push]
    rw [if_pos trivial]
  have hk2 := hk.below B2
  have hcat2 := hcat.below B2
  go_enter Tryz.func47, Tryz.ntmps47
  go_upto_region 2 with (fail)
  unfold opCells at hP hQ B2 hk2 hcat2
  clear r0 r1 r2 r3 r4 r5 r6 r7 hr1 B1 hk hcat hr
  generalize (w.alloc (.cells #[.int .i64 F, .int .i64 O, .slice (some ⟨b, o, none⟩) n c] 30)).alloc (.cells #[.int .u8 (v.kind : Int), .int .i64 v.feature, .float .f64 v.thr, .slice B m d, .int .u8 (v.missing : Int), .int .i64 v.output, .int .i64 v.value, .int .i64 v.dest] 75) = W at hP hQ B2 hk2 hcat2 ⊢
  have p0 : W.cell? ⟨w.heap.size, 0, none⟩ = some (.int .i64 F) := cell_of_block hP rfl
  have p1 : W.cell? ⟨w.heap.size, 1, none⟩ = some (.int .i64 O) := cell_of_block hP rfl
  have p2 : W.cell? ⟨w.heap.size, 2, none⟩ = some (.slice (some ⟨b, o, none⟩) n c) := cell_of_block hP rfl
  have q0 : W.cell? ⟨w.heap.size + 1, 0, none⟩ = some (.int .u8 (v.kind : Int)) := cell_of_block hQ rfl
  have q1 : W.cell? ⟨w.heap.size + 1, 1, none⟩ = some (.int .i64 v.feature) := cell_of_block hQ rfl
  have q2 : W.cell? ⟨w.heap.size + 1, 2, none⟩ = some (.float .f64 v.thr) := cell_of_block hQ rfl
  have q3 : W.cell? ⟨w.heap.size + 1, 3, none⟩ = some (.slice B m d) := cell_of_block hQ rfl
  have q4 : W.cell? ⟨w.heap.size + 1, 4, none⟩ = some (.int .u8 (v.missing : Int)) := cell_of_block hQ rfl
  have q5 : W.cell? ⟨w.heap.size + 1, 5, none⟩ = some (.int .i64 v.output) := cell_of_block hQ rfl
  have q6 : W.cell? ⟨w.heap.size + 1, 6, none⟩ = some (.int .i64 v.value) := cell_of_block hQ rfl
  have q7 : W.cell? ⟨w.heap.size + 1, 7, none⟩ = some (.int .i64 v.dest) := cell_of_block hQ rfl
  obtain ⟨kd, hkd⟩ : ∃ kd, v.kind = kd := ⟨_, rfl⟩
  rw [hkd] at q0
  have f64 := Tryz.f64bits
  have hsg : ∀ (W : World) (a : Addr) (fn : Fn) (x y : Array Value), (store a (.func fn x y)).run Tryz.prog W = stored Tryz.prog W a (.func fn x y) .plain := fun W a fn x y => run_store _ W a _ _ rfl
  have hsn : ∀ (W : World) (a : Addr), (store a .nilFunc).run Tryz.prog W = stored Tryz.prog W a .nilFunc .plain := fun W a => run_store _ W a _ _ rfl
  have t := hk2.t
  have hcm : v.cats = [] ↔ m = 0 := by rw [← hcat2.len]; exact List.length_eq_zero_iff.symm
  have hb : rightV F O n i v = false := by
    unfold rightV
    have : decide (1 ≤ v.kind ∧ v.kind ≤ 5) = false := by simp; omega
    simp [this]
  have HBB := Lib.hid hb
  clear hb
  have hz : kd = 0 ∨ 6 ≤ kd := by omega
  rcases hz with rfl | hz
  · go_wp2
    go_ret
    exact ⟨congrArg (fun x => Ending.returned (Value.bool x)) HBB.out.symm, B2⟩
  · have z1 : decide ((kd : Int) ≤ 0) = false := by simp; omega
    have z2 : decide ((6 : Int) ≤ (kd : Int)) = true := by simp; omega
    have z3 : (6 : Int) ≤ (kd : Int) := by omega
    have z4 : ¬ kd = 0 := by omega
    have z5 : ¬ (kd : Int) ≤ 0 := by omega
    go_wp2
    go_ret
    exact ⟨congrArg (fun x => Ending.returned (Value.bool x)) HBB.out.symm, B2⟩

end Go.Proofs.YtekcpapkicmckaaGreatDoor

namespace Go.Proofs.YtekcpapkicmckaaGreatDoor
open Go.RowKit

theorem right_any (F O : Int) (b o n c i g1 g2 g : Nat) (v : OpV) (w : World) (hn : n ≤ 281474976710656) (hv : OpIn w b (o + i * 8) v) (hk : KindTab w g1 g2 g) (hi : i < n) :
    Calls Tryz.prog 47 #[.agg #[.int .i64 F, .int .i64 O, .slice (some ⟨b, o, none⟩) n c], .int .i64 (i : Int), .slice (some ⟨g, 0, none⟩) 6 6] w fun e w' => e = .returned (.bool (rightV F O n i v)) ∧ Below w.heap.size w w' := by
  have h : v.kind = 1 ∨ v.kind = 2 ∨ v.kind = 3 ∨ v.kind = 4 ∨ v.kind = 5 ∨ (v.kind = 0 ∨ 6 ≤ v.kind) := by omega
  rcases h with h | h | h | h | h | h
  · exact right_kind1 F O b o n c i g1 g2 g v w hn hv hk hi h
  · exact right_kind2 F O b o n c i g1 g2 g v w hn hv hk hi h
  · exact right_kind3 F O b o n c i g1 g2 g v w hn hv hk hi h
  · exact right_kind4 F O b o n c i g1 g2 g v w hn hv hk hi h
  · exact right_kind5 F O b o n c i g1 g2 g v w hn hv hk hi h
  · exact right_bad F O b o n c i g1 g2 g v w hn hv hk hi h

end Go.Proofs.YtekcpapkicmckaaGreatDoor

namespace Go.Proofs.YtekcpapkicmckaaGreatDoor
open Go.RowKit

theorem faultF_drop (F O n : Int) (ops : List OpV) (i : Nat) (hi : i < ops.length) : faultF F O n i (ops.drop i) = if rightV F O n i (ops[i]) then faultF F O n (i + 1) (ops.drop (i + 1)) else some i := by
  rw [List.drop_eq_getElem_cons hi]; rfl

/-- a fault and its place -/
def chkOf (x : Int × Int) : Ending := .returned (.tuple #[.int .i64 x.1, .int .i64 x.2])

set_option maxRecDepth 100000 in
set_option maxHeartbeats 2000000 in
theorem Check_any (F O : Int) (A : Option Addr) (n c : Nat) (ops : List OpV) (w : World) (hx : OpsAt w A n c ops) :
    Calls Tryz.prog 27 #[.agg #[.int .i64 F, .int .i64 O, .slice A n c]] w fun e w' => e = chkOf (checkV F O ops) ∧ Below w.heap.size w w' := by
  have B1 := (Below.refl w.heap.size w).alloc (Nat.le_refl _) (.cells #[.int .i64 F, .int .i64 O, .slice A n c] 30)
  have hP := heap_alloc_new w (.cells #[.int .i64 F, .int .i64 O, .slice A n c] 30)
  have hx1 := hx.below ((Below.refl w.heap.size w).alloc (Nat.le_refl _) (.cells #[.int .i64 F, .int .i64 O, .slice A n c] 30))
  have hlen := hx.len
  have hnb := hx.big
  clear hx
  obtain ⟨R, hR⟩ : ∃ R, checkV F O ops = R := ⟨_, rfl⟩
  have HR := Lib.hid hR
  rw [hR]
  clear hR
  go_enter Tryz.func27, Tryz.ntmps27
  go_upto_region 1 with (fail)
  generalize w.alloc (.cells #[.int .i64 F, .int .i64 O, .slice A n c] 30) = W at B1 hP hx1 ⊢
  have p0 : W.cell? ⟨w.heap.size, 0, none⟩ = some (.int .i64 F) := cell_of_block hP rfl
  have p1 : W.cell? ⟨w.heap.size, 1, none⟩ = some (.int .i64 O) := cell_of_block hP rfl
  have p2 : W.cell? ⟨w.heap.size, 2, none⟩ = some (.slice A n c) := cell_of_block hP rfl
  by_cases hbad : F < 0 ∨ 65536 < F ∨ O < 1 ∨ 64 < O
  · have hRR : R = (6, 0) := by rw [← HR.out]; unfold checkV; rw [if_pos hbad]
    subst hRR
    have HBD := Lib.hid hbad
    go_wp2_with fail
    all_goals first
    | (go_ret2; exact ⟨rfl, B1⟩)
    | (exfalso; have := HBD.out; omega)
  · have f1 : ¬ F < 0 := by omega
    have f2 : ¬ 65536 < F := by omega
    have f3 : ¬ O < 1 := by omega
    have f4 : ¬ 64 < O := by omega
    have hRR : R = chkEnd n (faultF F O n 0 ops) := by rw [← HR.out]; unfold checkV; rw [if_neg hbad, hlen]
    have HRR := Lib.hid hRR
    clear hbad hRR HR
    have HK := Lib.hid kinds_any
    have HRI := Lib.hid right_any
    go_wp2_with fail
    refine (HK.out W).mono ?_; rintro e w1 ⟨g1, g2, g, rfl, hk, b1⟩
    have hP1 := (b1.block w.heap.size (lt_of_block hP)).trans hP
    have hx2 := hx1.below b1
    have B2 := below_then B1 B1.size b1
    clear p0 p1 p2 hP hx1 B1 b1
    have p2 : w1.cell? ⟨w.heap.size, 2, none⟩ = some (.slice A n c) := cell_of_block hP1 rfl
    go_wp2_with fail
    go_loopw [5, 28] (fun _ ix wr => ∃ (i : Nat), ix = .int .i64 (i : Int) ∧ i ≤ n ∧ Hid (faultF F O n 0 ops = faultF F O n i (ops.drop i)) ∧ Below w1.heap.size w1 wr) (fun _ ix _ => n - (intOf ix).toNat)
    case atStart => exact ⟨0, rfl, Nat.zero_le _, Lib.hid rfl, Below.refl _ _⟩
    case round =>
      obtain ⟨i, rfl, hi, HF, hbr⟩ := hrel
      have hPr := (hbr.block w.heap.size (lt_of_block hP1)).trans hP1
      have hxr := hx2.below hbr
      have hkr := hk.below hbr
      have B3 := below_then B2 B2.size hbr
      have p0 : wr.cell? ⟨w.heap.size, 0, none⟩ = some (.int .i64 F) := cell_of_block hPr rfl
      have p1 : wr.cell? ⟨w.heap.size, 1, none⟩ = some (.int .i64 O) := cell_of_block hPr rfl
      have p2 : wr.cell? ⟨w.heap.size, 2, none⟩ = some (.slice A n c) := cell_of_block hPr rfl
      by_cases hlt : i < n
      · obtain ⟨b, o, rfl, hc⟩ := hxr.cells (by omega)
        have hop := hc i (by omega)
        have hfd := faultF_drop F O n ops i (by omega)
        rw [← HF.out] at hfd
        have HC := Lib.hid (HRI.out F O b o n c i g1 g2 g _ wr hnb hop hkr hlt)
        generalize ops[i]'(by omega) = v at HC hfd
        have m1 : decide ((i : Int) < (n : Int)) = true := by simp; omega
        have m2 : (i : Int) < (n : Int) := by omega
        have HFD := Lib.hid hfd
        clear hc hop hxr hkr hfd
        cases hrv : rightV F O n i v
        · rw [hrv] at HC
          go_wp2_with fail
          refine HC.out.mono ?_; rintro e w2 ⟨rfl, b2⟩
          have B4 := below_then B3 B3.size b2
          have hRf : R = (190, (i : Int)) := by
            rw [HRR.out]
            have := HFD.out
            rw [hrv] at this
            rw [this]; rfl
          have HRf := Lib.hid hRf
          clear hRf
          go_wp2
          go_ret2
          exact ⟨by rw [HRf.out]; rfl, B4⟩
        · rw [hrv] at HC
          go_wp2_with fail
          refine HC.out.mono ?_; rintro e w2 ⟨rfl, b2⟩
          have hbr2 := below_then hbr hbr.size b2
          have HF2 : Hid (faultF F O n 0 ops = faultF F O n (i + 1) (ops.drop (i + 1))) := Lib.hid (by
            have := HFD.out
            rw [hrv] at this
            exact this)
          go_wp2
          go_roundw
          case rel => exact ⟨i + 1, by go_num, hlt, HF2, hbr2⟩
          case measure => simp [intOf]; omega
      · obtain rfl : i = n := by omega
        have m1 : decide ((i : Int) < (i : Int)) = false := by simp
        have hF0 : faultF F O i 0 ops = none := by
          rw [HF.out, List.drop_of_length_le (by omega)]; rfl
        have hRf : R = if i = 0 then (190, 0) else (0, 0) := by rw [HRR.out, hF0]; rfl
        have HRf := Lib.hid hRf
        clear hRf hF0
        by_cases h0 : i = 0
        · subst h0
          go_wp2
          go_ret2
          exact ⟨by rw [HRf.out]; rfl, B3⟩
        · have h1 : ((i : Int) == 0) = false := by simp; omega
          have h2 : decide ((i : Int) = 0) = false := by simp; omega
          go_wp2
          go_ret2
          exact ⟨by rw [HRf.out, if_neg h0]; rfl, B3⟩

end Go.Proofs.YtekcpapkicmckaaGreatDoor
