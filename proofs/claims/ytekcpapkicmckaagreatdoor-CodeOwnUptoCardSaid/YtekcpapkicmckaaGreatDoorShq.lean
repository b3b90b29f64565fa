/- The contract of trees.right. The contract of trees.Shape. -/
import Derived.Test.YtekcpapkicmckaaGreatDoorOpn
import Derived.Test.YtekcpapkicmckaaGreatDoorRnn
import Derived.Test.YtekcpapkicmckaaGreatDoorPlc
namespace Go.Proofs.YtekcpapkicmckaaGreatDoor
open Go.RowKit

/-- a box of a node -/
theorem nd_box {W : World} {k : Nat} {B : Option Addr} {m d : Nat} {v : NdV} (h : W.heap[k]? = some (.cells (ndCells B m d v).toArray 72 (0, 0))) :
    W.cell? ⟨k, 0, none⟩ = some (.int .u8 (v.kind : Int)) ∧ W.cell? ⟨k, 1, none⟩ = some (.int .i64 v.value) ∧ W.cell? ⟨k, 2, none⟩ = some (.int .i64 v.feature) ∧ W.cell? ⟨k, 3, none⟩ = some (.float .f64 v.thr) ∧
    W.cell? ⟨k, 4, none⟩ = some (.slice B m d) ∧ W.cell? ⟨k, 5, none⟩ = some (.int .u8 (v.missing : Int)) ∧ W.cell? ⟨k, 6, none⟩ = some (.int .i64 v.left) ∧ W.cell? ⟨k, 7, none⟩ = some (.int .i64 v.right) :=
  ⟨cell_of_block h rfl, cell_of_block h rfl, cell_of_block h rfl, cell_of_block h rfl, cell_of_block h rfl, cell_of_block h rfl, cell_of_block h rfl, cell_of_block h rfl⟩

set_option maxRecDepth 100000 in
set_option maxHeartbeats 4000000 in
theorem nright_leaf (A : Option Addr) (n c m : Nat) (v : NdV) (w : World) (hx : Ints w A n c v.cats) (hk : v.kind = 1) :
    Calls Tryz.prog 66 #[.agg (ndCells A n c v).toArray, .int .i64 (m : Int)] w fun e w' => e = .returned (.bool (nodeV m v)) ∧ Below w.heap.size w w' := by
  have B1 := (Below.refl w.heap.size w).alloc (Nat.le_refl _) (.cells (ndCells A n c v).toArray 72)
  have hO := heap_alloc_new w (.cells (ndCells A n c v).toArray 72)
  have hcm : v.cats = [] ↔ n = 0 := by rw [← hx.len]; exact List.length_eq_zero_iff.symm
  obtain ⟨R, hR⟩ : ∃ R, nodeV m v = R := ⟨_, rfl⟩
  rw [hR]
  have HR := Lib.hid (show R = decide (v.feature = 0 ∧ v.thr = 0 ∧ n = 0 ∧ v.missing = 0 ∧ v.left = 0 ∧ v.right = 0) by rw [← hR]; unfold nodeV; rw [if_pos hk]; simp only [hcm])
  clear hR hcm hx
  have hkc : (v.kind : Int) = 1 := by omega
  unfold ndCells at B1 hO ⊢
  rw [hkc] at B1 hO ⊢
  have f64 := Tryz.f64bits
  clear hk hkc
  obtain ⟨y1, h1⟩ : ∃ y, (v.feature == 0) = y := ⟨_, rfl⟩
  obtain ⟨y2, h2⟩ : ∃ y, ((v.thr : Int) == 0) = y := ⟨_, rfl⟩
  obtain ⟨y3, h3⟩ : ∃ y, ((n : Int) == 0) = y := ⟨_, rfl⟩
  obtain ⟨y4, h4⟩ : ∃ y, ((v.missing : Int) == 0) = y := ⟨_, rfl⟩
  obtain ⟨y5, h5⟩ : ∃ y, (v.left == 0) = y := ⟨_, rfl⟩
  obtain ⟨y6, h6⟩ : ∃ y, (v.right == 0) = y := ⟨_, rfl⟩
  have HR2 := Lib.hid (show R = (y1 && y2 && y3 && y4 && y5 && y6) by
    rw [HR.out, ← h1, ← h2, ← h3, ← h4, ← h5, ← h6]
    rw [Bool.eq_iff_iff]
    simp only [decide_eq_true_eq, Bool.and_eq_true, beq_iff_eq]
    omega)
  clear HR
  cases y1
  · go_enter Tryz.func66, Tryz.ntmps66
    go_wp2
    go_ret
    exact ⟨congrArg (fun x => Ending.returned (Value.bool x)) (by rw [HR2.out]; rfl), B1⟩
  cases y2
  · go_enter Tryz.func66, Tryz.ntmps66
    go_wp2
    go_ret
    exact ⟨congrArg (fun x => Ending.returned (Value.bool x)) (by rw [HR2.out]; rfl), B1⟩
  cases y3
  · go_enter Tryz.func66, Tryz.ntmps66
    go_wp2
    go_ret
    exact ⟨congrArg (fun x => Ending.returned (Value.bool x)) (by rw [HR2.out]; rfl), B1⟩
  cases y4
  · go_enter Tryz.func66, Tryz.ntmps66
    go_wp2
    go_ret
    exact ⟨congrArg (fun x => Ending.returned (Value.bool x)) (by rw [HR2.out]; rfl), B1⟩
  cases y5
  · go_enter Tryz.func66, Tryz.ntmps66
    go_wp2
    go_ret
    exact ⟨congrArg (fun x => Ending.returned (Value.bool x)) (by rw [HR2.out]; rfl), B1⟩
  cases y6
  · go_enter Tryz.func66, Tryz.ntmps66
    go_wp2
    go_ret
    exact ⟨congrArg (fun x => Ending.returned (Value.bool x)) (by rw [HR2.out]; rfl), B1⟩
  go_enter Tryz.func66, Tryz.ntmps66
  go_wp2
  go_ret
  exact ⟨congrArg (fun x => Ending.returned (Value.bool x)) (by rw [HR2.out]; rfl), B1⟩

theorem risingF_none (l m : List Int) (h : risingF (-1) l = none) : rising (l ++ m) = false := by
  have key : ∀ (m l : List Int) (k : Int), risingF k l = none → risingF k (l ++ m) = none := by
    intro m l
    induction l with
    | nil => intro k h; simp [risingF] at h
    | cons d l ih => intro k h; simp only [List.cons_append, risingF] at h ⊢; split at h <;> simp_all
  unfold rising; rw [key m l _ h]

set_option maxRecDepth 100000 in
set_option maxHeartbeats 8000000 in
theorem nright_num (A : Option Addr) (n c m : Nat) (v : NdV) (w : World) (hx : Ints w A n c v.cats) (hk : v.kind = 2) :
    Calls Tryz.prog 66 #[.agg (ndCells A n c v).toArray, .int .i64 (m : Int)] w fun e w' => e = .returned (.bool (nodeV m v)) ∧ Below w.heap.size w w' := by
  have B1 := (Below.refl w.heap.size w).alloc (Nat.le_refl _) (.cells (ndCells A n c v).toArray 72)
  have hO := heap_alloc_new w (.cells (ndCells A n c v).toArray 72)
  have hnb := hx.sl.big
  have HX0 := Lib.hid hx
  have hlen := hx.len
  have hcm : v.cats = [] ↔ n = 0 := by rw [← hx.len]; exact List.length_eq_zero_iff.symm
  obtain ⟨R, hR⟩ : ∃ R, nodeV m v = R := ⟨_, rfl⟩
  rw [hR]
  have HR := Lib.hid (show R = (decide (v.value = 0 ∧ 0 ≤ v.feature ∧ v.feature < 65536 ∧ (v.missing = 1 ∨ v.missing = 2) ∧ 1 ≤ v.left ∧ v.left < m ∧ 1 ≤ v.right ∧ v.right < m) && (decide (FloatKind.f64.format.order v.thr v.thr = some Ordering.eq) && decide (n = 0))) by rw [← hR]; unfold nodeV; rw [if_neg (by omega), decide_eq_true (show v.kind = 2 ∨ v.kind = 3 by omega), Bool.true_and]; rw [if_pos hk]; simp only [hcm])
  have HI := Lib.hid (fun W => inner_any A n c v W)
  rw [show innerV v = true by unfold innerV; simp; omega] at HI
  clear hR hcm hx
  have hkc : (v.kind : Int) = 2 := by omega
  unfold ndCells at B1 hO HI ⊢
  rw [hkc] at B1 hO HI ⊢
  have f64 := Tryz.f64bits
  clear hk hkc
  go_enter Tryz.func66, Tryz.ntmps66
  go_upto_region 1 with (fail)
  generalize w.alloc (.cells #[.int .u8 2, .int .i64 v.value, .int .i64 v.feature, .float .f64 v.thr, .slice A n c, .int .u8 (v.missing : Int), .int .i64 v.left, .int .i64 v.right] 72) = W1 at *
  have n0 : W1.cell? ⟨w.heap.size, 0, none⟩ = some (.int .u8 2) := cell_of_block hO rfl
  have n1 : W1.cell? ⟨w.heap.size, 1, none⟩ = some (.int .i64 v.value) := cell_of_block hO rfl
  have n2 : W1.cell? ⟨w.heap.size, 2, none⟩ = some (.int .i64 v.feature) := cell_of_block hO rfl
  have n3 : W1.cell? ⟨w.heap.size, 3, none⟩ = some (.float .f64 v.thr) := cell_of_block hO rfl
  have n4 : W1.cell? ⟨w.heap.size, 4, none⟩ = some (.slice A n c) := cell_of_block hO rfl
  have n5 : W1.cell? ⟨w.heap.size, 5, none⟩ = some (.int .u8 (v.missing : Int)) := cell_of_block hO rfl
  have n6 : W1.cell? ⟨w.heap.size, 6, none⟩ = some (.int .i64 v.left) := cell_of_block hO rfl
  have n7 : W1.cell? ⟨w.heap.size, 7, none⟩ = some (.int .i64 v.right) := cell_of_block hO rfl
  obtain ⟨yt, hyt⟩ : ∃ y, ((v.thr : Int) == 0) = y := ⟨_, rfl⟩
  go_wp2_with fail
  refine (HI.out W1).mono ?_; rintro e w2 ⟨rfl, b2⟩
  have hO2 := (b2.block _ (lt_of_block hO)).trans hO
  have hx2 := HX0.out.below (below_then B1 B1.size b2)
  have B2 := below_then B1 B1.size b2
  clear n0 n1 n2 n3 n4 n5 n6 n7 hO B1 b2 HI HX0
  have n0 : w2.cell? ⟨w.heap.size, 0, none⟩ = some (.int .u8 2) := cell_of_block hO2 rfl
  have n1 : w2.cell? ⟨w.heap.size, 1, none⟩ = some (.int .i64 v.value) := cell_of_block hO2 rfl
  have n2 : w2.cell? ⟨w.heap.size, 2, none⟩ = some (.int .i64 v.feature) := cell_of_block hO2 rfl
  have n3 : w2.cell? ⟨w.heap.size, 3, none⟩ = some (.float .f64 v.thr) := cell_of_block hO2 rfl
  have n4 : w2.cell? ⟨w.heap.size, 4, none⟩ = some (.slice A n c) := cell_of_block hO2 rfl
  have n5 : w2.cell? ⟨w.heap.size, 5, none⟩ = some (.int .u8 (v.missing : Int)) := cell_of_block hO2 rfl
  have n6 : w2.cell? ⟨w.heap.size, 6, none⟩ = some (.int .i64 v.left) := cell_of_block hO2 rfl
  have n7 : w2.cell? ⟨w.heap.size, 7, none⟩ = some (.int .i64 v.right) := cell_of_block hO2 rfl
  have HX2 := Lib.hid hx2
  have HO2 := Lib.hid hO2
  have HLEN := Lib.hid hlen
  have B2' := Lib.hid B2
  clear hO2 hx2 hlen B2
  by_cases h0 : v.value ≠ 0
  · have e0 : (v.value != 0) = true := by simp; omega
    have e1 : (v.value == 0) = false := by simp; omega
    have e2 : decide (v.value = 0) = false := by simp; omega
    clear HX2 HO2 HLEN
    have HRF := Lib.hid (show R = false by rw [HR.out, decide_eq_false (by omega), Bool.false_and])
    clear HR
    go_wp2
    go_ret
    exact ⟨congrArg (fun x => Ending.returned (Value.bool x)) HRF.out.symm, B2'.out⟩
  · have e0_0 : (v.value != 0) = false := by simp; omega
    have e0_1 : (v.value == 0) = true := by simp; omega
    have e0_2 : decide (v.value = 0) = true := by simp; omega
    by_cases h1 : v.feature < 0
    · have e0 : decide (v.feature < 0) = true := by simp; omega
      clear HX2 HO2 HLEN
      have HRF := Lib.hid (show R = false by rw [HR.out, decide_eq_false (by omega), Bool.false_and])
      clear HR
      go_wp2
      go_ret
      exact ⟨congrArg (fun x => Ending.returned (Value.bool x)) HRF.out.symm, B2'.out⟩
    · have e1_0 : decide (v.feature < 0) = false := by simp; omega
      by_cases h2 : 65536 ≤ v.feature
      · have e0 : decide (65536 ≤ v.feature) = true := by simp; omega
        clear HX2 HO2 HLEN
        have HRF := Lib.hid (show R = false by rw [HR.out, decide_eq_false (by omega), Bool.false_and])
        clear HR
        go_wp2
        go_ret
        exact ⟨congrArg (fun x => Ending.returned (Value.bool x)) HRF.out.symm, B2'.out⟩
      · have e2_0 : decide (65536 ≤ v.feature) = false := by simp; omega
        by_cases h3 : v.missing ≠ 1 ∧ v.missing ≠ 2
        · have e1 : ((v.missing : Int) != 1) = true := by simp; omega
          have e2 : ((v.missing : Int) != 2) = true := by simp; omega
          have e3 : decide ((v.missing : Int) = 1) = false := by simp; omega
          have e4 : decide ((v.missing : Int) = 2) = false := by simp; omega
          clear HX2 HO2 HLEN
          have HRF := Lib.hid (show R = false by rw [HR.out, decide_eq_false (by omega), Bool.false_and])
          clear HR
          go_wp2
          go_ret
          exact ⟨congrArg (fun x => Ending.returned (Value.bool x)) HRF.out.symm, B2'.out⟩
        · have hmi : v.missing = 1 ∨ v.missing = 2 := by omega
          have HMI := Lib.hid hmi
          have hms : (((v.missing : Int) != 1) = false) ∨ (((v.missing : Int) != 1) = true ∧ ((v.missing : Int) != 2) = false) := by
            rcases hmi with h | h
            · exact .inl (by simp [h])
            · exact .inr ⟨by simp [h], by simp [h]⟩
          clear h3 hmi
          rcases hms with hm1 | ⟨hm1, hm2⟩
          all_goals
            by_cases h4 : v.left < 1
            · have e0 : decide (v.left < 1) = true := by simp; omega
              have e1 : decide (v.left ≤ 0) = true := by simp; omega
              clear HX2 HO2 HLEN
              have HRF := Lib.hid (show R = false by rw [HR.out, decide_eq_false (by omega), Bool.false_and])
              clear HR
              go_wp2
              go_ret
              exact ⟨congrArg (fun x => Ending.returned (Value.bool x)) HRF.out.symm, B2'.out⟩
            · have e4_0 : decide (v.left < 1) = false := by simp; omega
              have e4_1 : decide (v.left ≤ 0) = false := by simp; omega
              by_cases h5 : (m : Int) ≤ v.left
              · have e0 : decide ((m : Int) ≤ v.left) = true := by simp; omega
                clear HX2 HO2 HLEN
                have HRF := Lib.hid (show R = false by rw [HR.out, decide_eq_false (by omega), Bool.false_and])
                clear HR
                go_wp2
                go_ret
                exact ⟨congrArg (fun x => Ending.returned (Value.bool x)) HRF.out.symm, B2'.out⟩
              · have e5_0 : decide ((m : Int) ≤ v.left) = false := by simp; omega
                by_cases h6 : v.right < 1
                · have e0 : decide (v.right < 1) = true := by simp; omega
                  have e1 : decide (v.right ≤ 0) = true := by simp; omega
                  clear HX2 HO2 HLEN
                  have HRF := Lib.hid (show R = false by rw [HR.out, decide_eq_false (by omega), Bool.false_and])
                  clear HR
                  go_wp2
                  go_ret
                  exact ⟨congrArg (fun x => Ending.returned (Value.bool x)) HRF.out.symm, B2'.out⟩
                · have e6_0 : decide (v.right < 1) = false := by simp; omega
                  have e6_1 : decide (v.right ≤ 0) = false := by simp; omega
                  by_cases h7 : (m : Int) ≤ v.right
                  · have e0 : decide ((m : Int) ≤ v.right) = true := by simp; omega
                    clear HX2 HO2 HLEN
                    have HRF := Lib.hid (show R = false by rw [HR.out, decide_eq_false (by omega), Bool.false_and])
                    clear HR
                    go_wp2
                    go_ret
                    exact ⟨congrArg (fun x => Ending.returned (Value.bool x)) HRF.out.symm, B2'.out⟩
                  · have e7_0 : decide ((m : Int) ≤ v.right) = false := by simp; omega
                    have HC := Lib.hid (show R = (decide (FloatKind.f64.format.order v.thr v.thr = some Ordering.eq) && decide (n = 0)) by rw [HR.out, decide_eq_true (by have := HMI.out; omega), Bool.true_and])
                    clear HR
                    obtain ⟨c1, hc1⟩ : ∃ c, FloatKind.f64.format.order v.thr v.thr = c := ⟨_, rfl⟩
                    obtain ⟨yl, hyl⟩ : ∃ y, ((n : Int) == 0) = y := ⟨_, rfl⟩
                    rw [hc1, show decide (n = 0) = ((n : Int) == 0) by rw [Bool.eq_iff_iff]; simp, hyl] at HC
                    clear HX2 HO2 HLEN
                    rcases c1 with _ | c1
                    all_goals (try cases c1)
                    all_goals cases yl
                    all_goals
                      go_wp2
                      go_ret
                      exact ⟨congrArg (fun x => Ending.returned (Value.bool x)) (by rw [HC.out]; rfl), B2'.out⟩

set_option maxRecDepth 100000 in
set_option maxHeartbeats 8000000 in
theorem nright_cat (A : Option Addr) (n c m : Nat) (v : NdV) (w : World) (hx : Ints w A n c v.cats) (hk : v.kind = 3) :
    Calls Tryz.prog 66 #[.agg (ndCells A n c v).toArray, .int .i64 (m : Int)] w fun e w' => e = .returned (.bool (nodeV m v)) ∧ Below w.heap.size w w' := by
  have B1 := (Below.refl w.heap.size w).alloc (Nat.le_refl _) (.cells (ndCells A n c v).toArray 72)
  have hO := heap_alloc_new w (.cells (ndCells A n c v).toArray 72)
  have hnb := hx.sl.big
  have HX0 := Lib.hid hx
  have hlen := hx.len
  have hcm : v.cats = [] ↔ n = 0 := by rw [← hx.len]; exact List.length_eq_zero_iff.symm
  obtain ⟨R, hR⟩ : ∃ R, nodeV m v = R := ⟨_, rfl⟩
  rw [hR]
  have HR := Lib.hid (show R = (decide (v.value = 0 ∧ 0 ≤ v.feature ∧ v.feature < 65536 ∧ (v.missing = 1 ∨ v.missing = 2) ∧ 1 ≤ v.left ∧ v.left < m ∧ 1 ≤ v.right ∧ v.right < m) && (decide (v.thr = 0) && rising v.cats)) by rw [← hR]; unfold nodeV; rw [if_neg (by omega), decide_eq_true (show v.kind = 2 ∨ v.kind = 3 by omega), Bool.true_and]; rw [if_neg (show ¬ v.kind = 2 by omega)])
  have HI := Lib.hid (fun W => inner_any A n c v W)
  rw [show innerV v = true by unfold innerV; simp; omega] at HI
  clear hR hx hcm
  have hkc : (v.kind : Int) = 3 := by omega
  unfold ndCells at B1 hO HI ⊢
  rw [hkc] at B1 hO HI ⊢
  have f64 := Tryz.f64bits
  clear hk hkc
  go_enter Tryz.func66, Tryz.ntmps66
  go_upto_region 1 with (fail)
  generalize w.alloc (.cells #[.int .u8 3, .int .i64 v.value, .int .i64 v.feature, .float .f64 v.thr, .slice A n c, .int .u8 (v.missing : Int), .int .i64 v.left, .int .i64 v.right] 72) = W1 at *
  have n0 : W1.cell? ⟨w.heap.size, 0, none⟩ = some (.int .u8 3) := cell_of_block hO rfl
  have n1 : W1.cell? ⟨w.heap.size, 1, none⟩ = some (.int .i64 v.value) := cell_of_block hO rfl
  have n2 : W1.cell? ⟨w.heap.size, 2, none⟩ = some (.int .i64 v.feature) := cell_of_block hO rfl
  have n3 : W1.cell? ⟨w.heap.size, 3, none⟩ = some (.float .f64 v.thr) := cell_of_block hO rfl
  have n4 : W1.cell? ⟨w.heap.size, 4, none⟩ = some (.slice A n c) := cell_of_block hO rfl
  have n5 : W1.cell? ⟨w.heap.size, 5, none⟩ = some (.int .u8 (v.missing : Int)) := cell_of_block hO rfl
  have n6 : W1.cell? ⟨w.heap.size, 6, none⟩ = some (.int .i64 v.left) := cell_of_block hO rfl
  have n7 : W1.cell? ⟨w.heap.size, 7, none⟩ = some (.int .i64 v.right) := cell_of_block hO rfl
  obtain ⟨yt, hyt⟩ : ∃ y, ((v.thr : Int) == 0) = y := ⟨_, rfl⟩
  go_wp2_with fail
  refine (HI.out W1).mono ?_; rintro e w2 ⟨rfl, b2⟩
  have hO2 := (b2.block _ (lt_of_block hO)).trans hO
  have hx2 := HX0.out.below (below_then B1 B1.size b2)
  have B2 := below_then B1 B1.size b2
  clear n0 n1 n2 n3 n4 n5 n6 n7 hO B1 b2 HI HX0
  have n0 : w2.cell? ⟨w.heap.size, 0, none⟩ = some (.int .u8 3) := cell_of_block hO2 rfl
  have n1 : w2.cell? ⟨w.heap.size, 1, none⟩ = some (.int .i64 v.value) := cell_of_block hO2 rfl
  have n2 : w2.cell? ⟨w.heap.size, 2, none⟩ = some (.int .i64 v.feature) := cell_of_block hO2 rfl
  have n3 : w2.cell? ⟨w.heap.size, 3, none⟩ = some (.float .f64 v.thr) := cell_of_block hO2 rfl
  have n4 : w2.cell? ⟨w.heap.size, 4, none⟩ = some (.slice A n c) := cell_of_block hO2 rfl
  have n5 : w2.cell? ⟨w.heap.size, 5, none⟩ = some (.int .u8 (v.missing : Int)) := cell_of_block hO2 rfl
  have n6 : w2.cell? ⟨w.heap.size, 6, none⟩ = some (.int .i64 v.left) := cell_of_block hO2 rfl
  have n7 : w2.cell? ⟨w.heap.size, 7, none⟩ = some (.int .i64 v.right) := cell_of_block hO2 rfl
  have HX2 := Lib.hid hx2
  have HO2 := Lib.hid hO2
  have HLEN := Lib.hid hlen
  have B2' := Lib.hid B2
  clear hO2 hx2 hlen B2
  by_cases h0 : v.value ≠ 0
  · have e0 : (v.value != 0) = true := by simp; omega
    have e1 : (v.value == 0) = false := by simp; omega
    have e2 : decide (v.value = 0) = false := by simp; omega
    clear HX2 HO2 HLEN
    have HRF := Lib.hid (show R = false by rw [HR.out, decide_eq_false (by omega), Bool.false_and])
    clear HR
    go_wp2
    go_ret
    exact ⟨congrArg (fun x => Ending.returned (Value.bool x)) HRF.out.symm, B2'.out⟩
  · have e0_0 : (v.value != 0) = false := by simp; omega
    have e0_1 : (v.value == 0) = true := by simp; omega
    have e0_2 : decide (v.value = 0) = true := by simp; omega
    by_cases h1 : v.feature < 0
    · have e0 : decide (v.feature < 0) = true := by simp; omega
      clear HX2 HO2 HLEN
      have HRF := Lib.hid (show R = false by rw [HR.out, decide_eq_false (by omega), Bool.false_and])
      clear HR
      go_wp2
      go_ret
      exact ⟨congrArg (fun x => Ending.returned (Value.bool x)) HRF.out.symm, B2'.out⟩
    · have e1_0 : decide (v.feature < 0) = false := by simp; omega
      by_cases h2 : 65536 ≤ v.feature
      · have e0 : decide (65536 ≤ v.feature) = true := by simp; omega
        clear HX2 HO2 HLEN
        have HRF := Lib.hid (show R = false by rw [HR.out, decide_eq_false (by omega), Bool.false_and])
        clear HR
        go_wp2
        go_ret
        exact ⟨congrArg (fun x => Ending.returned (Value.bool x)) HRF.out.symm, B2'.out⟩
      · have e2_0 : decide (65536 ≤ v.feature) = false := by simp; omega
        by_cases h3 : v.missing ≠ 1 ∧ v.missing ≠ 2
        · have e1 : ((v.missing : Int) != 1) = true := by simp; omega
          have e2 : ((v.missing : Int) != 2) = true := by simp; omega
          have e3 : decide ((v.missing : Int) = 1) = false := by simp; omega
          have e4 : decide ((v.missing : Int) = 2) = false := by simp; omega
          clear HX2 HO2 HLEN
          have HRF := Lib.hid (show R = false by rw [HR.out, decide_eq_false (by omega), Bool.false_and])
          clear HR
          go_wp2
          go_ret
          exact ⟨congrArg (fun x => Ending.returned (Value.bool x)) HRF.out.symm, B2'.out⟩
        · have hmi : v.missing = 1 ∨ v.missing = 2 := by omega
          have HMI := Lib.hid hmi
          have hms : (((v.missing : Int) != 1) = false) ∨ (((v.missing : Int) != 1) = true ∧ ((v.missing : Int) != 2) = false) := by
            rcases hmi with h | h
            · exact .inl (by simp [h])
            · exact .inr ⟨by simp [h], by simp [h]⟩
          clear h3 hmi
          rcases hms with hm1 | ⟨hm1, hm2⟩
          all_goals
            by_cases h4 : v.left < 1
            · have e0 : decide (v.left < 1) = true := by simp; omega
              have e1 : decide (v.left ≤ 0) = true := by simp; omega
              clear HX2 HO2 HLEN
              have HRF := Lib.hid (show R = false by rw [HR.out, decide_eq_false (by omega), Bool.false_and])
              clear HR
              go_wp2
              go_ret
              exact ⟨congrArg (fun x => Ending.returned (Value.bool x)) HRF.out.symm, B2'.out⟩
            · have e4_0 : decide (v.left < 1) = false := by simp; omega
              have e4_1 : decide (v.left ≤ 0) = false := by simp; omega
              by_cases h5 : (m : Int) ≤ v.left
              · have e0 : decide ((m : Int) ≤ v.left) = true := by simp; omega
                clear HX2 HO2 HLEN
                have HRF := Lib.hid (show R = false by rw [HR.out, decide_eq_false (by omega), Bool.false_and])
                clear HR
                go_wp2
                go_ret
                exact ⟨congrArg (fun x => Ending.returned (Value.bool x)) HRF.out.symm, B2'.out⟩
              · have e5_0 : decide ((m : Int) ≤ v.left) = false := by simp; omega
                by_cases h6 : v.right < 1
                · have e0 : decide (v.right < 1) = true := by simp; omega
                  have e1 : decide (v.right ≤ 0) = true := by simp; omega
                  clear HX2 HO2 HLEN
                  have HRF := Lib.hid (show R = false by rw [HR.out, decide_eq_false (by omega), Bool.false_and])
                  clear HR
                  go_wp2
                  go_ret
                  exact ⟨congrArg (fun x => Ending.returned (Value.bool x)) HRF.out.symm, B2'.out⟩
                · have e6_0 : decide (v.right < 1) = false := by simp; omega
                  have e6_1 : decide (v.right ≤ 0) = false := by simp; omega
                  by_cases h7 : (m : Int) ≤ v.right
                  · have e0 : decide ((m : Int) ≤ v.right) = true := by simp; omega
                    clear HX2 HO2 HLEN
                    have HRF := Lib.hid (show R = false by rw [HR.out, decide_eq_false (by omega), Bool.false_and])
                    clear HR
                    go_wp2
                    go_ret
                    exact ⟨congrArg (fun x => Ending.returned (Value.bool x)) HRF.out.symm, B2'.out⟩
                  · have e7_0 : decide ((m : Int) ≤ v.right) = false := by simp; omega
                    have HC := Lib.hid (show R = (decide (v.thr = 0) && rising v.cats) by rw [HR.out, decide_eq_true (by have := HMI.out; omega), Bool.true_and])
                    clear HR
                    rw [show decide (v.thr = 0) = ((v.thr : Int) == 0) by rw [Bool.eq_iff_iff]; simp, hyt] at HC
                    clear hyt
                    go_upto_region 9 with (fail)
                    have HCL := Lib.hid (fun (h : 0 < n) => HX2.out.cells h)
                    clear HX2 HO2 n0 n1 n2 n3 n5 n6 n7
                    go_wp2_with fail
                    go_loopw [6, 110] (fun lx ix wr => ∃ (i : Nat) (last : Int), lx = .int .i64 last ∧ ix = .int .i64 (i : Int) ∧ i ≤ n ∧ Hid (risingF (-1) (v.cats.take i) = some last) ∧ wr = w2) (fun _ ix _ => n - (intOf ix).toNat)
                    case atStart => exact ⟨0, -1, rfl, rfl, Nat.zero_le _, Lib.hid rfl, rfl⟩
                    case round =>
                      obtain ⟨i, last, rfl, rfl, hi, HRI, rfl⟩ := hrel
                      by_cases hlt : i < n
                      · obtain ⟨b, o, rfl, hcc⟩ := HCL.out (by omega)
                        have h0c : wr.cell? ⟨b, o + i, none⟩ = some (.int .i64 (v.cats.getD i 0)) := hcc i hlt
                        have hs := take_snocD (zs := v.cats) (i := i) (by rw [HLEN.out]; exact hlt)
                        have hst : risingF (-1) (v.cats.take (i + 1)) = if v.cats.getD i 0 ≤ last ∨ 1024 ≤ v.cats.getD i 0 then none else some (v.cats.getD i 0) := by rw [hs, risingF_snoc, HRI.out]; rfl
                        generalize v.cats.getD i 0 = z at h0c hst
                        clear hcc hs
                        have i1 : decide ((i : Int) < (n : Int)) = true := by simp; omega
                        have i2 : (i : Int) < (n : Int) := by omega
                        have hbad : (z ≤ last ∨ 1024 ≤ z) → R = false := by
                          intro h
                          have h1 := risingF_none (v.cats.take (i + 1)) (v.cats.drop (i + 1)) (by rw [hst, if_pos h])
                          rw [List.take_append_drop] at h1
                          rw [HC.out, h1, Bool.and_false]
                        by_cases hz1 : z ≤ last
                        · have HB := Lib.hid (hbad (.inl hz1))
                          clear hst hbad
                          go_wp2
                          go_ret
                          exact ⟨congrArg (fun x => Ending.returned (Value.bool x)) HB.out.symm, B2'.out⟩
                        · by_cases hz2 : 1024 ≤ z
                          · have HB := Lib.hid (hbad (.inr hz2))
                            clear hst hbad
                            go_wp2
                            go_ret
                            exact ⟨congrArg (fun x => Ending.returned (Value.bool x)) HB.out.symm, B2'.out⟩
                          · have HR2 : Hid (risingF (-1) (v.cats.take (i + 1)) = some z) := Lib.hid (by rw [hst, if_neg (by omega)])
                            clear hst hbad
                            go_wp2
                            go_roundw
                            case rel => exact ⟨i + 1, z, rfl, by go_num, hlt, HR2, trivial⟩
                            case measure => simp [intOf]; omega
                      · obtain rfl : i = n := by omega
                        have i1 : decide ((i : Int) < (i : Int)) = false := by simp
                        have hrz : rising v.cats = decide (0 ≤ last) := by
                          have := HRI.out
                          rw [List.take_of_length_le (by rw [HLEN.out]; exact Nat.le_refl _)] at this
                          unfold rising; rw [this]
                        have HB := Lib.hid (show R = (yt && decide (0 ≤ last)) by rw [HC.out, hrz])
                        clear hrz
                        by_cases hz1 : 0 ≤ last
                        all_goals cases yt
                        all_goals
                          have p1 := HB.out
                          simp only [hz1, decide_true, decide_false, Bool.and_true, Bool.and_false] at p1
                          have HP1 := Lib.hid p1
                          clear p1
                          try (have p2 : decide (0 ≤ last) = false := by simp; omega)
                          go_wp2
                          go_ret
                          exact ⟨congrArg (fun x => Ending.returned (Value.bool x)) HP1.out.symm, B2'.out⟩

set_option maxRecDepth 100000 in
set_option maxHeartbeats 4000000 in
theorem nright_other (A : Option Addr) (n c m : Nat) (v : NdV) (w : World) (hk1 : v.kind ≠ 1) (hk2 : v.kind ≠ 2) (hk3 : v.kind ≠ 3) :
    Calls Tryz.prog 66 #[.agg (ndCells A n c v).toArray, .int .i64 (m : Int)] w fun e w' => e = .returned (.bool (nodeV m v)) ∧ Below w.heap.size w w' := by
  have B1 := (Below.refl w.heap.size w).alloc (Nat.le_refl _) (.cells (ndCells A n c v).toArray 72)
  obtain ⟨R, hR⟩ : ∃ R, nodeV m v = R := ⟨_, rfl⟩
  rw [hR]
  have HR := Lib.hid (show R = false by rw [← hR]; unfold nodeV; rw [if_neg hk1, decide_eq_false (by omega), Bool.false_and, Bool.false_and])
  have HI := Lib.hid (fun W => inner_any A n c v W)
  rw [show innerV v = false by unfold innerV; simp; omega] at HI
  have f1 : ((v.kind : Int) == 1) = false := by simp; omega
  have f2 : decide ((v.kind : Int) = 1) = false := by simp; omega
  have f64 := Tryz.f64bits
  have HB1 := Lib.hid B1
  unfold ndCells at HB1 HI ⊢
  clear hR hk1 hk2 hk3 B1
  go_enter Tryz.func66, Tryz.ntmps66
  go_wp2_with fail
  refine (HI.out _).mono ?_; rintro e w2 ⟨rfl, b2⟩
  have B2 := below_then HB1.out HB1.out.size b2
  go_wp2
  go_ret
  exact ⟨congrArg (fun x => Ending.returned (Value.bool x)) HR.out.symm, B2⟩

theorem nright_any (A : Option Addr) (n c m : Nat) (v : NdV) (w : World) (hx : Ints w A n c v.cats) :
    Calls Tryz.prog 66 #[.agg (ndCells A n c v).toArray, .int .i64 (m : Int)] w fun e w' => e = .returned (.bool (nodeV m v)) ∧ Below w.heap.size w w' := by
  by_cases h1 : v.kind = 1
  · exact nright_leaf A n c m v w hx h1
  · by_cases h2 : v.kind = 2
    · exact nright_num A n c m v w hx h2
    · by_cases h3 : v.kind = 3
      · exact nright_cat A n c m v w hx h3
      · exact nright_other A n c m v w h1 h2 h3

end Go.Proofs.YtekcpapkicmckaaGreatDoor

namespace Go.Proofs.YtekcpapkicmckaaGreatDoor
open Go.RowKit

theorem Tryz.info_bool : (Tryz.prog.info? 4).map (fun i => (i.zero, i.size, i.bytes)) = some (some (.bool false), 1, 1) := by kernel_rfl

theorem belowT_range (nds : List NdV) : ∀ k j, 0 ≤ (belowT nds k).getD j 0 ∧ (belowT nds k).getD j 0 ≤ 2 * k
  | 0, j => by
    simp only [belowT, List.getD_eq_getElem?_getD, List.getElem?_replicate]
    split <;> simp
  | k + 1, j => by
    have ih := belowT_range nds k
    have hi : ∀ (l : List Int) (i : Nat) (B : Int), (∀ j, 0 ≤ l.getD j 0 ∧ l.getD j 0 ≤ B) → ∀ j, 0 ≤ (incAt l i).getD j 0 ∧ (incAt l i).getD j 0 ≤ B + 1 := by
      intro l i B h j
      have h1 := h j
      have h2 := h i
      unfold incAt
      simp only [List.getD_eq_getElem?_getD, List.getElem?_set] at h1 h2 ⊢
      split
      · split
        · simp only [Option.getD_some]; omega
        · simp; omega
      · omega
    simp only [belowT]
    split
    · have := hi _ (ndAt nds k).right.toNat _ (hi _ (ndAt nds k).left.toNat _ ih) j
      omega
    · have := ih j
      omega

theorem incAt_range {l : List Int} {B : Int} (h : ∀ j, 0 ≤ l.getD j 0 ∧ l.getD j 0 ≤ B) (i j : Nat) : 0 ≤ (incAt l i).getD j 0 ∧ (incAt l i).getD j 0 ≤ B + 1 := by
  have h1 := h j
  have h2 := h i
  unfold incAt
  simp only [List.getD_eq_getElem?_getD, List.getElem?_set] at h1 h2 ⊢
  split
  · split
    · simp only [Option.getD_some]; omega
    · simp; omega
  · omega
theorem cell_of_block' {w : World} {k : Nat} {cs : Array Value} {T : TypeId} {fr : Nat × Nat} (h : w.heap[k]? = some (.cells cs T fr)) {j : Nat} {v : Value} (hv : cs[j]? = some v) : w.cell? ⟨k, j, none⟩ = some v := cell_of_block h hv
theorem stored_inc {T : TypeId} {w : World} {base g c n : Nat} {l : List Int} (h : Mine T w base (some ⟨g, 0, none⟩) n c (i64s l)) {j : Nat} (hj : j < n) {x : Int} (hx : l.getD j 0 = x) :
    Mine T (w.setCell ⟨g, j, none⟩ (.int .i64 (x + 1))) base (some ⟨g, 0, none⟩) n c (i64s (incAt l j)) := by
  have := h.stored j hj (.int .i64 (x + 1))
  unfold incAt
  rw [hx]
  simpa [i64s, List.map_set] using this

/-- how many are not reached -/
def cf : List Bool → Nat
  | [] => 0
  | b :: l => (if b then 0 else 1) + cf l
theorem cf_set : ∀ (R : List Bool) (i : Nat), i < R.length → R.getD i false = false → cf (R.set i true) + 1 = cf R
  | [], i, h, _ => by simp at h
  | b :: l, 0, _, h => by
    simp at h
    simp [cf, h]
    omega
  | b :: l, i + 1, hi, h => by
    simp only [List.set_cons_succ, cf]
    have := cf_set l i (by simpa using hi) (by simpa using h)
    omega
theorem cf_replicate : ∀ n, cf (List.replicate n false) = n
  | 0 => rfl
  | n + 1 => by simp [List.replicate_succ, cf, cf_replicate n]; omega
def bools (R : List Bool) : List Value := R.map fun b => .bool b
theorem bools_getD {R : List Bool} {j : Nat} (h : j < R.length) : (bools R).getD j undef = .bool (R.getD j false) := by
  simp [bools, List.getD, List.getElem?_eq_getElem h]
/-- a stack's cells, its top last -/
def stv (st : List Nat) : List Value := i64s (st.reverse.map fun (x : Nat) => (x : Int))
theorem stv_length (st : List Nat) : (stv st).length = st.length := by simp [stv, i64s]
theorem stv_top (i : Nat) (st : List Nat) : (stv (i :: st)).getD st.length undef = .int .i64 (i : Int) := by
  simp [stv, i64s, List.getD_eq_getElem?_getD]
theorem stv_pop (i : Nat) (st : List Nat) : (stv (i :: st)).take (st.length * 1) = stv st := by
  simp [stv, i64s]
theorem stv_push (st : List Nat) (l r : Nat) : stv st ++ [.int .i64 (l : Int), .int .i64 (r : Int)] = stv (r :: l :: st) := by
  simp [stv, i64s]
theorem dfs_nil (nds : List NdV) (k : Nat) (R : List Bool) : dfs nds k R [] = R := by cases k <;> rfl

def shpOf (x : Int × Int) : Ending := .returned (.tuple #[.int .i64 x.1, .int .i64 x.2])

theorem splitF_drop (n : Int) (nds : List NdV) (i : Nat) (hi : i < nds.length) : splitF n i (nds.drop i) = if nodeV n nds[i] then splitF n (i + 1) (nds.drop (i + 1)) else some i := by
  rw [List.drop_eq_getElem_cons hi]; rfl

set_option maxRecDepth 100000 in
set_option maxHeartbeats 4000000 in
theorem Shape_any (out : Int) (A : Option Addr) (n c : Nat) (nds : List NdV) (w : World) (hp : NdsAt w A n c nds) (hn : n ≤ 1000000000000) :
    Calls Tryz.prog 34 #[.agg #[.int .i64 out, .slice A n c]] w fun e w' => e = shpOf (shapeV nds) ∧ Below w.heap.size w w' := by
  have B1 := (Below.refl w.heap.size w).alloc (Nat.le_refl _) (.cells #[.int .i64 out, .slice A n c] 65)
  have hT := heap_alloc_new w (.cells #[.int .i64 out, .slice A n c] 65)
  have hp1 := hp.below B1
  have hlen := hp.len
  have hnb := hp.big
  obtain ⟨R, hR⟩ : ∃ R, shapeV nds = R := ⟨_, rfl⟩
  rw [hR]
  have HR := Lib.hid hR
  clear hp hR
  go_enter Tryz.func34, Tryz.ntmps34
  go_upto_region 1 with (fail)
  generalize w.alloc (.cells #[.int .i64 out, .slice A n c] 65) = w1 at *
  have t1 : w1.cell? ⟨w.heap.size, 1, none⟩ = some (.slice A n c) := cell_of_block hT rfl
  by_cases h0 : n = 0
  · have HRR := Lib.hid (show R = (70, 0) by rw [← HR.out]; unfold shapeV; rw [if_pos (by omega)])
    subst h0
    go_wp2
    go_ret2
    exact ⟨by rw [HRR.out]; rfl, B1⟩
  · have f1 : ((n : Int) == 0) = false := by simp; omega
    have f2 : decide ((n : Int) = 0) = false := by simp; omega
    have hRN : R = shapeEnd (splitF n 0 nds) (badF (belowT nds n) (reachedV nds) n 0) := by rw [← HR.out]; unfold shapeV; rw [if_neg (by omega), hlen]
    have HRN := Lib.hid hRN
    have hlt0 := lt_of_block hT
    have H0 := Lib.hid h0
    have HMK := make_row (P := Tryz.prog) 44 3 (.int .i64 0) 8 Tryz.underlying44 Tryz.info_int rfl (by omega) n n (Nat.le_refl _) (by omega)
    clear hRN h0 HR
    go_upto_region 4 with (fail)
    have b2 := (Below.refl w1.heap.size w1).alloc (Nat.le_refl _) (.cells (Array.replicate n (.int .i64 0)) 3)
    have hm2 : Mine 3 (w1.alloc (.cells (Array.replicate n (.int .i64 0)) 3)) w1.heap.size (some ⟨w1.heap.size, 0, none⟩) n n (i64s (belowT nds 0)) := by
      have hm1 := Mine.made 3 w1 w1.heap.size (.int .i64 0) n n (Nat.le_refl _) (Nat.le_refl _) (by omega)
      rw [show i64s (belowT nds 0) = List.replicate n (.int .i64 0) by simp [i64s, belowT, hlen]]
      exact hm1
    generalize w1.alloc (.cells (Array.replicate n (.int .i64 0)) 3) = w2 at b2 hm2 ⊢
    have hT2 := (b2.block _ hlt0).trans hT
    have t2 : w2.cell? ⟨w.heap.size, 1, none⟩ = some (.slice A n c) := cell_of_block hT2 rfl
    have HLEN := Lib.hid hlen
    clear HMK t1 hlen hT2
    go_upto_region 5 with (fail)
    go_loopw [24] (fun ix wr => ∃ (i : Nat), ix = .int .i64 (i : Int) ∧ i ≤ n ∧ Mine 3 wr w1.heap.size (some ⟨w1.heap.size, 0, none⟩) n n (i64s (belowT nds i)) ∧ Hid (splitF n 0 nds = splitF n i (nds.drop i)) ∧ Hid (∀ j, j < i → nodeV n (ndAt nds j) = true) ∧ Below w1.heap.size w1 wr) (fun ix _ => n - (intOf ix).toNat)
    case atStart => exact ⟨0, rfl, Nat.zero_le _, hm2, Lib.hid rfl, Lib.hid (fun j hj => absurd hj (Nat.not_lt_zero j)), b2⟩
    case round =>
      obtain ⟨i, rfl, hi, hmr, HSP, HND, hbr⟩ := hrel
      have hTr := (hbr.block _ hlt0).trans hT
      have tr1 : wr.cell? ⟨w.heap.size, 1, none⟩ = some (.slice A n c) := cell_of_block hTr rfl
      have hltr := lt_of_block hTr
      have HGW := Lib.hid (hmr.lt w1.heap.size rfl).2
      by_cases hlt : i < n
      · have hpr := hp1.below hbr
        have hlen := HLEN.out
        obtain ⟨b, o, rfl, hc⟩ := hpr.cells (by omega)
        obtain ⟨V1, V2, V3, hr, hic, hk1, hk2⟩ := hc i (by omega)
        have hsd := splitF_drop n nds i (by omega)
        rw [← HSP.out] at hsd
        have hat := ndAt_get (nds := nds) (i := i) (by omega)
        generalize nds[i]'(by omega) = v at hr hic hk1 hk2 hsd hat
        have HAT := Lib.hid hat
        have HSD := Lib.hid hsd
        have r0 : _ = some _ := range_cell (o := o + i * 8) hr 0 rfl
        rw [Nat.add_zero] at r0
        have r1 := range_cell hr 1 rfl
        have r2 := range_cell hr 2 rfl
        have r3 := range_cell hr 3 rfl
        have r4 := range_cell hr 4 rfl
        have r5 := range_cell hr 5 rfl
        have r6 := range_cell hr 6 rfl
        have r7 := range_cell hr 7 rfl
        have hlb : b < wr.heap.size := World.block_lt_of_cell? wr _ r0
        have hsf : ∀ (W : World) (a : Addr) (b : Nat), (store a (.float .f64 b)).run Tryz.prog W = stored Tryz.prog W a (.float .f64 b) .plain := fun W a b => run_store _ W a _ _ rfl
        have i1 : (i : Int) < (n : Int) := by omega
        have i2 : decide ((i : Int) < (n : Int)) = true := by simpa using i1
        clear hc hr hlen hsd hat hpr
        go_upto_region 7 with (fail)
        have b5 := (Below.refl wr.heap.size wr).alloc (Nat.le_refl _) (.cells (ndCells V1 V2 V3 v).toArray 72)
        have hO5 : (wr.alloc (.cells (ndCells V1 V2 V3 v).toArray 72)).heap[wr.heap.size]? = some (.cells (ndCells V1 V2 V3 v).toArray 72 (0, 0)) := heap_alloc_new wr _
        have HNR := Lib.hid (nright_any V1 V2 V3 n v _ (hic.below b5))
        have HIN := Lib.hid (fun W => inner_any V1 V2 V3 v W)
        unfold ndCells at b5 hO5 HNR HIN
        generalize (wr.alloc (.cells #[.int .u8 (v.kind : Int), .int .i64 v.value, .int .i64 v.feature, .float .f64 v.thr, .slice V1 V2 V3, .int .u8 (v.missing : Int), .int .i64 v.left, .int .i64 v.right] 72)) = w5 at b5 hO5 HNR ⊢
        obtain ⟨n0, n1, n2, n3, n4, n5, n6, n7⟩ := nd_box (v := v) hO5
        have t5 : w5.cell? ⟨w.heap.size, 1, none⟩ = some (.slice (some ⟨b, o, none⟩) n c) := (b5.cell (p := ⟨w.heap.size, 1, none⟩) hltr).trans tr1
        have hb5 := below_then hbr hbr.size b5
        have hm5 := hmr.below b5
        have HO5 := Lib.hid hO5
        clear r0 r1 r2 r3 r4 r5 r6 r7 tr1 hO5 b5 hbr hmr hic hTr
        obtain ⟨nv, hnv⟩ : ∃ y, nodeV n v = y := ⟨_, rfl⟩
        rw [hnv] at HNR HSD
        have HNV := Lib.hid hnv
        clear hnv
        cases nv
        · have HRR := Lib.hid (show R = (71, (i : Int)) by rw [HRN.out, HSD.out]; rfl)
          go_wp2_with fail
          refine HNR.out.mono ?_; rintro e w6 ⟨rfl, b6⟩
          have BB := below_then B1 B1.size (below_then hb5 hb5.size b6)
          go_wp2
          go_ret2
          exact ⟨by rw [HRR.out]; rfl, BB⟩
        · go_wp2_with fail
          refine HNR.out.mono ?_; rintro e w6 ⟨rfl, b6⟩
          have hO6 := (b6.block _ (lt_of_block HO5.out)).trans HO5.out
          have hb6 := below_then hb5 hb5.size b6
          have hm6 := hm5.below b6
          clear n0 n1 n2 n3 n4 n5 n6 n7 t5 hb5 hm5 b6 HO5
          obtain ⟨n0, n1, n2, n3, n4, n5, n6, n7⟩ := nd_box (v := v) hO6
          have HO6 := Lib.hid hO6
          have HI6 := Lib.hid (HIN.out w6)
          clear hO6 HNR HIN
          have HND2 : Hid (∀ j, j < i + 1 → nodeV n (ndAt nds j) = true) := Lib.hid (fun j hj => by
            by_cases e : j = i
            · rw [e, HAT.out]; exact HNV.out
            · exact HND.out j (by omega))
          have HSP2 : Hid (splitF n 0 nds = splitF n (i + 1) (nds.drop (i + 1))) := Lib.hid (by rw [HSD.out]; rfl)
          obtain ⟨iv, hiv⟩ : ∃ y, innerV v = y := ⟨_, rfl⟩
          rw [hiv] at HI6
          have HIV := Lib.hid hiv
          clear hiv
          cases iv
          · have HBT := Lib.hid (show belowT nds (i + 1) = belowT nds i by simp only [belowT]; rw [HAT.out, HIV.out]; rfl)
            go_wp2_with fail
            refine HI6.out.mono ?_; rintro e w7 ⟨rfl, b7⟩
            have hb7 := below_then hb6 hb6.size b7
            have hm7 := hm6.below b7
            rw [← HBT.out] at hm7
            clear n0 n1 n2 n3 n4 n5 n6 n7
            go_wp2
            go_roundw
            case rel => exact ⟨i + 1, by go_num, hlt, hm7, HSP2, HND2, hb7⟩
            case measure => simp [intOf]; omega
          · go_wp2_with fail
            refine HI6.out.mono ?_; rintro e w7 ⟨rfl, b7⟩
            have hni := nodeV_inner HNV.out HIV.out
            obtain ⟨L, hL⟩ := Int.eq_ofNat_of_zero_le (show 0 ≤ v.left by omega)
            obtain ⟨Q, hQ⟩ := Int.eq_ofNat_of_zero_le (show 0 ≤ v.right by omega)
            have hLn : L < n := by omega
            have hQn : Q < n := by omega
            have HBT := Lib.hid (show belowT nds (i + 1) = incAt (incAt (belowT nds i) L) Q by
              simp only [belowT]
              rw [HAT.out, HIV.out, hL, hQ]
              rfl)
            have hbl : (belowT nds i).length = n := by rw [belowT_length]; exact HLEN.out
            have hz1 := belowT_range nds i L
            have hb7 := below_then hb6 hb6.size b7
            have hm7 := hm6.below b7
            have hO7 := (b7.block _ (lt_of_block HO6.out)).trans HO6.out
            clear n0 n1 n2 n3 n4 n5 n6 n7 hm6 hb6 HI6 b7
            have n6 : w7.cell? ⟨wr.heap.size, 6, none⟩ = some (.int .i64 v.left) := cell_of_block hO7 rfl
            have n7 : w7.cell? ⟨wr.heap.size, 7, none⟩ = some (.int .i64 v.right) := cell_of_block hO7 rfl
            rw [hL] at n6
            rw [hQ] at n7
            have s1 := hm7.cell L hLn
            rw [i64s_getD (by omega)] at s1
            have z1 := hm7.free L
            obtain ⟨x1, hx1⟩ : ∃ z, (belowT nds i).getD L 0 = z := ⟨_, rfl⟩
            rw [hx1] at s1 hz1
            have l1 : (L : Int) < (n : Int) := by omega
            have hol := lt_of_block hO7
            have HO7 := Lib.hid hO7
            have HX1 := Lib.hid hx1
            have hx0 : 0 ≤ x1 := hz1.1
            have hx9 : x1 ≤ 2000000000000 := by omega
            have HBL := Lib.hid hbl
            have HQ := Lib.hid hQ
            clear hni hL hQ hx1 hO7 hz1 hbl
            go_upto_region 11 with (fail)
            have hm8 : Mine 3 (w7.setCell ⟨w1.heap.size, L, none⟩ (.int .i64 (x1 + 1))) w1.heap.size (some ⟨w1.heap.size, 0, none⟩) n n (i64s (incAt (belowT nds i) L)) := by
              exact stored_inc hm7 hLn HX1.out
            have hgw : w1.heap.size < wr.heap.size := HGW.out
            have n8 : (w7.setCell ⟨w1.heap.size, L, none⟩ (.int .i64 (x1 + 1))).cell? ⟨wr.heap.size, 7, none⟩ = some (.int .i64 (Q : Int)) := cell_of_block' ((setCell_other (by omega) _ _).trans HO7.out) (by rw [← HQ.out]; rfl)
            have hb8 := hb7.setCell (p := ⟨w1.heap.size, L, none⟩) (Nat.le_refl _) (.int .i64 (x1 + 1))
            generalize w7.setCell ⟨w1.heap.size, L, none⟩ (.int .i64 (x1 + 1)) = w8 at hm8 n8 hb8 ⊢
            have hz2 := incAt_range (belowT_range nds i) L Q
            have s2 := hm8.cell Q hQn
            rw [i64s_getD (by rw [incAt_length, HBL.out]; exact hQn)] at s2
            have z2 := hm8.free Q
            obtain ⟨x2, hx2⟩ : ∃ z, (incAt (belowT nds i) L).getD Q 0 = z := ⟨_, rfl⟩
            rw [hx2] at s2 hz2
            have l2 : (Q : Int) < (n : Int) := by omega
            have hy0 : 0 ≤ x2 := hz2.1
            have hy9 : x2 ≤ 2000000000001 := by omega
            have HX2 := Lib.hid hx2
            clear hx2 hz2 n6 n7 s1 z1 hm7 hb7 l1 hx0 hx9
            go_upto_region 12 with (fail)
            have hm9 : Mine 3 (w8.setCell ⟨w1.heap.size, Q, none⟩ (.int .i64 (x2 + 1))) w1.heap.size (some ⟨w1.heap.size, 0, none⟩) n n (i64s (belowT nds (i + 1))) := by
              rw [HBT.out]
              exact stored_inc hm8 hQn HX2.out
            have hb9 := hb8.setCell (p := ⟨w1.heap.size, Q, none⟩) (Nat.le_refl _) (.int .i64 (x2 + 1))
            generalize w8.setCell ⟨w1.heap.size, Q, none⟩ (.int .i64 (x2 + 1)) = w9 at hm9 hb9 ⊢
            clear s2 z2 hm8 hb8 n8
            go_wp2
            go_roundw
            case rel => exact ⟨i + 1, by go_num, hlt, hm9, HSP2, HND2, hb9⟩
            case measure => simp [intOf]; omega
      · rename World => wo
        obtain rfl : i = n := by omega
        have i1 : ¬ (i : Int) < (i : Int) := by omega
        have i2 : decide ((i : Int) < (i : Int)) = false := by simp
        have HRN2 := Lib.hid (show R = shapeEnd none (badF (belowT nds i) (reachedV nds) i 0) by
          rw [HRN.out, HSP.out, List.drop_of_length_le (by rw [HLEN.out]; exact Nat.le_refl _)]; rfl)
        have HMK := make_row (P := Tryz.prog) 83 4 (.bool false) 1 Tryz.underlying83 Tryz.info_bool rfl (by omega) i i (Nat.le_refl _) (by omega)
        clear HRN HSP hT hm2 b2 t2
        go_upto_region 15 with (fail)
        have hprr := hp1.below hbr
        have b3 := ((Below.refl wo.heap.size wo).alloc (Nat.le_refl _) (.cells (Array.replicate i (.bool false)) 4)).alloc (by simp) (.cells #[.int .i64 0] 3)
        have hmb3 : Mine 4 ((wo.alloc (.cells (Array.replicate i (.bool false)) 4)).alloc (.cells #[.int .i64 0] 3)) wo.heap.size (some ⟨wo.heap.size, 0, none⟩) i i (bools (List.replicate i false)) := by
          have hm1 := Mine.made 4 wo wo.heap.size (.bool false) i i (Nat.le_refl _) (Nat.le_refl _) (by omega)
          rw [show bools (List.replicate i false) = List.replicate i (.bool false) by simp [bools]]
          exact hm1.below ((Below.refl _ _).alloc (Nat.le_refl _) _)
        have hst3 : MineK 1 3 ((wo.alloc (.cells (Array.replicate i (.bool false)) 4)).alloc (.cells #[.int .i64 0] 3)) wo.heap.size (some ⟨wo.heap.size + 1, 0, none⟩) 1 1 (stv [0]) :=
          ⟨rfl, Nat.le_refl _, by omega, .inr ⟨wo.heap.size + 1, [], rfl, by omega, by
            have := heap_alloc_new (wo.alloc (.cells (Array.replicate i (.bool false)) 4)) (.cells #[.int .i64 0] 3)
            simpa [stv, i64s] using this, by simp⟩⟩
        generalize (wo.alloc (.cells (Array.replicate i (.bool false)) 4)).alloc (.cells #[.int .i64 0] 3) = w3 at b3 hmb3 hst3 ⊢
        have BB := Lib.hid (below_then B1 B1.size hbr)
        have HTr := Lib.hid hTr
        have HPR := Lib.hid hprr
        have HMR := Lib.hid hmr
        have h0i : 0 < i := by have := H0.out; omega
        clear HMK tr1 hTr hprr hmr B1 hbr hp1 hlt0
        go_loopg [8] (3 * i + 1) (fun k sx wq => ∃ (Q : List Bool) (st : List Nat) (SA : Option Addr) (sn sc : Nat), sx = .slice SA sn sc ∧ k ≤ 3 * i + 1 ∧ MineK 1 3 wq wo.heap.size SA sn sc (stv st) ∧ Mine 4 wq wo.heap.size (some ⟨wo.heap.size, 0, none⟩) i i (bools Q) ∧
          blockOf SA ≠ some wo.heap.size ∧ Hid (∀ x ∈ st, x < i) ∧ Hid (dfs nds k Q st = reachedV nds) ∧ 3 * cf Q + st.length ≤ k ∧ Below wo.heap.size wo wq)
        case atStart => exact ⟨_, [0], _, 1, 1, rfl, Nat.le_refl _, hst3, hmb3, by simp [blockOf], Lib.hid (by simpa using h0i), Lib.hid (by unfold reachedV; rw [HLEN.out]), by rw [cf_replicate]; simp, b3⟩
        case round =>
          obtain ⟨Q, st, SA, sn, sc, rfl, hk, hst, hmb, hap, HSX, HDF, hcf, hbq⟩ := hrel
          have hql : Q.length = i := by have := hmb.len; simpa [bools] using this
          have hsl := hst.len
          rw [stv_length] at hsl
          have hsc := hst.cap
          cases st with
          | nil =>
            obtain rfl : sn = 0 := by simp at hsl; omega
            have HQR := Lib.hid (show Q = reachedV nds by rw [← HDF.out, dfs_nil])
            have hTq := (hbq.block _ hltr).trans HTr.out
            have tq1 : wr.cell? ⟨w.heap.size, 1, none⟩ = some (.slice A i c) := cell_of_block hTq rfl
            have hmq := HMR.out.below hbq
            have BQ := Lib.hid (below_then BB.out BB.out.size hbq)
            have HQL := Lib.hid hql
            clear hsl hst HDF hTq hql
            rename World => wz
            go_upto_region 24 with (fail)
            go_loopw [96] (fun ix wq => ∃ (j : Nat), ix = .int .i64 (j : Int) ∧ j ≤ i ∧ Hid (badF (belowT nds i) (reachedV nds) i 0 = badF (belowT nds i) (reachedV nds) (i - j) j) ∧ Hid (wq = wz)) (fun ix _ => i - (intOf ix).toNat)
            case atStart => exact ⟨0, rfl, Nat.zero_le _, Lib.hid rfl, Lib.hid rfl⟩
            case round =>
              obtain ⟨j, rfl, hj, HBF, HWQ⟩ := hrel
              have hwq := HWQ.out
              subst hwq
              clear HWQ
              by_cases hjt : j < i
              · have s1 := hmq.cell j hjt
                rw [i64s_getD (by rw [belowT_length, HLEN.out]; exact hjt)] at s1
                have p1 := hmb.cell j hjt
                rw [bools_getD (by rw [HQL.out]; exact hjt), HQR.out] at p1
                have hbf : badF (belowT nds i) (reachedV nds) (i - j) j = if (belowT nds i).getD j 0 ≠ (if j = 0 then 0 else 1) ∨ (reachedV nds).getD j false = false then some j else badF (belowT nds i) (reachedV nds) (i - (j + 1)) (j + 1) := by
                  rw [show i - j = (i - (j + 1)) + 1 by omega]; rfl
                rw [← HBF.out] at hbf
                obtain ⟨z, hz⟩ : ∃ z, (belowT nds i).getD j 0 = z := ⟨_, rfl⟩
                obtain ⟨y, hy⟩ : ∃ y, (reachedV nds).getD j false = y := ⟨_, rfl⟩
                rw [hz] at s1 hbf
                rw [hy] at p1 hbf
                have HBF2 := Lib.hid hbf
                clear hz hy hbf
                have l1 : (j : Int) < (i : Int) := by omega
                have l2 : decide ((j : Int) < (i : Int)) = true := by simpa using l1
                obtain ⟨wv, hwv⟩ : ∃ x, min (j : Int) 1 = x := ⟨_, rfl⟩
                have hww : wv = if j = 0 then 0 else 1 := by
                  rw [← hwv]
                  split <;> omega
                rw [← hww] at HBF2
                obtain ⟨t, ht⟩ : ∃ t, (z != wv) = t := ⟨_, rfl⟩
                have ht2 : decide (z = wv) = !t := by rw [← ht, bne, Bool.not_not]; rfl
                have HBF3 := Lib.hid (show badF (belowT nds i) (reachedV nds) i 0 = if (t || !y) = true then some j else badF (belowT nds i) (reachedV nds) (i - (j + 1)) (j + 1) by
                  rw [HBF2.out, ← ht]
                  congr 1
                  cases y <;> simp)
                clear HBF2 hww
                cases t
                · cases y
                  · have HRR := Lib.hid (show R = (70, (j : Int)) by rw [HRN2.out, HBF3.out]; rfl)
                    go_wp2
                    go_ret2
                    exact ⟨by rw [HRR.out]; rfl, BQ.out⟩
                  · go_wp2
                    go_roundw
                    case rel => exact ⟨j + 1, by go_num, hjt, Lib.hid (by rw [HBF3.out]; rfl), Lib.hid trivial⟩
                    case measure => simp [intOf]; omega
                · have HRR := Lib.hid (show R = (70, (j : Int)) by rw [HRN2.out, HBF3.out]; rfl)
                  go_wp2
                  go_ret2
                  exact ⟨by rw [HRR.out]; rfl, BQ.out⟩
              · obtain rfl : j = i := by omega
                have l2 : decide ((j : Int) < (j : Int)) = false := by simp
                have HRR := Lib.hid (show R = (0, 0) by rw [HRN2.out, HBF.out, Nat.sub_self]; rfl)
                go_wp2
                go_ret2
                exact ⟨by rw [HRR.out]; rfl, BQ.out⟩
          | cons p st =>
            simp at hsl
            obtain ⟨m, hm⟩ : ∃ m, sn = m + 1 := ⟨st.length, by omega⟩
            subst hm
            have hml : m = st.length := by omega
            have hpi : p < i := HSX.out p (List.mem_cons_self ..)
            obtain ⟨gs, rfl, hgs1, hgs2⟩ := hst.some_of (by omega)
            have s0 := hst.cell m (by omega)
            rw [hml, stv_top] at s0
            rw [← hml] at s0
            have hst1 := hst.pre m (by omega)
            rw [hml, stv_pop] at hst1
            rw [← hml] at hst1
            obtain ⟨k', rfl⟩ : ∃ k', gk = k' + 1 := ⟨gk - 1, by simp at hcf; omega⟩
            have p0 := hmb.cell p hpi
            rw [bools_getD (by omega)] at p0
            have pz := hmb.free p
            have l0 : (p : Int) < (i : Int) := by omega
            have HDF2 := HDF.out
            unfold dfs at HDF2
            have hm9 : m ≤ 9000000000000 := by simp at hcf; omega
            have e1 : ((m + 1 : Nat) : Int) = (m : Int) + 1 := by omega
            have e2 : (0 : Int) < ((m + 1 : Nat) : Int) := by omega
            have e3 : (m : Int) < ((m + 1 : Nat) : Int) := by omega
            have e4 : (m : Int) ≤ (sc : Int) := by omega
            obtain ⟨rc, hrc⟩ : ∃ y, Q.getD p false = y := ⟨_, rfl⟩
            rw [hrc] at p0 HDF2
            have HD2 := Lib.hid HDF2
            have HRC := Lib.hid hrc
            have HML := Lib.hid hml
            have HE1 := Lib.hid e1
            have HQL := Lib.hid hql
            clear hrc HDF2 hml hsl e1 hql
            go_upto_region 18 with (fail)
            have HSX2 : Hid (∀ x ∈ st, x < i) := Lib.hid (fun x hx => HSX.out x (List.mem_cons_of_mem _ hx))
            simp only [List.length_cons] at hcf
            cases rc
            · have hTq := (hbq.block _ hltr).trans HTr.out
              have tq1 : wr.cell? ⟨w.heap.size, 1, none⟩ = some (.slice A i c) := cell_of_block hTq rfl
              have htl := lt_of_block hTq
              have hsg := setCell_grownBy wr wo.heap.size p (.bool true)
              have hcs := cf_set Q p (by rw [HQL.out]; exact hpi) HRC.out
              have hmb4 : Mine 4 (wr.setCell ⟨wo.heap.size, p, none⟩ (.bool true)) wo.heap.size (some ⟨wo.heap.size, 0, none⟩) i i (bools (Q.set p true)) := by
                have := hmb.stored p hpi (.bool true)
                simpa [bools, List.map_set] using this
              have hst4 := hst1.kept hsg (.inr hap)
              have hb4 := hbq.setCell (p := ⟨wo.heap.size, p, none⟩) (Nat.le_refl _) (.bool true)
              have HD3 := Lib.hid (show dfs nds k' (Q.set p true) (if innerV (ndAt nds p) = true then (ndAt nds p).right.toNat :: (ndAt nds p).left.toNat :: st else st) = reachedV nds by have := HD2.out; simpa using this)
              clear hst1 hsg hst hbq hmb HD2 HDF hTq
              go_upto_region 20 with (fail)
              generalize wr.setCell ⟨wo.heap.size, p, none⟩ (.bool true) = w4 at hmb4 hst4 hb4 ⊢
              clear p0 pz s0 tq1 htl
              have hT4 := (hb4.block _ hltr).trans HTr.out
              have tq1 : w4.cell? ⟨w.heap.size, 1, none⟩ = some (.slice A i c) := cell_of_block hT4 rfl
              have hp4 := HPR.out.below hb4
              have hlen := HLEN.out
              obtain ⟨b, o, rfl, hc⟩ := hp4.cells (by omega)
              obtain ⟨V1, V2, V3, hr, hic, hk1, hk2⟩ := hc p (by omega)
              have hat := ndAt_get (nds := nds) (i := p) (by omega)
              generalize nds[p]'(by omega) = v at hr hic hk1 hk2 hat
              have HAT := Lib.hid hat
              have r0 : _ = some _ := range_cell (o := o + p * 8) hr 0 rfl
              rw [Nat.add_zero] at r0
              have r1 := range_cell hr 1 rfl
              have r2 := range_cell hr 2 rfl
              have r3 := range_cell hr 3 rfl
              have r4 := range_cell hr 4 rfl
              have r5 := range_cell hr 5 rfl
              have r6 := range_cell hr 6 rfl
              have r7 := range_cell hr 7 rfl
              have hlb : b < w4.heap.size := World.block_lt_of_cell? w4 _ r0
              have hsf : ∀ (W : World) (a : Addr) (b : Nat), (store a (.float .f64 b)).run Tryz.prog W = stored Tryz.prog W a (.float .f64 b) .plain := fun W a b => run_store _ W a _ _ rfl
              clear hc hr hlen hat hp4
              go_upto_region 21 with (fail)
              have b5 := (Below.refl w4.heap.size w4).alloc (Nat.le_refl _) (.cells (ndCells V1 V2 V3 v).toArray 72)
              have hO5 : (w4.alloc (.cells (ndCells V1 V2 V3 v).toArray 72)).heap[w4.heap.size]? = some (.cells (ndCells V1 V2 V3 v).toArray 72 (0, 0)) := heap_alloc_new w4 _
              have HIN := Lib.hid (fun W => inner_any V1 V2 V3 v W)
              unfold ndCells at b5 hO5 HIN
              generalize (w4.alloc (.cells #[.int .u8 (v.kind : Int), .int .i64 v.value, .int .i64 v.feature, .float .f64 v.thr, .slice V1 V2 V3, .int .u8 (v.missing : Int), .int .i64 v.left, .int .i64 v.right] 72)) = w5 at b5 hO5 ⊢
              obtain ⟨n0, n1, n2, n3, n4, n5, n6, n7⟩ := nd_box (v := v) hO5
              have hb5 := below_then hb4 hb4.size b5
              have hm5 := hmb4.below b5
              have hs5 := hst4.below b5
              have HO5 := Lib.hid hO5
              obtain ⟨iv, hiv⟩ : ∃ y, innerV v = y := ⟨_, rfl⟩
              have HIV := Lib.hid hiv
              have HI5 := Lib.hid (HIN.out w5)
              rw [hiv] at HI5
              clear r0 r1 r2 r3 r4 r5 r6 r7 tq1 hO5 b5 hb4 hmb4 hst4 hic hT4 hiv HIN
              go_wp2_with fail
              refine HI5.out.mono ?_; rintro e w6 ⟨rfl, b6⟩
              have hb6 := below_then hb5 hb5.size b6
              have hm6 := hm5.below b6
              have hs6 := hs5.below b6
              have hO6 := (b6.block _ (lt_of_block HO5.out)).trans HO5.out
              clear n0 n1 n2 n3 n4 n5 n6 n7 hb5 hm5 hs5 b6 HI5
              cases iv
              · have HD4 : Hid (dfs nds k' (Q.set p true) st = reachedV nds) := Lib.hid (by have := HD3.out; rw [HAT.out, HIV.out] at this; simpa using this)
                go_wp2
                go_roundg k'
                case measure => omega
                case rel => exact ⟨_, st, _, m, sc, rfl, by omega, hs6, hm6, hap, HSX2, HD4, by omega, hb6⟩
              · have hni := nodeV_inner (by rw [← HAT.out]; exact HND.out p hpi) HIV.out
                obtain ⟨L, hL⟩ := Int.eq_ofNat_of_zero_le (show 0 ≤ v.left by omega)
                obtain ⟨U, hU⟩ := Int.eq_ofNat_of_zero_le (show 0 ≤ v.right by omega)
                have hLn : L < i := by omega
                have hUn : U < i := by omega
                have HD4 : Hid (dfs nds k' (Q.set p true) (U :: L :: st) = reachedV nds) := Lib.hid (by have := HD3.out; rw [HAT.out, HIV.out, hL, hU] at this; simpa using this)
                have n6 : w6.cell? ⟨w4.heap.size, 6, none⟩ = some (.int .i64 v.left) := cell_of_block hO6 rfl
                have n7 : w6.cell? ⟨w4.heap.size, 7, none⟩ = some (.int .i64 v.right) := cell_of_block hO6 rfl
                rw [hL] at n6
                rw [hU] at n7
                have hol := lt_of_block hO6
                have b7 := (Below.refl w6.heap.size w6).alloc (Nat.le_refl _) (.cells #[.int .i64 (L : Int), .int .i64 (U : Int)] 3)
                have hs7 := hs6.below b7
                have hm7 := hm6.below b7
                have hn7 := heap_alloc_new w6 (.cells #[.int .i64 (L : Int), .int .i64 (U : Int)] 3)
                have hb7 := below_then hb6 hb6.size b7
                have HN7 := Lib.hid hn7
                have hz7 := hb7.size
                have HSX3 : Hid (∀ x ∈ U :: L :: st, x < i) := Lib.hid (fun x hx => by
                  rcases List.mem_cons.1 hx with rfl | hx
                  · exact hUn
                  · rcases List.mem_cons.1 hx with rfl | hx
                    · exact hLn
                    · exact HSX2.out x hx)
                have HMI := Lib.hid hni
                clear hni hL hU hn7 b7 hb6 hs6 hm6 hO6
                go_wp2_with (at_builtin; refine app_boxK wo.heap.size rfl _ _ _ _ (.int .i64 0) 1 8 rfl Tryz.underlying44 Tryz.info_int rfl (by omega) (some ⟨gs, 0, none⟩) m sc (stv st) w6.heap.size 2 2 _ _ HN7.out rfl rfl rfl (by intro u hu; simp at hu; rcases hu with rfl | rfl <;> rfl) hs7 hz7 (by omega) (by omega) ?_; rintro A' c' w8 hs8 hg8 hA8)
                have hb8 := below_grown hb7 hz7 hg8 (fun k hk => by simp [blockOf] at hk; omega)
                have hm8 := hm7.kept hg8 (.inr (fun e => hap e.symm))
                have hap8 : blockOf A' ≠ some wo.heap.size := by
                  rcases hA8 with e | ⟨k, e, hk⟩
                  · rw [e]; exact hap
                  · have hwz := (hm7.lt wo.heap.size rfl).2
                    rw [e]; intro e2; injection e2 with e2; omega
                rw [show stv st ++ (#[Value.int .i64 (L : Int), .int .i64 (U : Int)] : Array Value).toList = stv (U :: L :: st) from stv_push st L U] at hs8
                clear n6 n7 hs7 hm7 hb7 hg8 hA8
                go_roundg k'
                case measure => omega
                case rel => exact ⟨_, U :: L :: st, A', m + 2, c', rfl, by omega, hs8, hm8, hap8, HSX3, HD4, by simp; omega, hb8⟩
            · have HD3 := Lib.hid (show dfs nds k' Q st = reachedV nds by have := HD2.out; simpa using this)
              clear HD2 HDF s0
              go_wp2
              go_roundg k'
              case measure => omega
              case rel => exact ⟨Q, st, _, m, sc, rfl, by omega, hst1, hmb, hap, HSX2, HD3, by omega, hbq⟩

end Go.Proofs.YtekcpapkicmckaaGreatDoor
