/- The contract of thicketref07.node. -/
import Derived.Test.YtekcpapkicmckaaGreatDoorShq
import Derived.Test.YtekcpapkicmckaaGreatDoorRfc
namespace Go.Proofs.YtekcpapkicmckaaGreatDoor
open Go.RowKit

set_option maxRecDepth 100000 in
set_option maxHeartbeats 8000000 in
theorem rnode_leaf (A : Option Addr) (n c m : Nat) (v : NdV) (w : World) (hx : Ints w A n c v.cats) (hk : v.kind = 1) :
    Calls Tryz.prog 69 #[.agg (ndCells A n c v).toArray, .int .i64 (m : Int)] w fun e w' => e = .returned (.bool (nodeV m v)) ∧ Below w.heap.size w w' := by
  have B1 := (Below.refl w.heap.size w).alloc (Nat.le_refl _) (.cells (ndCells A n c v).toArray 72)
  have hO := heap_alloc_new w (.cells (ndCells A n c v).toArray 72)
  have hcm : v.cats = [] ↔ n = 0 := by rw [← hx.len]; exact List.length_eq_zero_iff.symm
  obtain ⟨R, hR⟩ : ∃ R, nodeV m v = R := ⟨_, rfl⟩
  rw [hR]
  have HR := Lib.hid (show R = decide (v.feature = 0 ∧ v.thr = 0 ∧ n = 0 ∧ v.missing = 0 ∧ v.left = 0 ∧ v.right = 0) by rw [← hR]; unfold nodeV; rw [if_pos hk]; simp only [hcm])
  clear hR hcm hx
  have hkc : (v.kind : Int) = 1 := by omega
  unfold ndCells at B1 hO ⊢
  rw [hkc] at B1 hO ⊢
  have f64 := Tryz.f64bits
  clear hk hkc
  obtain ⟨y1, h1⟩ : ∃ y, (v.feature == 0) = y := ⟨_, rfl⟩
  obtain ⟨y2, h2⟩ : ∃ y, ((v.thr : Int) == 0) = y := ⟨_, rfl⟩
  obtain ⟨y3, h3⟩ : ∃ y, ((n : Int) == 0) = y := ⟨_, rfl⟩
  obtain ⟨y4, h4⟩ : ∃ y, ((v.missing : Int) == 0) = y := ⟨_, rfl⟩
  obtain ⟨y5, h5⟩ : ∃ y, (v.left == 0) = y := ⟨_, rfl⟩
  obtain ⟨y6, h6⟩ : ∃ y, (v.right == 0) = y := ⟨_, rfl⟩
  have HR2 := Lib.hid (show R = (y1 && y2 && y3 && y4 && y5 && y6) by
    rw [HR.out, ← h1, ← h2, ← h3, ← h4, ← h5, ← h6]
    rw [Bool.eq_iff_iff]
    simp only [decide_eq_true_eq, Bool.and_eq_true, beq_iff_eq]
    omega)
  clear HR
  cases y1
  · go_enter Tryz.func69, Tryz.ntmps69
    go_wp2
    go_ret
    exact ⟨congrArg (fun x => Ending.returned (Value.bool x)) (by rw [HR2.out]; rfl), B1⟩
  cases y2
  · go_enter Tryz.func69, Tryz.ntmps69
    go_wp2
    go_ret
    exact ⟨congrArg (fun x => Ending.returned (Value.bool x)) (by rw [HR2.out]; rfl), B1⟩
  cases y3
  · go_enter Tryz.func69, Tryz.ntmps69
    go_wp2
    go_ret
    exact ⟨congrArg (fun x => Ending.returned (Value.bool x)) (by rw [HR2.out]; rfl), B1⟩
  cases y4
  · go_enter Tryz.func69, Tryz.ntmps69
    go_wp2
    go_ret
    exact ⟨congrArg (fun x => Ending.returned (Value.bool x)) (by rw [HR2.out]; rfl), B1⟩
  cases y5
  · go_enter Tryz.func69, Tryz.ntmps69
    go_wp2
    go_ret
    exact ⟨congrArg (fun x => Ending.returned (Value.bool x)) (by rw [HR2.out]; rfl), B1⟩
  cases y6
  · go_enter Tryz.func69, Tryz.ntmps69
    go_wp2
    go_ret
    exact ⟨congrArg (fun x => Ending.returned (Value.bool x)) (by rw [HR2.out]; rfl), B1⟩
  go_enter Tryz.func69, Tryz.ntmps69
  go_wp2
  go_ret
  exact ⟨congrArg (fun x => Ending.returned (Value.bool x)) (by rw [HR2.out]; rfl), B1⟩

set_option maxRecDepth 100000 in
set_option maxHeartbeats 8000000 in
theorem rnode_num (A : Option Addr) (n c m : Nat) (v : NdV) (w : World) (hx : Ints w A n c v.cats) (hk : v.kind = 2) :
    Calls Tryz.prog 69 #[.agg (ndCells A n c v).toArray, .int .i64 (m : Int)] w fun e w' => e = .returned (.bool (nodeV m v)) ∧ Below w.heap.size w w' := by
  have B1 := (Below.refl w.heap.size w).alloc (Nat.le_refl _) (.cells (ndCells A n c v).toArray 72)
  have hO := heap_alloc_new w (.cells (ndCells A n c v).toArray 72)
  have hnb := hx.sl.big
  have hcm : v.cats = [] ↔ n = 0 := by rw [← hx.len]; exact List.length_eq_zero_iff.symm
  obtain ⟨R, hR⟩ : ∃ R, nodeV m v = R := ⟨_, rfl⟩
  rw [hR]
  obtain ⟨y, hy⟩ : ∃ y, nanF v.thr = y := ⟨_, rfl⟩
  have HRa := Lib.hid (show R = (decide (v.value = 0 ∧ 0 ≤ v.feature ∧ v.feature < 65536 ∧ (v.missing = 1 ∨ v.missing = 2) ∧ 1 ≤ v.left ∧ v.left < m ∧ 1 ≤ v.right ∧ v.right < m) && (!y && decide (n = 0))) by
    rw [← hR, ← hy]; unfold nodeV nanF; rw [if_neg (by omega), decide_eq_true (show v.kind = 2 ∨ v.kind = 3 by omega), Bool.true_and]; rw [if_pos hk]; simp only [hcm, Bool.not_not]; congr 2; rw [Bool.eq_iff_iff]; simp)
  have hn := fun W => nan_any v.thr W
  rw [hy] at hn
  have HN := Lib.hid hn
  clear hR hcm hx hn hy
  have hkc : (v.kind : Int) = 2 := by omega
  unfold ndCells at B1 hO ⊢
  rw [hkc] at B1 hO ⊢
  have BF := Lib.hid B1
  clear hk hkc
  go_enter Tryz.func69, Tryz.ntmps69
  go_upto_region 1 with (fail)
  generalize w.alloc (.cells #[.int .u8 2, .int .i64 v.value, .int .i64 v.feature, .float .f64 v.thr, .slice A n c, .int .u8 (v.missing : Int), .int .i64 v.left, .int .i64 v.right] 72) = W1 at *
  have n0 : W1.cell? ⟨w.heap.size, 0, none⟩ = some (.int .u8 2) := cell_of_block hO rfl
  have n1 : W1.cell? ⟨w.heap.size, 1, none⟩ = some (.int .i64 v.value) := cell_of_block hO rfl
  have n2 : W1.cell? ⟨w.heap.size, 2, none⟩ = some (.int .i64 v.feature) := cell_of_block hO rfl
  have n3 : W1.cell? ⟨w.heap.size, 3, none⟩ = some (.float .f64 v.thr) := cell_of_block hO rfl
  have n4 : W1.cell? ⟨w.heap.size, 4, none⟩ = some (.slice A n c) := cell_of_block hO rfl
  have n5 : W1.cell? ⟨w.heap.size, 5, none⟩ = some (.int .u8 (v.missing : Int)) := cell_of_block hO rfl
  have n6 : W1.cell? ⟨w.heap.size, 6, none⟩ = some (.int .i64 v.left) := cell_of_block hO rfl
  have n7 : W1.cell? ⟨w.heap.size, 7, none⟩ = some (.int .i64 v.right) := cell_of_block hO rfl
  clear B1 hO
  go_wp2_with fail
  refine (HN.out _).mono ?_; rintro e w2 ⟨rfl, rfl⟩
  clear HN
  cases y
  · by_cases h0 : n = 0
    · subst h0
      have HR := Lib.hid (show R = decide (v.value = 0 ∧ 0 ≤ v.feature ∧ v.feature < 65536 ∧ (v.missing = 1 ∨ v.missing = 2) ∧ 1 ≤ v.left ∧ v.left < m ∧ 1 ≤ v.right ∧ v.right < m) by rw [HRa.out]; simp)
      clear HRa
      by_cases h0 : v.value ≠ 0
      · skip
        have e0_0 : (v.value == 0) = false := by simp; omega
        have e0_1 : decide (v.value = 0) = false := by simp; omega
        have HRF := Lib.hid (show R = false by rw [HR.out]; exact decide_eq_false (by omega))
        clear HR
        go_wp2
        go_ret
        exact ⟨congrArg (fun x => Ending.returned (Value.bool x)) HRF.out.symm, BF.out⟩
      · skip
        have g0_0 : (v.value == 0) = true := by simp; omega
        have g0_1 : decide (v.value = 0) = true := by simp; omega
        by_cases h1 : v.feature < 0
        · skip
          have e1_0 : decide (0 ≤ v.feature) = false := by simp; omega
          have e1_1 : decide (v.feature < 0) = true := by simp; omega
          have HRF := Lib.hid (show R = false by rw [HR.out]; exact decide_eq_false (by omega))
          clear HR
          go_wp2
          go_ret
          exact ⟨congrArg (fun x => Ending.returned (Value.bool x)) HRF.out.symm, BF.out⟩
        · skip
          have g1_0 : decide (0 ≤ v.feature) = true := by simp; omega
          have g1_1 : decide (v.feature < 0) = false := by simp; omega
          by_cases h2 : 65536 ≤ v.feature
          · skip
            have e2_0 : decide (v.feature < 65536) = false := by simp; omega
            have e2_1 : decide (65536 ≤ v.feature) = true := by simp; omega
            have HRF := Lib.hid (show R = false by rw [HR.out]; exact decide_eq_false (by omega))
            clear HR
            go_wp2
            go_ret
            exact ⟨congrArg (fun x => Ending.returned (Value.bool x)) HRF.out.symm, BF.out⟩
          · skip
            have g2_0 : decide (v.feature < 65536) = true := by simp; omega
            have g2_1 : decide (65536 ≤ v.feature) = false := by simp; omega
            by_cases h3 : v.missing ≠ 1 ∧ v.missing ≠ 2
            · skip
              have e3_0 : ((v.missing : Int) == 1) = false := by simp; omega
              have e3_1 : ((v.missing : Int) == 2) = false := by simp; omega
              have e3_2 : decide ((v.missing : Int) = 1) = false := by simp; omega
              have e3_3 : decide ((v.missing : Int) = 2) = false := by simp; omega
              have HRF := Lib.hid (show R = false by rw [HR.out]; exact decide_eq_false (by omega))
              clear HR
              go_wp2
              go_ret
              exact ⟨congrArg (fun x => Ending.returned (Value.bool x)) HRF.out.symm, BF.out⟩
            · skip
              have hmi : v.missing = 1 ∨ v.missing = 2 := by omega
              have HMI := Lib.hid hmi
              have hms : (((v.missing : Int) == 1) = true) ∨ (((v.missing : Int) == 1) = false ∧ ((v.missing : Int) == 2) = true) := by
                rcases hmi with h | h
                · exact .inl (by simp [h])
                · exact .inr ⟨by simp [h], by simp [h]⟩
              clear h3 hmi
              rcases hms with hm1 | ⟨hm1, hm2⟩
              all_goals
                by_cases h4 : v.left < 1
                · skip
                  have e4_0 : decide (1 ≤ v.left) = false := by simp; omega
                  have e4_1 : decide (0 < v.left) = false := by simp; omega
                  have e4_2 : decide (v.left < 1) = true := by simp; omega
                  have HRF := Lib.hid (show R = false by rw [HR.out]; exact decide_eq_false (by omega))
                  clear HR
                  go_wp2
                  go_ret
                  exact ⟨congrArg (fun x => Ending.returned (Value.bool x)) HRF.out.symm, BF.out⟩
                · skip
                  have g4_0 : decide (1 ≤ v.left) = true := by simp; omega
                  have g4_1 : decide (0 < v.left) = true := by simp; omega
                  have g4_2 : decide (v.left < 1) = false := by simp; omega
                  by_cases h5 : (m : Int) ≤ v.left
                  · skip
                    have e5_0 : decide (v.left < (m : Int)) = false := by simp; omega
                    have e5_1 : decide ((m : Int) ≤ v.left) = true := by simp; omega
                    have HRF := Lib.hid (show R = false by rw [HR.out]; exact decide_eq_false (by omega))
                    clear HR
                    go_wp2
                    go_ret
                    exact ⟨congrArg (fun x => Ending.returned (Value.bool x)) HRF.out.symm, BF.out⟩
                  · skip
                    have g5_0 : decide (v.left < (m : Int)) = true := by simp; omega
                    have g5_1 : decide ((m : Int) ≤ v.left) = false := by simp; omega
                    by_cases h6 : v.right < 1
                    · skip
                      have e6_0 : decide (1 ≤ v.right) = false := by simp; omega
                      have e6_1 : decide (0 < v.right) = false := by simp; omega
                      have e6_2 : decide (v.right < 1) = true := by simp; omega
                      have HRF := Lib.hid (show R = false by rw [HR.out]; exact decide_eq_false (by omega))
                      clear HR
                      go_wp2
                      go_ret
                      exact ⟨congrArg (fun x => Ending.returned (Value.bool x)) HRF.out.symm, BF.out⟩
                    · skip
                      have g6_0 : decide (1 ≤ v.right) = true := by simp; omega
                      have g6_1 : decide (0 < v.right) = true := by simp; omega
                      have g6_2 : decide (v.right < 1) = false := by simp; omega
                      by_cases h7 : (m : Int) ≤ v.right
                      · skip
                        have e7_0 : decide (v.right < (m : Int)) = false := by simp; omega
                        have e7_1 : decide ((m : Int) ≤ v.right) = true := by simp; omega
                        have HRF := Lib.hid (show R = false by rw [HR.out]; exact decide_eq_false (by omega))
                        clear HR
                        go_wp2
                        go_ret
                        exact ⟨congrArg (fun x => Ending.returned (Value.bool x)) HRF.out.symm, BF.out⟩
                      · skip
                        have g7_0 : decide (v.right < (m : Int)) = true := by simp; omega
                        have g7_1 : decide ((m : Int) ≤ v.right) = false := by simp; omega
                        have HRF := Lib.hid (show R = true by rw [HR.out]; exact decide_eq_true (by have := HMI.out; omega))
                        clear HR HMI
                        go_wp2
                        go_ret
                        exact ⟨congrArg (fun x => Ending.returned (Value.bool x)) HRF.out.symm, BF.out⟩
    · have p1 : (0 : Int) < (n : Int) := by omega
      have p2 : 0 < n := by omega
      have p3 : decide ((0 : Int) < (n : Int)) = true := by simpa using p1
      have HRF := Lib.hid (show R = false by rw [HRa.out, decide_eq_false h0]; simp)
      clear HRa h0
      go_wp2
      go_ret
      exact ⟨congrArg (fun x => Ending.returned (Value.bool x)) HRF.out.symm, BF.out⟩
  · have HRF := Lib.hid (show R = false by rw [HRa.out]; simp)
    clear HRa
    go_wp2
    go_ret
    exact ⟨congrArg (fun x => Ending.returned (Value.bool x)) HRF.out.symm, BF.out⟩

set_option maxRecDepth 100000 in
set_option maxHeartbeats 8000000 in
theorem rnode_cat (A : Option Addr) (n c m : Nat) (v : NdV) (w : World) (hx : Ints w A n c v.cats) (hk : v.kind = 3) :
    Calls Tryz.prog 69 #[.agg (ndCells A n c v).toArray, .int .i64 (m : Int)] w fun e w' => e = .returned (.bool (nodeV m v)) ∧ Below w.heap.size w w' := by
  have B1 := (Below.refl w.heap.size w).alloc (Nat.le_refl _) (.cells (ndCells A n c v).toArray 72)
  have hO := heap_alloc_new w (.cells (ndCells A n c v).toArray 72)
  have hnb := hx.sl.big
  obtain ⟨R, hR⟩ : ∃ R, nodeV m v = R := ⟨_, rfl⟩
  rw [hR]
  obtain ⟨y, hy⟩ : ∃ y, rising v.cats = y := ⟨_, rfl⟩
  obtain ⟨yt, hyt⟩ : ∃ y, ((v.thr : Int) == 0) = y := ⟨_, rfl⟩
  have hyt2 : ((v.thr : Int) != 0) = !yt := by rw [← hyt]; rfl
  have hyt3 : decide ((v.thr : Int) = 0) = yt := by rw [← hyt]; rfl
  have HRa := Lib.hid (show R = (decide (v.value = 0 ∧ 0 ≤ v.feature ∧ v.feature < 65536 ∧ (v.missing = 1 ∨ v.missing = 2) ∧ 1 ≤ v.left ∧ v.left < m ∧ 1 ≤ v.right ∧ v.right < m) && (yt && y)) by
    rw [← hR, ← hy, ← hyt]; unfold nodeV; rw [if_neg (by omega), decide_eq_true (show v.kind = 2 ∨ v.kind = 3 by omega), Bool.true_and]; rw [if_neg (show ¬ v.kind = 2 by omega)]; congr 2; rw [Bool.eq_iff_iff]; simp)
  have hn := cats_any A n c v.cats _ (hx.below B1)
  rw [hy] at hn
  have HN := Lib.hid hn
  clear hR hx hn hy hyt
  have hkc : (v.kind : Int) = 3 := by omega
  unfold ndCells at B1 hO HN ⊢
  rw [hkc] at B1 hO HN ⊢
  have f64 := Tryz.f64bits
  clear hk hkc
  go_enter Tryz.func69, Tryz.ntmps69
  go_upto_region 1 with (fail)
  generalize w.alloc (.cells #[.int .u8 3, .int .i64 v.value, .int .i64 v.feature, .float .f64 v.thr, .slice A n c, .int .u8 (v.missing : Int), .int .i64 v.left, .int .i64 v.right] 72) = W1 at *
  have n0 : W1.cell? ⟨w.heap.size, 0, none⟩ = some (.int .u8 3) := cell_of_block hO rfl
  have n1 : W1.cell? ⟨w.heap.size, 1, none⟩ = some (.int .i64 v.value) := cell_of_block hO rfl
  have n2 : W1.cell? ⟨w.heap.size, 2, none⟩ = some (.int .i64 v.feature) := cell_of_block hO rfl
  have n3 : W1.cell? ⟨w.heap.size, 3, none⟩ = some (.float .f64 v.thr) := cell_of_block hO rfl
  have n4 : W1.cell? ⟨w.heap.size, 4, none⟩ = some (.slice A n c) := cell_of_block hO rfl
  have n5 : W1.cell? ⟨w.heap.size, 5, none⟩ = some (.int .u8 (v.missing : Int)) := cell_of_block hO rfl
  have n6 : W1.cell? ⟨w.heap.size, 6, none⟩ = some (.int .i64 v.left) := cell_of_block hO rfl
  have n7 : W1.cell? ⟨w.heap.size, 7, none⟩ = some (.int .i64 v.right) := cell_of_block hO rfl
  have BF := Lib.hid B1
  cases yt
  · have HRF := Lib.hid (show R = false by rw [HRa.out]; simp)
    clear HRa B1 hO
    go_wp2
    go_ret
    exact ⟨congrArg (fun x => Ending.returned (Value.bool x)) HRF.out.symm, BF.out⟩
  · clear BF
    go_wp2_with fail
    refine HN.out.mono ?_; rintro e w2 ⟨rfl, q, rfl⟩
    clear n0 n1 n2 n3 n4 n5 n6 n7 HN
    have BF := Lib.hid (below_drawn B1 q)
    have hO : (W1.drewN q).heap[w.heap.size]? = _ := hO
    clear B1
    generalize W1.drewN q = W2 at *
    have n0 : W2.cell? ⟨w.heap.size, 0, none⟩ = some (.int .u8 3) := cell_of_block hO rfl
    have n1 : W2.cell? ⟨w.heap.size, 1, none⟩ = some (.int .i64 v.value) := cell_of_block hO rfl
    have n2 : W2.cell? ⟨w.heap.size, 2, none⟩ = some (.int .i64 v.feature) := cell_of_block hO rfl
    have n3 : W2.cell? ⟨w.heap.size, 3, none⟩ = some (.float .f64 v.thr) := cell_of_block hO rfl
    have n4 : W2.cell? ⟨w.heap.size, 4, none⟩ = some (.slice A n c) := cell_of_block hO rfl
    have n5 : W2.cell? ⟨w.heap.size, 5, none⟩ = some (.int .u8 (v.missing : Int)) := cell_of_block hO rfl
    have n6 : W2.cell? ⟨w.heap.size, 6, none⟩ = some (.int .i64 v.left) := cell_of_block hO rfl
    have n7 : W2.cell? ⟨w.heap.size, 7, none⟩ = some (.int .i64 v.right) := cell_of_block hO rfl
    clear hO
    cases y
    · have HRF := Lib.hid (show R = false by rw [HRa.out]; simp)
      clear HRa
      go_wp2
      go_ret
      exact ⟨congrArg (fun x => Ending.returned (Value.bool x)) HRF.out.symm, BF.out⟩
    · have HR := Lib.hid (show R = decide (v.value = 0 ∧ 0 ≤ v.feature ∧ v.feature < 65536 ∧ (v.missing = 1 ∨ v.missing = 2) ∧ 1 ≤ v.left ∧ v.left < m ∧ 1 ≤ v.right ∧ v.right < m) by rw [HRa.out]; simp)
      clear HRa
      by_cases h0 : v.value ≠ 0
      · skip
        have e0_0 : (v.value == 0) = false := by simp; omega
        have e0_1 : decide (v.value = 0) = false := by simp; omega
        have HRF := Lib.hid (show R = false by rw [HR.out]; exact decide_eq_false (by omega))
        clear HR
        go_wp2
        go_ret
        exact ⟨congrArg (fun x => Ending.returned (Value.bool x)) HRF.out.symm, BF.out⟩
      · skip
        have g0_0 : (v.value == 0) = true := by simp; omega
        have g0_1 : decide (v.value = 0) = true := by simp; omega
        by_cases h1 : v.feature < 0
        · skip
          have e1_0 : decide (0 ≤ v.feature) = false := by simp; omega
          have e1_1 : decide (v.feature < 0) = true := by simp; omega
          have HRF := Lib.hid (show R = false by rw [HR.out]; exact decide_eq_false (by omega))
          clear HR
          go_wp2
          go_ret
          exact ⟨congrArg (fun x => Ending.returned (Value.bool x)) HRF.out.symm, BF.out⟩
        · skip
          have g1_0 : decide (0 ≤ v.feature) = true := by simp; omega
          have g1_1 : decide (v.feature < 0) = false := by simp; omega
          by_cases h2 : 65536 ≤ v.feature
          · skip
            have e2_0 : decide (v.feature < 65536) = false := by simp; omega
            have e2_1 : decide (65536 ≤ v.feature) = true := by simp; omega
            have HRF := Lib.hid (show R = false by rw [HR.out]; exact decide_eq_false (by omega))
            clear HR
            go_wp2
            go_ret
            exact ⟨congrArg (fun x => Ending.returned (Value.bool x)) HRF.out.symm, BF.out⟩
          · skip
            have g2_0 : decide (v.feature < 65536) = true := by simp; omega
            have g2_1 : decide (65536 ≤ v.feature) = false := by simp; omega
            by_cases h3 : v.missing ≠ 1 ∧ v.missing ≠ 2
            · skip
              have e3_0 : ((v.missing : Int) == 1) = false := by simp; omega
              have e3_1 : ((v.missing : Int) == 2) = false := by simp; omega
              have e3_2 : decide ((v.missing : Int) = 1) = false := by simp; omega
              have e3_3 : decide ((v.missing : Int) = 2) = false := by simp; omega
              have HRF := Lib.hid (show R = false by rw [HR.out]; exact decide_eq_false (by omega))
              clear HR
              go_wp2
              go_ret
              exact ⟨congrArg (fun x => Ending.returned (Value.bool x)) HRF.out.symm, BF.out⟩
            · skip
              have hmi : v.missing = 1 ∨ v.missing = 2 := by omega
              have HMI := Lib.hid hmi
              have hms : (((v.missing : Int) == 1) = true) ∨ (((v.missing : Int) == 1) = false ∧ ((v.missing : Int) == 2) = true) := by
                rcases hmi with h | h
                · exact .inl (by simp [h])
                · exact .inr ⟨by simp [h], by simp [h]⟩
              clear h3 hmi
              rcases hms with hm1 | ⟨hm1, hm2⟩
              all_goals
                by_cases h4 : v.left < 1
                · skip
                  have e4_0 : decide (1 ≤ v.left) = false := by simp; omega
                  have e4_1 : decide (0 < v.left) = false := by simp; omega
                  have e4_2 : decide (v.left < 1) = true := by simp; omega
                  have HRF := Lib.hid (show R = false by rw [HR.out]; exact decide_eq_false (by omega))
                  clear HR
                  go_wp2
                  go_ret
                  exact ⟨congrArg (fun x => Ending.returned (Value.bool x)) HRF.out.symm, BF.out⟩
                · skip
                  have g4_0 : decide (1 ≤ v.left) = true := by simp; omega
                  have g4_1 : decide (0 < v.left) = true := by simp; omega
                  have g4_2 : decide (v.left < 1) = false := by simp; omega
                  by_cases h5 : (m : Int) ≤ v.left
                  · skip
                    have e5_0 : decide (v.left < (m : Int)) = false := by simp; omega
                    have e5_1 : decide ((m : Int) ≤ v.left) = true := by simp; omega
                    have HRF := Lib.hid (show R = false by rw [HR.out]; exact decide_eq_false (by omega))
                    clear HR
                    go_wp2
                    go_ret
                    exact ⟨congrArg (fun x => Ending.returned (Value.bool x)) HRF.out.symm, BF.out⟩
                  · skip
                    have g5_0 : decide (v.left < (m : Int)) = true := by simp; omega
                    have g5_1 : decide ((m : Int) ≤ v.left) = false := by simp; omega
                    by_cases h6 : v.right < 1
                    · skip
                      have e6_0 : decide (1 ≤ v.right) = false := by simp; omega
                      have e6_1 : decide (0 < v.right) = false := by simp; omega
                      have e6_2 : decide (v.right < 1) = true := by simp; omega
                      have HRF := Lib.hid (show R = false by rw [HR.out]; exact decide_eq_false (by omega))
                      clear HR
                      go_wp2
                      go_ret
                      exact ⟨congrArg (fun x => Ending.returned (Value.bool x)) HRF.out.symm, BF.out⟩
                    · skip
                      have g6_0 : decide (1 ≤ v.right) = true := by simp; omega
                      have g6_1 : decide (0 < v.right) = true := by simp; omega
                      have g6_2 : decide (v.right < 1) = false := by simp; omega
                      by_cases h7 : (m : Int) ≤ v.right
                      · skip
                        have e7_0 : decide (v.right < (m : Int)) = false := by simp; omega
                        have e7_1 : decide ((m : Int) ≤ v.right) = true := by simp; omega
                        have HRF := Lib.hid (show R = false by rw [HR.out]; exact decide_eq_false (by omega))
                        clear HR
                        go_wp2
                        go_ret
                        exact ⟨congrArg (fun x => Ending.returned (Value.bool x)) HRF.out.symm, BF.out⟩
                      · skip
                        have g7_0 : decide (v.right < (m : Int)) = true := by simp; omega
                        have g7_1 : decide ((m : Int) ≤ v.right) = false := by simp; omega
                        have HRF := Lib.hid (show R = true by rw [HR.out]; exact decide_eq_true (by have := HMI.out; omega))
                        clear HR HMI
                        go_wp2
                        go_ret
                        exact ⟨congrArg (fun x => Ending.returned (Value.bool x)) HRF.out.symm, BF.out⟩

set_option maxRecDepth 100000 in
set_option maxHeartbeats 8000000 in
theorem rnode_other (A : Option Addr) (n c m : Nat) (v : NdV) (w : World) (hk1 : v.kind ≠ 1) (hk2 : v.kind ≠ 2) (hk3 : v.kind ≠ 3) :
    Calls Tryz.prog 69 #[.agg (ndCells A n c v).toArray, .int .i64 (m : Int)] w fun e w' => e = .returned (.bool (nodeV m v)) ∧ Below w.heap.size w w' := by
  have B1 := (Below.refl w.heap.size w).alloc (Nat.le_refl _) (.cells (ndCells A n c v).toArray 72)
  obtain ⟨R, hR⟩ : ∃ R, nodeV m v = R := ⟨_, rfl⟩
  rw [hR]
  have HR := Lib.hid (show R = false by rw [← hR]; unfold nodeV; rw [if_neg hk1, decide_eq_false (by omega), Bool.false_and, Bool.false_and])
  have f1 : ((v.kind : Int) == 1) = false := by simp; omega
  have f2 : decide ((v.kind : Int) = 1) = false := by simp; omega
  have f3 : ((v.kind : Int) == 2) = false := by simp; omega
  have f4 : decide ((v.kind : Int) = 2) = false := by simp; omega
  have f5 : ((v.kind : Int) == 3) = false := by simp; omega
  have f6 : decide ((v.kind : Int) = 3) = false := by simp; omega
  have HB1 := Lib.hid B1
  unfold ndCells at HB1 ⊢
  clear hR hk1 hk2 hk3 B1
  go_enter Tryz.func69, Tryz.ntmps69
  go_wp2
  go_ret
  exact ⟨congrArg (fun x => Ending.returned (Value.bool x)) HR.out.symm, HB1.out⟩

theorem rnode_any (A : Option Addr) (n c m : Nat) (v : NdV) (w : World) (hx : Ints w A n c v.cats) :
    Calls Tryz.prog 69 #[.agg (ndCells A n c v).toArray, .int .i64 (m : Int)] w fun e w' => e = .returned (.bool (nodeV m v)) ∧ Below w.heap.size w w' := by
  by_cases h1 : v.kind = 1
  · exact rnode_leaf A n c m v w hx h1
  · by_cases h2 : v.kind = 2
    · exact rnode_num A n c m v w hx h2
    · by_cases h3 : v.kind = 3
      · exact rnode_cat A n c m v w hx h3
      · exact rnode_other A n c m v w h1 h2 h3

end Go.Proofs.YtekcpapkicmckaaGreatDoor
