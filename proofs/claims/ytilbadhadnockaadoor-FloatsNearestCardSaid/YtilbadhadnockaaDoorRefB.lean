/- The reference's Nearest and Bits (thicketref02). -/
import Derived.Test.YtilbadhadnockaaDoorRefQ
import Derived.Test.YtilbadhadnockaaDoorGcd
namespace Go.Proofs.YtilbadhadnockaaDoor
open Go.RowKit

set_option maxRecDepth 100000 in
set_option maxHeartbeats 1000000 in
theorem rNearest_none (neg : Bool) (A B : Option Addr) (n c m d : Nat) (xs ys : List Nat) (w : World) (hx : Num w A n c xs) (hy : Num w B m d ys) (h0 : val ys = 0) :
    Calls Tryd.prog 5 #[.bool neg, .slice A n c, .slice B m d, .agg #[.int .i64 53, .int .i64 (-1074), .int .i64 971]] w fun e w' =>
      e = .returned (.tuple #[.agg #[.bool false, .bool false, .bool false, .int .u64 0, .int .i64 0], .bool false]) ∧ Below w.heap.size w w' := by
  have hB : ∀ o, Below w.heap.size w (w.alloc o) := fun o => (Below.refl _ _).alloc (Nat.le_refl _) o
  have hl : (limbs (val ys)).length = 0 := by rw [h0, limbs_zero]; rfl
  have HN1 := fun W (h : Num W A n c xs) => rnorm_any _ _ _ _ W h
  have HN2 := fun W (h : Num W B m d ys) => rnorm_any _ _ _ _ W h
  rw [hl] at HN2
  clear hl h0
  go_enter Tryd.func5, Tryd.ntmps5
  have hw := (hB (.cells #[.int .i64 53, .int .i64 (-1074), .int .i64 971] 35)).alloc (by simp) (.cells #[.bool false, .bool false, .bool false, .int .u64 0, .int .i64 0] 31)
  go_wp2_with fail
  refine (HN1 _ (hx.below hw)).mono ?_; rintro e w1 ⟨rfl, rfl⟩
  go_wp2_with fail
  refine (HN2 _ (hy.below hw)).mono ?_; rintro e w1 ⟨rfl, rfl⟩
  go_wp2
  refine bodyPost_ret (v := .tuple #[.agg #[.bool false, .bool false, .bool false, .int .u64 0, .int .i64 0], .bool false]) (by simp [results, Tryd.results5, go_sem]) rfl ⟨rfl, hw⟩

set_option maxRecDepth 100000 in
set_option maxHeartbeats 1000000 in
theorem rNearest_nought (neg : Bool) (A B : Option Addr) (n c m d : Nat) (xs ys : List Nat) (w : World) (hx : Num w A n c xs) (hy : Num w B m d ys) (h0 : val ys ≠ 0) (h1 : val xs = 0) :
    Calls Tryd.prog 5 #[.bool neg, .slice A n c, .slice B m d, .agg #[.int .i64 53, .int .i64 (-1074), .int .i64 971]] w fun e w' =>
      e = .returned (.tuple #[.agg #[.bool false, .bool false, .bool false, .int .u64 0, .int .i64 0], .bool true]) ∧ Below w.heap.size w w' := by
  have hB : ∀ o, Below w.heap.size w (w.alloc o) := fun o => (Below.refl _ _).alloc (Nat.le_refl _) o
  have hl : (limbs (val xs)).length = 0 := by rw [h1, limbs_zero]; rfl
  have HN1 := fun W (h : Num W A n c xs) => rnorm_any _ _ _ _ W h
  have HN2 := fun W (h : Num W B m d ys) => rnorm_any _ _ _ _ W h
  have hl2 : (limbs (val ys)).length ≠ 0 := fun e => h0 (limbs_length_zero.1 e)
  rw [hl] at HN1
  clear hl h0 h1
  generalize (limbs (val ys)).length = ly at *
  have hlb : ((ly : Int) == 0) = false := by simpa using hl2
  go_enter Tryd.func5, Tryd.ntmps5
  have hw := (hB (.cells #[.int .i64 53, .int .i64 (-1074), .int .i64 971] 35)).alloc (by simp) (.cells #[.bool false, .bool false, .bool false, .int .u64 0, .int .i64 0] 31)
  go_wp2_with fail
  refine (HN1 _ (hx.below hw)).mono ?_; rintro e w1 ⟨rfl, rfl⟩
  go_wp2_with fail
  refine (HN2 _ (hy.below hw)).mono ?_; rintro e w1 ⟨rfl, rfl⟩
  go_wp2
  refine bodyPost_ret (v := .tuple #[.agg #[.bool false, .bool false, .bool false, .int .u64 0, .int .i64 0], .bool true]) (by simp [results, Tryd.results5, go_sem]) rfl ⟨rfl, hw⟩

set_option maxRecDepth 100000 in
set_option maxHeartbeats 1000000 in
theorem rNearest_some (neg : Bool) (A B : Option Addr) (n c m d : Nat) (xs ys : List Nat) (w : World) (hx : Num w A n c xs) (hy : Num w B m d ys) (h0 : val ys ≠ 0) (h1 : val xs ≠ 0) (hn : n ≤ 35184372087808) (hm : m ≤ 35184372087808) :
    Calls Tryd.prog 5 #[.bool neg, .slice A n c, .slice B m d, .agg #[.int .i64 53, .int .i64 (-1074), .int .i64 971]] w fun e w' =>
      ∃ e0, IsE (val xs) (val ys) e0 ∧ e = .returned (.tuple #[.agg #[.bool neg, .bool (nearNum (val xs) (val ys) e0).1, .bool false, .int .u64 (nearNum (val xs) (val ys) e0).2.1, .int .i64 (nearNum (val xs) (val ys) e0).2.2], .bool true]) ∧ Below w.heap.size w w' := by
  have hB : ∀ o, Below w.heap.size w (w.alloc o) := fun o => (Below.refl _ _).alloc (Nat.le_refl _) o
  have HN1 := fun W (h : Num W A n c xs) => rnorm_any _ _ _ _ W h
  have HN2 := fun W (h : Num W B m d ys) => rnorm_any _ _ _ _ W h
  have hl1 : (limbs (val xs)).length ≠ 0 := fun e => h1 (limbs_length_zero.1 e)
  have hl2 : (limbs (val ys)).length ≠ 0 := fun e => h0 (limbs_length_zero.1 e)
  have ht1 : (limbs (val xs)).length ≤ n := by rw [← hx.len]; exact limbs_length_val hx.lim
  have ht2 : (limbs (val ys)).length ≤ m := by rw [← hy.len]; exact limbs_length_val hy.lim
  have HT1 : Hid (∀ W, Num W A n c xs → Num W A (limbs (val xs)).length c (limbs (val xs))) := Lib.hid (fun W h => by
    have h1 := h.pre (limbs (val xs)).length c ht1 (Nat.le_trans ht1 h.sl.cap)
    rwa [← limbs_take h.lim] at h1)
  have HT2 : Hid (∀ W, Num W B m d ys → Num W B (limbs (val ys)).length d (limbs (val ys))) := Lib.hid (fun W h => by
    have h1 := h.pre (limbs (val ys)).length d ht2 (Nat.le_trans ht2 h.sl.cap)
    rwa [← limbs_take h.lim] at h1)
  have HQ := Lib.hid (fun W (h3 : Num W A (limbs (val xs)).length c (limbs (val xs))) (h4 : Num W B (limbs (val ys)).length d (limbs (val ys))) => rnearest_any _ _ _ _ _ _ (val xs) (val ys) W h3 h4 h1 h0 (by omega) (by omega))
  generalize hX : val xs = X at *
  generalize hY : val ys = Y at *
  generalize (limbs X).length = lx at *
  generalize (limbs Y).length = ly at *
  have hlb : ((ly : Int) == 0) = false := by simpa using hl2
  have hlb2 : ((lx : Int) == 0) = false := by simpa using hl1
  have HX := Lib.hid hX
  have HY := Lib.hid hY
  clear hX hY h0 h1 ht1 ht2 hn hm hl1 hl2
  go_enter Tryd.func5, Tryd.ntmps5
  have hw := (hB (.cells #[.int .i64 53, .int .i64 (-1074), .int .i64 971] 35)).alloc (by simp) (.cells #[.bool false, .bool false, .bool false, .int .u64 0, .int .i64 0] 31)
  have hx1 := hx.below hw
  have hy1 := hy.below hw
  go_wp2_with fail
  refine (HN1 _ hx1).mono ?_; rintro e w1 ⟨rfl, rfl⟩
  go_wp2_with fail
  refine (HN2 _ hy1).mono ?_; rintro e w1 ⟨rfl, rfl⟩
  have HQ2 := Lib.hid (HQ.out _ (HT1.out _ hx1) (HT2.out _ hy1))
  clear HQ HN1 HN2 hx hy hx1 hy1 hB HT1 HT2
  go_wp2_with fail
  refine HQ2.out.mono ?_
  rintro e w2 ⟨e0, hE, rfl, hb2⟩
  have hkn0 : ((w.alloc (.cells #[.int .i64 53, .int .i64 (-1074), .int .i64 971] 35)).alloc (.cells #[.bool false, .bool false, .bool false, .int .u64 0, .int .i64 0] 31)).heap[w.heap.size + 1]? = some (.cells #[.bool false, .bool false, .bool false, .int .u64 0, .int .i64 0] 31 (0, 0)) := by
    have := heap_alloc_new (w.alloc (.cells #[.int .i64 53, .int .i64 (-1074), .int .i64 971] 35)) (.cells #[.bool false, .bool false, .bool false, .int .u64 0, .int .i64 0] 31)
    rwa [show (w.alloc (.cells #[.int .i64 53, .int .i64 (-1074), .int .i64 971] 35)).heap.size = w.heap.size + 1 by simp] at this
  have hkn := (hb2.block (w.heap.size + 1) (by simp)).trans hkn0
  have hsz := hb2.size
  simp only [World.size_alloc] at hsz
  have hb3 := below_then hw hw.size hb2
  have HE := Lib.hid hE
  obtain ⟨I, M, E, hnn⟩ : ∃ I M E, nearNum X Y e0 = (I, M, E) := ⟨_, _, _, rfl⟩
  rw [hnn]
  have HNN := Lib.hid hnn
  have HB3 := Lib.hid hb3
  clear hw hb2 hkn0 hnn hE hb3 HQ2
  simp only
  have hd0 : w2.cell? ⟨w.heap.size + 1, 0, none⟩ = some (.bool false) := by simp [World.cell?, hkn]
  have hd1 : w2.cell? ⟨w.heap.size + 1, 1, none⟩ = some (.bool false) := by simp [World.cell?, hkn]
  have hd2 : w2.cell? ⟨w.heap.size + 1, 2, none⟩ = some (.bool false) := by simp [World.cell?, hkn]
  have hd3 : w2.cell? ⟨w.heap.size + 1, 3, none⟩ = some (.int .u64 0) := by simp [World.cell?, hkn]
  have hd4 : w2.cell? ⟨w.heap.size + 1, 4, none⟩ = some (.int .i64 0) := by simp [World.cell?, hkn]
  have hdf : ∀ j, w2.frozen? ⟨w.heap.size + 1, j, none⟩ = false := fun j => by simp [World.frozen?, hkn]
  have HKN := Lib.hid hkn
  have hlt : w.heap.size + 1 < w2.heap.size := by omega
  clear hkn
  go_wp2
  have hk4 := setCell_row (setCell_row (setCell_row (setCell_row (setCell_row (vs := [.bool false, .bool false, .bool false, .int .u64 0, .int .i64 0]) HKN.out 0 (.bool neg)) 1 (.bool I)) 2 (.bool false)) 3 (.int .u64 M)) 4 (.int .i64 E)
  have hk5 := (Below.heap_alloc _ (.cells #[.bool neg, .bool I, .bool false, .int .u64 M, .int .i64 E] 31) _ (by simp only [setCell_size]; exact hlt)).trans hk4
  refine bodyPost_ret (v := .tuple #[.agg #[.bool neg, .bool I, .bool false, .int .u64 M, .int .i64 E], .bool true]) ?_ rfl ⟨e0, HE.out, by rw [HNN.out], ?_⟩
  · exact results_row_tmp (fn := Tryd.f5) (p := 8) (u := 9) (ty := 31) rfl _ _ (w.heap.size + 1) 31 #[.bool neg, .bool I, .bool false, .int .u64 M, .int .i64 E] (0, 0) _ rfl hk5 Tryd.underlying31 rfl (by kernel_rfl)
  · have hb5 := ((((HB3.out.setCell (p := ⟨w.heap.size + 1, 0, none⟩) (by simp) (.bool neg)).setCell (p := ⟨w.heap.size + 1, 1, none⟩) (by simp) (.bool I)).setCell (p := ⟨w.heap.size + 1, 2, none⟩) (by simp) (.bool false)).setCell (p := ⟨w.heap.size + 1, 3, none⟩) (by simp) (.int .u64 M)).setCell (p := ⟨w.heap.size + 1, 4, none⟩) (by simp) (.int .i64 E)
    exact hb5.alloc hb5.size _

end Go.Proofs.YtilbadhadnockaaDoor
