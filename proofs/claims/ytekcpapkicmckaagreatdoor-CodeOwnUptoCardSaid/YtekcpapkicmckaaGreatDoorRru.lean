/- The contract of thicketlaw19.sums. The contract of thicketref19.goes. The contract of thicketref19.Run. -/
import Derived.Test.YtekcpapkicmckaaGreatDoorRfc
import Derived.Test.YtekcpapkicmckaaGreatDoorRnn
namespace Go.Proofs.YtekcpapkicmckaaGreatDoor
open Go.RowKit

set_option maxRecDepth 100000 in
set_option maxHeartbeats 1000000 in
theorem sums_any (A B : Option Addr) (n c m d : Nat) (xs ys : List Int) (w : World) (hx : Ints w A n c xs) (hy : Ints w B m d ys) :
    Calls Tryz.prog 24 #[.slice A n c, .slice B m d] w fun e w' => e = .returned (.bool (decide (xs = ys))) ∧ ∃ q, w' = w.drewN q := by
  by_cases hnm : n = m
  · subst hnm
    have hnb := hx.sl.big
    have HX := Lib.hid hx.len
    have HY := Lib.hid hy.len
    have HC := Lib.hid (fun (h : 0 < n) => hx.cells h)
    have HD := Lib.hid (fun (h : 0 < n) => hy.cells h)
    clear hx hy
    go_enter Tryz.func24, Tryz.ntmps24
    go_wp2
    go_loopw [13] (fun ix wr => ∃ (k q : Nat), k ≤ n ∧ ix = .int .i64 k ∧ wr = w.drewN q ∧ Hid (∀ j, j < k → xs.getD j 0 = ys.getD j 0)) (fun ix _ => n - (intOf ix).toNat)
    case atStart => exact ⟨0, 0, Nat.zero_le _, rfl, rfl, Lib.hid (fun j hj => absurd hj (Nat.not_lt_zero j))⟩
    case round =>
      obtain ⟨k, q, hk, rfl, rfl, HE⟩ := hrel
      by_cases hlt : k < n
      · obtain ⟨b1, o1, rfl, h1⟩ := HC.out (by omega)
        obtain ⟨b2, o2, rfl, h2⟩ := HD.out (by omega)
        have e1 : w.cell? ⟨b1, o1 + k, none⟩ = some (.int .i64 (xs.getD k 0)) := h1 k hlt
        have e2 : w.cell? ⟨b2, o2 + k, none⟩ = some (.int .i64 (ys.getD k 0)) := h2 k hlt
        clear h1 h2
        obtain ⟨x, hxx⟩ : ∃ x, xs.getD k 0 = x := ⟨_, rfl⟩
        obtain ⟨y, hyy⟩ : ∃ y, ys.getD k 0 = y := ⟨_, rfl⟩
        rw [hxx] at e1
        rw [hyy] at e2
        have HXX := Lib.hid hxx
        have HYY := Lib.hid hyy
        clear hxx hyy
        by_cases hxy : x = y
        · subst hxy
          have HE2 : Hid (∀ j, j < k + 1 → xs.getD j 0 = ys.getD j 0) := Lib.hid (fun j hj => by
            by_cases h : j = k
            · rw [h, HXX.out, HYY.out]
            · exact HE.out j (by omega))
          go_wp2
          go_quiet (fail)
          go_wp2
          go_roundw
          case rel => exact ⟨k + 1, q + nq, hlt, by go_num, by first | rfl | exact World.drewN_drewN .., HE2⟩
          case measure => simp [intOf]; omega
        · have f1 : (x != y) = true := by simpa using hxy
          have f2 : decide (x = y) = false := by simpa using hxy
          have e : xs ≠ ys := fun h => hxy (by rw [← HXX.out, ← HYY.out, h])
          have HNE := Lib.hid e
          clear e hxy
          go_wp2
          go_quiet (fail)
          go_wp2
          go_ret
          exact ⟨by rw [decide_eq_false HNE.out]; rfl, _, World.drewN_drewN ..⟩
      · obtain rfl : k = n := by omega
        go_wp2
        go_ret
        have e : xs = ys := ext_getD (by rw [HX.out, HY.out]) (fun j hj => HE.out j (by rw [HX.out] at hj; exact hj))
        exact ⟨by rw [decide_eq_true e]; rfl, q, rfl⟩
  · have hne : ((n : Int) != (m : Int)) = true := by simp; omega
    have e : xs ≠ ys := fun h => hnm (by rw [← hx.len, ← hy.len, h])
    rw [decide_eq_false e]
    have HN := Lib.hid hnm
    clear hnm
    go_enter Tryz.func24, Tryz.ntmps24
    go_wp2
    go_ret
    exact ⟨rfl, 0, rfl⟩

end Go.Proofs.YtekcpapkicmckaaGreatDoor

namespace Go.Proofs.YtekcpapkicmckaaGreatDoor
open Go.RowKit

theorem nodeSide_num (o : OpV) (x : Nat) (h : o.kind ≠ 2) : nodeSide ⟨2, 0, 0, o.thr, [], o.missing, 0, 0⟩ x = sideV (decide (o.kind = 2)) o.thr o.cats o.missing x := by
  unfold nodeSide sideV
  simp [h]
theorem nodeSide_cat (o : OpV) (x : Nat) (h : o.kind = 2) : nodeSide ⟨3, 0, 0, 0, o.cats, o.missing, 0, 0⟩ x = sideV (decide (o.kind = 2)) o.thr o.cats o.missing x := by
  unfold nodeSide sideV
  simp [h]

set_option maxRecDepth 100000 in
set_option maxHeartbeats 1000000 in
theorem rgoes_any (B : Option Addr) (m d : Nat) (v : OpV) (X : Option Addr) (xn xc : Nat) (xs : List Nat) (w : World) (hx : Sl w X xn xc (fls xs)) (hc : Ints w B m d v.cats) (hf0 : 0 ≤ v.feature) (hf1 : v.feature < xn) :
    Calls Tryz.prog 45 #[.agg (opCells B m d v).toArray, .slice X xn xc] w fun e w' => e = .returned (.bool (goesOn v xs)) ∧ Below w.heap.size w w' := by
  have hxl : xs.length = xn := by have := hx.len; rwa [fls_length] at this
  have hnb := hx.big
  obtain ⟨b, o, rfl, hcl⟩ := hx.cells (by omega)
  obtain ⟨f, hf⟩ := Int.eq_ofNat_of_zero_le hf0
  have hfc := hcl f (by omega)
  rw [fls_getD (by omega)] at hfc
  have hfd : v.feature.toNat = f := by omega
  obtain ⟨x, hxx⟩ : ∃ x, xs.getD f 0 = x := ⟨_, rfl⟩
  rw [hxx] at hfc
  obtain ⟨r, hr⟩ : ∃ r, goesOn v xs = r := ⟨_, rfl⟩
  rw [hr]
  unfold goesOn at hr
  rw [hfd, hxx] at hr
  have hbb := World.block_lt_of_cell? w _ hfc
  simp only at hbb
  have B1 := (Below.refl w.heap.size w).alloc (Nat.le_refl _) (.cells (opCells B m d v).toArray 75)
  have hO1 := heap_alloc_new w (.cells (opCells B m d v).toArray 75)
  unfold opCells at B1 hO1 ⊢
  obtain ⟨vf, hvf⟩ : ∃ y, v.feature = y := ⟨_, rfl⟩
  rw [hvf] at hf hf0 hf1 B1 hO1 ⊢
  subst hf
  have k1 : (f : Int) < (xn : Int) := by omega
  have hsf : ∀ (W : World) (a : Addr) (b : Nat), (store a (.float .f64 b)).run Tryz.prog W = stored Tryz.prog W a (.float .f64 b) .plain := fun W a b => run_store _ W a _ _ rfl
  clear hx hcl hxx hxl hfd hvf
  go_enter Tryz.func45, Tryz.ntmps45
  go_upto_region 1 with (fail)
  generalize w.alloc (.cells #[.int .u8 (v.kind : Int), .int .i64 (f : Int), .float .f64 v.thr, .slice B m d, .int .u8 (v.missing : Int), .int .i64 v.output, .int .i64 v.value, .int .i64 v.dest] 75) = W1 at *
  have hOl := lt_of_block hO1
  have x1 : W1.cell? ⟨b, o + f, none⟩ = some (.float .f64 x) := (B1.cell (p := ⟨b, o + f, none⟩) hbb).trans hfc
  have o0 : W1.cell? ⟨w.heap.size, 0, none⟩ = some (.int .u8 (v.kind : Int)) := cell_of_block hO1 rfl
  have o1 : W1.cell? ⟨w.heap.size, 1, none⟩ = some (.int .i64 (f : Int)) := cell_of_block hO1 rfl
  have o2 : W1.cell? ⟨w.heap.size, 2, none⟩ = some (.float .f64 v.thr) := cell_of_block hO1 rfl
  have o3 : W1.cell? ⟨w.heap.size, 3, none⟩ = some (.slice B m d) := cell_of_block hO1 rfl
  have o4 : W1.cell? ⟨w.heap.size, 4, none⟩ = some (.int .u8 (v.missing : Int)) := cell_of_block hO1 rfl
  have hbl : b < W1.heap.size := by have := B1.size; omega
  have HX1 := Lib.hid x1
  have HO1 := Lib.hid hO1
  have HC := Lib.hid (hc.below B1)
  clear hfc hc hO1
  by_cases h2 : v.kind = 2
  · have HS := Lib.hid (nodeSide_cat v x h2)
    have f1 : ((v.kind : Int) == 2) = true := by simp; omega
    have f2 : decide ((v.kind : Int) = 2) = true := by simp; omega
    have H2 := Lib.hid h2
    clear h2
    go_upto_region 4 with (fail)
    have b2 := (Below.refl W1.heap.size W1).alloc (Nat.le_refl _) (.cells #[.int .u8 3, .int .i64 0, .int .i64 0, .float .f64 0, .slice B m d, .int .u8 (v.missing : Int), .int .i64 0, .int .i64 0] 72)
    have hN := heap_alloc_new W1 (.cells #[.int .u8 3, .int .i64 0, .int .i64 0, .float .f64 0, .slice B m d, .int .u8 (v.missing : Int), .int .i64 0, .int .i64 0] 72)
    generalize W1.alloc (.cells #[.int .u8 3, .int .i64 0, .int .i64 0, .float .f64 0, .slice B m d, .int .u8 (v.missing : Int), .int .i64 0, .int .i64 0] 72) = W2 at *
    have hO2 := (b2.block _ hOl).trans HO1.out
    have x2 : W2.cell? ⟨b, o + f, none⟩ = some (.float .f64 x) := (b2.cell (p := ⟨b, o + f, none⟩) hbl).trans HX1.out
    have o1' : W2.cell? ⟨w.heap.size, 1, none⟩ = some (.int .i64 (f : Int)) := cell_of_block hO2 rfl
    have n0 : W2.cell? ⟨W1.heap.size, 0, none⟩ = _ := cell_of_block hN rfl
    have n1 : W2.cell? ⟨W1.heap.size, 1, none⟩ = _ := cell_of_block hN rfl
    have n2 : W2.cell? ⟨W1.heap.size, 2, none⟩ = _ := cell_of_block hN rfl
    have n3 : W2.cell? ⟨W1.heap.size, 3, none⟩ = _ := cell_of_block hN rfl
    have n4 : W2.cell? ⟨W1.heap.size, 4, none⟩ = _ := cell_of_block hN rfl
    have n5 : W2.cell? ⟨W1.heap.size, 5, none⟩ = _ := cell_of_block hN rfl
    have n6 : W2.cell? ⟨W1.heap.size, 6, none⟩ = _ := cell_of_block hN rfl
    have n7 : W2.cell? ⟨W1.heap.size, 7, none⟩ = _ := cell_of_block hN rfl
    have HB2 := Lib.hid (below_then B1 B1.size b2)
    have HG := Lib.hid (rGoes_any B m d x ⟨3, 0, 0, 0, v.cats, v.missing, 0, 0⟩ W2.drew ((HC.out.below (b2.trans (Below.refl _ _).drew))))
    rw [HS.out] at HG
    unfold ndCells at HG
    simp only at HG
    obtain ⟨s, hs⟩ : ∃ s, sideV (decide (v.kind = 2)) v.thr v.cats v.missing x = s := ⟨_, rfl⟩
    rw [hs] at HG
    have HRR := Lib.hid (show r = decide (s = 1) by rw [← hr, hs])
    clear o0 o1 o2 o3 o4 x1 hO2 hN b2 hs hr hOl hbl hbb B1
    go_still_tail 6, (by kernel_rfl)
    change wpList _ _ _ _ _ W2.drew
    go_wp2_with fail
    refine HG.out.mono ?_; rintro e w3 ⟨rfl, b3⟩
    have BF := below_then HB2.out HB2.out.size (show Below W2.heap.size W2 w3 from (Below.refl W2.heap.size W2).drew.trans b3)
    clear x2 o1' n0 n1 n2 n3 n4 n5 n6 n7
    go_wp2
    go_ret
    refine ⟨congrArg (fun x => Ending.returned (Value.bool x)) ?_, BF⟩
    rw [HRR.out]
    by_cases h : s = 1 <;> simp [h]
    try omega
  · have HS := Lib.hid (nodeSide_num v x h2)
    have f1 : ((v.kind : Int) == 2) = false := by simp; omega
    have f2 : decide ((v.kind : Int) = 2) = false := by simp; omega
    have H2 := Lib.hid h2
    clear h2
    go_upto_region 4 with (fail)
    have b2 := (Below.refl W1.heap.size W1).alloc (Nat.le_refl _) (.cells #[.int .u8 2, .int .i64 0, .int .i64 0, .float .f64 v.thr, .slice none 0 0, .int .u8 (v.missing : Int), .int .i64 0, .int .i64 0] 72)
    have hN := heap_alloc_new W1 (.cells #[.int .u8 2, .int .i64 0, .int .i64 0, .float .f64 v.thr, .slice none 0 0, .int .u8 (v.missing : Int), .int .i64 0, .int .i64 0] 72)
    generalize W1.alloc (.cells #[.int .u8 2, .int .i64 0, .int .i64 0, .float .f64 v.thr, .slice none 0 0, .int .u8 (v.missing : Int), .int .i64 0, .int .i64 0] 72) = W2 at *
    have hO2 := (b2.block _ hOl).trans HO1.out
    have x2 : W2.cell? ⟨b, o + f, none⟩ = some (.float .f64 x) := (b2.cell (p := ⟨b, o + f, none⟩) hbl).trans HX1.out
    have o1' : W2.cell? ⟨w.heap.size, 1, none⟩ = some (.int .i64 (f : Int)) := cell_of_block hO2 rfl
    have n0 : W2.cell? ⟨W1.heap.size, 0, none⟩ = _ := cell_of_block hN rfl
    have n1 : W2.cell? ⟨W1.heap.size, 1, none⟩ = _ := cell_of_block hN rfl
    have n2 : W2.cell? ⟨W1.heap.size, 2, none⟩ = _ := cell_of_block hN rfl
    have n3 : W2.cell? ⟨W1.heap.size, 3, none⟩ = _ := cell_of_block hN rfl
    have n4 : W2.cell? ⟨W1.heap.size, 4, none⟩ = _ := cell_of_block hN rfl
    have n5 : W2.cell? ⟨W1.heap.size, 5, none⟩ = _ := cell_of_block hN rfl
    have n6 : W2.cell? ⟨W1.heap.size, 6, none⟩ = _ := cell_of_block hN rfl
    have n7 : W2.cell? ⟨W1.heap.size, 7, none⟩ = _ := cell_of_block hN rfl
    have HB2 := Lib.hid (below_then B1 B1.size b2)
    have HG := Lib.hid (rGoes_any none 0 0 x ⟨2, 0, 0, v.thr, [], v.missing, 0, 0⟩ W2.drew (⟨Sl.nil _ 0, by simp⟩))
    rw [HS.out] at HG
    unfold ndCells at HG
    simp only at HG
    obtain ⟨s, hs⟩ : ∃ s, sideV (decide (v.kind = 2)) v.thr v.cats v.missing x = s := ⟨_, rfl⟩
    rw [hs] at HG
    have HRR := Lib.hid (show r = decide (s = 1) by rw [← hr, hs])
    clear o0 o1 o2 o3 o4 x1 hO2 hN b2 hs hr hOl hbl hbb B1
    go_still_tail 6, (by kernel_rfl)
    change wpList _ _ _ _ _ W2.drew
    go_wp2_with fail
    refine HG.out.mono ?_; rintro e w3 ⟨rfl, b3⟩
    have BF := below_then HB2.out HB2.out.size (show Below W2.heap.size W2 w3 from (Below.refl W2.heap.size W2).drew.trans b3)
    clear x2 o1' n0 n1 n2 n3 n4 n5 n6 n7
    go_wp2
    go_ret
    refine ⟨congrArg (fun x => Ending.returned (Value.bool x)) ?_, BF⟩
    rw [HRR.out]
    by_cases h : s = 1 <;> simp [h]
    try omega

end Go.Proofs.YtekcpapkicmckaaGreatDoor

namespace Go.Proofs.YtekcpapkicmckaaGreatDoor
open Go.RowKit

set_option maxRecDepth 100000 in
set_option maxHeartbeats 4000000 in
theorem rRun_any (F O : Int) (A X : Option Addr) (n c xn xc : Nat) (ops : List OpV) (xs : List Nat) (w : World) (hp : OpsAt w A n c ops) (hx : Sl w X xn xc (fls xs)) (hn : n ≤ 1000000000000) :
    Calls Tryz.prog 23 #[.agg #[.int .i64 F, .int .i64 O, .slice A n c], .slice X xn xc] w (RunPost (runV F O ops xs) w) := by
  have B1 := (Below.refl w.heap.size w).alloc (Nat.le_refl _) (.cells #[.int .i64 F, .int .i64 O, .slice A n c] 30)
  have hP := heap_alloc_new w (.cells #[.int .i64 F, .int .i64 O, .slice A n c] 30)
  have hp1 := hp.below B1
  have hx1 := hx.below B1
  have hlen := hp.len
  have hxl : xs.length = xn := by have := hx.len; rwa [fls_length] at this
  have hxb := hx.big
  obtain ⟨R, hR⟩ : ∃ R, runV F O ops xs = R := ⟨_, rfl⟩
  rw [hR]
  have HR := Lib.hid hR
  clear hp hx hR
  go_enter Tryz.func23, Tryz.ntmps23
  go_upto_region 1 with (fail)
  generalize w.alloc (.cells #[.int .i64 F, .int .i64 O, .slice A n c] 30) = W at *
  have p0 : W.cell? ⟨w.heap.size, 0, none⟩ = some (.int .i64 F) := cell_of_block hP rfl
  have p1 : W.cell? ⟨w.heap.size, 1, none⟩ = some (.int .i64 O) := cell_of_block hP rfl
  have p2 : W.cell? ⟨w.heap.size, 2, none⟩ = some (.slice A n c) := cell_of_block hP rfl
  have HC := Lib.hid (rCheck_any F O A n c ops W hp1)
  obtain ⟨K, hK⟩ : ∃ K, checkV F O ops = K := ⟨_, rfl⟩
  rw [hK] at HC
  have HK := Lib.hid hK
  clear hK
  go_wp2_with fail
  refine HC.out.mono ?_; rintro e w1 ⟨rfl, b1⟩
  have hP1 := (b1.block w.heap.size (lt_of_block hP)).trans hP
  have hp2 := hp1.below b1
  have hx2 := hx1.below b1
  have B2 := below_then B1 B1.size b1
  clear p0 p1 p2 hP hp1 hx1 B1 b1
  unfold chkOf
  obtain ⟨k1, k2⟩ := K
  by_cases hk : k1 = 0
  · have p0 : w1.cell? ⟨w.heap.size, 0, none⟩ = some (.int .i64 F) := cell_of_block hP1 rfl
    have p1 : w1.cell? ⟨w.heap.size, 1, none⟩ = some (.int .i64 O) := cell_of_block hP1 rfl
    have p2 : w1.cell? ⟨w.heap.size, 2, none⟩ = some (.slice A n c) := cell_of_block hP1 rfl
    have hK0 : checkV F O ops = (0, 0) := wrong_first (by rw [HK.out]; exact hk)
    have hRP := rightP_of hK0
    subst hk
    by_cases hxF : (xn : Int) = F
    · have HRT := Lib.hid (show R = ((runF ops xs n 0 (List.replicate O.toNat 0)).1, (runF ops xs n 0 (List.replicate O.toNat 0)).2, 0) by rw [← HR.out]; unfold runV; rw [hK0, if_neg (by simp), if_neg (by rw [hxl]; simpa using hxF), hlen])
      have f1 : ((xn : Int) != F) = false := by simpa using hxF
      have f2 : decide ((xn : Int) = F) = true := by simpa using hxF
      have HRP := Lib.hid hRP
      obtain ⟨on, hon⟩ : ∃ on : Nat, O = (on : Int) := Int.eq_ofNat_of_zero_le (by have := hRP.outs; omega)
      have hob : on ≤ 64 := by have := hRP.outs; omega
      have HON := Lib.hid hon
      have HXF := Lib.hid hxF
      have HLEN := Lib.hid hlen
      have HXL := Lib.hid hxl
      rw [hon] at p1
      have HMK := make_row (P := Tryz.prog) 23 2 (.int .i64 0) 8 Tryz.underlying23 Tryz.info_i64 rfl (by omega) on on (Nat.le_refl _) (by omega)
      clear HR HK hK0 hRP hxF hlen hxl hon
      go_upto_region 8 with (fail)
      have b3 := (Below.refl w1.heap.size w1).alloc (Nat.le_refl _) (.cells (Array.replicate on (.int .i64 0)) 2)
      have hsu3 : OwnInts 2 (w1.alloc (.cells (Array.replicate on (.int .i64 0)) 2)) w1.heap.size (some ⟨w1.heap.size, 0, none⟩) on on (List.replicate on 0) := by
        have hm1 := Mine.made 2 w1 w1.heap.size (.int .i64 0) on on (Nat.le_refl _) (Nat.le_refl _) (by omega)
        refine ⟨?_, fun z hz => ?_⟩
        · rw [show i64s (List.replicate on 0) = List.replicate on (.int .i64 0) by simp [i64s]]
          exact hm1
        · have := List.eq_of_mem_replicate hz
          omega
      generalize w1.alloc (.cells (Array.replicate on (.int .i64 0)) 2) = w3 at b3 hsu3 ⊢
      clear HMK p0 p1 p2 HC
      go_wp2_with fail
      go_loopw [10, 11] (fun dx ix wr => ∃ (i : Nat) (S D : List Int) (DA : Option Addr) (dn dc : Nat), dx = .slice DA dn dc ∧ ix = .int .i64 (i : Int) ∧ i < n ∧ OwnInts 2 wr w1.heap.size (some ⟨w1.heap.size, 0, none⟩) on on S ∧ OwnInts 3 wr w1.heap.size DA dn dc D ∧ dn ≤ i ∧ blockOf DA ≠ some w1.heap.size ∧
        Hid (runF ops xs n 0 (List.replicate O.toNat 0) = ((runF ops xs (n - i) i S).1, D ++ (runF ops xs (n - i) i S).2)) ∧ Below w1.heap.size w1 wr) (fun _ ix _ => n - (intOf ix).toNat)
      case atStart => exact ⟨0, _, [], none, 0, 0, rfl, rfl, by have := HRP.out.some; have := HLEN.out; omega, hsu3, ⟨Mine.nil _ _ _, by simp⟩, Nat.le_refl _, by simp [blockOf], Lib.hid (by rw [HON.out]; rfl), b3⟩
      case round =>
        obtain ⟨i, S, D, DA, dn, dc, rfl, rfl, hi, hsu, hdo, hfe, hap, HF, hbr⟩ := hrel
        have hPr := (hbr.block w.heap.size (lt_of_block hP1)).trans hP1
        have hpr := hp2.below hbr
        have p2 : wr.cell? ⟨w.heap.size, 2, none⟩ = some (.slice A n c) := cell_of_block hPr rfl
        have hnb := hpr.big
        obtain ⟨b, o, rfl, hc⟩ := hp2.cells (by omega)
        have hlen := HLEN.out
        obtain ⟨V1, V2, V3, hr', hic, hrg⟩ := hc i (by omega)
        have hr := rangeAt_below hr' hbr
        clear hr'
        have hro := HRP.out.at (i := i) (by omega)
        rw [opAt_get (by omega)] at hro
        have hoa := opAt_get (ops := ops) (i := i) (by omega)
        generalize ops[i]'(by omega) = v at hr hic hrg hro hoa
        have HOA := Lib.hid hoa
        have r0 : _ = some _ := range_cell (o := o + i * 8) hr 0 rfl
        rw [Nat.add_zero] at r0
        have r1 := range_cell hr 1 rfl
        have r2 := range_cell hr 2 rfl
        have r3 := range_cell hr 3 rfl
        have r4 := range_cell hr 4 rfl
        have r5 := range_cell hr 5 rfl
        have r6 := range_cell hr 6 rfl
        have r7 := range_cell hr 7 rfl
        have hlb : b < wr.heap.size := World.block_lt_of_cell? wr _ r0
        have hlp := lt_of_block hPr
        have hsf : ∀ (W : World) (a : Addr) (b : Nat), (store a (.float .f64 b)).run Tryz.prog W = stored Tryz.prog W a (.float .f64 b) .plain := fun W a b => run_store _ W a _ _ rfl
        have i1 : (i : Int) < (n : Int) := by omega
        clear hc hr hlen hoa hpr hPr
        go_upto_region 10 with (fail)
        have b5 := (Below.refl wr.heap.size wr).alloc (Nat.le_refl _) (.cells (opCells V1 V2 V3 v).toArray 75)
        have hO5 : (wr.alloc (.cells (opCells V1 V2 V3 v).toArray 75)).heap[wr.heap.size]? = some (.cells (opCells V1 V2 V3 v).toArray 75 (0, 0)) := heap_alloc_new wr _
        unfold opCells at b5 hO5
        generalize (wr.alloc (.cells #[.int .u8 (v.kind : Int), .int .i64 v.feature, .float .f64 v.thr, .slice V1 V2 V3, .int .u8 (v.missing : Int), .int .i64 v.output, .int .i64 v.value, .int .i64 v.dest] 75)) = w5 at b5 hO5 ⊢
        have hb5 := below_then hbr hbr.size b5
        have hdm := (hdo.below b5).mine
        have hsu5 := hsu.below b5
        have hdl := hdo.mine.lt
        have hOl := lt_of_block hO5
        have hbz := hb5.size
        have hnot : blockOf DA ≠ some wr.heap.size := fun e => by have := (hdl _ e).2; omega
        clear r0 r1 r2 r3 r4 r5 r6 r7 p2 hlb
        go_upto_region 12 with (at_builtin; refine app_one w1.heap.size rfl _ _ _ _ (.int .i64 0) 8 rfl Tryz.underlying44 Tryz.info_int rfl (by omega) DA _ _ _ (.int .i64 (i : Int)) rfl rfl rfl hdm hbz (by omega) ?_; rintro A' c' w4 hm4 hg4 hA4)
        have hO4 := (hg4.block _ hOl (fun e => hnot e.symm)).trans hO5
        have hsu4 : OwnInts 2 w4 w1.heap.size (some ⟨w1.heap.size, 0, none⟩) on on S := ⟨hsu5.mine.kept hg4 (.inr (fun e => hap e.symm)), hsu5.rng⟩
        have hdo4 : OwnInts 3 w4 w1.heap.size A' (dn + 1) c' (D ++ [(i : Int)]) := ⟨by simpa [i64s] using hm4, fun z hz => by
          rcases List.mem_append.1 hz with hz | hz
          · exact hdo.rng z hz
          · simp at hz; omega⟩
        have hap4 : blockOf A' ≠ some w1.heap.size := by
          rcases hA4 with e | ⟨k, e, hk⟩
          · rw [e]; exact hap
          · rw [e]; simp; have := b5.size; have := (hsu.mine.lt w1.heap.size rfl).2; omega
        have hb4 := below_grown hb5 hbz hg4 (fun k hk => (hdl k hk).1)
        have q0 : w4.cell? ⟨wr.heap.size, 0, none⟩ = some (.int .u8 (v.kind : Int)) := cell_of_block hO4 rfl
        have q1 : w4.cell? ⟨wr.heap.size, 1, none⟩ = some (.int .i64 v.feature) := cell_of_block hO4 rfl
        have q2 : w4.cell? ⟨wr.heap.size, 2, none⟩ = some (.float .f64 v.thr) := cell_of_block hO4 rfl
        have q3 : w4.cell? ⟨wr.heap.size, 3, none⟩ = some (.slice V1 V2 V3) := cell_of_block hO4 rfl
        have q4 : w4.cell? ⟨wr.heap.size, 4, none⟩ = some (.int .u8 (v.missing : Int)) := cell_of_block hO4 rfl
        have q5 : w4.cell? ⟨wr.heap.size, 5, none⟩ = some (.int .i64 v.output) := cell_of_block hO4 rfl
        have q6 : w4.cell? ⟨wr.heap.size, 6, none⟩ = some (.int .i64 v.value) := cell_of_block hO4 rfl
        have q7 : w4.cell? ⟨wr.heap.size, 7, none⟩ = some (.int .i64 v.dest) := cell_of_block hO4 rfl
        have hOl4 := lt_of_block hO4
        have hic4 := hic.below hb4
        have hx4 := hx2.below hb4
        clear hO5 hO4 hsu5 hsu hdo hm4 hg4 hA4 hb5 hbr b5 hdm hdl hOl hbz hnot hic hlp
        by_cases hk5' : v.kind = 5
        · have hend := runF_end ops xs (n - i - 1) i S (by rw [HOA.out]; exact hk5')
          rw [show n - i - 1 + 1 = n - i by omega] at hend
          have HRR := Lib.hid (show R = (S, D ++ [(i : Int)], 0) by
            rw [HRT.out]
            have := HF.out
            rw [HON.out, Int.toNat_natCast] at this ⊢
            rw [this, hend])
          have f1 : ((v.kind : Int) == 5) = true := by simp; omega
          have f2 : decide ((v.kind : Int) = 5) = true := by simp; omega
          clear hk5' hend hro
          go_wp2
          refine bodyPost_ret (v := .tuple #[.slice (some ⟨w1.heap.size, 0, none⟩) on on, .slice A' (dn + 1) c', .int .i64 0]) (by simp [results, Tryz.results23, go_sem]) rfl ?_
          have hBB := below_then B2 B2.size hb4
          rw [HRR.out]
          exact ⟨_, _, _, _, _, _, rfl, hsu4.mono B2.size, hdo4.mono B2.size, hBB⟩
        · have hnx := HRP.out.nextAt (i := i) (by have := HLEN.out; omega) (by rw [HOA.out]; exact hk5') xs
          have hsc := runF_succ ops xs (n - i - 1) i S (by rw [HOA.out]; exact hk5')
          rw [show n - i - 1 + 1 = n - i by omega] at hsc
          rw [HOA.out, HLEN.out] at hnx
          obtain ⟨nx, hnxe⟩ : ∃ nx, nextAt v xs i = nx := ⟨_, rfl⟩
          obtain ⟨S', hS'⟩ : ∃ S', nextSums v S = S' := ⟨_, rfl⟩
          rw [hnxe] at hnx
          have hff := runF_fuel HRP.out xs (n - i - 1) (n - nx) nx S' (by have := HLEN.out; omega) (by have := HLEN.out; omega) (by have := HLEN.out; omega)
          rw [HOA.out, hnxe, hS', hff] at hsc
          have HF2 : Hid (runF ops xs n 0 (List.replicate O.toNat 0) = ((runF ops xs (n - nx) nx S').1, (D ++ [(i : Int)]) ++ (runF ops xs (n - nx) nx S').2)) := Lib.hid (by
            rw [HF.out, hsc, List.append_assoc]; rfl)
          have HNX := Lib.hid hnxe
          have HS' := Lib.hid hS'
          have HH5 := Lib.hid hk5'
          have f1 : ((v.kind : Int) == 5) = false := by simp; omega
          have f2 : decide ((v.kind : Int) = 5) = false := by simp; omega
          clear hff hsc hnxe hS' hk5'
          have hkk := hro.kind
          by_cases h3 : v.kind = 3
          · have g1 : ((v.kind : Int) == 3) = true := by simp; omega
            have g2 : decide ((v.kind : Int) = 3) = true := by simp; omega
            have hde : (i : Int) + 1 = (nx : Int) := by
              rw [← HNX.out]; unfold nextAt; rw [if_pos h3]; omega
            have hou := hro.output h3
            obtain ⟨vo, hvo⟩ := Int.eq_ofNat_of_zero_le hou.1
            rw [hvo] at q5
            have hoo : vo < on := by have := HON.out; omega
            have hsl : S.length = on := hsu4.ints.len
            have s1 := hsu4.mine.cell vo hoo
            rw [i64s_getD (by omega)] at s1
            have sz := hsu4.mine.free vo
            have k1 : (vo : Int) < (on : Int) := by omega
            have HSE := Lib.hid (show S' = S.set vo (wrap64 (S.getD vo 0 + v.value)) by rw [← HS'.out]; unfold nextSums bump; rw [if_pos h3, hvo, Int.toNat_natCast])
            obtain ⟨z0, hz0⟩ : ∃ z, S.getD vo 0 = z := ⟨_, rfl⟩
            rw [hz0] at s1 HSE
            have HDE := Lib.hid hde
            have HSL := Lib.hid hsl
            have hsgl := (hsu4.mine.lt w1.heap.size rfl).2
            clear h3 hde hou hvo hsl hz0 hkk hro
            go_upto_region 15 with (fail)
            go_region
            go_wp2
            have hzr : -9223372036854775808 ≤ wrap64 (z0 + v.value) ∧ wrap64 (z0 + v.value) ≤ 9223372036854775807 := by unfold wrap64; omega
            have hsg := setCell_grownBy w4 w1.heap.size vo (.int .i64 (wrap64 (z0 + v.value)))
            have hsu6 : OwnInts 2 (w4.setCell ⟨w1.heap.size, vo, none⟩ (.int .i64 (wrap64 (z0 + v.value)))) w1.heap.size (some ⟨w1.heap.size, 0, none⟩) on on S' := by
              rw [HSE.out]
              refine ⟨?_, fun u hu => ?_⟩
              · have := hsu4.mine.stored vo hoo (.int .i64 (wrap64 (z0 + v.value)))
                simpa [i64s, List.map_set] using this
              · rcases List.mem_or_eq_of_mem_set hu with hu | rfl
                · exact hsu4.rng u hu
                · exact hzr
            have hdo6 : OwnInts 3 (w4.setCell ⟨w1.heap.size, vo, none⟩ (.int .i64 (wrap64 (z0 + v.value)))) w1.heap.size A' (dn + 1) c' (D ++ [(i : Int)]) := ⟨hdo4.mine.kept hsg (.inr hap4), hdo4.rng⟩
            have hb6 := (hb4.setCell (p := ⟨w1.heap.size, vo, none⟩) (Nat.le_refl _) (.int .i64 (wrap64 (z0 + v.value)))).drew
            go_roundw
            case rel => exact ⟨nx, S', D ++ [(i : Int)], A', dn + 1, c', rfl, by rw [HDE.out], hnx.2, hsu6.below (Below.refl _ _).drew, hdo6.below (Below.refl _ _).drew, by omega, hap4, HF2, hb6⟩
            case measure => simp [intOf]; have := HDE.out; omega
          · have g1 : ((v.kind : Int) == 3) = false := by simp; omega
            have g2 : decide ((v.kind : Int) = 3) = false := by simp; omega
            have HSE := Lib.hid (show S' = S by rw [← HS'.out]; unfold nextSums; rw [if_neg h3])
            rw [← HSE.out] at hsu4
            by_cases h4 : v.kind = 4
            · have e1 : ((v.kind : Int) == 4) = true := by simp; omega
              have e2 : decide ((v.kind : Int) = 4) = true := by simp; omega
              have hde : v.dest = (nx : Int) := by
                have := hro.dest h3 (by have := HH5.out; omega)
                rw [← HNX.out]; unfold nextAt; rw [if_neg h3, if_pos h4]; omega
              rw [hde] at q7
              clear h3 h4 hde hkk hro
              go_wp2
              go_roundw
              case rel => exact ⟨nx, S', D ++ [(i : Int)], A', dn + 1, c', rfl, rfl, hnx.2, hsu4, hdo4, by omega, hap4, HF2, hb4⟩
              case measure => simp [intOf]; omega
            · have e1 : ((v.kind : Int) == 4) = false := by simp; omega
              have e2 : decide ((v.kind : Int) = 4) = false := by simp; omega
              have hrf := hro.feature (by have := HH5.out; omega)
              have HG := Lib.hid (rgoes_any V1 V2 V3 v X xn xc xs w4 hx4 hic4 hrf.1 (by have := HXF.out; omega))
              obtain ⟨y, hy⟩ : ∃ y, goesOn v xs = y := ⟨_, rfl⟩
              rw [hy] at HG
              have HNN := Lib.hid (show nx = if y then i + 1 else v.dest.toNat by rw [← HNX.out]; unfold nextAt; rw [if_neg h3, if_neg h4, hy])
              have hdd := hro.dest h3 (by have := HH5.out; omega)
              unfold opCells at HG
              clear h3 h4 hkk hro hrf hy
              cases y
              · have HDE := Lib.hid (show v.dest = (nx : Int) by have := HNN.out; simp at this; omega)
                clear hdd
                go_wp2_with fail
                refine HG.out.mono ?_; rintro e w6 ⟨rfl, b6⟩
                have q7' : w6.cell? ⟨wr.heap.size, 7, none⟩ = some (.int .i64 v.dest) := (b6.cell (p := ⟨wr.heap.size, 7, none⟩) hOl4).trans q7
                rw [HDE.out] at q7'
                have hb6 := below_then hb4 hb4.size b6
                have hsu6 := hsu4.below b6
                have hdo6 := hdo4.below b6
                clear q0 q1 q2 q3 q4 q5 q6 q7
                go_wp2
                go_roundw
                case rel => exact ⟨nx, S', D ++ [(i : Int)], A', dn + 1, c', rfl, rfl, hnx.2, hsu6, hdo6, by omega, hap4, HF2, hb6⟩
                case measure => simp [intOf]; omega
              · have HDE := Lib.hid (show (i : Int) + 1 = (nx : Int) by have := HNN.out; simp at this; omega)
                clear hdd
                go_wp2_with fail
                refine HG.out.mono ?_; rintro e w6 ⟨rfl, b6⟩
                have hb6 := below_then hb4 hb4.size b6
                have hsu6 := hsu4.below b6
                have hdo6 := hdo4.below b6
                clear q0 q1 q2 q3 q4 q5 q6 q7
                go_wp2
                go_roundw
                case rel => exact ⟨nx, S', D ++ [(i : Int)], A', dn + 1, c', rfl, by rw [HDE.out], hnx.2, hsu6, hdo6, by omega, hap4, HF2, hb6⟩
                case measure => simp [intOf]; have := HDE.out; omega
    · have HRT := Lib.hid (show R = ([], [], 72) by rw [← HR.out]; unfold runV; rw [hK0, if_neg (by simp), if_pos (by rw [hxl]; exact hxF)])
      have f1 : ((xn : Int) != F) = true := by simpa using hxF
      have f2 : decide ((xn : Int) = F) = false := by simpa using hxF
      clear hxF HR HK hK0 hRP
      go_wp2
      refine bodyPost_ret (v := .tuple #[.slice none 0 0, .slice none 0 0, .int .i64 72]) (by simp [results, Tryz.results23, go_sem]) rfl ?_
      rw [HRT.out]
      exact ⟨none, 0, 0, none, 0, 0, rfl, ⟨Mine.nil _ _ _, by simp⟩, ⟨Mine.nil _ _ _, by simp⟩, B2⟩
  · have HRT := Lib.hid (show R = ([], [], k1) by rw [← HR.out]; unfold runV; rw [HK.out, if_pos hk])
    have f1 : (k1 != 0) = true := by simpa using hk
    have f2 : decide (k1 = 0) = false := by simpa using hk
    clear hk HR HK
    go_wp2
    refine bodyPost_ret (v := .tuple #[.slice none 0 0, .slice none 0 0, .int .i64 k1]) (by simp [results, Tryz.results23, go_sem]) rfl ?_
    rw [HRT.out]
    exact ⟨none, 0, 0, none, 0, 0, rfl, ⟨Mine.nil _ _ _, by simp⟩, ⟨Mine.nil _ _ _, by simp⟩, B2⟩

end Go.Proofs.YtekcpapkicmckaaGreatDoor
