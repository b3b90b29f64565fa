/- The contract of thicketref07.Shape. -/
import Derived.Test.YtekcpapkicmckaaGreatDoorRnd
namespace Go.Proofs.YtekcpapkicmckaaGreatDoor
open Go.RowKit

theorem kind_inner {n : Int} {v : NdV} (h : nodeV n v = true) : ((v.kind : Int) != 1) = innerV v ∧ decide ((v.kind : Int) = 1) = !innerV v := by
  unfold nodeV at h
  by_cases hk : v.kind = 1
  · unfold innerV; simp [hk]
  · rw [if_neg hk] at h
    simp only [Bool.and_eq_true, decide_eq_true_eq] at h
    have h2 := h.1.1
    unfold innerV
    rw [decide_eq_true h2]
    simp
    omega

set_option maxRecDepth 100000 in
set_option maxHeartbeats 4000000 in
theorem rShape_any (out : Int) (A : Option Addr) (n c : Nat) (nds : List NdV) (w : World) (hp : NdsAt w A n c nds) (hn : n ≤ 1000000000000) :
    Calls Tryz.prog 36 #[.agg #[.int .i64 out, .slice A n c]] w fun e w' => e = shpOf (shapeV nds) ∧ Below w.heap.size w w' := by
  have B1 := (Below.refl w.heap.size w).alloc (Nat.le_refl _) (.cells #[.int .i64 out, .slice A n c] 65)
  have hT := heap_alloc_new w (.cells #[.int .i64 out, .slice A n c] 65)
  have hp1 := hp.below B1
  have hlen := hp.len
  have hnb := hp.big
  obtain ⟨R, hR⟩ : ∃ R, shapeV nds = R := ⟨_, rfl⟩
  rw [hR]
  have HR := Lib.hid hR
  clear hp hR
  go_enter Tryz.func36, Tryz.ntmps36
  go_upto_region 1 with (fail)
  generalize w.alloc (.cells #[.int .i64 out, .slice A n c] 65) = w1 at *
  have t1 : w1.cell? ⟨w.heap.size, 1, none⟩ = some (.slice A n c) := cell_of_block hT rfl
  by_cases h0 : n = 0
  · have HRR := Lib.hid (show R = (70, 0) by rw [← HR.out]; unfold shapeV; rw [if_pos (by omega)])
    subst h0
    go_wp2
    go_ret2
    exact ⟨by rw [HRR.out]; rfl, B1⟩
  · have f1 : ((n : Int) == 0) = false := by simp; omega
    have f2 : decide ((n : Int) = 0) = false := by simp; omega
    have hRN : R = shapeEnd (splitF n 0 nds) (badF (belowT nds n) (reachedV nds) n 0) := by rw [← HR.out]; unfold shapeV; rw [if_neg (by omega), hlen]
    have HRN := Lib.hid hRN
    have hlt0 := lt_of_block hT
    have H0 := Lib.hid h0
    have HMK := make_row (P := Tryz.prog) 44 3 (.int .i64 0) 8 Tryz.underlying44 Tryz.info_int rfl (by omega) n n (Nat.le_refl _) (by omega)
    clear hRN h0 HR
    go_upto_region 5 with (fail)
    have b2 := (Below.refl w1.heap.size w1).alloc (Nat.le_refl _) (.cells (Array.replicate n (.int .i64 0)) 3)
    have hm2 : Mine 3 (w1.alloc (.cells (Array.replicate n (.int .i64 0)) 3)) w1.heap.size (some ⟨w1.heap.size, 0, none⟩) n n (i64s (belowT nds 0)) := by
      have hm1 := Mine.made 3 w1 w1.heap.size (.int .i64 0) n n (Nat.le_refl _) (Nat.le_refl _) (by omega)
      rw [show i64s (belowT nds 0) = List.replicate n (.int .i64 0) by simp [i64s, belowT, hlen]]
      exact hm1
    generalize w1.alloc (.cells (Array.replicate n (.int .i64 0)) 3) = w2 at b2 hm2 ⊢
    have hT2 := (b2.block _ hlt0).trans hT
    have t2 : w2.cell? ⟨w.heap.size, 1, none⟩ = some (.slice A n c) := cell_of_block hT2 rfl
    have HLEN := Lib.hid hlen
    clear HMK t1 hlen hT2
    go_upto_region 6 with (fail)
    go_loopw [23] (fun ix wr => ∃ (i : Nat), ix = .int .i64 (i : Int) ∧ i ≤ n ∧ Mine 3 wr w1.heap.size (some ⟨w1.heap.size, 0, none⟩) n n (i64s (belowT nds i)) ∧ Hid (splitF n 0 nds = splitF n i (nds.drop i)) ∧ Hid (∀ j, j < i → nodeV n (ndAt nds j) = true) ∧ Below w1.heap.size w1 wr) (fun ix _ => n - (intOf ix).toNat)
    case atStart => exact ⟨0, rfl, Nat.zero_le _, hm2, Lib.hid rfl, Lib.hid (fun j hj => absurd hj (Nat.not_lt_zero j)), b2⟩
    case round =>
      obtain ⟨i, rfl, hi, hmr, HSP, HND, hbr⟩ := hrel
      have hTr := (hbr.block _ hlt0).trans hT
      have tr1 : wr.cell? ⟨w.heap.size, 1, none⟩ = some (.slice A n c) := cell_of_block hTr rfl
      have hltr := lt_of_block hTr
      have HGW := Lib.hid (hmr.lt w1.heap.size rfl).2
      by_cases hlt : i < n
      · have hpr := hp1.below hbr
        have hlen := HLEN.out
        obtain ⟨b, o, rfl, hc⟩ := hpr.cells (by omega)
        obtain ⟨V1, V2, V3, hr, hic, hk1, hk2⟩ := hc i (by omega)
        have hsd := splitF_drop n nds i (by omega)
        rw [← HSP.out] at hsd
        have hat := ndAt_get (nds := nds) (i := i) (by omega)
        generalize nds[i]'(by omega) = v at hr hic hk1 hk2 hsd hat
        have HAT := Lib.hid hat
        have HSD := Lib.hid hsd
        have r0 : _ = some _ := range_cell (o := o + i * 8) hr 0 rfl
        rw [Nat.add_zero] at r0
        have r1 := range_cell hr 1 rfl
        have r2 := range_cell hr 2 rfl
        have r3 := range_cell hr 3 rfl
        have r4 := range_cell hr 4 rfl
        have r5 := range_cell hr 5 rfl
        have r6 := range_cell hr 6 rfl
        have r7 := range_cell hr 7 rfl
        have hlb : b < wr.heap.size := World.block_lt_of_cell? wr _ r0
        have hsf : ∀ (W : World) (a : Addr) (b : Nat), (store a (.float .f64 b)).run Tryz.prog W = stored Tryz.prog W a (.float .f64 b) .plain := fun W a b => run_store _ W a _ _ rfl
        have i1 : (i : Int) < (n : Int) := by omega
        have i2 : decide ((i : Int) < (n : Int)) = true := by simpa using i1
        clear hc hr hlen hsd hat hpr
        go_upto_region 8 with (fail)
        have b5 := (Below.refl wr.heap.size wr).alloc (Nat.le_refl _) (.cells (ndCells V1 V2 V3 v).toArray 72)
        have hO5 : (wr.alloc (.cells (ndCells V1 V2 V3 v).toArray 72)).heap[wr.heap.size]? = some (.cells (ndCells V1 V2 V3 v).toArray 72 (0, 0)) := heap_alloc_new wr _
        have HNR := Lib.hid (rnode_any V1 V2 V3 n v _ (hic.below b5))
        unfold ndCells at b5 hO5 HNR
        generalize (wr.alloc (.cells #[.int .u8 (v.kind : Int), .int .i64 v.value, .int .i64 v.feature, .float .f64 v.thr, .slice V1 V2 V3, .int .u8 (v.missing : Int), .int .i64 v.left, .int .i64 v.right] 72)) = w5 at b5 hO5 HNR ⊢
        obtain ⟨n0, n1, n2, n3, n4, n5, n6, n7⟩ := nd_box (v := v) hO5
        have t5 : w5.cell? ⟨w.heap.size, 1, none⟩ = some (.slice (some ⟨b, o, none⟩) n c) := (b5.cell (p := ⟨w.heap.size, 1, none⟩) hltr).trans tr1
        have hb5 := below_then hbr hbr.size b5
        have hm5 := hmr.below b5
        have HO5 := Lib.hid hO5
        clear r0 r1 r2 r3 r4 r5 r6 r7 tr1 hO5 b5 hbr hmr hic hTr
        obtain ⟨nv, hnv⟩ : ∃ y, nodeV n v = y := ⟨_, rfl⟩
        rw [hnv] at HNR HSD
        have HNV := Lib.hid hnv
        clear hnv
        cases nv
        · have HRR := Lib.hid (show R = (71, (i : Int)) by rw [HRN.out, HSD.out]; rfl)
          go_wp2_with fail
          refine HNR.out.mono ?_; rintro e w6 ⟨rfl, b6⟩
          have BB := below_then B1 B1.size (below_then hb5 hb5.size b6)
          go_wp2
          go_ret2
          exact ⟨by rw [HRR.out]; rfl, BB⟩
        · go_wp2_with fail
          refine HNR.out.mono ?_; rintro e w6 ⟨rfl, b6⟩
          have hO6 := (b6.block _ (lt_of_block HO5.out)).trans HO5.out
          have hb6 := below_then hb5 hb5.size b6
          have hm6 := hm5.below b6
          clear n0 n1 n2 n3 n4 n5 n6 n7 t5 hb5 hm5 b6 HO5
          obtain ⟨n0, n1, n2, n3, n4, n5, n6, n7⟩ := nd_box (v := v) hO6
          have HO6 := Lib.hid hO6
          clear hO6 HNR
          have HND2 : Hid (∀ j, j < i + 1 → nodeV n (ndAt nds j) = true) := Lib.hid (fun j hj => by
            by_cases e : j = i
            · rw [e, HAT.out]; exact HNV.out
            · exact HND.out j (by omega))
          have HSP2 : Hid (splitF n 0 nds = splitF n (i + 1) (nds.drop (i + 1))) := Lib.hid (by rw [HSD.out]; rfl)
          obtain ⟨iv, hiv⟩ : ∃ y, innerV v = y := ⟨_, rfl⟩
          have hq := kind_inner HNV.out
          rw [hiv] at hq
          obtain ⟨q1, q2⟩ := hq
          have HIV := Lib.hid hiv
          clear hiv
          cases iv
          · have HBT := Lib.hid (show belowT nds (i + 1) = belowT nds i by simp only [belowT]; rw [HAT.out, HIV.out]; rfl)
            have hb7 := hb6
            have hm7 := hm6
            rw [← HBT.out] at hm7
            clear n1 n2 n3 n4 n5 n6 n7 hm6 hb6
            go_wp2
            go_roundw
            case rel => exact ⟨i + 1, by go_num, hlt, hm7, HSP2, HND2, hb7⟩
            case measure => simp [intOf]; omega
          · have hni := nodeV_inner HNV.out HIV.out
            obtain ⟨L, hL⟩ := Int.eq_ofNat_of_zero_le (show 0 ≤ v.left by omega)
            obtain ⟨Q, hQ⟩ := Int.eq_ofNat_of_zero_le (show 0 ≤ v.right by omega)
            have hLn : L < n := by omega
            have hQn : Q < n := by omega
            have HBT := Lib.hid (show belowT nds (i + 1) = incAt (incAt (belowT nds i) L) Q by
              simp only [belowT]
              rw [HAT.out, HIV.out, hL, hQ]
              rfl)
            have hbl : (belowT nds i).length = n := by rw [belowT_length]; exact HLEN.out
            have hz1 := belowT_range nds i L
            have hb7 := hb6
            have hm7 := hm6
            have hO7 := HO6.out
            clear n1 n2 n3 n4 n5 n6 n7 hm6 hb6
            have n6 : w6.cell? ⟨wr.heap.size, 6, none⟩ = some (.int .i64 v.left) := cell_of_block hO7 rfl
            have n7 : w6.cell? ⟨wr.heap.size, 7, none⟩ = some (.int .i64 v.right) := cell_of_block hO7 rfl
            rw [hL] at n6
            rw [hQ] at n7
            have s1 := hm7.cell L hLn
            rw [i64s_getD (by omega)] at s1
            have z1 := hm7.free L
            obtain ⟨x1, hx1⟩ : ∃ z, (belowT nds i).getD L 0 = z := ⟨_, rfl⟩
            rw [hx1] at s1 hz1
            have l1 : (L : Int) < (n : Int) := by omega
            have hol := lt_of_block hO7
            have HO7 := Lib.hid hO7
            have HX1 := Lib.hid hx1
            have hx0 : 0 ≤ x1 := hz1.1
            have hx9 : x1 ≤ 2000000000000 := by omega
            have HBL := Lib.hid hbl
            have HQ := Lib.hid hQ
            clear hni hL hQ hx1 hO7 hz1 hbl
            go_upto_region 12 with (fail)
            have hm8 : Mine 3 (w6.setCell ⟨w1.heap.size, L, none⟩ (.int .i64 (x1 + 1))) w1.heap.size (some ⟨w1.heap.size, 0, none⟩) n n (i64s (incAt (belowT nds i) L)) := by
              exact stored_inc hm7 hLn HX1.out
            have hgw : w1.heap.size < wr.heap.size := HGW.out
            have n8 : (w6.setCell ⟨w1.heap.size, L, none⟩ (.int .i64 (x1 + 1))).cell? ⟨wr.heap.size, 7, none⟩ = some (.int .i64 (Q : Int)) := cell_of_block' ((setCell_other (by omega) _ _).trans HO7.out) (by rw [← HQ.out]; rfl)
            have hb8 := hb7.setCell (p := ⟨w1.heap.size, L, none⟩) (Nat.le_refl _) (.int .i64 (x1 + 1))
            generalize w6.setCell ⟨w1.heap.size, L, none⟩ (.int .i64 (x1 + 1)) = w8 at hm8 n8 hb8 ⊢
            have hz2 := incAt_range (belowT_range nds i) L Q
            have s2 := hm8.cell Q hQn
            rw [i64s_getD (by rw [incAt_length, HBL.out]; exact hQn)] at s2
            have z2 := hm8.free Q
            obtain ⟨x2, hx2⟩ : ∃ z, (incAt (belowT nds i) L).getD Q 0 = z := ⟨_, rfl⟩
            rw [hx2] at s2 hz2
            have l2 : (Q : Int) < (n : Int) := by omega
            have hy0 : 0 ≤ x2 := hz2.1
            have hy9 : x2 ≤ 2000000000001 := by omega
            have HX2 := Lib.hid hx2
            clear hx2 hz2 n0 n6 n7 s1 z1 hm7 hb7 l1 hx0 hx9 q1 q2
            go_upto_region 13 with (fail)
            have hm9 : Mine 3 (w8.setCell ⟨w1.heap.size, Q, none⟩ (.int .i64 (x2 + 1))) w1.heap.size (some ⟨w1.heap.size, 0, none⟩) n n (i64s (belowT nds (i + 1))) := by
              rw [HBT.out]
              exact stored_inc hm8 hQn HX2.out
            have hb9 := hb8.setCell (p := ⟨w1.heap.size, Q, none⟩) (Nat.le_refl _) (.int .i64 (x2 + 1))
            generalize w8.setCell ⟨w1.heap.size, Q, none⟩ (.int .i64 (x2 + 1)) = w9 at hm9 hb9 ⊢
            clear s2 z2 hm8 hb8 n8
            go_wp2
            go_roundw
            case rel => exact ⟨i + 1, by go_num, hlt, hm9, HSP2, HND2, hb9⟩
            case measure => simp [intOf]; omega
      · rename World => wo
        obtain rfl : i = n := by omega
        have i1 : ¬ (i : Int) < (i : Int) := by omega
        have i2 : decide ((i : Int) < (i : Int)) = false := by simp
        have HRN2 := Lib.hid (show R = shapeEnd none (badF (belowT nds i) (reachedV nds) i 0) by
          rw [HRN.out, HSP.out, List.drop_of_length_le (by rw [HLEN.out]; exact Nat.le_refl _)]; rfl)
        have HMK := make_row (P := Tryz.prog) 83 4 (.bool false) 1 Tryz.underlying83 Tryz.info_bool rfl (by omega) i i (Nat.le_refl _) (by omega)
        clear HRN HSP hT hm2 b2 t2
        go_upto_region 16 with (fail)
        have hprr := hp1.below hbr
        have b3 := ((Below.refl wo.heap.size wo).alloc (Nat.le_refl _) (.cells (Array.replicate i (.bool false)) 4)).alloc (by simp) (.cells #[.int .i64 0] 3)
        have hmb3 : Mine 4 ((wo.alloc (.cells (Array.replicate i (.bool false)) 4)).alloc (.cells #[.int .i64 0] 3)) wo.heap.size (some ⟨wo.heap.size, 0, none⟩) i i (bools (List.replicate i false)) := by
          have hm1 := Mine.made 4 wo wo.heap.size (.bool false) i i (Nat.le_refl _) (Nat.le_refl _) (by omega)
          rw [show bools (List.replicate i false) = List.replicate i (.bool false) by simp [bools]]
          exact hm1.below ((Below.refl _ _).alloc (Nat.le_refl _) _)
        have hst3 : MineK 1 3 ((wo.alloc (.cells (Array.replicate i (.bool false)) 4)).alloc (.cells #[.int .i64 0] 3)) wo.heap.size (some ⟨wo.heap.size + 1, 0, none⟩) 1 1 (stv [0]) :=
          ⟨rfl, Nat.le_refl _, by omega, .inr ⟨wo.heap.size + 1, [], rfl, by omega, by
            have := heap_alloc_new (wo.alloc (.cells (Array.replicate i (.bool false)) 4)) (.cells #[.int .i64 0] 3)
            simpa [stv, i64s] using this, by simp⟩⟩
        generalize (wo.alloc (.cells (Array.replicate i (.bool false)) 4)).alloc (.cells #[.int .i64 0] 3) = w3 at b3 hmb3 hst3 ⊢
        have BB := Lib.hid (below_then B1 B1.size hbr)
        have HTr := Lib.hid hTr
        have HPR := Lib.hid hprr
        have HMR := Lib.hid hmr
        have h0i : 0 < i := by have := H0.out; omega
        clear HMK tr1 hTr hprr hmr B1 hbr hp1 hlt0
        go_loopg [9] (3 * i + 1) (fun k sx wq => ∃ (Q : List Bool) (st : List Nat) (SA : Option Addr) (sn sc : Nat), sx = .slice SA sn sc ∧ k ≤ 3 * i + 1 ∧ MineK 1 3 wq wo.heap.size SA sn sc (stv st) ∧ Mine 4 wq wo.heap.size (some ⟨wo.heap.size, 0, none⟩) i i (bools Q) ∧
          blockOf SA ≠ some wo.heap.size ∧ Hid (∀ x ∈ st, x < i) ∧ Hid (dfs nds k Q st = reachedV nds) ∧ 3 * cf Q + st.length ≤ k ∧ Below wo.heap.size wo wq)
        case atStart => exact ⟨_, [0], _, 1, 1, rfl, Nat.le_refl _, hst3, hmb3, by simp [blockOf], Lib.hid (by simpa using h0i), Lib.hid (by unfold reachedV; rw [HLEN.out]), by rw [cf_replicate]; simp, b3⟩
        case round =>
          obtain ⟨Q, st, SA, sn, sc, rfl, hk, hst, hmb, hap, HSX, HDF, hcf, hbq⟩ := hrel
          have hql : Q.length = i := by have := hmb.len; simpa [bools] using this
          have hsl := hst.len
          rw [stv_length] at hsl
          have hsc := hst.cap
          cases st with
          | nil =>
            obtain rfl : sn = 0 := by simp at hsl; omega
            have HQR := Lib.hid (show Q = reachedV nds by rw [← HDF.out, dfs_nil])
            have hTq := (hbq.block _ hltr).trans HTr.out
            have tq1 : wr.cell? ⟨w.heap.size, 1, none⟩ = some (.slice A i c) := cell_of_block hTq rfl
            have hmq := HMR.out.below hbq
            have BQ := Lib.hid (below_then BB.out BB.out.size hbq)
            have HQL := Lib.hid hql
            clear hsl hst HDF hTq hql
            rename World => wz
            go_upto_region 25 with (fail)
            go_loopw [93] (fun ix wq => ∃ (j : Nat), ix = .int .i64 (j : Int) ∧ j ≤ i ∧ Hid (badF (belowT nds i) (reachedV nds) i 0 = badF (belowT nds i) (reachedV nds) (i - j) j) ∧ Hid (wq = wz)) (fun ix _ => i - (intOf ix).toNat)
            case atStart => exact ⟨0, rfl, Nat.zero_le _, Lib.hid rfl, Lib.hid rfl⟩
            case round =>
              obtain ⟨j, rfl, hj, HBF, HWQ⟩ := hrel
              have hwq := HWQ.out
              subst hwq
              clear HWQ
              by_cases hjt : j < i
              · have s1 := hmq.cell j hjt
                rw [i64s_getD (by rw [belowT_length, HLEN.out]; exact hjt)] at s1
                have p1 := hmb.cell j hjt
                rw [bools_getD (by rw [HQL.out]; exact hjt), HQR.out] at p1
                have hbf : badF (belowT nds i) (reachedV nds) (i - j) j = if (belowT nds i).getD j 0 ≠ (if j = 0 then 0 else 1) ∨ (reachedV nds).getD j false = false then some j else badF (belowT nds i) (reachedV nds) (i - (j + 1)) (j + 1) := by
                  rw [show i - j = (i - (j + 1)) + 1 by omega]; rfl
                rw [← HBF.out] at hbf
                obtain ⟨z, hz⟩ : ∃ z, (belowT nds i).getD j 0 = z := ⟨_, rfl⟩
                obtain ⟨y, hy⟩ : ∃ y, (reachedV nds).getD j false = y := ⟨_, rfl⟩
                rw [hz] at s1 hbf
                rw [hy] at p1 hbf
                have HBF2 := Lib.hid hbf
                clear hz hy hbf
                have l1 : (j : Int) < (i : Int) := by omega
                have l2 : decide ((j : Int) < (i : Int)) = true := by simpa using l1
                obtain ⟨b0, hb0⟩ : ∃ b, decide (j = 0) = b := ⟨_, rfl⟩
                have c1 : ((j : Int) == 0) = b0 := by rw [← hb0, Bool.eq_iff_iff]; simp
                have c2 : decide ((j : Int) = 0) = b0 := by rw [← hb0]; simp
                have c3 : (j == 0) = b0 := by rw [← hb0, Bool.eq_iff_iff]; simp
                have c4 : decide ((0 : Int) < (j : Int)) = !b0 := by rw [← hb0, Bool.eq_iff_iff]; simp; omega
                have c5 : decide (0 < j) = !b0 := by rw [← hb0, Bool.eq_iff_iff]; simp; omega
                cases b0
                · obtain ⟨t, ht⟩ : ∃ t, (z != 1) = t := ⟨_, rfl⟩
                  have ht2 : decide (z = 1) = !t := by rw [← ht, bne, Bool.not_not]; rfl
                  have hj0 : j ≠ 0 := by simpa using hb0
                  have HBF3 := Lib.hid (show badF (belowT nds i) (reachedV nds) i 0 = if (t || !y) = true then some j else badF (belowT nds i) (reachedV nds) (i - (j + 1)) (j + 1) by
                    rw [HBF2.out, ← ht, if_neg hj0]
                    congr 1
                    cases y <;> simp)
                  clear HBF2 hj0 hb0
                  cases t
                  · cases y
                    · have HRR := Lib.hid (show R = (70, (j : Int)) by rw [HRN2.out, HBF3.out]; rfl)
                      go_wp2
                      go_ret2
                      exact ⟨by rw [HRR.out]; rfl, BQ.out⟩
                    · go_wp2
                      go_roundw
                      case rel => exact ⟨j + 1, by go_num, hjt, Lib.hid (by rw [HBF3.out]; rfl), Lib.hid trivial⟩
                      case measure => simp [intOf]; omega
                  · have HRR := Lib.hid (show R = (70, (j : Int)) by rw [HRN2.out, HBF3.out]; rfl)
                    go_wp2
                    go_ret2
                    exact ⟨by rw [HRR.out]; rfl, BQ.out⟩
                · obtain ⟨t, ht⟩ : ∃ t, (z != 0) = t := ⟨_, rfl⟩
                  have ht2 : decide (z = 0) = !t := by rw [← ht, bne, Bool.not_not]; rfl
                  have hj0 : j = 0 := by simpa using hb0
                  have HBF3 := Lib.hid (show badF (belowT nds i) (reachedV nds) i 0 = if (t || !y) = true then some j else badF (belowT nds i) (reachedV nds) (i - (j + 1)) (j + 1) by
                    rw [HBF2.out, ← ht, if_pos hj0]
                    congr 1
                    cases y <;> simp)
                  clear HBF2 hj0 hb0
                  cases t
                  · cases y
                    · have HRR := Lib.hid (show R = (70, (j : Int)) by rw [HRN2.out, HBF3.out]; rfl)
                      go_wp2
                      go_ret2
                      exact ⟨by rw [HRR.out]; rfl, BQ.out⟩
                    · go_wp2
                      go_roundw
                      case rel => exact ⟨j + 1, by go_num, hjt, Lib.hid (by rw [HBF3.out]; rfl), Lib.hid trivial⟩
                      case measure => simp [intOf]; omega
                  · have HRR := Lib.hid (show R = (70, (j : Int)) by rw [HRN2.out, HBF3.out]; rfl)
                    go_wp2
                    go_ret2
                    exact ⟨by rw [HRR.out]; rfl, BQ.out⟩
              · obtain rfl : j = i := by omega
                have l2 : decide ((j : Int) < (j : Int)) = false := by simp
                have HRR := Lib.hid (show R = (0, 0) by rw [HRN2.out, HBF.out, Nat.sub_self]; rfl)
                go_wp2
                go_ret2
                exact ⟨by rw [HRR.out]; rfl, BQ.out⟩
          | cons p st =>
            simp at hsl
            obtain ⟨m, hm⟩ : ∃ m, sn = m + 1 := ⟨st.length, by omega⟩
            subst hm
            have hml : m = st.length := by omega
            have hpi : p < i := HSX.out p (List.mem_cons_self ..)
            obtain ⟨gs, rfl, hgs1, hgs2⟩ := hst.some_of (by omega)
            have s0 := hst.cell m (by omega)
            rw [hml, stv_top] at s0
            rw [← hml] at s0
            have hst1 := hst.pre m (by omega)
            rw [hml, stv_pop] at hst1
            rw [← hml] at hst1
            obtain ⟨k', rfl⟩ : ∃ k', gk = k' + 1 := ⟨gk - 1, by simp at hcf; omega⟩
            have p0 := hmb.cell p hpi
            rw [bools_getD (by omega)] at p0
            have pz := hmb.free p
            have l0 : (p : Int) < (i : Int) := by omega
            have HDF2 := HDF.out
            unfold dfs at HDF2
            have hm9 : m ≤ 9000000000000 := by simp at hcf; omega
            have e1 : ((m + 1 : Nat) : Int) = (m : Int) + 1 := by omega
            have e2 : (0 : Int) < ((m + 1 : Nat) : Int) := by omega
            have e3 : (m : Int) < ((m + 1 : Nat) : Int) := by omega
            have e4 : (m : Int) ≤ (sc : Int) := by omega
            obtain ⟨rc, hrc⟩ : ∃ y, Q.getD p false = y := ⟨_, rfl⟩
            rw [hrc] at p0 HDF2
            have HD2 := Lib.hid HDF2
            have HRC := Lib.hid hrc
            have HML := Lib.hid hml
            have HE1 := Lib.hid e1
            have HQL := Lib.hid hql
            clear hrc HDF2 hml hsl e1 hql
            go_upto_region 19 with (fail)
            have HSX2 : Hid (∀ x ∈ st, x < i) := Lib.hid (fun x hx => HSX.out x (List.mem_cons_of_mem _ hx))
            simp only [List.length_cons] at hcf
            cases rc
            · have hTq := (hbq.block _ hltr).trans HTr.out
              have tq1 : wr.cell? ⟨w.heap.size, 1, none⟩ = some (.slice A i c) := cell_of_block hTq rfl
              have htl := lt_of_block hTq
              have hsg := setCell_grownBy wr wo.heap.size p (.bool true)
              have hcs := cf_set Q p (by rw [HQL.out]; exact hpi) HRC.out
              have hmb4 : Mine 4 (wr.setCell ⟨wo.heap.size, p, none⟩ (.bool true)) wo.heap.size (some ⟨wo.heap.size, 0, none⟩) i i (bools (Q.set p true)) := by
                have := hmb.stored p hpi (.bool true)
                simpa [bools, List.map_set] using this
              have hst4 := hst1.kept hsg (.inr hap)
              have hb4 := hbq.setCell (p := ⟨wo.heap.size, p, none⟩) (Nat.le_refl _) (.bool true)
              have HD3 := Lib.hid (show dfs nds k' (Q.set p true) (if innerV (ndAt nds p) = true then (ndAt nds p).right.toNat :: (ndAt nds p).left.toNat :: st else st) = reachedV nds by have := HD2.out; simpa using this)
              clear hst1 hsg hst hbq hmb HD2 HDF hTq
              go_upto_region 21 with (fail)
              generalize wr.setCell ⟨wo.heap.size, p, none⟩ (.bool true) = w4 at hmb4 hst4 hb4 ⊢
              clear p0 pz s0 tq1 htl
              have hT4 := (hb4.block _ hltr).trans HTr.out
              have tq1 : w4.cell? ⟨w.heap.size, 1, none⟩ = some (.slice A i c) := cell_of_block hT4 rfl
              have hp4 := HPR.out.below hb4
              have hlen := HLEN.out
              obtain ⟨b, o, rfl, hc⟩ := hp4.cells (by omega)
              obtain ⟨V1, V2, V3, hr, hic, hk1, hk2⟩ := hc p (by omega)
              have hat := ndAt_get (nds := nds) (i := p) (by omega)
              generalize nds[p]'(by omega) = v at hr hic hk1 hk2 hat
              have HAT := Lib.hid hat
              have r0 : _ = some _ := range_cell (o := o + p * 8) hr 0 rfl
              rw [Nat.add_zero] at r0
              have r1 := range_cell hr 1 rfl
              have r2 := range_cell hr 2 rfl
              have r3 := range_cell hr 3 rfl
              have r4 := range_cell hr 4 rfl
              have r5 := range_cell hr 5 rfl
              have r6 := range_cell hr 6 rfl
              have r7 := range_cell hr 7 rfl
              have hlb : b < w4.heap.size := World.block_lt_of_cell? w4 _ r0
              have hsf : ∀ (W : World) (a : Addr) (b : Nat), (store a (.float .f64 b)).run Tryz.prog W = stored Tryz.prog W a (.float .f64 b) .plain := fun W a b => run_store _ W a _ _ rfl
              clear hc hr hlen hat hp4
              go_upto_region 22 with (fail)
              have b5 := (Below.refl w4.heap.size w4).alloc (Nat.le_refl _) (.cells (ndCells V1 V2 V3 v).toArray 72)
              have hO5 : (w4.alloc (.cells (ndCells V1 V2 V3 v).toArray 72)).heap[w4.heap.size]? = some (.cells (ndCells V1 V2 V3 v).toArray 72 (0, 0)) := heap_alloc_new w4 _
              unfold ndCells at b5 hO5
              generalize (w4.alloc (.cells #[.int .u8 (v.kind : Int), .int .i64 v.value, .int .i64 v.feature, .float .f64 v.thr, .slice V1 V2 V3, .int .u8 (v.missing : Int), .int .i64 v.left, .int .i64 v.right] 72)) = w5 at b5 hO5 ⊢
              obtain ⟨n0, n1, n2, n3, n4, n5, n6, n7⟩ := nd_box (v := v) hO5
              have hb5 := below_then hb4 hb4.size b5
              have hm5 := hmb4.below b5
              have hs5 := hst4.below b5
              have HO5 := Lib.hid hO5
              obtain ⟨iv, hiv⟩ : ∃ y, innerV v = y := ⟨_, rfl⟩
              have HIV := Lib.hid hiv
              have hq := kind_inner (n := (i : Int)) (v := v) (by rw [← HAT.out]; exact HND.out p hpi)
              rw [hiv] at hq
              obtain ⟨q1, q2⟩ := hq
              clear r0 r1 r2 r3 r4 r5 r6 r7 tq1 hO5 b5 hb4 hmb4 hst4 hic hT4 hiv
              have hb6 := hb5
              have hm6 := hm5
              have hs6 := hs5
              have hO6 := HO5.out
              clear n1 n2 n3 n4 n5 n6 n7 hb5 hm5 hs5
              cases iv
              · have HD4 : Hid (dfs nds k' (Q.set p true) st = reachedV nds) := Lib.hid (by have := HD3.out; rw [HAT.out, HIV.out] at this; simpa using this)
                go_wp2
                go_roundg k'
                case measure => omega
                case rel => exact ⟨_, st, _, m, sc, rfl, by omega, hs6, hm6, hap, HSX2, HD4, by omega, hb6⟩
              · have hni := nodeV_inner (by rw [← HAT.out]; exact HND.out p hpi) HIV.out
                obtain ⟨L, hL⟩ := Int.eq_ofNat_of_zero_le (show 0 ≤ v.left by omega)
                obtain ⟨U, hU⟩ := Int.eq_ofNat_of_zero_le (show 0 ≤ v.right by omega)
                have hLn : L < i := by omega
                have hUn : U < i := by omega
                have HD4 : Hid (dfs nds k' (Q.set p true) (U :: L :: st) = reachedV nds) := Lib.hid (by have := HD3.out; rw [HAT.out, HIV.out, hL, hU] at this; simpa using this)
                have n6 : w5.cell? ⟨w4.heap.size, 6, none⟩ = some (.int .i64 v.left) := cell_of_block hO6 rfl
                have n7 : w5.cell? ⟨w4.heap.size, 7, none⟩ = some (.int .i64 v.right) := cell_of_block hO6 rfl
                rw [hL] at n6
                rw [hU] at n7
                have hol := lt_of_block hO6
                have b7 := (Below.refl w5.heap.size w5).alloc (Nat.le_refl _) (.cells #[.int .i64 (L : Int), .int .i64 (U : Int)] 3)
                have hs7 := hs6.below b7
                have hm7 := hm6.below b7
                have hn7 := heap_alloc_new w5 (.cells #[.int .i64 (L : Int), .int .i64 (U : Int)] 3)
                have hb7 := below_then hb6 hb6.size b7
                have HN7 := Lib.hid hn7
                have hz7 := hb7.size
                have HSX3 : Hid (∀ x ∈ U :: L :: st, x < i) := Lib.hid (fun x hx => by
                  rcases List.mem_cons.1 hx with rfl | hx
                  · exact hUn
                  · rcases List.mem_cons.1 hx with rfl | hx
                    · exact hLn
                    · exact HSX2.out x hx)
                have HMI := Lib.hid hni
                clear hni hL hU hn7 b7 hb6 hs6 hm6 hO6
                go_wp2_with (at_builtin; refine app_boxK wo.heap.size rfl _ _ _ _ (.int .i64 0) 1 8 rfl Tryz.underlying44 Tryz.info_int rfl (by omega) (some ⟨gs, 0, none⟩) m sc (stv st) w5.heap.size 2 2 _ _ HN7.out rfl rfl rfl (by intro u hu; simp at hu; rcases hu with rfl | rfl <;> rfl) hs7 hz7 (by omega) (by omega) ?_; rintro A' c' w8 hs8 hg8 hA8)
                have hb8 := below_grown hb7 hz7 hg8 (fun k hk => by simp [blockOf] at hk; omega)
                have hm8 := hm7.kept hg8 (.inr (fun e => hap e.symm))
                have hap8 : blockOf A' ≠ some wo.heap.size := by
                  rcases hA8 with e | ⟨k, e, hk⟩
                  · rw [e]; exact hap
                  · have hwz := (hm7.lt wo.heap.size rfl).2
                    rw [e]; intro e2; injection e2 with e2; omega
                rw [show stv st ++ (#[Value.int .i64 (L : Int), .int .i64 (U : Int)] : Array Value).toList = stv (U :: L :: st) from stv_push st L U] at hs8
                clear n6 n7 hs7 hm7 hb7 hg8 hA8
                go_roundg k'
                case measure => omega
                case rel => exact ⟨_, U :: L :: st, A', m + 2, c', rfl, by omega, hs8, hm8, hap8, HSX3, HD4, by simp; omega, hb8⟩
            · have HD3 := Lib.hid (show dfs nds k' Q st = reachedV nds by have := HD2.out; simpa using this)
              clear HD2 HDF s0
              go_wp2
              go_roundg k'
              case measure => omega
              case rel => exact ⟨Q, st, _, m, sc, rfl, by omega, hst1, hmb, hap, HSX2, HD3, by omega, hbq⟩

end Go.Proofs.YtekcpapkicmckaaGreatDoor
