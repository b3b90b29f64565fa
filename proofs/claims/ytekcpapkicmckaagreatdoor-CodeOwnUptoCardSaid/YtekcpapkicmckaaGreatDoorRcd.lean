/- The contract of thicketref19.code: a tree's operations. -/
import Derived.Test.YtekcpapkicmckaaGreatDoorRft
import Derived.Test.YtekcpapkicmckaaGreatDoorNdc
import Derived.StillTailTactics
import Derived.IntWalk
import Derived.Deep.RegionHeldLaw
import Derived.Deep.RegionHeld3
import Derived.Test.YtekcpapkicmckaaGreatDoorLvs
namespace Go.Proofs.YtekcpapkicmckaaGreatDoor
open Go.RowKit

theorem sizes_low {nds : List NdV} {la : Nat} {Z : List Nat} (hnd : Z.Nodup) {SF : List Int} (hSF : szL nds la Z (List.replicate nds.length 0) = SF) {N : Int} (hb : ∀ j ∈ Z, 1 ≤ SF.getD j 0 ∧ SF.getD j 0 ≤ N) (hN : 0 ≤ N) (i j : Nat) :
    0 ≤ (szL nds la (Z.drop i) (List.replicate nds.length 0)).getD j 0 ∧ (szL nds la (Z.drop i) (List.replicate nds.length 0)).getD j 0 ≤ N := by
  by_cases hj : j ∈ Z.drop i
  · have hk := szL_keep nds la (List.replicate nds.length 0) (Z.take i) (Z.drop i) (by rw [List.take_append_drop]; exact hnd) hj
    rw [List.take_append_drop, hSF] at hk
    rw [← hk]
    have := hb j (List.mem_of_mem_drop hj)
    omega
  · rw [szL_else _ _ _ _ _ hj]
    simp only [List.getD_eq_getElem?_getD, List.getElem?_replicate]
    split <;> simp <;> omega
theorem i64s_set (l : List Int) (i : Nat) (x : Int) : (i64s l).set i (.int .i64 x) = i64s (l.set i x) := by simp [i64s, List.map_set]

theorem cell_of_heap {W W' : World} {b : Nat} (h : W'.heap[b]? = W.heap[b]?) (o : Nat) : W'.cell? ⟨b, o, none⟩ = W.cell? ⟨b, o, none⟩ := by
  simp only [World.cell?, h]
/-- one node of the call's own -/
theorem node_one {w : World} {base : Nat} {B : Option Addr} {d : Nat} {v : NdV} (h : OwnNds w base B 1 d [v]) : ∃ (g : Nat) (H : Hd), B = some ⟨g, 0, none⟩ ∧ base ≤ g ∧ w.cell? ⟨g, 4, none⟩ = some (.slice H.1 H.2.1 H.2.2) ∧ CatOwn w base H v.cats := by
  obtain ⟨hs, e, hm, hc⟩ := h.hds
  obtain ⟨g, rfl, h1, h2⟩ := hm.some_of (by omega)
  obtain ⟨H, rfl⟩ : ∃ H, hs = [H] := by
    match hs, e with
    | [H], _ => exact ⟨H, rfl⟩
  have h4 := hm.cell 4 (by omega)
  exact ⟨g, H, rfl, h1, h4, hc 0 (by simp) (by simp)⟩

set_option maxRecDepth 100000 in
set_option maxHeartbeats 8000000 in
set_option linter.unusedSimpArgs false in
theorem rcode_any (out : Int) (A : Option Addr) (n c rt : Nat) (nds : List NdV) (w : World) (hp : NdsAt w A n c nds) (hR : RightT nds) (hrg : ∀ i, i < n → NdRng (ndAt nds i)) (ho : -9223372036854775808 ≤ out ∧ out ≤ 9223372036854775807) (hn : n ≤ 1000000000) (hrt : rt ≤ 1000000000000) :
    Calls Tryz.prog 38 #[.agg #[.int .i64 out, .slice A n c], .int .i64 (rt : Int)] w fun e w' => ∃ B m d, e = .returned (.slice B m d) ∧ OwnOps w' w.heap.size B m d (treeCode ⟨out, nds⟩ rt) ∧ Below w.heap.size w w' := by
  have B1 := (Below.refl w.heap.size w).alloc (Nat.le_refl _) (.cells #[.int .i64 out, .slice A n c] 65)
  have hT := heap_alloc_new w (.cells #[.int .i64 out, .slice A n c] 65)
  have HP := Lib.hid (hp.below B1)
  have hlen := hp.len
  have HLEN := Lib.hid hlen
  have hrep := treeOf_rep hR
  have hmany := Rep.many hR hrep
  have hnd : (treeOf nds).all.Nodup := Rep.nodup hR .here hrep
  obtain ⟨hem, hsg⟩ := ref_code hR out rt
  have hsz := treeOf_size hR
  have hla := (treeOf nds).last_at
  have hzp := (treeOf nds).all_pos
  have hlt := hrep.below
  have hrt0 := hrep.root
  have hor := Order_any out A n c nds _ (hp.below B1) hR (by omega)
  have hsl := hsg.le
  have hs0 := (treeOf nds).root_mem
  rw [← hrt0] at hs0
  generalize (treeOf nds).lastLeaf = la at hem hsg hla hsl
  generalize (treeOf nds).all = Z at hmany hnd hem hla hzp hlt hor hsl hs0
  obtain ⟨SF, hSF⟩ : ∃ SF, szL nds la Z (List.replicate nds.length 0) = SF := ⟨_, rfl⟩
  rw [hSF] at hem hsl
  have hsb : ∀ j ∈ Z, 1 ≤ SF.getD j 0 ∧ SF.getD j 0 ≤ 2000000000 := fun j hj => by have := hsl j hj; omega
  have HOR := Lib.hid hor
  have HEM := Lib.hid hem
  have HSF := Lib.hid hSF
  have HSB := Lib.hid hsb
  have HLA := Lib.hid hla
  have HLT := Lib.hid hlt
  have HND := Lib.hid hnd
  have HS0 := Lib.hid hs0
  have HRT := Lib.hid hR
  have HRG := Lib.hid hrg
  have HO := Lib.hid ho
  have hzn : Z.length ≤ n := by omega
  have hn0 : 0 < n := by omega
  have HMK := make_row (P := Tryz.prog) 44 3 (.int .i64 0) 8 Tryz.underlying44 Tryz.info_int rfl (by omega) n n (Nat.le_refl _) (by omega)
  clear hp hR hrg hlen hrep hmany hnd hem hsg hsz hla hlt hrt0 hor hsl hs0 hSF hsb ho
  go_enter Tryz.func38, Tryz.ntmps38
  go_upto_region 1 with (fail)
  generalize w.alloc (.cells #[.int .i64 out, .slice A n c] 65) = w1 at *
  have t0 : w1.cell? ⟨w.heap.size, 0, none⟩ = some (.int .i64 out) := cell_of_block hT rfl
  have t1 : w1.cell? ⟨w.heap.size, 1, none⟩ = some (.slice A n c) := cell_of_block hT rfl
  have HT1 := Lib.hid hT
  have HB1 := Lib.hid B1
  clear hT B1
  go_wp2_with fail
  refine HOR.out.mono ?_; rintro e w2 ⟨D, d, rfl, hd2, b2⟩
  obtain ⟨gd, rfl, -, hgd⟩ := hd2.mine.toK.some_of hzp
  have hT2 := (b2.block _ (lt_of_block HT1.out)).trans HT1.out
  have HB2 := Lib.hid (below_then HB1.out HB1.out.size b2)
  have HP2 := Lib.hid (HP.out.below b2)
  have HDC := Lib.hid hd2.ints
  have HT2 := Lib.hid hT2
  clear t0 t1 b2 hd2 HOR
  have t1 : w2.cell? ⟨w.heap.size, 1, none⟩ = some (.slice A n c) := cell_of_block hT2 rfl
  have t0 : w2.cell? ⟨w.heap.size, 0, none⟩ = some (.int .i64 out) := cell_of_block hT2 rfl
  clear hT2
  go_upto_region 3 with (fail)
  have b3 := (Below.refl w2.heap.size w2).alloc (Nat.le_refl _) (.cells (Array.replicate n (.int .i64 0)) 3)
  have hm3 : Mine 3 (w2.alloc (.cells (Array.replicate n (.int .i64 0)) 3)) w2.heap.size (some ⟨w2.heap.size, 0, none⟩) n n (i64s (szL nds la (Z.drop Z.length) (List.replicate nds.length 0))) := by
    have hm1 := Mine.made 3 w2 w2.heap.size (.int .i64 0) n n (Nat.le_refl _) (Nat.le_refl _) (by omega)
    rw [List.drop_length, show i64s (szL nds la [] (List.replicate nds.length 0)) = List.replicate n (.int .i64 0) by simp [i64s, szL, HLEN.out]]
    exact hm1
  generalize w2.alloc (.cells (Array.replicate n (.int .i64 0)) 3) = w3 at b3 hm3 ⊢
  have hlc : w3.cell? ⟨gd, Z.length - 1, none⟩ = some (.int .i64 (la : Int)) := by
    obtain ⟨b, o, e, hc⟩ := (HDC.out.below b3).cells hzp
    injection e with e
    injection e with e1 e2
    subst e1
    have h := hc (Z.length - 1) (by omega)
    rw [← e2, Nat.zero_add] at h
    rw [h]
    have hl := HLA.out
    rw [List.getD_eq_getElem?_getD, List.getElem?_eq_getElem (by omega)] at hl
    rw [List.getD_eq_getElem?_getD, List.getElem?_map, List.getElem?_eq_getElem (by omega)]
    simp only [Option.map_some, Option.getD_some] at hl ⊢
    rw [hl]
  obtain ⟨zl, hzl⟩ : ∃ zl, Z.length = zl + 1 := ⟨Z.length - 1, by omega⟩
  have HZL := Lib.hid hzl
  rw [hzl] at hzn hlc hm3 ⊢
  rw [Nat.add_sub_cancel] at hlc
  have z1 : (zl : Int) < ((zl + 1 : Nat) : Int) := by omega
  have z2 : (zl : Int) < (zl : Int) + 1 := by omega
  clear hzl hzp HMK t0 t1
  go_upto_region 5 with (fail)
  clear hlc z1 z2
  go_loopw [8] (fun ix wr => ∃ (k : Nat) (z : Int), k ≤ zl + 1 ∧ ix = .int .i64 z ∧ Hid (z = (zl : Int) - k) ∧ Mine 3 wr w2.heap.size (some ⟨w2.heap.size, 0, none⟩) n n (i64s (szL nds la (Z.drop (zl + 1 - k)) (List.replicate nds.length 0))) ∧ Below w2.heap.size w2 wr) (fun ix _ => (intOf ix + 1).toNat)
  case atStart => exact ⟨0, (zl : Int), Nat.zero_le _, rfl, Lib.hid (by omega), hm3, b3⟩
  case round =>
    clear hm3 b3
    obtain ⟨k, z, hk, rfl, HZ, hm, hbr⟩ := hrel
    by_cases hkt : k < zl + 1
    · obtain ⟨i, hi⟩ : ∃ i, i + k = zl := ⟨zl - k, by omega⟩
      obtain rfl : z = (i : Int) := by have := HZ.out; omega
      have hZl := HZL.out
      have hdr : Z.drop i = Z[i]'(by omega) :: Z.drop (i + 1) := List.drop_eq_getElem_cons (by omega)
      have hst : szL nds la (Z.drop i) (List.replicate nds.length 0) = szStep nds la (szL nds la (Z.drop (i + 1)) (List.replicate nds.length 0)) (Z[i]'(by omega)) := by rw [hdr]; rfl
      have hpm : Z[i]'(by omega) ∈ Z := List.getElem_mem _
      have hpi := HLT.out _ hpm
      obtain ⟨b9, o9, e9, hc9⟩ := (HDC.out.below hbr).cells (by omega)
      injection e9 with e9
      injection e9 with e91 e92
      subst e91
      have hoc := hc9 i (by omega)
      rw [← e92, Nat.zero_add, List.getD_eq_getElem?_getD, List.getElem?_map, List.getElem?_eq_getElem (by omega)] at hoc
      simp only [Option.map_some, Option.getD_some] at hoc
      generalize Z[i]'(by omega) = p at hst hpm hpi hoc
      have hlow := sizes_low HND.out HSF.out HSB.out (by omega) (i + 1)
      have hsl : (szL nds la (Z.drop (i + 1)) (List.replicate nds.length 0)).length = n := by rw [szL_length, List.length_replicate, HLEN.out]
      rw [show zl + 1 - k = i + 1 by omega] at hm
      have HZ2 := Lib.hid (show (i : Int) - 1 = (zl : Int) - ((k + 1 : Nat) : Int) by omega)
      have HDR := Lib.hid (show zl + 1 - (k + 1) = i by omega)
      have hil : (i : Int) < ((zl + 1 : Nat) : Int) := by omega
      have hil2 : (i : Int) < (zl : Int) + 1 := by omega
      have hin : i ≤ 1000000000 := by omega
      generalize szL nds la (Z.drop (i + 1)) (List.replicate nds.length 0) = S at hm hst hlow hsl
      have HST := Lib.hid hst
      have HLOW := Lib.hid hlow
      have HSL := Lib.hid hsl
      have hT4 := (hbr.block _ (lt_of_block HT2.out)).trans HT2.out
      have t1 : wr.cell? ⟨w.heap.size, 1, none⟩ = some (.slice A n c) := cell_of_block hT4 rfl
      have hp4 := HP2.out.below hbr
      have hlen := HLEN.out
      obtain ⟨b, o, rfl, hc⟩ := hp4.cells (by omega)
      obtain ⟨V1, V2, V3, hr, hic, hk1, hk2⟩ := hc p hpi
      have hat := ndAt_get (nds := nds) (i := p) hpi
      generalize nds[p]'hpi = v at hr hic hk1 hk2 hat
      have hnv : nodeV (n : Int) v = true := by rw [← hat, ← hlen]; exact HRT.out.node p hpi
      obtain ⟨q1, q2⟩ := kind_inner hnv
      have HAT := Lib.hid hat
      have HNV := Lib.hid hnv
      have r0 : _ = some _ := range_cell (o := o + p * 8) hr 0 rfl
      rw [Nat.add_zero] at r0
      have r1 := range_cell hr 1 rfl
      have r2 := range_cell hr 2 rfl
      have r3 := range_cell hr 3 rfl
      have r4 := range_cell hr 4 rfl
      have r5 := range_cell hr 5 rfl
      have r6 := range_cell hr 6 rfl
      have r7 := range_cell hr 7 rfl
      have hsf : ∀ (W : World) (a : Addr) (b : Nat), (store a (.float .f64 b)).run Tryz.prog W = stored Tryz.prog W a (.float .f64 b) .plain := fun W a b => run_store _ W a _ _ rfl
      have l0 : (p : Int) < (n : Int) := by omega
      have hpn : p < n := by omega
      clear hc hr hlen hat hp4 hnv hT4 hpi hic hc9 e92 hdr hst hlow hsl hZl hpm
      go_upto_region 10 with (fail)
      have b6 := (Below.refl wr.heap.size wr).alloc (Nat.le_refl _) (.cells (ndCells V1 V2 V3 v).toArray 72)
      have hO6 : (wr.alloc (.cells (ndCells V1 V2 V3 v).toArray 72)).heap[wr.heap.size]? = some (.cells (ndCells V1 V2 V3 v).toArray 72 (0, 0)) := heap_alloc_new wr _
      unfold ndCells at b6 hO6
      generalize (wr.alloc (.cells #[.int .u8 (v.kind : Int), .int .i64 v.value, .int .i64 v.feature, .float .f64 v.thr, .slice V1 V2 V3, .int .u8 (v.missing : Int), .int .i64 v.left, .int .i64 v.right] 72)) = w6 at b6 hO6 ⊢
      obtain ⟨n0, n1, n2, n3, n4, n5, n6, n7⟩ := nd_box (v := v) hO6
      have hb6 := below_then hbr hbr.size b6
      have hm6 := hm.below b6
      clear r0 r1 r2 r3 r4 r5 r6 r7 t1 b6 hbr hm n1 n2 n3 n4 n5 hoc
      obtain ⟨iv, hiv⟩ : ∃ y, innerV v = y := ⟨_, rfl⟩
      rw [hiv] at q1 q2
      have HIV := Lib.hid hiv
      have fz := hm6.free p
      have cz := hm6.cell p hpn
      cases iv
      · obtain ⟨y, hy⟩ : ∃ y, decide (p = la) = y := ⟨_, rfl⟩
        have y1 : ((p : Int) == (la : Int)) = y := by rw [← hy, Bool.eq_iff_iff]; simp; omega
        have y2 : (p == la) = y := by rw [← hy, Bool.eq_iff_iff]; simp
        have y3 : decide ((p : Int) = (la : Int)) = y := by rw [← hy, Bool.eq_iff_iff]; simp; omega
        have HSS := Lib.hid (show szStep nds la S p = S.set p (if y = true then 1 else 2) by
          unfold szStep
          rw [HAT.out, HIV.out, ← hy]
          simp)
        have HY := Lib.hid hy
        clear hiv hy hO6 n6 n7
        cases y
        · have y4 : decide (p = la) = false := HY.out
          have hm7 := hm6.stored p hpn (.int .i64 2)
          rw [i64s_set] at hm7
          have HM7 := Lib.hid (show Mine 3 (w6.setCell ⟨w2.heap.size, p, none⟩ (.int .i64 2)) w2.heap.size (some ⟨w2.heap.size, 0, none⟩) n n (i64s (szL nds la (Z.drop (zl + 1 - (k + 1))) (List.replicate nds.length 0))) by
            rw [HDR.out, HST.out, HSS.out]; exact hm7)
          have hb7 := hb6.setCell (p := ⟨w2.heap.size, p, none⟩) (Nat.le_refl _) (.int .i64 2)
          clear hm6 hm7 hb6
          go_wp2
          go_roundw
          case rel => exact ⟨k + 1, (i : Int) - 1, hkt, by go_num, HZ2, HM7.out, hb7⟩
          case measure => simp [intOf]
        · have y4 : decide (p = la) = true := HY.out
          have hm7 := hm6.stored p hpn (.int .i64 1)
          rw [i64s_set] at hm7
          have HM7 := Lib.hid (show Mine 3 (w6.setCell ⟨w2.heap.size, p, none⟩ (.int .i64 1)) w2.heap.size (some ⟨w2.heap.size, 0, none⟩) n n (i64s (szL nds la (Z.drop (zl + 1 - (k + 1))) (List.replicate nds.length 0))) by
            rw [HDR.out, HST.out, HSS.out]; exact hm7)
          have hb7 := hb6.setCell (p := ⟨w2.heap.size, p, none⟩) (Nat.le_refl _) (.int .i64 1)
          clear hm6 hm7 hb6
          go_wp2
          go_roundw
          case rel => exact ⟨k + 1, (i : Int) - 1, hkt, by go_num, HZ2, HM7.out, hb7⟩
          case measure => simp [intOf]
      · have hnv := nodeV_inner HNV.out hiv
        obtain ⟨le, hle⟩ : ∃ le : Nat, v.left = (le : Int) := ⟨v.left.toNat, by omega⟩
        obtain ⟨ri, hri⟩ : ∃ ri : Nat, v.right = (ri : Int) := ⟨v.right.toNat, by omega⟩
        have hln : le < n := by omega
        have hrn : ri < n := by omega
        rw [hle] at n6
        rw [hri] at n7
        have c1 := hm6.cell le hln
        rw [i64s_getD (by rw [HSL.out]; exact hln)] at c1
        have c2 := hm6.cell ri hrn
        rw [i64s_getD (by rw [HSL.out]; exact hrn)] at c2
        have hx1 := HLOW.out le
        have hx2 := HLOW.out ri
        have HSS := Lib.hid (show szStep nds la S p = S.set p (1 + S.getD le 0 + S.getD ri 0) by
          unfold szStep
          rw [HAT.out, HIV.out, hle, hri]
          simp)
        generalize S.getD le 0 = x1 at c1 hx1 HSS
        generalize S.getD ri 0 = x2 at c2 hx2 HSS
        have k1 : (le : Int) < (n : Int) := by omega
        have k2 : (ri : Int) < (n : Int) := by omega
        have k3 : IntKind.i64.wrap (1 + x1) = 1 + x1 := IntWalk.i64_in _ (by omega)
        have k4 : IntKind.i64.wrap (1 + x1 + x2) = 1 + x1 + x2 := IntWalk.i64_in _ (by omega)
        have hm7 := (hm6.below (Below.refl w6.heap.size w6).drew).stored p hpn (.int .i64 (1 + x1 + x2))
        rw [i64s_set] at hm7
        have HM7 := Lib.hid (show Mine 3 (w6.drew.setCell ⟨w2.heap.size, p, none⟩ (.int .i64 (1 + x1 + x2))) w2.heap.size (some ⟨w2.heap.size, 0, none⟩) n n (i64s (szL nds la (Z.drop (zl + 1 - (k + 1))) (List.replicate nds.length 0))) by
          rw [HDR.out, HST.out, HSS.out]; exact hm7)
        have hb7 := hb6.drew.setCell (p := ⟨w2.heap.size, p, none⟩) (Nat.le_refl _) (.int .i64 (1 + x1 + x2))
        clear hiv hnv hle hri hm6 hm7 hb6 hO6
        go_upto_region 11 with (fail)
        go_still_tail 15, (by kernel_rfl)
        change wpList _ _ _ _ _ w6.drew
        go_wp2
        go_roundw
        case rel => exact ⟨k + 1, (i : Int) - 1, hkt, by go_num, HZ2, HM7.out, hb7⟩
        case measure => simp [intOf]
    · obtain rfl : k = zl + 1 := by omega
      have hz0 := HZ.out
      have hzneg : z < 0 := by omega
      have i1 : decide (0 ≤ z) = false := by simp; omega
      have i2 : ¬ 0 ≤ z := by omega
      rw [Nat.sub_self, List.drop_zero, HSF.out] at hm
      have hwb := Lib.hid hbr
      rename World => wl
      clear HZ hz0 hkt hk
      go_upto_region 16 with (fail)
      have HSL := Lib.hid (show SF.length = n by rw [← HSF.out, szL_length, List.length_replicate, HLEN.out])
      have HLOW := Lib.hid (fun j => by have h := sizes_low HND.out HSF.out HSB.out (by omega) 0 j; rw [List.drop_zero, HSF.out] at h; exact h)
      have HM := Lib.hid hm
      clear hm i1 i2 hzneg
      go_loopw [11, 74] (fun ox ix wr => ∃ (k on : Nat) (OA : Option Addr) (oc : Nat), ox = .slice OA on oc ∧ ix = .int .i64 (k : Int) ∧ k ≤ zl + 1 ∧ OwnOps wr wl.heap.size OA on oc (emR nds out SF rt la (Z.take k) []) ∧ Below wl.heap.size wl wr) (fun _ ix _ => zl + 1 - (intOf ix).toNat)
      case atStart => exact ⟨0, 0, none, 0, rfl, rfl, Nat.zero_le _, OwnOps.nil _ _, Below.refl _ _⟩
      case round =>
        obtain ⟨k, on, OA, oc, rfl, rfl, hk, hown, hbq⟩ := hrel
        have hol := hown.len
        have hel := emR_length nds out SF rt la Z k (by rw [HZL.out]; exact hk)
        have hon : on ≤ 2000000000 := by omega
        by_cases hkt : k < zl + 1
        · have hZl := HZL.out
          have hem := emR_take nds out SF rt la Z k (by omega)
          have hpm : Z[k]'(by omega) ∈ Z := List.getElem_mem _
          have hpi := HLT.out _ hpm
          have hbw := below_then hbr hbr.size hbq
          obtain ⟨b9, o9, e9, hc9⟩ := (HDC.out.below hbw).cells (by omega)
          injection e9 with e9
          injection e9 with e91 e92
          subst e91
          have hoc := hc9 k (by omega)
          rw [← e92, Nat.zero_add, List.getD_eq_getElem?_getD, List.getElem?_map, List.getElem?_eq_getElem (by omega)] at hoc
          simp only [Option.map_some, Option.getD_some] at hoc
          rw [hol] at hem
          generalize Z[k]'(by omega) = p at hem hpm hpi hoc
          have HEMK := Lib.hid hem
          have hT4 := (hbw.block _ (lt_of_block HT2.out)).trans HT2.out
          have t1 : wr.cell? ⟨w.heap.size, 1, none⟩ = some (.slice A n c) := cell_of_block hT4 rfl
          have hp4 := HP2.out.below hbw
          have hlen := HLEN.out
          obtain ⟨b, o, rfl, hc⟩ := hp4.cells (by omega)
          obtain ⟨V1, V2, V3, hr, hic, hk1, hk2⟩ := hc p hpi
          have hat := ndAt_get (nds := nds) (i := p) hpi
          have hrgv := HRG.out p (by omega)
          rw [hat] at hrgv
          generalize nds[p]'hpi = v at hr hic hk1 hk2 hat hrgv
          have hnv : nodeV (n : Int) v = true := by rw [← hat, ← hlen]; exact HRT.out.node p hpi
          have HAT := Lib.hid hat
          have HNV := Lib.hid hnv
          have HRV := Lib.hid hrgv
          have r0 : _ = some _ := range_cell (o := o + p * 8) hr 0 rfl
          rw [Nat.add_zero] at r0
          have r1 := range_cell hr 1 rfl
          have r2 := range_cell hr 2 rfl
          have r3 := range_cell hr 3 rfl
          have r4 := range_cell hr 4 rfl
          have r5 := range_cell hr 5 rfl
          have r6 := range_cell hr 6 rfl
          have r7 := range_cell hr 7 rfl
          have hsf : ∀ (W : World) (a : Addr) (b : Nat), (store a (.float .f64 b)).run Tryz.prog W = stored Tryz.prog W a (.float .f64 b) .plain := fun W a b => run_store _ W a _ _ rfl
          have l0 : (p : Int) < (n : Int) := by omega
          have l1 : (k : Int) < ((zl + 1 : Nat) : Int) := by omega
          have l2 : (k : Int) < (zl : Int) + 1 := by omega
          have HR0 := Lib.hid hr
          have HIC := Lib.hid hic
          clear hc hr hlen hat hp4 hnv hT4 hpi hic hc9 e92 hem hZl hpm hol hel hrgv
          go_upto_region 22 with (fail)
          have b6 := (Below.refl wr.heap.size wr).alloc (Nat.le_refl _) (.cells (ndCells V1 V2 V3 v).toArray 72)
          have hO6 : (wr.alloc (.cells (ndCells V1 V2 V3 v).toArray 72)).heap[wr.heap.size]? = some (.cells (ndCells V1 V2 V3 v).toArray 72 (0, 0)) := heap_alloc_new wr _
          unfold ndCells at b6 hO6
          generalize (wr.alloc (.cells #[.int .u8 (v.kind : Int), .int .i64 v.value, .int .i64 v.feature, .float .f64 v.thr, .slice V1 V2 V3, .int .u8 (v.missing : Int), .int .i64 v.left, .int .i64 v.right] 72)) = w6 at b6 hO6 ⊢
          obtain ⟨n0, n1, n2, n3, n4, n5, n6, n7⟩ := nd_box (v := v) hO6
          have hb6 := below_then hbq hbq.size b6
          have hown6 := hown.below b6
          have hb6z := hb6.size
          have hT6 := ((below_then hbw hbw.size b6).block _ (lt_of_block HT2.out)).trans HT2.out
          have t0 : w6.cell? ⟨w.heap.size, 0, none⟩ = some (.int .i64 out) := cell_of_block hT6 rfl
          have t1 : w6.cell? ⟨w.heap.size, 1, none⟩ = some (.slice (some ⟨b, o, none⟩) n c) := cell_of_block hT6 rfl
          have hm6 := HM.out.below hb6
          have hr6 := Lib.hid (rangeAt_below HR0.out b6)
          have hic6 := Lib.hid (HIC.out.below b6)
          clear r0 r1 r2 r3 r4 r5 r6 r7 b6 hbq hbw hown hoc hT6 HR0 HIC
          obtain ⟨hs, hh⟩ := hown6.hds
          have HOWN := Lib.hid hown6
          have HHH := Lib.hid hh
          have HLTA := Lib.hid (fun q hq => (hh.2.1.lt q hq).1)
          have HB6 := Lib.hid hb6
          have HO6 := Lib.hid hO6
          have hmkd := hh.2.1
          have hkind : v.kind = 1 ∨ v.kind = 2 ∨ v.kind = 3 := by
            have h := HNV.out
            unfold nodeV at h
            by_cases h1 : v.kind = 1
            · exact .inl h1
            · rw [if_neg h1] at h
              simp only [Bool.and_eq_true, decide_eq_true_eq] at h
              exact .inr h.1.1
          clear hown6 hh hO6 hb6
          rcases hkind with hkv | hkv | hkv
          · have hkc : (v.kind : Int) = 1 := by omega
            rw [hkc] at n0
            have hiv : innerV v = false := by unfold innerV; simp [hkv]
            have hvr := HRV.out.value
            have hor := HO.out
            obtain ⟨y, hy⟩ : ∃ y, decide (p = la) = y := ⟨_, rfl⟩
            have HY := Lib.hid hy
            have HOF := Lib.hid (show opsFor nds out SF rt la p on = addOp out v.value :: (if y = true then [] else [jumpTo ((rt : Int) + SF.getD 0 0)]) by
              unfold opsFor
              rw [HAT.out, hiv, ← hy]
              simp)
            have hn8 := heap_alloc_new w6 (.cells #[.int .u8 3, .int .i64 0, .float .f64 0, .slice none 0 0, .int .u8 0, .int .i64 out, .int .i64 v.value, .int .i64 0] 75)
            have b8 := (Below.refl w6.heap.size w6).alloc (Nat.le_refl _) (.cells #[.int .u8 3, .int .i64 0, .float .f64 0, .slice none 0 0, .int .u8 0, .int .i64 out, .int .i64 v.value, .int .i64 0] 75)
            have hmk8 := hmkd.below b8
            have HN8 := Lib.hid hn8
            have HB8 := Lib.hid b8
            have hb8z := Nat.le_trans hb6z b8.size
            clear hn8 b8 hmkd hkc hiv hkv hy n2 n3 n4 n5 n6 n7 hvr hor
            go_upto_region 20 with (at_builtin; refine app_boxK wl.heap.size rfl _ _ _ _ _ 8 80 rfl Tryz.underlying28 Tryz.info_op rfl (by omega) OA on oc (flatOps hs (emR nds out SF rt la (Z.take k) [])) w6.heap.size 1 1 _ _ HN8.out rfl rfl rfl (opRow_one (none, 0, 0) (addOp out v.value)) hmk8 hb8z (by omega) (by omega) ?_; rintro A' c' w9 hm9 hg9 hA9)
            have hown9 := OwnOps.snoc (v := addOp out v.value) (hd := (none, 0, 0)) HHH.out HOWN.out.rng HB8.out (.inl ⟨rfl, rfl, rfl⟩) ⟨by simp [addOp], by simp [addOp], by simp [addOp], by simp [addOp], HO.out, HRV.out.value, by simp [addOp]⟩ (by simp [addOp]) (fun k hk => by simp [hdBlock] at hk) hm9 hg9 hA9
            have hb9 := below_grown (below_then HB6.out HB6.out.size HB8.out) hb8z hg9 HLTA.out
            clear hm9 hg9 hA9 hmk8 t0 t1 n0 n1 HN8 HB8
            have hm9 := HM.out.below hb9
            have c0 := hm9.cell 0 (by omega)
            rw [i64s_getD (by rw [HSL.out]; omega)] at c0
            have hs0 := HLOW.out 0
            generalize SF.getD 0 0 = s0 at c0 hs0 HOF
            have y1 : ((p : Int) != (la : Int)) = !y := by rw [← HY.out, Bool.eq_iff_iff]; simp; omega
            have y2 : (p != la) = !y := by rw [← HY.out, Bool.eq_iff_iff]; simp
            have y3 : decide ((p : Int) = (la : Int)) = y := by rw [← HY.out, Bool.eq_iff_iff]; simp; omega
            have y4 : decide (p = la) = y := HY.out
            cases y
            · have k1 : (0 : Int) < (n : Int) := by omega
              have k2 : IntKind.i64.wrap ((rt : Int) + s0) = (rt : Int) + s0 := IntWalk.i64_in _ (by omega)
              obtain ⟨hs2, hh2⟩ := hown9.hds
              have hb9z := hb9.size
              have hn10 := heap_alloc_new w9 (.cells #[.int .u8 4, .int .i64 0, .float .f64 0, .slice none 0 0, .int .u8 0, .int .i64 0, .int .i64 0, .int .i64 ((rt : Int) + s0)] 75)
              have b10 := (Below.refl w9.heap.size w9).alloc (Nat.le_refl _) (.cells #[.int .u8 4, .int .i64 0, .float .f64 0, .slice none 0 0, .int .u8 0, .int .i64 0, .int .i64 0, .int .i64 ((rt : Int) + s0)] 75)
              have hmk10 := hh2.2.1.below b10
              have HN10 := Lib.hid hn10
              have HB10 := Lib.hid b10
              have HH2 := Lib.hid hh2
              have HOWN9 := Lib.hid hown9
              have hb10z := Nat.le_trans hb9z b10.size
              have HLT2 := Lib.hid (fun q hq => (hh2.2.1.lt q hq).1)
              have HB9 := Lib.hid hb9
              clear hn10 b10 hh2 hown9 hm9 hb9
              go_wp2_with (at_builtin; refine app_boxK wl.heap.size rfl _ _ _ _ _ 8 80 rfl Tryz.underlying28 Tryz.info_op rfl (by omega) A' (on + 1) c' (flatOps hs2 (emR nds out SF rt la (Z.take k) [] ++ [addOp out v.value])) w9.heap.size 1 1 _ _ HN10.out rfl rfl rfl (opRow_one (none, 0, 0) (jumpTo ((rt : Int) + s0))) hmk10 hb10z (by omega) (by omega) ?_; rintro A2 c2 w11 hm11 hg11 hA11)
              have hown11 := OwnOps.snoc (v := jumpTo ((rt : Int) + s0)) (hd := (none, 0, 0)) HH2.out HOWN9.out.rng HB10.out (.inl ⟨rfl, rfl, rfl⟩) ⟨by simp [jumpTo], by simp [jumpTo], by simp [jumpTo], by simp [jumpTo], by simp [jumpTo], by simp [jumpTo], by simp only [jumpTo]; omega⟩ (by simp [jumpTo]) (fun k hk => by simp [hdBlock] at hk) hm11 hg11 hA11
              have hb11 := below_grown (below_then HB9.out HB9.out.size HB10.out) hb10z hg11 HLT2.out
              have hfin : emR nds out SF rt la (Z.take k) [] ++ [addOp out v.value] ++ [jumpTo ((rt : Int) + s0)] = emR nds out SF rt la (Z.take (k + 1)) [] := by rw [HEMK.out, HOF.out]; simp
              rw [hfin] at hown11
              clear hm11 hg11 hA11 hmk10 c0 hfin
              go_wp2
              go_roundw
              case rel => exact ⟨k + 1, on + 1 + 1, A2, c2, rfl, by go_num, hkt, hown11, hb11⟩
              case measure => simp [intOf]; omega
            · have hfin : emR nds out SF rt la (Z.take k) [] ++ [addOp out v.value] = emR nds out SF rt la (Z.take (k + 1)) [] := by rw [HEMK.out, HOF.out]; simp
              rw [hfin] at hown9
              clear hfin hm9 c0
              go_wp2
              go_roundw
              case rel => exact ⟨k + 1, on + 1, A', c', rfl, by go_num, hkt, hown9, hb9⟩
              case measure => simp [intOf]; omega
          · have hkc : (v.kind : Int) = 2 := by omega
            rw [hkc] at n0
            have hiv : innerV v = true := by unfold innerV; simp [hkv]
            have hnv := nodeV_inner HNV.out hiv
            have hfe := inner_feature HNV.out hiv
            have hthr := HRV.out.thr
            obtain ⟨le, hle⟩ : ∃ le : Nat, v.left = (le : Int) := ⟨v.left.toNat, by omega⟩
            have hln : le < n := by omega
            rw [hle] at n6
            have c1 := hm6.cell le hln
            rw [i64s_getD (by rw [HSL.out]; exact hln)] at c1
            have hx1 := HLOW.out le
            have hcats : v.cats = [] := by
              have h := HNV.out
              unfold nodeV at h
              rw [if_neg (by omega), if_pos hkv] at h
              simp only [Bool.and_eq_true, decide_eq_true_eq] at h
              exact h.2.2
            obtain ⟨dst, hdst⟩ : ∃ dst : Int, (rt : Int) + (on : Int) + 1 + SF.getD le 0 = dst := ⟨_, rfl⟩
            have HOF := Lib.hid (show opsFor nds out SF rt la p on = [⟨1, v.feature, v.thr, [], v.missing, 0, 0, dst⟩] by
              unfold opsFor
              rw [HAT.out, hiv, if_pos rfl, hle, Int.toNat_natCast, ← hdst]
              unfold testOp
              rw [hkv, hcats]
              simp)
            have HM2 := Lib.hid hk2
            generalize SF.getD le 0 = x1 at c1 hx1 hdst
            have k1 : (le : Int) < (n : Int) := by omega
            have k3 : IntKind.i64.wrap ((rt : Int) + (on : Int)) = (rt : Int) + (on : Int) := IntWalk.i64_in _ (by omega)
            have k4 : IntKind.i64.wrap ((rt : Int) + (on : Int) + 1) = (rt : Int) + (on : Int) + 1 := IntWalk.i64_in _ (by omega)
            have k5 : IntKind.i64.wrap ((rt : Int) + (on : Int) + 1 + x1) = dst := by rw [IntWalk.i64_in _ (by omega)]; exact hdst
            have hdr : -9223372036854775808 ≤ dst ∧ dst ≤ 9223372036854775807 := by omega
            have HRNG := Lib.hid (show OpRng ⟨1, v.feature, v.thr, [], v.missing, 0, 0, dst⟩ from ⟨by simp, by simp only; omega, hthr, hk2, by simp, by simp, hdr⟩)
            have hn8 := heap_alloc_new w6.drew (.cells #[.int .u8 1, .int .i64 v.feature, .float .f64 v.thr, .slice none 0 0, .int .u8 (v.missing : Int), .int .i64 0, .int .i64 0, .int .i64 dst] 75)
            have b8 : Below w6.heap.size w6 (w6.drew.alloc (.cells #[.int .u8 1, .int .i64 v.feature, .float .f64 v.thr, .slice none 0 0, .int .u8 (v.missing : Int), .int .i64 0, .int .i64 0, .int .i64 dst] 75)) := (Below.refl w6.heap.size w6).drew.alloc (Nat.le_refl _) _
            have hmk8 := hmkd.below b8
            have HN8 := Lib.hid hn8
            have HB8 := Lib.hid b8
            have hb8z := Nat.le_trans hb6z b8.size
            have hdd : Below w6.heap.size w6 w6.drew := (Below.refl _ _).drew
            have hty := fun r hr => hmkd.ty (k := r) hr
            have hsz2 := (hm6.lt w2.heap.size rfl).2
            have KSy := Lib.hid (fun (W : World) (hW : Below w6.heap.size w6 W) => show W.cell? ⟨wr.heap.size, 2, none⟩ = some (.int .i64 v.feature) ∧ W.cell? ⟨wr.heap.size, 3, none⟩ = some (.float .f64 v.thr) ∧ W.cell? ⟨wr.heap.size, 5, none⟩ = some (.int .u8 (v.missing : Int)) ∧ W.cell? ⟨wr.heap.size, 6, none⟩ = some (.int .i64 (le : Int)) ∧ W.cell? ⟨w2.heap.size, le, none⟩ = some (.int .i64 x1) from ⟨(hW.cell (World.block_lt_of_cell? _ _ n2)).trans n2, (hW.cell (World.block_lt_of_cell? _ _ n3)).trans n3, (hW.cell (World.block_lt_of_cell? _ _ n5)).trans n5, (hW.cell (World.block_lt_of_cell? _ _ n6)).trans n6, (hW.cell (World.block_lt_of_cell? _ _ c1)).trans c1⟩)
            have ne1 : some wr.heap.size ≠ blockOf OA := fun e => by
              obtain ⟨c2, h2⟩ := hty _ e.symm
              exact ty_ne HO6.out h2 (by decide) rfl
            have hlm := (HM.out.lt w2.heap.size rfl).2
            have ne3 : some w2.heap.size ≠ blockOf OA := fun e => by have := HLTA.out _ e.symm; omega
            have HKY := Lib.hid (fun (W8 W9 : World) (h : Below w6.heap.size w6 W8) (g : W8.grownBy W9 (blockOf OA)) => show W9.cell? ⟨wr.heap.size, 2, none⟩ = some (.int .i64 v.feature) ∧ W9.cell? ⟨wr.heap.size, 3, none⟩ = some (.float .f64 v.thr) ∧ W9.cell? ⟨wr.heap.size, 5, none⟩ = some (.int .u8 (v.missing : Int)) ∧ W9.cell? ⟨wr.heap.size, 6, none⟩ = some (.int .i64 (le : Int)) ∧ W9.cell? ⟨w2.heap.size, le, none⟩ = some (.int .i64 x1) by
              have z1 : wr.heap.size < W8.heap.size := Nat.lt_of_lt_of_le (lt_of_block HO6.out) h.size
              have z3 : w2.heap.size < W8.heap.size := by have := h.size; omega
              obtain ⟨s1, s2, s3, s4, s5⟩ := KSy.out _ h
              exact ⟨(cell_of_heap (g.block _ z1 ne1) _).trans s1, (cell_of_heap (g.block _ z1 ne1) _).trans s2, (cell_of_heap (g.block _ z1 ne1) _).trans s3, (cell_of_heap (g.block _ z1 ne1) _).trans s4, (cell_of_heap (g.block _ z3 ne3) _).trans s5⟩)
            have HMKY := Lib.hid (fun (W : World) (hW : Below w6.heap.size w6 W) => hmkd.below hW)
            clear hn8 b8 hmk8 hmkd hkc hiv hnv hfe hthr hle hcats hdst hkv hm6 n1 n4 n7 t0 t1 hdr hty ne1 ne3 hsz2 hlm hx1
            go_upto_region 23 with (fail)
            refine wp_region_noPanic ?_
            refine wp_region_held_drew (S := (fun W => W.cell? ⟨wr.heap.size, 2, none⟩ = some (.int .i64 v.feature) ∧ W.cell? ⟨wr.heap.size, 3, none⟩ = some (.float .f64 v.thr) ∧ W.cell? ⟨wr.heap.size, 5, none⟩ = some (.int .u8 (v.missing : Int)) ∧ W.cell? ⟨wr.heap.size, 6, none⟩ = some (.int .i64 (le : Int)) ∧ W.cell? ⟨w2.heap.size, le, none⟩ = some (.int .i64 x1))) (by kernel_rfl) ?_ (fun hHeld => ?_)
            · try dsimp only
              exact KSy.out _ hdd
            refine wpAnyH_take (i := 0) (oi := ⟨some 107, _, _, _, _, _⟩) (v := ?v0_101) rfl (by kernel_rfl) (by kernel_rfl) (by kernel_rfl) (fun _ _ _ h => h) (Or.inl ⟨by rfl, ?hy0_101⟩) (by assumption) ?rest0_101
            case hy0_101 => intro w hSw; (try dsimp only at hSw); go_simp; try with_reducible rfl
            try simp only [Act.put, List.setIfInBounds_toArray, List.set_cons_zero, List.set_cons_succ]
            refine wpAnyH_take (i := 1) (oi := ⟨some 108, _, _, _, _, _⟩) (v := ?v1_102) rfl (by kernel_rfl) (by kernel_rfl) (by kernel_rfl) (fun _ _ _ h => h) (Or.inl ⟨by rfl, ?hy1_102⟩) (by assumption) ?rest1_102
            case hy1_102 => intro w hSw; (try dsimp only at hSw); go_simp; try with_reducible rfl
            try simp only [Act.put, List.setIfInBounds_toArray, List.set_cons_zero, List.set_cons_succ]
            refine wpAnyH_take (i := 2) (oi := ⟨some 109, _, _, _, _, _⟩) (v := ?v2_103) rfl (by kernel_rfl) (by kernel_rfl) (by kernel_rfl) (fun _ _ _ h => h) (Or.inl ⟨by rfl, ?hy2_103⟩) (by assumption) ?rest2_103
            case hy2_103 => intro w hSw; (try dsimp only at hSw); go_simp; try with_reducible rfl
            try simp only [Act.put, List.setIfInBounds_toArray, List.set_cons_zero, List.set_cons_succ]
            refine wpAnyH_take (i := 3) (oi := ⟨some 110, _, _, _, _, _⟩) (v := ?v3_104) rfl (by kernel_rfl) (by kernel_rfl) (by kernel_rfl) (fun _ _ _ h => h) (Or.inl ⟨by rfl, ?hy3_104⟩) (by assumption) ?rest3_104
            case hy3_104 => intro w hSw; (try dsimp only at hSw); go_simp; try with_reducible rfl
            try simp only [Act.put, List.setIfInBounds_toArray, List.set_cons_zero, List.set_cons_succ]
            refine wpAnyH_take (i := 4) (oi := ⟨some 111, _, _, _, _, _⟩) (v := ?v4_105) rfl (by kernel_rfl) (by kernel_rfl) (by kernel_rfl) (fun _ _ _ h => h) (Or.inl ⟨by rfl, ?hy4_105⟩) (by assumption) ?rest4_105
            case hy4_105 => intro w hSw; (try dsimp only at hSw); go_simp; try with_reducible rfl
            try simp only [Act.put, List.setIfInBounds_toArray, List.set_cons_zero, List.set_cons_succ]
            refine wpAnyH_take (i := 5) (oi := ⟨some 112, _, _, _, _, _⟩) (v := ?v5_106) rfl (by kernel_rfl) (by kernel_rfl) (by kernel_rfl) (fun _ _ _ h => h) (Or.inl ⟨by rfl, ?hy5_106⟩) (by assumption) ?rest5_106
            case hy5_106 => intro w hSw; (try dsimp only at hSw); go_simp; try with_reducible rfl
            try simp only [Act.put, List.setIfInBounds_toArray, List.set_cons_zero, List.set_cons_succ]
            refine wpAnyH_take (i := 6) (oi := ⟨some 113, _, _, _, _, _⟩) (v := ?v6_107) rfl (by kernel_rfl) (by kernel_rfl) (by kernel_rfl) (fun _ _ _ h => h) (Or.inl ⟨by rfl, ?hy6_107⟩) (by assumption) ?rest6_107
            case hy6_107 => intro w hSw; (try dsimp only at hSw); go_simp; try with_reducible rfl
            try simp only [Act.put, List.setIfInBounds_toArray, List.set_cons_zero, List.set_cons_succ]
            refine wpAnyH_take (i := 7) (oi := ⟨some 114, _, _, _, _, _⟩) (v := ?v7_108) rfl (by kernel_rfl) (by kernel_rfl) (by kernel_rfl) (fun _ _ _ h => h) (Or.inl ⟨by rfl, ?hy7_108⟩) (by assumption) ?rest7_108
            case hy7_108 => intro w hSw; (try dsimp only at hSw); go_simp; try with_reducible rfl
            try simp only [Act.put, List.setIfInBounds_toArray, List.set_cons_zero, List.set_cons_succ]
            refine wpAnyH_take (i := 8) (oi := ⟨some 115, _, _, _, _, _⟩) (v := ?v8_109) rfl (by kernel_rfl) (by kernel_rfl) (by kernel_rfl) (fun _ _ _ h => h) (Or.inl ⟨by rfl, ?hy8_109⟩) (by assumption) ?rest8_109
            case hy8_109 => intro w hSw; (try dsimp only at hSw); go_simp; try with_reducible rfl
            try simp only [Act.put, List.setIfInBounds_toArray, List.set_cons_zero, List.set_cons_succ]
            refine wpAnyH_take (i := 9) (oi := ⟨some 116, _, _, _, _, _⟩) (v := ?v9_110) rfl (by kernel_rfl) (by kernel_rfl) (by kernel_rfl) (fun _ _ _ h => h) (Or.inl ⟨by rfl, ?hy9_110⟩) (by assumption) ?rest9_110
            case hy9_110 => intro w hSw; (try dsimp only at hSw); go_simp; try with_reducible rfl
            try simp only [Act.put, List.setIfInBounds_toArray, List.set_cons_zero, List.set_cons_succ]
            refine wpAnyH_take (i := 10) (oi := ⟨some 117, _, _, _, _, _⟩) (v := ?v10_111) rfl (by kernel_rfl) (by kernel_rfl) (by kernel_rfl) (fun _ _ _ h => h) (Or.inl ⟨by rfl, ?hy10_111⟩) (by assumption) ?rest10_111
            case hy10_111 => intro w hSw; (try dsimp only at hSw); go_simp; try with_reducible rfl
            try simp only [Act.put, List.setIfInBounds_toArray, List.set_cons_zero, List.set_cons_succ]
            refine wpAnyH_take (i := 11) (oi := ⟨some 118, _, _, _, _, _⟩) (v := ?v11_112) rfl (by kernel_rfl) (by kernel_rfl) (by kernel_rfl) (fun _ _ _ h => h) (Or.inl ⟨by rfl, ?hy11_112⟩) (by assumption) ?rest11_112
            case hy11_112 => intro w hSw; (try dsimp only at hSw); go_simp; try with_reducible rfl
            try simp only [Act.put, List.setIfInBounds_toArray, List.set_cons_zero, List.set_cons_succ]
            refine wpAnyH_take (i := 12) (oi := ⟨some 119, _, _, _, _, _⟩) (v := ?v12_113) rfl (by kernel_rfl) (by kernel_rfl) (by kernel_rfl) (fun _ _ _ h => h) (Or.inl ⟨by rfl, ?hy12_113⟩) (by assumption) ?rest12_113
            case hy12_113 => intro w hSw; (try dsimp only at hSw); go_simp; try with_reducible rfl
            try simp only [Act.put, List.setIfInBounds_toArray, List.set_cons_zero, List.set_cons_succ]
            refine wpAnyH_take (i := 13) (oi := ⟨some 120, _, _, _, _, _⟩) (v := ?v13_114) rfl (by kernel_rfl) (by kernel_rfl) (by kernel_rfl) (fun _ _ _ h => h) (Or.inl ⟨by rfl, ?hy13_114⟩) (by assumption) ?rest13_114
            case hy13_114 => intro w hSw; (try dsimp only at hSw); go_simp; try with_reducible rfl
            try simp only [Act.put, List.setIfInBounds_toArray, List.set_cons_zero, List.set_cons_succ]
            refine wpAnyH_take (i := 14) (oi := ⟨some 121, _, _, _, _, _⟩) (v := ?v14_115) rfl (by kernel_rfl) (by kernel_rfl) (by kernel_rfl) (fun _ _ _ h => h) (Or.inl ⟨by rfl, ?hy14_115⟩) (by assumption) ?rest14_115
            case hy14_115 => intro w hSw; (try dsimp only at hSw); go_simp; try with_reducible rfl
            try simp only [Act.put, List.setIfInBounds_toArray, List.set_cons_zero, List.set_cons_succ]
            refine wpAnyH_take (i := 15) (oi := ⟨some 122, _, _, _, _, _⟩) (v := ?v15_116) rfl (by kernel_rfl) (by kernel_rfl) (by kernel_rfl) (fun _ _ _ h => h) (Or.inl ⟨by rfl, ?hy15_116⟩) (by assumption) ?rest15_116
            case hy15_116 => intro w hSw; (try dsimp only at hSw); go_simp; try with_reducible rfl
            try simp only [Act.put, List.setIfInBounds_toArray, List.set_cons_zero, List.set_cons_succ]
            refine wpAnyH_take (i := 16) (oi := ⟨some 123, _, _, _, _, _⟩) (v := ?v16_117) rfl (by kernel_rfl) (by kernel_rfl) (by kernel_rfl) (fun _ _ _ h => h) (Or.inl ⟨by rfl, ?hy16_117⟩) (by assumption) ?rest16_117
            case hy16_117 => intro w hSw; (try dsimp only at hSw); go_simp; try with_reducible rfl
            try simp only [Act.put, List.setIfInBounds_toArray, List.set_cons_zero, List.set_cons_succ]
            refine wpAnyH_take (i := 17) (oi := ⟨some 124, _, _, _, _, _⟩) (v := ?v17_118) rfl (by kernel_rfl) (by kernel_rfl) (by kernel_rfl) (fun _ _ _ h => h) (Or.inl ⟨by rfl, ?hy17_118⟩) (by assumption) ?rest17_118
            case hy17_118 => intro w hSw; (try dsimp only at hSw); go_simp; try with_reducible rfl
            try simp only [Act.put, List.setIfInBounds_toArray, List.set_cons_zero, List.set_cons_succ]
            refine wpAnyH_take (i := 18) (oi := ⟨some 125, _, _, _, _, _⟩) (v := ?v18_119) rfl (by kernel_rfl) (by kernel_rfl) (by kernel_rfl) (fun _ _ _ h => h) (Or.inl ⟨by rfl, ?hy18_119⟩) (by assumption) ?rest18_119
            case hy18_119 => intro w hSw; (try dsimp only at hSw); go_simp; try with_reducible rfl
            try simp only [Act.put, List.setIfInBounds_toArray, List.set_cons_zero, List.set_cons_succ]
            refine wpAnyH_ready (rs := [19]) (by kernel_rfl) (by simp) ?_
            refine AllReadyH.cons rfl (fun K hK => ?_) AllReadyH.nil
            go_simp
            refine hK.out _ _ ?_ (fun hHeld => ?_)
            · try dsimp only
              exact KSy.out _ (chainA (w3 := w6) hdd _)
            clear hK K
            try simp only [Act.put, List.setIfInBounds_toArray, List.set_cons_zero, List.set_cons_succ]
            refine wpAnyH_ready (rs := [20]) (by kernel_rfl) (by simp) ?_
            refine AllReadyH.cons rfl (fun K hK => ?_) AllReadyH.nil
            refine step_appK wl.heap.size (by rfl) _ _ _ _ _ 8 80 (by rfl) Tryz.underlying28 Tryz.info_op rfl (by omega) OA on oc (flatOps hs (emR nds out SF rt la (Z.take k) [])) _ 1 1 _ 75 (heap_alloc_new _ _) rfl (by rfl) (by rfl) (by intro u hu; simp at hu; rcases hu with rfl | rfl | rfl | rfl | rfl | rfl | rfl | rfl <;> rfl) (HMKY.out _ (chainA (w3 := w6) hdd _)) (Nat.le_trans hb6z (Below.size (w := w6) (chainA (w3 := w6) hdd _))) (by omega) (by omega) ?_
            intro A' c' w9 hm9 hg9 hA9
            have hQ8 := HKY.out _ _ (chainA (w3 := w6) hdd _) hg9
            refine hK.out _ _ ?_ (fun hHeld => ?_)
            · try dsimp only
              exact hQ8
            clear hK K
            try simp only [Act.put, List.setIfInBounds_toArray, List.set_cons_zero, List.set_cons_succ]
            refine wpAnyH_take (i := 21) (oi := ⟨some 11, _, _, _, _, _⟩) (v := ?v21_120) rfl (by kernel_rfl) (by kernel_rfl) (by kernel_rfl) (fun _ _ _ h => h) (Or.inl ⟨by rfl, ?hy21_120⟩) (by assumption) ?rest21_120
            case hy21_120 => intro w hSw; (try dsimp only at hSw); go_simp; try with_reducible rfl
            try simp only [Act.put, List.setIfInBounds_toArray, List.set_cons_zero, List.set_cons_succ]
            refine wpAnyH_done (by kernel_rfl) ?_ _
            refine NoPanic.normal ?_
            have hown9 := OwnOps.snoc (v := ⟨1, v.feature, v.thr, [], v.missing, 0, 0, dst⟩) (hd := (none, 0, 0)) HHH.out HOWN.out.rng HB8.out (.inl ⟨rfl, rfl, rfl⟩) HRNG.out (by simp) (fun k hk => by simp [hdBlock] at hk) hm9 hg9 hA9
            have hb9 := below_grown (below_then HB6.out HB6.out.size HB8.out) hb8z hg9 HLTA.out
            have hfin : emR nds out SF rt la (Z.take k) [] ++ [⟨1, v.feature, v.thr, [], v.missing, 0, 0, dst⟩] = emR nds out SF rt la (Z.take (k + 1)) [] := by rw [HEMK.out, HOF.out]
            rw [hfin] at hown9
            clear hm9 hg9 hA9 hQ8 c1 hfin n0 n2 n3 n5 n6
            go_wp2
            go_roundw
            case rel => exact ⟨k + 1, on + 1, A', c', rfl, by go_num, hkt, hown9, hb9⟩
            case measure => simp [intOf]; omega
          · have hkc : (v.kind : Int) = 3 := by omega
            rw [hkc] at n0
            have hiv : innerV v = true := by unfold innerV; simp [hkv]
            have hnv := nodeV_inner HNV.out hiv
            have hfe := inner_feature HNV.out hiv
            have hcl := HRV.out.cats
            obtain ⟨le, hle⟩ : ∃ le : Nat, v.left = (le : Int) := ⟨v.left.toNat, by omega⟩
            have hln : le < n := by omega
            rw [hle] at n6
            have c1 := hm6.cell le hln
            rw [i64s_getD (by rw [HSL.out]; exact hln)] at c1
            have hx1 := HLOW.out le
            have hth : v.thr = 0 := by
              have h := HNV.out
              unfold nodeV at h
              rw [if_neg (by omega), if_neg (by omega)] at h
              simp only [Bool.and_eq_true, decide_eq_true_eq] at h
              exact h.2.1
            obtain ⟨dst, hdst⟩ : ∃ dst : Int, (rt : Int) + (on : Int) + 1 + SF.getD le 0 = dst := ⟨_, rfl⟩
            have HOF := Lib.hid (show opsFor nds out SF rt la p on = [⟨2, v.feature, 0, v.cats, v.missing, 0, 0, dst⟩] by
              unfold opsFor
              rw [HAT.out, hiv, if_pos rfl, hle, Int.toNat_natCast, ← hdst]
              unfold testOp
              rw [hkv, hth]
              simp)
            generalize SF.getD le 0 = x1 at c1 hx1 hdst
            have k1 : (le : Int) < (n : Int) := by omega
            have k3 : IntKind.i64.wrap ((rt : Int) + (on : Int)) = (rt : Int) + (on : Int) := IntWalk.i64_in _ (by omega)
            have k4 : IntKind.i64.wrap ((rt : Int) + (on : Int) + 1) = (rt : Int) + (on : Int) + 1 := IntWalk.i64_in _ (by omega)
            have k5 : IntKind.i64.wrap ((rt : Int) + (on : Int) + 1 + x1) = dst := by rw [IntWalk.i64_in _ (by omega)]; exact hdst
            have hdr : -9223372036854775808 ≤ dst ∧ dst ≤ 9223372036854775807 := by omega
            have hnc := HP2.out.cap
            have k6 : IntKind.i64.wrap ((p : Int) + 1) = (p : Int) + 1 := IntWalk.i64_in _ (by omega)
            have k7 : (0 : Int) ≤ (p : Int) + 1 := by omega
            have k8 : ((p : Int) + 1).toNat = p + 1 := by omega
            have k9 : (p : Int) + 1 ≤ (c : Int) := by omega
            have k10 : (p : Int) ≤ (p : Int) + 1 := by omega
            have k11 : ¬ c = p := by omega
            have hsub : NdsAt w6 (some ⟨b, o + p * 8, none⟩) 1 (c - p) [v] := ⟨rfl, by omega, by omega, fun _ => ⟨b, o + p * 8, rfl, fun j hj => by
              obtain rfl : j = 0 := by simpa using hj
              exact ⟨V1, V2, V3, hr6.out, hic6.out, hk1, hk2⟩⟩⟩
            have HNC := Lib.hid (fun (W : World) (hW : Below w6.heap.size w6 W) => Nodes_any (some ⟨b, o + p * 8, none⟩) 1 (c - p) [v] W (hsub.below hW) (by omega) (by intro u hu; obtain rfl := List.mem_singleton.1 hu; exact hcl))
            have HRNG := Lib.hid (show OpRng ⟨2, v.feature, 0, v.cats, v.missing, 0, 0, dst⟩ from ⟨by simp, by simp only; omega, by simp, hk2, by simp, by simp, hdr⟩)
            have HCR := Lib.hid hic6.out.rng
            have hty := fun r hr => hmkd.ty (k := r) hr
            have hsz2 := (hm6.lt w2.heap.size rfl).2
            have KSx := Lib.hid (fun (W : World) (hW : Below w6.heap.size w6 W) => show W.cell? ⟨wr.heap.size, 2, none⟩ = some (.int .i64 v.feature) ∧ W.cell? ⟨wr.heap.size, 5, none⟩ = some (.int .u8 (v.missing : Int)) ∧ W.cell? ⟨wr.heap.size, 6, none⟩ = some (.int .i64 (le : Int)) ∧ W.cell? ⟨w.heap.size, 1, none⟩ = some (.slice (some ⟨b, o, none⟩) n c) ∧ W.cell? ⟨w2.heap.size, le, none⟩ = some (.int .i64 x1) from
              ⟨(hW.cell (World.block_lt_of_cell? _ _ n2)).trans n2, (hW.cell (World.block_lt_of_cell? _ _ n5)).trans n5, (hW.cell (World.block_lt_of_cell? _ _ n6)).trans n6, (hW.cell (World.block_lt_of_cell? _ _ t1)).trans t1, (hW.cell (World.block_lt_of_cell? _ _ c1)).trans c1⟩)
            have hww2 := HB2.out.size
            have hw2l := hbr.size
            have hwlt := lt_of_block HT2.out
            have ne1 : some wr.heap.size ≠ blockOf OA := fun e => by
              obtain ⟨c2, h2⟩ := hty _ e.symm
              exact ty_ne HO6.out h2 (by decide) rfl
            have ne2 : some w.heap.size ≠ blockOf OA := fun e => by have := HLTA.out _ e.symm; omega
            have hlm := (HM.out.lt w2.heap.size rfl).2
            have ne3 : some w2.heap.size ≠ blockOf OA := fun e => by have := HLTA.out _ e.symm; omega
            have HKP := Lib.hid (fun (W8 W9 : World) (h : Below w6.heap.size w6 W8) (g : W8.grownBy W9 (blockOf OA)) => show W9.cell? ⟨wr.heap.size, 2, none⟩ = some (.int .i64 v.feature) ∧ W9.cell? ⟨wr.heap.size, 5, none⟩ = some (.int .u8 (v.missing : Int)) ∧ W9.cell? ⟨wr.heap.size, 6, none⟩ = some (.int .i64 (le : Int)) ∧ W9.cell? ⟨w.heap.size, 1, none⟩ = some (.slice (some ⟨b, o, none⟩) n c) ∧ W9.cell? ⟨w2.heap.size, le, none⟩ = some (.int .i64 x1) by
              have z1 : wr.heap.size < W8.heap.size := Nat.lt_of_lt_of_le (lt_of_block HO6.out) h.size
              have z2 : w.heap.size < W8.heap.size := by have := h.size; omega
              have z3 : w2.heap.size < W8.heap.size := by have := h.size; omega
              obtain ⟨s1, s2, s3, s4, s5⟩ := KSx.out _ h
              exact ⟨(cell_of_heap (g.block _ z1 ne1) _).trans s1, (cell_of_heap (g.block _ z1 ne1) _).trans s2, (cell_of_heap (g.block _ z1 ne1) _).trans s3, (cell_of_heap (g.block _ z2 ne2) _).trans s4, (cell_of_heap (g.block _ z3 ne3) _).trans s5⟩)
            have HMK2 := Lib.hid (fun (W : World) (hW : Below w6.heap.size w6 W) => hmkd.below hW)
            clear hmkd hkc hiv hnv hfe hle hth hdst hkv hm6 n1 n3 n4 n7 t0 hdr hsub hcl hty ne1 ne2 ne3 hnc hsz2 hww2 hw2l hwlt hlm hx1
            go_upto_region 25 with (fail)
            have hdr : Below w6.heap.size w6 w6.drew := (Below.refl _ _).drew
            refine wp_region_noPanic ?_
            refine wp_region_held_drew (S := (fun W => W.cell? ⟨wr.heap.size, 2, none⟩ = some (.int .i64 v.feature) ∧ W.cell? ⟨wr.heap.size, 5, none⟩ = some (.int .u8 (v.missing : Int)) ∧ W.cell? ⟨wr.heap.size, 6, none⟩ = some (.int .i64 (le : Int)) ∧ W.cell? ⟨w.heap.size, 1, none⟩ = some (.slice (some ⟨b, o, none⟩) n c) ∧ W.cell? ⟨w2.heap.size, le, none⟩ = some (.int .i64 x1))) (by kernel_rfl) ?_ (fun hHeld => ?_)
            · try dsimp only
              exact KSx.out _ hdr
            refine wpAnyH_take (i := 0) (oi := ⟨some 132, _, _, _, _, _⟩) (v := ?v0_1) rfl (by kernel_rfl) (by kernel_rfl) (by kernel_rfl) (fun _ _ _ h => h) (Or.inl ⟨by rfl, ?hy0_1⟩) (by assumption) ?rest0_1
            case hy0_1 => intro w hSw; (try dsimp only at hSw); go_simp; try with_reducible rfl
            try simp only [Act.put, List.setIfInBounds_toArray, List.set_cons_zero, List.set_cons_succ]
            refine wpAnyH_take (i := 1) (oi := ⟨some 133, _, _, _, _, _⟩) (v := ?v1_2) rfl (by kernel_rfl) (by kernel_rfl) (by kernel_rfl) (fun _ _ _ h => h) (Or.inl ⟨by rfl, ?hy1_2⟩) (by assumption) ?rest1_2
            case hy1_2 => intro w hSw; (try dsimp only at hSw); go_simp; try with_reducible rfl
            try simp only [Act.put, List.setIfInBounds_toArray, List.set_cons_zero, List.set_cons_succ]
            refine wpAnyH_take (i := 2) (oi := ⟨some 134, _, _, _, _, _⟩) (v := ?v2_3) rfl (by kernel_rfl) (by kernel_rfl) (by kernel_rfl) (fun _ _ _ h => h) (Or.inl ⟨by rfl, ?hy2_3⟩) (by assumption) ?rest2_3
            case hy2_3 => intro w hSw; (try dsimp only at hSw); go_simp; try with_reducible rfl
            try simp only [Act.put, List.setIfInBounds_toArray, List.set_cons_zero, List.set_cons_succ]
            refine wpAnyH_take (i := 3) (oi := ⟨some 135, _, _, _, _, _⟩) (v := ?v3_4) rfl (by kernel_rfl) (by kernel_rfl) (by kernel_rfl) (fun _ _ _ h => h) (Or.inl ⟨by rfl, ?hy3_4⟩) (by assumption) ?rest3_4
            case hy3_4 => intro w hSw; (try dsimp only at hSw); go_simp; try with_reducible rfl
            try simp only [Act.put, List.setIfInBounds_toArray, List.set_cons_zero, List.set_cons_succ]
            refine wpAnyH_take (i := 4) (oi := ⟨some 136, _, _, _, _, _⟩) (v := ?v4_5) rfl (by kernel_rfl) (by kernel_rfl) (by kernel_rfl) (fun _ _ _ h => h) (Or.inl ⟨by rfl, ?hy4_5⟩) (by assumption) ?rest4_5
            case hy4_5 => intro w hSw; (try dsimp only at hSw); go_simp; try with_reducible rfl
            try simp only [Act.put, List.setIfInBounds_toArray, List.set_cons_zero, List.set_cons_succ]
            refine wpAnyH_take (i := 5) (oi := ⟨some 137, _, _, _, _, _⟩) (v := ?v5_6) rfl (by kernel_rfl) (by kernel_rfl) (by kernel_rfl) (fun _ _ _ h => h) (Or.inl ⟨by rfl, ?hy5_6⟩) (by assumption) ?rest5_6
            case hy5_6 => intro w hSw; (try dsimp only at hSw); go_simp; try with_reducible rfl
            try simp only [Act.put, List.setIfInBounds_toArray, List.set_cons_zero, List.set_cons_succ]
            refine wpAnyH_take (i := 6) (oi := ⟨some 138, _, _, _, _, _⟩) (v := ?v6_7) rfl (by kernel_rfl) (by kernel_rfl) (by kernel_rfl) (fun _ _ _ h => h) (Or.inl ⟨by rfl, ?hy6_7⟩) (by assumption) ?rest6_7
            case hy6_7 => intro w hSw; (try dsimp only at hSw); go_simp; try with_reducible rfl
            try simp only [Act.put, List.setIfInBounds_toArray, List.set_cons_zero, List.set_cons_succ]
            refine wpAnyH_take (i := 7) (oi := ⟨some 139, _, _, _, _, _⟩) (v := ?v7_8) rfl (by kernel_rfl) (by kernel_rfl) (by kernel_rfl) (fun _ _ _ h => h) (Or.inl ⟨by rfl, ?hy7_8⟩) (by assumption) ?rest7_8
            case hy7_8 => intro w hSw; (try dsimp only at hSw); go_simp; try with_reducible rfl
            try simp only [Act.put, List.setIfInBounds_toArray, List.set_cons_zero, List.set_cons_succ]
            refine wpAnyH_take (i := 8) (oi := ⟨some 140, _, _, _, _, _⟩) (v := ?v8_9) rfl (by kernel_rfl) (by kernel_rfl) (by kernel_rfl) (fun _ _ _ h => h) (Or.inl ⟨by rfl, ?hy8_9⟩) (by assumption) ?rest8_9
            case hy8_9 => intro w hSw; (try dsimp only at hSw); go_simp; try with_reducible rfl
            try simp only [Act.put, List.setIfInBounds_toArray, List.set_cons_zero, List.set_cons_succ]
            refine wpAnyH_take (i := 13) (oi := ⟨some 145, _, _, _, _, _⟩) (v := ?v13_10) rfl (by kernel_rfl) (by kernel_rfl) (by kernel_rfl) (fun _ _ _ h => h) (Or.inl ⟨by rfl, ?hy13_10⟩) (by assumption) ?rest13_10
            case hy13_10 => intro w hSw; (try dsimp only at hSw); go_simp; try with_reducible rfl
            try simp only [Act.put, List.setIfInBounds_toArray, List.set_cons_zero, List.set_cons_succ]
            refine wpAnyH_take (i := 14) (oi := ⟨some 146, _, _, _, _, _⟩) (v := ?v14_11) rfl (by kernel_rfl) (by kernel_rfl) (by kernel_rfl) (fun _ _ _ h => h) (Or.inl ⟨by rfl, ?hy14_11⟩) (by assumption) ?rest14_11
            case hy14_11 => intro w hSw; (try dsimp only at hSw); go_simp; try with_reducible rfl
            try simp only [Act.put, List.setIfInBounds_toArray, List.set_cons_zero, List.set_cons_succ]
            refine wpAnyH_take (i := 15) (oi := ⟨some 147, _, _, _, _, _⟩) (v := ?v15_12) rfl (by kernel_rfl) (by kernel_rfl) (by kernel_rfl) (fun _ _ _ h => h) (Or.inl ⟨by rfl, ?hy15_12⟩) (by assumption) ?rest15_12
            case hy15_12 => intro w hSw; (try dsimp only at hSw); go_simp; try with_reducible rfl
            try simp only [Act.put, List.setIfInBounds_toArray, List.set_cons_zero, List.set_cons_succ]
            refine wpAnyH_take (i := 16) (oi := ⟨some 148, _, _, _, _, _⟩) (v := ?v16_13) rfl (by kernel_rfl) (by kernel_rfl) (by kernel_rfl) (fun _ _ _ h => h) (Or.inl ⟨by rfl, ?hy16_13⟩) (by assumption) ?rest16_13
            case hy16_13 => intro w hSw; (try dsimp only at hSw); go_simp; try with_reducible rfl
            try simp only [Act.put, List.setIfInBounds_toArray, List.set_cons_zero, List.set_cons_succ]
            refine wpAnyH_take (i := 17) (oi := ⟨some 149, _, _, _, _, _⟩) (v := ?v17_14) rfl (by kernel_rfl) (by kernel_rfl) (by kernel_rfl) (fun _ _ _ h => h) (Or.inl ⟨by rfl, ?hy17_14⟩) (by assumption) ?rest17_14
            case hy17_14 => intro w hSw; (try dsimp only at hSw); go_simp; try with_reducible rfl
            try simp only [Act.put, List.setIfInBounds_toArray, List.set_cons_zero, List.set_cons_succ]
            refine wpAnyH_take (i := 18) (oi := ⟨some 150, _, _, _, _, _⟩) (v := ?v18_15) rfl (by kernel_rfl) (by kernel_rfl) (by kernel_rfl) (fun _ _ _ h => h) (Or.inl ⟨by rfl, ?hy18_15⟩) (by assumption) ?rest18_15
            case hy18_15 => intro w hSw; (try dsimp only at hSw); go_simp; try with_reducible rfl
            try simp only [Act.put, List.setIfInBounds_toArray, List.set_cons_zero, List.set_cons_succ]
            refine wpAnyH_take (i := 19) (oi := ⟨some 151, _, _, _, _, _⟩) (v := ?v19_16) rfl (by kernel_rfl) (by kernel_rfl) (by kernel_rfl) (fun _ _ _ h => h) (Or.inl ⟨by rfl, ?hy19_16⟩) (by assumption) ?rest19_16
            case hy19_16 => intro w hSw; (try dsimp only at hSw); go_simp; try with_reducible rfl
            try simp only [Act.put, List.setIfInBounds_toArray, List.set_cons_zero, List.set_cons_succ]
            refine wpAnyH_take (i := 20) (oi := ⟨some 152, _, _, _, _, _⟩) (v := ?v20_17) rfl (by kernel_rfl) (by kernel_rfl) (by kernel_rfl) (fun _ _ _ h => h) (Or.inl ⟨by rfl, ?hy20_17⟩) (by assumption) ?rest20_17
            case hy20_17 => intro w hSw; (try dsimp only at hSw); go_simp; try with_reducible rfl
            try simp only [Act.put, List.setIfInBounds_toArray, List.set_cons_zero, List.set_cons_succ]
            refine wpAnyH_take (i := 21) (oi := ⟨some 153, _, _, _, _, _⟩) (v := ?v21_18) rfl (by kernel_rfl) (by kernel_rfl) (by kernel_rfl) (fun _ _ _ h => h) (Or.inl ⟨by rfl, ?hy21_18⟩) (by assumption) ?rest21_18
            case hy21_18 => intro w hSw; (try dsimp only at hSw); go_simp; try with_reducible rfl
            try simp only [Act.put, List.setIfInBounds_toArray, List.set_cons_zero, List.set_cons_succ]
            refine wpAnyH_take (i := 22) (oi := ⟨some 154, _, _, _, _, _⟩) (v := ?v22_19) rfl (by kernel_rfl) (by kernel_rfl) (by kernel_rfl) (fun _ _ _ h => h) (Or.inl ⟨by rfl, ?hy22_19⟩) (by assumption) ?rest22_19
            case hy22_19 => intro w hSw; (try dsimp only at hSw); go_simp; try with_reducible rfl
            try simp only [Act.put, List.setIfInBounds_toArray, List.set_cons_zero, List.set_cons_succ]
            refine wpAnyH_take (i := 23) (oi := ⟨some 155, _, _, _, _, _⟩) (v := ?v23_20) rfl (by kernel_rfl) (by kernel_rfl) (by kernel_rfl) (fun _ _ _ h => h) (Or.inl ⟨by rfl, ?hy23_20⟩) (by assumption) ?rest23_20
            case hy23_20 => intro w hSw; (try dsimp only at hSw); go_simp; try with_reducible rfl
            try simp only [Act.put, List.setIfInBounds_toArray, List.set_cons_zero, List.set_cons_succ]
            refine wpAnyH_take (i := 24) (oi := ⟨some 156, _, _, _, _, _⟩) (v := ?v24_21) rfl (by kernel_rfl) (by kernel_rfl) (by kernel_rfl) (fun _ _ _ h => h) (Or.inl ⟨by rfl, ?hy24_21⟩) (by assumption) ?rest24_21
            case hy24_21 => intro w hSw; (try dsimp only at hSw); go_simp; try with_reducible rfl
            try simp only [Act.put, List.setIfInBounds_toArray, List.set_cons_zero, List.set_cons_succ]
            refine wpAnyH_take (i := 25) (oi := ⟨some 157, _, _, _, _, _⟩) (v := ?v25_22) rfl (by kernel_rfl) (by kernel_rfl) (by kernel_rfl) (fun _ _ _ h => h) (Or.inl ⟨by rfl, ?hy25_22⟩) (by assumption) ?rest25_22
            case hy25_22 => intro w hSw; (try dsimp only at hSw); go_simp; try with_reducible rfl
            try simp only [Act.put, List.setIfInBounds_toArray, List.set_cons_zero, List.set_cons_succ]
            refine wpAnyH_ready (rs := [9]) (by kernel_rfl) (by simp) ?_
            refine AllReadyH.cons rfl (fun K hK => ?_) AllReadyH.nil
            go_simp
            refine (HNC.out _ hdr).mono ?_
            rintro e w7 ⟨B7, d7, rfl, hn7, bS⟩
            obtain ⟨g7, H7, rfl, hg7, hn4, hcat7⟩ := node_one hn7
            have bS' := chainB (w3 := w6) hdr bS
            go_simp
            refine hK.out _ _ ?_ (fun hHeld => ?_)
            · try dsimp only
              exact KSx.out _ bS'
            clear hK K
            try simp only [Act.put, List.setIfInBounds_toArray, List.set_cons_zero, List.set_cons_succ]
            refine wpAnyH_take (i := 10) (oi := ⟨some 142, _, _, _, _, _⟩) (v := ?v10_23) rfl (by kernel_rfl) (by kernel_rfl) (by kernel_rfl) (fun _ _ _ h => h) (Or.inl ⟨by rfl, ?hy10_23⟩) (by assumption) ?rest10_23
            case hy10_23 => intro w hSw; (try dsimp only at hSw); go_simp; try with_reducible rfl
            try simp only [Act.put, List.setIfInBounds_toArray, List.set_cons_zero, List.set_cons_succ]
            refine wpAnyH_take (i := 11) (oi := ⟨some 143, _, _, _, _, _⟩) (v := ?v11_24) rfl (by kernel_rfl) (by kernel_rfl) (by kernel_rfl) (fun _ _ _ h => h) (Or.inl ⟨by rfl, ?hy11_24⟩) (by assumption) ?rest11_24
            case hy11_24 => intro w hSw; (try dsimp only at hSw); go_simp; try with_reducible rfl
            try simp only [Act.put, List.setIfInBounds_toArray, List.set_cons_zero, List.set_cons_succ]
            refine wpAnyH_ready (rs := [12]) (by kernel_rfl) (by simp) ?_
            refine AllReadyH.cons rfl (fun K hK => ?_) AllReadyH.nil
            go_simp
            refine hK.out _ _ ?_ (fun hHeld => ?_)
            · try dsimp only
              exact KSx.out _ bS'
            clear hK K
            try simp only [Act.put, List.setIfInBounds_toArray, List.set_cons_zero, List.set_cons_succ]
            refine wpAnyH_take (i := 26) (oi := ⟨some 158, _, _, _, _, _⟩) (v := ?v26_25) rfl (by kernel_rfl) (by kernel_rfl) (by kernel_rfl) (fun _ _ _ h => h) (Or.inl ⟨by rfl, ?hy26_25⟩) (by assumption) ?rest26_25
            case hy26_25 => intro w hSw; (try dsimp only at hSw); go_simp; try with_reducible rfl
            try simp only [Act.put, List.setIfInBounds_toArray, List.set_cons_zero, List.set_cons_succ]
            refine wpAnyH_ready (rs := [27]) (by kernel_rfl) (by simp) ?_
            refine AllReadyH.cons rfl (fun K hK => ?_) AllReadyH.nil
            go_simp
            refine hK.out _ _ ?_ (fun hHeld => ?_)
            · try dsimp only
              exact KSx.out _ (chainA bS' _)
            clear hK K
            try simp only [Act.put, List.setIfInBounds_toArray, List.set_cons_zero, List.set_cons_succ]
            refine wpAnyH_ready (rs := [28]) (by kernel_rfl) (by simp) ?_
            refine AllReadyH.cons rfl (fun K hK => ?_) AllReadyH.nil
            refine step_appK wl.heap.size (by rfl) _ _ _ _ _ 8 80 (by rfl) Tryz.underlying28 Tryz.info_op rfl (by omega) OA on oc (flatOps hs (emR nds out SF rt la (Z.take k) [])) _ 1 1 _ 75 (heap_alloc_new _ _) rfl (by rfl) (by rfl) (by intro u hu; simp at hu; rcases hu with rfl | rfl | rfl | rfl | rfl | rfl | rfl | rfl <;> rfl) (HMK2.out _ (chainA bS' _)) (Nat.le_trans hb6z (Below.size (w := w6) (chainA bS' _))) (by omega) (by omega) ?_
            intro A' c' w9 hm9 hg9 hA9
            have hQ8 := HKP.out _ _ (chainA (w3 := w6) bS' _) hg9
            refine hK.out _ _ ?_ (fun hHeld => ?_)
            · try dsimp only
              exact hQ8
            clear hK K
            try simp only [Act.put, List.setIfInBounds_toArray, List.set_cons_zero, List.set_cons_succ]
            refine wpAnyH_take (i := 29) (oi := ⟨some 11, _, _, _, _, _⟩) (v := ?v29_26) rfl (by kernel_rfl) (by kernel_rfl) (by kernel_rfl) (fun _ _ _ h => h) (Or.inl ⟨by rfl, ?hy29_26⟩) (by assumption) ?rest29_26
            case hy29_26 => intro w hSw; (try dsimp only at hSw); go_simp; try with_reducible rfl
            try simp only [Act.put, List.setIfInBounds_toArray, List.set_cons_zero, List.set_cons_succ]
            refine wpAnyH_done (by kernel_rfl) ?_ _
            refine NoPanic.normal ?_
            all_goals
              have b8 := chainA (w3 := w6) bS' (.cells #[.int .u8 2, .int .i64 v.feature, .float .f64 0, .slice H7.1 H7.2.1 H7.2.2, .int .u8 (v.missing : Int), .int .i64 0, .int .i64 0, .int .i64 dst] 75)
              have hcat8 := (hcat7.mono hb6z).below ((Below.refl w7.heap.size w7).alloc (Nat.le_refl _) (.cells #[.int .u8 2, .int .i64 v.feature, .float .f64 0, .slice H7.1 H7.2.1 H7.2.2, .int .u8 (v.missing : Int), .int .i64 0, .int .i64 0, .int .i64 dst] 75))
              have hown9 := OwnOps.snoc (v := ⟨2, v.feature, 0, v.cats, v.missing, 0, 0, dst⟩) (hd := H7) HHH.out HOWN.out.rng b8 hcat8 HRNG.out HCR.out (fun q hq => (hcat7.lt q hq).1) hm9 hg9 hA9
              have hb9 := below_grown (below_then HB6.out HB6.out.size b8) (Nat.le_trans hb6z b8.size) hg9 HLTA.out
              have hfin : emR nds out SF rt la (Z.take k) [] ++ [⟨2, v.feature, 0, v.cats, v.missing, 0, 0, dst⟩] = emR nds out SF rt la (Z.take (k + 1)) [] := by rw [HEMK.out, HOF.out]
              rw [hfin] at hown9
              clear hm9 hg9 hA9 b8 hcat8 hcat7 hn7 hn4 hQ8 bS bS' hfin hdr n0 n2 n5 n6 t1 c1
              go_wp2
              go_roundw
              case rel => exact ⟨k + 1, on + 1, A', c', rfl, by go_num, hkt, hown9, hb9⟩
              case measure => simp [intOf]; omega
        · obtain rfl : k = zl + 1 := by omega
          have i1 : ¬ ((zl + 1 : Nat) : Int) < ((zl + 1 : Nat) : Int) := by omega
          rw [List.take_of_length_le (by rw [HZL.out]; exact Nat.le_refl _), HEM.out] at hown
          have HOWN := Lib.hid (hown.mono (Nat.le_trans HB2.out.size hbr.size))
          have HBF := Lib.hid (below_then HB2.out HB2.out.size (below_then hbr hbr.size hbq))
          clear hown hbq hol hel
          go_wp2
          go_ret
          exact ⟨OA, on, oc, rfl, HOWN.out, HBF.out⟩

end Go.Proofs.YtekcpapkicmckaaGreatDoor
