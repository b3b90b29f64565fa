/- trees.Way: the plain law of what it says. -/
import Derived.Test.YtekcpapkicmckaaGreatDoorShq
import Derived.Test.YtekcpapkicmckaaGreatDoorRnn
import Derived.StillTailTactics
namespace Go.Proofs.YtekcpapkicmckaaGreatDoor
open Go.RowKit

/-- does an inner node want more numbers than a vector has? -/
def wantsV (m : Nat) (v : NdV) : Bool := innerV v && decide ((m : Int) ≤ v.feature)
def bigF (m : Nat) : List NdV → Bool
  | [] => false
  | v :: l => if wantsV m v then true else bigF m l
theorem bigF_drop (m : Nat) (nds : List NdV) (i : Nat) (hi : i < nds.length) : bigF m (nds.drop i) = if wantsV m nds[i] then true else bigF m (nds.drop (i + 1)) := by
  rw [List.drop_eq_getElem_cons hi]; rfl
theorem bigF_no {m : Nat} : ∀ {nds : List NdV}, bigF m nds = false → ∀ v ∈ nds, innerV v = true → v.feature < (m : Int)
  | [], _, v, hv, _ => by simp at hv
  | u :: l, h, v, hv, hi => by
    unfold bigF at h
    by_cases hu : wantsV m u = true
    · rw [if_pos hu] at h; cases h
    · rw [if_neg hu] at h
      rcases List.mem_cons.1 hv with rfl | hv
      · unfold wantsV at hu
        rw [hi] at hu
        simpa using hu
      · exact bigF_no h v hv hi

theorem nodeSide_side {v : NdV} (h : innerV v = true) (x : Nat) : nodeSide v x = sideV (decide (v.kind = 3)) v.thr v.cats v.missing x := by
  have hk : v.kind = 2 ∨ v.kind = 3 := by unfold innerV at h; simpa using h
  unfold nodeSide
  rcases hk with hk | hk
  · rw [if_pos hk, decide_eq_false (by omega)]; rfl
  · rw [if_neg (by omega), if_pos hk, decide_eq_true hk]; rfl
theorem feature_low {n : Int} {v : NdV} (h : nodeV n v = true) (hi : innerV v = true) : 0 ≤ v.feature := by
  have hk : v.kind = 2 ∨ v.kind = 3 := by unfold innerV at hi; simpa using hi
  unfold nodeV at h
  rw [if_neg (by omega)] at h
  simp only [Bool.and_eq_true, decide_eq_true_eq] at h
  omega
/-- trees.Way's errno -/
def wayK (nds : List NdV) (m : Nat) : Int := if (shapeV nds).1 ≠ 0 then (shapeV nds).1 else if bigF m nds then 72 else 0
def WayPost (nds : List NdV) (xs : List Nat) (w : World) (e : Ending) (w' : World) : Prop :=
  ∃ SA sn sc l, e = .returned (.tuple #[.slice SA sn sc, .int .i64 (wayK nds xs.length)]) ∧ OwnInts 3 w' w.heap.size SA sn sc l ∧ Below w.heap.size w w' ∧ (wayK nds xs.length = 0 → ∃ l0, l = l0 ++ [((leafV nds xs (treeOf nds) : Nat) : Int)])

theorem rightT_ok {nds : List NdV} {L : Int} (h : shapeV nds = (0, L)) : RightT nds := by
  refine rightT_of ?_
  unfold shapeV at h ⊢
  split at h
  · simp at h
  · next h0 =>
    rw [if_neg h0]
    revert h
    cases splitF nds.length 0 nds <;> cases badF (belowT nds nds.length) (reachedV nds) nds.length 0 <;> simp [shapeEnd]
theorem wayK_shape {nds : List NdV} {K L : Int} (m : Nat) (h : shapeV nds = (K, L)) (hk : K ≠ 0) : wayK nds m = K := by
  unfold wayK
  rw [h, if_pos hk]
theorem wayK_big {nds : List NdV} {L : Int} {m : Nat} (h : shapeV nds = (0, L)) (hb : bigF m nds = true) : wayK nds m = 72 := by
  unfold wayK
  rw [h, if_neg (by simp), if_pos hb]
theorem wayK_ok {nds : List NdV} {L : Int} {m : Nat} (h : shapeV nds = (0, L)) (hb : bigF m nds = false) : wayK nds m = 0 := by
  unfold wayK
  rw [h, if_neg (by simp), hb]
  rfl

set_option maxRecDepth 100000 in
set_option maxHeartbeats 4000000 in
theorem Way_any (out : Int) (A X : Option Addr) (n c xn xc : Nat) (nds : List NdV) (xs : List Nat) (w : World) (hp : NdsAt w A n c nds) (hx : Sl w X xn xc (fls xs)) (hn : n ≤ 1000000000000) :
    Calls Tryz.prog 54 #[.agg #[.int .i64 out, .slice A n c], .slice X xn xc] w (WayPost nds xs w) := by
  have B1 := (Below.refl w.heap.size w).alloc (Nat.le_refl _) (.cells #[.int .i64 out, .slice A n c] 65)
  have hT := heap_alloc_new w (.cells #[.int .i64 out, .slice A n c] 65)
  have hp1 := hp.below B1
  have hx1 := hx.below B1
  have HXL := Lib.hid (show xs.length = xn by have := hx.len; rwa [fls_length] at this)
  have HXB := Lib.hid hx.big
  have HLEN := Lib.hid hp.len
  obtain ⟨K, L, hK⟩ : ∃ K L, shapeV nds = (K, L) := ⟨_, _, rfl⟩
  have HK := Lib.hid hK
  clear hp hx
  go_enter Tryz.func54, Tryz.ntmps54
  go_upto_region 1 with (fail)
  generalize w.alloc (.cells #[.int .i64 out, .slice A n c] 65) = w1 at *
  have t0 : w1.cell? ⟨w.heap.size, 0, none⟩ = some (.int .i64 out) := cell_of_block hT rfl
  have t1 : w1.cell? ⟨w.heap.size, 1, none⟩ = some (.slice A n c) := cell_of_block hT rfl
  have hS := Shape_any out A n c nds w1 hp1 hn
  rw [hK] at hS
  have HS := Lib.hid hS
  unfold shpOf at HS
  clear hS hK
  go_wp2_with fail
  refine HS.out.mono ?_; rintro e w2 ⟨rfl, b2⟩
  have hT2 := (b2.block _ (lt_of_block hT)).trans hT
  have hp2 := hp1.below b2
  have hx2 := hx1.below b2
  have B2 := below_then B1 B1.size b2
  clear t0 t1 hT hp1 hx1 B1 b2 HS
  by_cases hk : K = 0
  · subst hk
    have t1 : w2.cell? ⟨w.heap.size, 1, none⟩ = some (.slice A n c) := cell_of_block hT2 rfl
    go_upto_region 5 with (fail)
    have HB2 := Lib.hid B2
    have HP2 := Lib.hid hp2
    have HX2 := Lib.hid hx2
    have HT2 := Lib.hid hT2
    clear t1 B2 hp2 hx2 hT2
    go_loopw [24] (fun ix wr => ∃ (k : Nat), ix = .int .i64 (k : Int) ∧ k ≤ n ∧ Hid (bigF xs.length nds = bigF xs.length (nds.drop k)) ∧ Below w2.heap.size w2 wr) (fun ix _ => n - (intOf ix).toNat)
    case atStart => exact ⟨0, rfl, Nat.zero_le _, Lib.hid rfl, Below.refl _ _⟩
    case round =>
      obtain ⟨k, rfl, hk, HBF, hbr⟩ := hrel
      by_cases hlt : k < n
      · have hlen := HLEN.out
        have hpr := HP2.out.below hbr
        obtain ⟨b, o, rfl, hc⟩ := hpr.cells (by omega)
        obtain ⟨V1, V2, V3, hr, hic, -, -⟩ := hc k (by omega)
        have hsd := bigF_drop xs.length nds k (by omega)
        rw [← HBF.out] at hsd
        generalize nds[k]'(by omega) = v at hr hic hsd
        have HSD := Lib.hid hsd
        have r0 : _ = some _ := range_cell (o := o + k * 8) hr 0 rfl
        rw [Nat.add_zero] at r0
        have r1 := range_cell hr 1 rfl
        have r2 := range_cell hr 2 rfl
        have r3 := range_cell hr 3 rfl
        have r4 := range_cell hr 4 rfl
        have r5 := range_cell hr 5 rfl
        have r6 := range_cell hr 6 rfl
        have r7 := range_cell hr 7 rfl
        have hsf : ∀ (W : World) (a : Addr) (b : Nat), (store a (.float .f64 b)).run Tryz.prog W = stored Tryz.prog W a (.float .f64 b) .plain := fun W a b => run_store _ W a _ _ rfl
        have i1 : (k : Int) < (n : Int) := by omega
        have i2 : decide ((k : Int) < (n : Int)) = true := by simpa using i1
        clear hc hr hic hlen hsd hpr
        go_upto_region 7 with (fail)
        have b5 := (Below.refl wr.heap.size wr).alloc (Nat.le_refl _) (.cells (ndCells V1 V2 V3 v).toArray 72)
        have hO5 : (wr.alloc (.cells (ndCells V1 V2 V3 v).toArray 72)).heap[wr.heap.size]? = some (.cells (ndCells V1 V2 V3 v).toArray 72 (0, 0)) := heap_alloc_new wr _
        have hIN := fun W => inner_any V1 V2 V3 v W
        obtain ⟨y, hy⟩ : ∃ y, innerV v = y := ⟨_, rfl⟩
        rw [hy] at hIN
        have HY := Lib.hid hy
        have HIN := Lib.hid hIN
        unfold ndCells at b5 hO5 HIN
        generalize (wr.alloc (.cells #[.int .u8 (v.kind : Int), .int .i64 v.value, .int .i64 v.feature, .float .f64 v.thr, .slice V1 V2 V3, .int .u8 (v.missing : Int), .int .i64 v.left, .int .i64 v.right] 72)) = w5 at b5 hO5 ⊢
        obtain ⟨n0, n1, n2, n3, n4, n5, n6, n7⟩ := nd_box (v := v) hO5
        have hb5 := below_then hbr hbr.size b5
        have HO5 := Lib.hid hO5
        clear r0 r1 r2 r3 r4 r5 r6 r7 hO5 b5 hbr hy hIN
        go_wp2_with fail
        refine (HIN.out _).mono ?_; rintro e w6 ⟨rfl, b6⟩
        have hO6 := (b6.block _ (lt_of_block HO5.out)).trans HO5.out
        have hb6 := below_then hb5 hb5.size b6
        clear n0 n1 n2 n3 n4 n5 n6 n7 hb5 b6 HO5 HIN
        obtain ⟨n0, n1, n2, n3, n4, n5, n6, n7⟩ := nd_box (v := v) hO6
        clear hO6 n0 n1 n3 n4 n5 n6 n7
        cases y
        · have HN := Lib.hid (show bigF xs.length nds = bigF xs.length (nds.drop (k + 1)) by rw [HSD.out, show wantsV xs.length v = false by unfold wantsV; rw [HY.out]; rfl]; simp)
          go_wp2
          go_roundw
          case rel => exact ⟨k + 1, by go_num, hlt, HN, hb6⟩
          case measure => simp [intOf]; omega
        · by_cases hw : (xn : Int) ≤ v.feature
          · have hbt : bigF xs.length nds = true := by rw [HSD.out, if_pos (by unfold wantsV; rw [HY.out, HXL.out]; simpa using hw)]
            have HWK := Lib.hid (wayK_big HK.out hbt)
            have g1 : decide ((xn : Int) ≤ v.feature) = true := by simpa using hw
            have HBB := Lib.hid (below_then HB2.out HB2.out.size hb6)
            clear hbt hb6
            go_wp2
            go_ret2
            exact ⟨none, 0, 0, [], by rw [HWK.out]; rfl, ⟨Mine.nil _ _ _, by simp⟩, HBB.out, fun h => by rw [HWK.out] at h; cases h⟩
          · have HN := Lib.hid (show bigF xs.length nds = bigF xs.length (nds.drop (k + 1)) by rw [HSD.out, if_neg (by unfold wantsV; rw [HY.out, HXL.out]; simpa using hw)])
            have g1 : decide ((xn : Int) ≤ v.feature) = false := by simpa using hw
            go_wp2
            go_roundw
            case rel => exact ⟨k + 1, by go_num, hlt, HN, hb6⟩
            case measure => simp [intOf]; omega
      · obtain rfl : k = n := by omega
        have hbn : bigF xs.length nds = false := by rw [HBF.out, List.drop_eq_nil_of_le (by have := HLEN.out; omega)]; rfl
        have HWK := Lib.hid (wayK_ok HK.out hbn)
        have HBN := Lib.hid hbn
        clear hbn
        go_upto_region 12 with (fail)
        have hRt := rightT_ok HK.out
        have b3 := (Below.refl wr.heap.size wr).alloc (Nat.le_refl _) (.cells #[.int .i64 0] 3)
        have hl3 : Mine 3 (wr.alloc (.cells #[.int .i64 0] 3)) w2.heap.size (some ⟨wr.heap.size, 0, none⟩) 1 1 (i64s ([] ++ [((0 : Nat) : Int)])) :=
          ⟨rfl, Nat.le_refl _, by omega, .inr ⟨wr.heap.size, [], rfl, hbr.size, heap_alloc_new wr (.cells #[.int .i64 0] 3), by simp⟩⟩
        have hb3 := below_then hbr hbr.size b3
        generalize hg3 : wr.heap.size = g3 at hl3 ⊢
        generalize wr.alloc (.cells #[.int .i64 0] 3) = w3 at hl3 hb3 ⊢
        have hrep := treeOf_rep hRt
        have hmany := Rep.many hRt hrep
        have HRT := Lib.hid hRt
        clear hbr b3 hg3
        go_loopg [10, 11] (treeOf nds).all.length (fun m iv lv wr => ∃ (T : BT) (i : Nat) (LA : Option Addr) (ln lc : Nat) (l : List Int), iv = .int .i64 (i : Int) ∧ lv = .slice LA ln lc ∧ Hid (Rep nds T i) ∧ Hid (T.all.length = m) ∧ Hid (leafV nds xs T = leafV nds xs (treeOf nds)) ∧ Hid (ln + m ≤ k + 1) ∧ Mine 3 wr w2.heap.size LA ln lc (i64s (l ++ [(i : Int)])) ∧ Hid (∀ z ∈ l, -9223372036854775808 ≤ z ∧ z ≤ 9223372036854775807) ∧ Below w2.heap.size w2 wr)
        case atStart => exact ⟨treeOf nds, 0, _, 1, 1, [], rfl, rfl, Lib.hid hrep, Lib.hid rfl, Lib.hid rfl, Lib.hid (by have := HLEN.out; omega), hl3, Lib.hid (by simp), hb3⟩
        case round =>
          obtain ⟨T, i, LA, ln, lc, l, rfl, rfl, HR, HM, HLF, HLN, hm, HZ, hbr⟩ := hrel
          clear hl3 hb3 hrep hRt hmany
          have hin : i < nds.length := by
            cases T with
            | leaf j => obtain ⟨rfl, h, _⟩ := HR.out; exact h
            | node j a b => obtain ⟨rfl, h, _⟩ := HR.out; exact h
          have hlen := HLEN.out
          have hpr := HP2.out.below hbr
          obtain ⟨b, o, rfl, hc⟩ := hpr.cells (by omega)
          obtain ⟨V1, V2, V3, hr, hic, hkk1, hkk2⟩ := hc i hin
          have hat := ndAt_get (nds := nds) (i := i) hin
          generalize nds[i]'hin = v at hr hic hkk1 hkk2 hat
          have HAT := Lib.hid hat
          have HR0 := Lib.hid hr
          have HIC := Lib.hid hic
          have r0 : _ = some _ := range_cell (o := o + i * 8) hr 0 rfl
          rw [Nat.add_zero] at r0
          have r1 := range_cell hr 1 rfl
          have r2 := range_cell hr 2 rfl
          have r3 := range_cell hr 3 rfl
          have r4 := range_cell hr 4 rfl
          have r5 := range_cell hr 5 rfl
          have r6 := range_cell hr 6 rfl
          have r7 := range_cell hr 7 rfl
          have t1 : wr.cell? ⟨w.heap.size, 1, none⟩ = some (.slice (some ⟨b, o, none⟩) k c) := cell_of_block ((hbr.block _ (lt_of_block HT2.out)).trans HT2.out) rfl
          have i1 : (i : Int) < (k : Int) := by omega
          have HIN := Lib.hid (fun W => inner_any V1 V2 V3 v W)
          unfold ndCells at HIN
          have hnode := HRT.out.node i hin
          rw [hat] at hnode
          have HND := Lib.hid hnode
          clear hc hr hic hlen hat hpr hnode
          cases T with
          | leaf j =>
            obtain ⟨rfl, _, hiv⟩ := HR.out
            rw [HAT.out] at hiv
            rw [hiv] at HIN
            go_wp2_with fail
            refine (HIN.out _).mono ?_; rintro e w6 ⟨rfl, b6⟩
            have hm6 := hm.below b6
            have HB6 := Lib.hid (below_then HB2.out HB2.out.size (below_then hbr hbr.size b6))
            have HM6 := Lib.hid hm6
            clear hm hbr hm6 b6 r0 r1 r2 r3 r4 r5 r6 r7 t1
            go_wp2
            go_ret2
            refine ⟨LA, ln, lc, l ++ [(i : Int)], by rw [HWK.out]; rfl, ⟨HM6.out.mono HB2.out.size, ?_⟩, HB6.out, fun _ => ⟨l, ?_⟩⟩
            · intro z hz
              rcases List.mem_append.1 hz with hz | hz
              · exact HZ.out z hz
              · obtain rfl := List.mem_singleton.1 hz
                omega
            · rw [← HLF.out]
              rfl
          | node j a d =>
            obtain ⟨rfl, _, hiv, ha, hd⟩ := HR.out
            rw [HAT.out] at hiv ha hd
            rw [hiv] at HIN
            have hnv := nodeV_inner HND.out hiv
            have hfl := feature_low HND.out hiv
            have hvm : v ∈ nds := by have := ndAt_get (nds := nds) (i := i) hin; rw [HAT.out] at this; rw [this]; exact List.getElem_mem hin
            have hfh := bigF_no HBN.out v hvm hiv
            obtain ⟨f, hf⟩ : ∃ f : Nat, v.feature = (f : Int) := ⟨v.feature.toNat, by omega⟩
            obtain ⟨le, hle⟩ : ∃ le : Nat, v.left = (le : Int) := ⟨v.left.toNat, by omega⟩
            obtain ⟨ri, hri⟩ : ∃ ri : Nat, v.right = (ri : Int) := ⟨v.right.toNat, by omega⟩
            rw [hle] at ha
            rw [hri] at hd
            have hfn : f < xn := by have := HXL.out; omega
            obtain ⟨x, hx⟩ : ∃ x, xs.getD f 0 = x := ⟨_, rfl⟩
            have HA := Lib.hid (show Rep nds a le from ha)
            have HD := Lib.hid (show Rep nds d ri from hd)
            have HLS := Lib.hid (show leafV nds xs (BT.node i a d) = if nodeSide v x = 1 then leafV nds xs a else leafV nds xs d by
              simp only [leafV]
              rw [HAT.out, nodeSide_side hiv, hf, ← hx, Int.toNat_natCast])
            have HF := Lib.hid hf
            have HLE := Lib.hid hle
            have HRI := Lib.hid hri
            have HLB := Lib.hid (show le < k ∧ ri < k from by have := HLEN.out; omega)
            obtain ⟨bx, ox, hX, hxc⟩ := HX2.out.cells (by omega)
            have hxf := hxc f hfn
            rw [fls_getD (by have := HXL.out; omega), hx] at hxf
            subst hX
            have HXF := Lib.hid hxf
            have hfi : (f : Int) < (xn : Int) := by omega
            clear hiv ha hd hnv hfl hvm hfh hf hle hri hxc hxf hx
            go_wp2_with fail
            refine (HIN.out _).mono ?_; rintro e w6 ⟨rfl, b6⟩
            have hr := rangeAt_below HR0.out b6
            have hb6 := below_then hbr hbr.size b6
            have hm6 := hm.below b6
            have HI6 := Lib.hid (HIC.out.below b6)
            clear r0 r1 r2 r3 r4 r5 r6 r7 t1 hbr hm b6 HIC HR0 HIN
            have r0 : _ = some _ := range_cell (o := o + i * 8) hr 0 rfl
            rw [Nat.add_zero] at r0
            have r1 := range_cell hr 1 rfl
            have r2 := range_cell hr 2 rfl
            have r3 := range_cell hr 3 rfl
            have r4 := range_cell hr 4 rfl
            have r5 := range_cell hr 5 rfl
            have r6 := range_cell hr 6 rfl
            have r7 := range_cell hr 7 rfl
            have t1 : w6.cell? ⟨w.heap.size, 1, none⟩ = some (.slice (some ⟨b, o, none⟩) k c) := cell_of_block ((hb6.block _ (lt_of_block HT2.out)).trans HT2.out) rfl
            have hsf : ∀ (W : World) (a : Addr) (b : Nat), (store a (.float .f64 b)).run Tryz.prog W = stored Tryz.prog W a (.float .f64 b) .plain := fun W a b => run_store _ W a _ _ rfl
            clear hr
            go_upto_region 14 with (fail)
            have b8 := (Below.refl w6.heap.size w6).alloc (Nat.le_refl _) (.cells (ndCells V1 V2 V3 v).toArray 72)
            have hO8 : (w6.alloc (.cells (ndCells V1 V2 V3 v).toArray 72)).heap[w6.heap.size]? = some (.cells (ndCells V1 V2 V3 v).toArray 72 (0, 0)) := heap_alloc_new w6 _
            unfold ndCells at b8 hO8
            generalize (w6.alloc (.cells #[.int .u8 (v.kind : Int), .int .i64 v.value, .int .i64 v.feature, .float .f64 v.thr, .slice V1 V2 V3, .int .u8 (v.missing : Int), .int .i64 v.left, .int .i64 v.right] 72)) = w8 at b8 hO8 ⊢
            obtain ⟨Q, hQ⟩ : ∃ Q, w6.heap.size = Q := ⟨_, rfl⟩
            rw [hQ] at hO8
            rw [hQ]
            have hm8 := hm6.below b8
            have hb8 := below_then hb6 hb6.size b8
            have HI8 := Lib.hid (HI6.out.below b8)
            have hn7 : w8.cell? ⟨Q, 7, none⟩ = some (.int .i64 (ri : Int)) := by rw [← HRI.out]; exact (nd_box (v := v) hO8).2.2.2.2.2.2.2
            have HO8 := Lib.hid hO8
            have HM8 := Lib.hid hm8
            have HB8 := Lib.hid hb8
            clear r0 r1 r2 r3 r4 r5 r6 r7 t1 hO8 hm6 hb6 b8 HI6 hQ hm8 hb8
            go_upto_region 15 with (fail)
            obtain ⟨n0, n1, n2, n3, n4, n5, n6, n7⟩ := nd_box (v := v) HO8.out
            rw [HF.out] at n2
            have hxb := World.block_lt_of_cell? w2 _ HXF.out
            have x1 : w8.cell? ⟨bx, ox + f, none⟩ = some (.float .f64 x) := (HB8.out.cell (p := ⟨bx, ox + f, none⟩) hxb).trans HXF.out
            obtain ⟨s, hs⟩ : ∃ s, nodeSide v x = s := ⟨_, rfl⟩
            have hgo := Goes_any V1 V2 V3 x v w8.drew (HI8.out.below (Below.refl w8.heap.size w8).drew)
            unfold ndCells at hgo
            rw [HF.out, hs] at hgo
            have HGO := Lib.hid hgo
            have HS := Lib.hid hs
            have HMS := Lib.hid (show a.all.length + d.all.length + 1 = gk from by have := HM.out; simp only [BT.all, List.length_cons, List.length_append] at this; omega)
            have hln : ln ≤ 1000000000001 := by have := HLN.out; omega
            clear hgo hs hn7 hxb
            go_still_tail 6, (by kernel_rfl)
            change wpList _ _ _ _ _ w8.drew
            go_wp2_with fail
            refine HGO.out.mono ?_; rintro e w9 ⟨rfl, b9⟩
            have hb9 : Below w8.heap.size w8 w9 := (Below.refl w8.heap.size w8).drew.trans b9
            have hm9 := HM8.out.below hb9
            have hO9 := (hb9.block _ (lt_of_block HO8.out)).trans HO8.out
            have hB9 := below_then HB8.out HB8.out.size hb9
            have hz9 := hB9.size
            have HMB := Lib.hid (fun q hq => (hm9.lt q hq).1)
            have HB9 := Lib.hid hB9
            clear n0 n1 n2 n3 n4 n5 n6 n7 x1 HGO b9 hb9 hB9
            by_cases hs1 : s = 1
            · subst hs1
              have n6 : w9.cell? ⟨Q, 6, none⟩ = some (.int .i64 (le : Int)) := by rw [← HLE.out]; exact cell_of_block hO9 rfl
              have HRG := Lib.hid (show ∀ z ∈ l ++ [(i : Int)], -9223372036854775808 ≤ z ∧ z ≤ 9223372036854775807 from fun z hz => by
                rcases List.mem_append.1 hz with hz | hz
                · exact HZ.out z hz
                · obtain rfl := List.mem_singleton.1 hz
                  omega)
              clear hO9
              go_wp2_with (at_builtin; refine app_one w2.heap.size rfl _ _ _ _ (.int .i64 0) 8 rfl Tryz.underlying44 Tryz.info_int rfl (by omega) LA ln lc (i64s (l ++ [(i : Int)])) (.int .i64 (le : Int)) rfl rfl rfl hm9 hz9 (by omega) ?_; rintro A' c' w11 hm11 hg11 hA11)
              have hb11 := below_grown HB9.out hz9 hg11 HMB.out
              rw [show i64s (l ++ [(i : Int)]) ++ [Value.int .i64 (le : Int)] = i64s ((l ++ [(i : Int)]) ++ [(le : Int)]) by simp [i64s]] at hm11
              clear hm9 hg11 hA11 n6
              go_roundg a.all.length
              case measure => have := HMS.out; omega
              case rel => exact ⟨a, le, A', ln + 1, c', l ++ [(i : Int)], rfl, rfl, HA, Lib.hid rfl, Lib.hid (by rw [← HLF.out, HLS.out, HS.out, if_pos rfl]), Lib.hid (by have := HMS.out; have := HLN.out; omega), hm11, HRG, hb11⟩
            · have s1 : ((s : Int) == 1) = false := by simp; omega
              have s2 : decide ((s : Int) = 1) = false := by simp; omega
              have HS1 := Lib.hid hs1
              have HRG := Lib.hid (show ∀ z ∈ l ++ [(i : Int)], -9223372036854775808 ≤ z ∧ z ≤ 9223372036854775807 from fun z hz => by
                rcases List.mem_append.1 hz with hz | hz
                · exact HZ.out z hz
                · obtain rfl := List.mem_singleton.1 hz
                  omega)
              clear hs1 hO9
              go_wp2_with (at_builtin; refine app_one w2.heap.size rfl _ _ _ _ (.int .i64 0) 8 rfl Tryz.underlying44 Tryz.info_int rfl (by omega) LA ln lc (i64s (l ++ [(i : Int)])) (.int .i64 (ri : Int)) rfl rfl rfl hm9 hz9 (by omega) ?_; rintro A' c' w11 hm11 hg11 hA11)
              have hb11 := below_grown HB9.out hz9 hg11 HMB.out
              rw [show i64s (l ++ [(i : Int)]) ++ [Value.int .i64 (ri : Int)] = i64s ((l ++ [(i : Int)]) ++ [(ri : Int)]) by simp [i64s]] at hm11
              clear hm9 hg11 hA11
              go_roundg d.all.length
              case measure => have := HMS.out; omega
              case rel => exact ⟨d, ri, A', ln + 1, c', l ++ [(i : Int)], rfl, rfl, HD, Lib.hid rfl, Lib.hid (by rw [← HLF.out, HLS.out, HS.out, if_neg HS1.out]), Lib.hid (by have := HMS.out; have := HLN.out; omega), hm11, HRG, hb11⟩
  · have f1 : (K != 0) = true := by simpa using hk
    have f2 : decide (K = 0) = false := by simpa using hk
    have HWK := Lib.hid (wayK_shape xs.length HK.out hk)
    have HB2 := Lib.hid B2
    clear hk hp2 hx2 hT2 B2
    go_wp2
    go_ret2
    exact ⟨none, 0, 0, [], by rw [HWK.out]; rfl, ⟨Mine.nil _ _ _, by simp⟩, HB2.out, fun h => by rw [HWK.out] at h; exact absurd h (by simpa using f2)⟩

end Go.Proofs.YtekcpapkicmckaaGreatDoor
