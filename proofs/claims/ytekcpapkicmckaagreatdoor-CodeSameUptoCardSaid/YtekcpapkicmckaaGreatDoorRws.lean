/- The walk of thicketlaw19.CodeSame. -/
import Derived.Test.YtekcpapkicmckaaGreatDoorRwn
import Derived.Test.YtekcpapkicmckaaGreatDoorRwt
import Derived.IntWalk
namespace Go.Proofs.YtekcpapkicmckaaGreatDoor
open Go.RowKit

theorem ndAt_cats {nds : List NdV} {N : Nat} (h : ∀ u ∈ nds, u.cats.length ≤ N) (i : Nat) : (ndAt nds i).cats.length ≤ N := by
  by_cases hi : i < nds.length
  · rw [ndAt_get hi]; exact h _ (List.getElem_mem hi)
  · unfold ndAt
    rw [List.getD_eq_getElem?_getD, List.getElem?_eq_none (by omega)]
    exact Nat.zero_le _
theorem codeT_cats {nds : List NdV} {N : Nat} (h : ∀ u ∈ nds, u.cats.length ≤ N) (out : Int) (E : Nat) : ∀ (T : BT) (k : Nat) (last : Bool), ∀ u ∈ codeT nds out E T k last, u.cats.length ≤ N
  | .leaf i, k, last, u, hu => by
    simp only [codeT, List.mem_cons] at hu
    rcases hu with rfl | hu
    · exact Nat.zero_le _
    · split at hu
      · simp at hu
      · simp only [List.mem_singleton] at hu; subst hu; exact Nat.zero_le _
  | .node i l r, k, last, u, hu => by
    simp only [codeT, List.mem_cons, List.mem_append] at hu
    rcases hu with rfl | hu | hu
    · exact ndAt_cats h i
    · exact codeT_cats h out E l _ _ u hu
    · exact codeT_cats h out E r _ _ u hu
theorem treesCode_cats {N : Nat} : ∀ (ts : List TrV) (k : Nat), (∀ t ∈ ts, ∀ u ∈ t.nds, u.cats.length ≤ N) → ∀ u ∈ treesCode ts k, u.cats.length ≤ N
  | [], _, _, u, hu => by simp [treesCode] at hu
  | t :: l, k, h, u, hu => by
    simp only [treesCode, List.mem_append] at hu
    rcases hu with hu | hu
    · exact codeT_cats (h t (List.mem_cons_self ..)) _ _ _ _ _ u hu
    · exact treesCode_cats l _ (fun t ht => h t (List.mem_cons_of_mem _ ht)) u hu
theorem baseOps_cats {N : Nat} : ∀ (k : Nat) (l : List Int), ∀ u ∈ baseOps k l, u.cats.length ≤ N
  | _, [], u, hu => by simp [baseOps] at hu
  | k, v :: l, u, hu => by
    simp only [baseOps, List.mem_cons] at hu
    rcases hu with rfl | hu
    · exact Nat.zero_le _
    · exact baseOps_cats _ l u hu
theorem compile_ok {F O : Int} {base : List Int} {ts : List TrV} {T : List OpV} (h : compileV F O base ts = (T, 0)) : T = baseOps 0 base ++ treesCode ts base.length ++ [endOp] ∧ (base.length : Int) = O ∧ O ≤ 64 ∧ treesFault F O ts = 0 := by
  unfold compileV at h
  split at h
  · cases (Prod.mk.inj h).2
  · split at h
    · next h2 => exact absurd (Prod.mk.inj h).2 h2
    · next h1 h2 => exact ⟨(Prod.mk.inj h).1.symm, by omega, by omega, Classical.byContradiction h2⟩
theorem compile_cats {F O : Int} {base : List Int} {ts : List TrV} {T : List OpV} {N : Nat} (h : compileV F O base ts = (T, 0)) (hc : ∀ t ∈ ts, ∀ u ∈ t.nds, u.cats.length ≤ N) : ∀ u ∈ T, u.cats.length ≤ N := by
  obtain ⟨rfl, -⟩ := compile_ok h
  intro u hu
  simp only [List.mem_append, List.mem_singleton] at hu
  rcases hu with (hu | hu) | rfl
  · exact baseOps_cats _ _ u hu
  · exact treesCode_cats _ _ hc u hu
  · exact Nat.zero_le _
theorem compile_len {F O : Int} {base : List Int} {ts : List TrV} {T : List OpV} (h : compileV F O base ts = (T, 0)) : T.length ≤ 65 + 2 * manyNodes ts := by
  obtain ⟨rfl, h1, h2, h3⟩ := compile_ok h
  have := treesCode_length ts base.length (fun t ht => (goodT_all h3 t ht).right)
  simp only [List.length_append, baseOps_length, List.length_singleton]
  omega

set_option maxHeartbeats 8000000 in
set_option maxRecDepth 100000 in
theorem same_true (name : ByteArray) (FA : Option Addr) (fn fc : Nat) (O : Int) (BA : Option Addr) (bn bc : Nat) (TA : Option Addr) (tn tc : Nat) (X : Option Addr) (xn xc : Nat) (feats : List ByteArray) (base : List Int) (ts : List TrV) (xs : List Nat) (w : World)
    (he : EnsAt w name FA fn fc BA bn bc TA tn tc feats base ts) (hx : Sl w X xn xc (fls xs)) (hT : TabsS w) :
    Calls Tryz.prog 10 #[.agg #[.string name, .slice FA fn fc, .int .i64 O, .slice BA bn bc, .slice TA tn tc], .slice X xn xc] w fun e w' => e = .returned (.bool true) ∧ Below w.heap.size w w' := by
  have HBS := Lib.hid (fun W (h : Below w.heap.size w W) => he.base.below h)
  have HTS := Lib.hid (fun W (h : Below w.heap.size w W) => he.trees.below h)
  have HX := Lib.hid (fun W (h : Below w.heap.size w W) => hx.below h)
  have HT := Lib.hid (fun W (h : Below w.heap.size w W) => hT.below h)
  have hbm := he.bmany
  have hfm := he.fmany
  have HBL := Lib.hid he.base.len
  have HRG := Lib.hid (show InR base from he.base.rng)
  have HXL := Lib.hid (show xs.length = xn by have := hx.len; rwa [fls_length] at this)
  have HCT := Lib.hid he.cats
  obtain ⟨K1, hK1⟩ : ∃ K1, scoreK (fn : Int) O base ts xn = K1 := ⟨_, rfl⟩
  obtain ⟨T, K2, hK2⟩ : ∃ T K2, compileV (fn : Int) O base ts = (T, K2) := ⟨_, _, rfl⟩
  obtain ⟨FF, hFF⟩ : ∃ FF, (if K2 = 0 then (fn : Int) else 0) = FF := ⟨_, rfl⟩
  obtain ⟨OO, hOO⟩ : ∃ OO, (if K2 = 0 then O else 0) = OO := ⟨_, rfl⟩
  have HK1 := Lib.hid hK1
  have HK2 := Lib.hid hK2
  have HFF := Lib.hid hFF
  have HOO := Lib.hid hOO
  have HNM := Lib.hid he.nodes
  clear he hx hT hK1 hK2 hFF hOO
  go_enter Tryz.func10, Tryz.ntmps10
  go_upto_region 1 with (fail)
  have b2 := (Below.refl w.heap.size w).alloc (Nat.le_refl _) (.cells #[.string name, .slice FA fn fc, .int .i64 O, .slice BA bn bc, .slice TA tn tc] 26)
  have k2 := heap_alloc_new w (.cells #[.string name, .slice FA fn fc, .int .i64 O, .slice BA bn bc, .slice TA tn tc] 26)
  generalize w.alloc (.cells #[.string name, .slice FA fn fc, .int .i64 O, .slice BA bn bc, .slice TA tn tc] 26) = w2 at b2 k2 ⊢
  have HL := Lib.hid (lives_any w2 (HT.out _ b2))
  go_wp2_with fail
  refine HL.out.mono ?_; rintro e w3 ⟨rfl, b3⟩
  have B3 := below_then b2 b2.size b3
  have k3 := (b3.block _ (lt_of_block k2)).trans k2
  clear b2 k2 b3 HL
  have p0 : w3.cell? ⟨w.heap.size, 0, none⟩ = some (.string name) := cell_of_block k3 rfl
  have p1 : w3.cell? ⟨w.heap.size, 1, none⟩ = some (.slice FA fn fc) := cell_of_block k3 rfl
  have p2 : w3.cell? ⟨w.heap.size, 2, none⟩ = some (.int .i64 O) := cell_of_block k3 rfl
  have p3 : w3.cell? ⟨w.heap.size, 3, none⟩ = some (.slice BA bn bc) := cell_of_block k3 rfl
  have p4 : w3.cell? ⟨w.heap.size, 4, none⟩ = some (.slice TA tn tc) := cell_of_block k3 rfl
  have hC := Compile_any name FA fn fc O BA bn bc TA tn tc base ts w3 (HBS.out _ B3) (HTS.out _ B3) HNM.out
  rw [HK2.out] at hC
  have HC := Lib.hid (hC.mono fun _ _ h => h.with HFF.out HOO.out)
  have HB3 := Lib.hid B3
  have HK3 := Lib.hid k3
  clear hC B3 k3
  go_wp2_with fail
  refine HC.out.mono ?_; rintro e w5 ⟨PA, pn, pc, rfl, ho, b5⟩
  have B5 := below_then HB3.out HB3.out.size b5
  have k5 := (b5.block _ (lt_of_block HK3.out)).trans HK3.out
  clear p0 p1 p2 p3 p4 HC b5
  have HO := Lib.hid ho
  clear ho
  go_upto_region 4 with (fail)
  have b6 := (Below.refl w5.heap.size w5).alloc (Nat.le_refl _) (.cells #[.int .i64 FF, .int .i64 OO, .slice PA pn pc] 30)
  have h6 := heap_alloc_new w5 (.cells #[.int .i64 FF, .int .i64 OO, .slice PA pn pc] 30)
  generalize w5.alloc (.cells #[.int .i64 FF, .int .i64 OO, .slice PA pn pc] 30) = w6 at b6 h6 ⊢
  have hq6 := HO.out.opsAt.below b6
  have k6 := (b6.block _ (lt_of_block k5)).trans k5
  have B6 := below_then B5 B5.size b6
  have HB6 := Lib.hid B6
  have HQ := Lib.hid (fun (W : World) (hW : Below w6.heap.size w6 W) => hq6.below hW)
  have HW := Lib.hid (fun (W : World) (hW : Below w6.heap.size w6 W) => below_then HB6.out HB6.out.size hW)
  have KE := Lib.hid (fun (W : World) (hW : Below w6.heap.size w6 W) => (hW.block _ (lt_of_block k6)).trans k6)
  have KP := Lib.hid (fun (W : World) (hW : Below w6.heap.size w6 W) => (hW.block _ (lt_of_block h6)).trans h6)
  have p0 : w6.cell? ⟨w.heap.size, 0, none⟩ = some (.string name) := cell_of_block k6 rfl
  have p1 : w6.cell? ⟨w.heap.size, 1, none⟩ = some (.slice FA fn fc) := cell_of_block k6 rfl
  have p2 : w6.cell? ⟨w.heap.size, 2, none⟩ = some (.int .i64 O) := cell_of_block k6 rfl
  have p3 : w6.cell? ⟨w.heap.size, 3, none⟩ = some (.slice BA bn bc) := cell_of_block k6 rfl
  have p4 : w6.cell? ⟨w.heap.size, 4, none⟩ = some (.slice TA tn tc) := cell_of_block k6 rfl
  have hS := Score_any name FA fn fc O BA bn bc TA tn tc X xn xc base ts xs w6 (HBS.out _ B6) (HTS.out _ B6) (HX.out _ B6) (by omega)
  rw [HK1.out] at hS
  unfold ScorePost at hS
  have HS := Lib.hid hS
  clear hS hq6 k6 h6 b6 B5 B6 k5
  go_wp2_with fail
  refine HS.out.mono ?_; rintro e w7 ⟨SA, sn, sc, l, rfl, hs7, b7, hl⟩
  have HS7 := Lib.hid (fun (W : World) (hW : Below w7.heap.size w7 W) => hs7.ints.below hW)
  have HB7 := Lib.hid b7
  have HLL := Lib.hid hl
  clear p0 p1 p2 p3 p4 HS b7 hs7 hl
  by_cases hbad : K2 ≠ 0 ∨ K1 ≠ 0
  · have hbad2 : ((K2 != 0) = true) ∨ ((K2 != 0) = false ∧ (K1 != 0) = true) := by
      by_cases h1 : K2 ≠ 0
      · exact .inl (by simpa using h1)
      · exact .inr ⟨by simpa using h1, by simp; omega⟩
    have HBF := Lib.hid (HW.out _ HB7.out)
    clear hbad
    rcases hbad2 with g1 | ⟨g1, g2⟩
    all_goals
      go_wp2
      go_ret
      exact ⟨rfl, HBF.out⟩
  · have hk2 : K2 = 0 := by omega
    have hk1 : K1 = 0 := by omega
    have hsc := HK1.out
    rw [hk1] at hsc
    have hxf : (xs.length : Int) = (fn : Int) := by
      unfold scoreK at hsc
      split at hsc
      · cases hsc
      · split at hsc
        · cases hsc
        · have := HXL.out; omega
    have hff : FF = (fn : Int) := by rw [← HFF.out, if_pos hk2]
    have hoo : OO = O := by rw [← HOO.out, if_pos hk2]
    subst hff hoo hk2 hk1
    have hco : (compileV (fn : Int) OO base ts).2 = 0 := by rw [HK2.out]
    have hrp := compile_right (show (0 : Int) ≤ (fn : Int) by omega) hco
    have hsay := compile_says (show (0 : Int) ≤ (fn : Int) by omega) hco HRG.out xs hxf
    rw [HK2.out] at hrp hsay
    simp only at hrp hsay
    have hcat := compile_cats HK2.out HCT.out
    have hlen := compile_len HK2.out
    have htl : T.length = pn := HO.out.len
    have hris := runV_rising (F := (fn : Int)) (O := OO) (ops := T) xs
    have htd := tidyV_ok hrp
    have hsh := tidy_shorter hrp
    have hss := tidy_says hrp xs
    obtain ⟨R1, R2, R3, hR⟩ : ∃ R1 R2 R3, runV (fn : Int) OO T xs = (R1, R2, R3) := ⟨_, _, _, rfl⟩
    obtain ⟨S1, S2, S3, hSS⟩ : ∃ S1 S2 S3, runV (fn : Int) OO (tidyOps T) xs = (S1, S2, S3) := ⟨_, _, _, rfl⟩
    rw [hR] at hsay hris hss
    rw [hSS] at hss
    obtain ⟨rfl, rfl⟩ := hsay
    obtain ⟨rfl, rfl, hle⟩ := hss
    have hll : l = scoreV base ts xs := HLL.out rfl
    subst hll
    simp only at hris hle
    have hpn : pn ≤ 65 + 2 * 1048576 := by have := HNM.out; omega
    have HRS := Lib.hid hris.1
    have hrl : R2.length ≤ pn := by have := hris.2; omega
    have HCAT := Lib.hid (fun u hu => Nat.le_trans (hcat u hu) (show 1048576 ≤ 1000000000000 by omega))
    have HTQ := Lib.hid htd
    have HSH := Lib.hid hsh
    have HTL := Lib.hid htl
    have HRR := Lib.hid hR
    have HSS := Lib.hid (show runV (fn : Int) OO (tidyOps T) xs = (scoreV base ts xs, S2, 0) from hSS)
    have HLE := Lib.hid hle
    generalize scoreV base ts xs = SV at *
    clear hbad hsc hxf hco hrp hcat hlen htl hris htd hsh hR hSS hle HLL
    have p0 : w7.cell? ⟨w5.heap.size, 0, none⟩ = some (.int .i64 (fn : Int)) := cell_of_block (KP.out _ HB7.out) rfl
    have p1 : w7.cell? ⟨w5.heap.size, 1, none⟩ = some (.int .i64 OO) := cell_of_block (KP.out _ HB7.out) rfl
    have p2 : w7.cell? ⟨w5.heap.size, 2, none⟩ = some (.slice PA pn pc) := cell_of_block (KP.out _ HB7.out) rfl
    have hR7 := Run_any (fn : Int) OO PA X pn pc xn xc T xs w7 (HQ.out _ HB7.out) (HX.out _ (HW.out _ HB7.out)) (by omega)
    rw [HRR.out] at hR7
    have HR7 := Lib.hid (hR7.mono fun _ _ h => h.parts)
    clear hR7
    go_wp2_with fail
    refine HR7.out.mono ?_; rintro e w8 ⟨RA, rn, rc, rfl, hr8, b8⟩
    have HB8 := Lib.hid (chainB HB7.out b8)
    have HRI := Lib.hid (fun (W : World) (hW : Below w8.heap.size w8 W) => hr8.ints.below hW)
    have HS8 := Lib.hid (fun (W : World) (hW : Below w8.heap.size w8 W) => HS7.out W (below_then b8 b8.size hW))
    clear p0 p1 p2 HR7 b8 hr8 HS7 HB7
    have p0 : w8.cell? ⟨w5.heap.size, 0, none⟩ = some (.int .i64 (fn : Int)) := cell_of_block (KP.out _ HB8.out) rfl
    have p1 : w8.cell? ⟨w5.heap.size, 1, none⟩ = some (.int .i64 OO) := cell_of_block (KP.out _ HB8.out) rfl
    have p2 : w8.cell? ⟨w5.heap.size, 2, none⟩ = some (.slice PA pn pc) := cell_of_block (KP.out _ HB8.out) rfl
    have hT8 := Trace_any (fn : Int) OO PA X pn pc xn xc T xs w8 (HQ.out _ HB8.out) (HX.out _ (HW.out _ HB8.out)) (by omega)
    rw [HRR.out] at hT8
    have HT8 := Lib.hid (hT8.mono fun _ _ h => h.parts)
    clear hT8
    go_wp2_with fail
    refine HT8.out.mono ?_; rintro e w9 ⟨DA, dn, dc, rfl, hd9, b9⟩
    obtain rfl : R2.length = dn := hd9.len
    have HB9 := Lib.hid (chainB HB8.out b9)
    have HDI := Lib.hid (fun (W : World) (hW : Below w9.heap.size w9 W) => hd9.ints.below hW)
    have HW8 := Lib.hid (fun (W : World) (hW : Below w9.heap.size w9 W) => below_then b9 b9.size hW)
    clear p0 p1 p2 HT8 b9 hd9 HB8
    have p0 : w9.cell? ⟨w5.heap.size, 0, none⟩ = some (.int .i64 (fn : Int)) := cell_of_block (KP.out _ HB9.out) rfl
    have p1 : w9.cell? ⟨w5.heap.size, 1, none⟩ = some (.int .i64 OO) := cell_of_block (KP.out _ HB9.out) rfl
    have p2 : w9.cell? ⟨w5.heap.size, 2, none⟩ = some (.slice PA pn pc) := cell_of_block (KP.out _ HB9.out) rfl
    have hT9 := Tidy_any (fn : Int) OO PA pn pc T w9 (HQ.out _ HB9.out) (by omega) HCAT.out
    rw [HTQ.out] at hT9
    have HT9 := Lib.hid (hT9.mono fun _ _ h => h.ok)
    clear hT9
    go_wp2_with fail
    refine HT9.out.mono ?_; rintro e w10 ⟨QA, qn, qc, rfl, hq10, b10⟩
    have hqn : qn ≤ pn := by have := hq10.len; have := HSH.out; have := HTL.out; omega
    have HB10 := Lib.hid (chainB HB9.out b10)
    have HW9 := Lib.hid (fun (W : World) (hW : Below w10.heap.size w10 W) => below_then b10 b10.size hW)
    have HQ10 := Lib.hid hq10.opsAt
    clear p0 p1 p2 HT9 b10 hq10 HB9
    go_upto_region 10 with (fail)
    have b11 := (Below.refl w10.heap.size w10).alloc (Nat.le_refl _) (.cells #[.int .i64 (fn : Int), .int .i64 OO, .slice QA qn qc] 30)
    have h11 := heap_alloc_new w10 (.cells #[.int .i64 (fn : Int), .int .i64 OO, .slice QA qn qc] 30)
    generalize w10.alloc (.cells #[.int .i64 (fn : Int), .int .i64 OO, .slice QA qn qc] 30) = w11 at b11 h11 ⊢
    have HB11 := Lib.hid (chainB HB10.out b11)
    have HW11 := Lib.hid (fun (W : World) (hW : Below w11.heap.size w11 W) => below_then b11 b11.size hW)
    have KQ := Lib.hid (fun (W : World) (hW : Below w11.heap.size w11 W) => (hW.block _ (lt_of_block h11)).trans h11)
    have hS11 := (sums_any RA SA rn rc sn sc SV SV w11 (HRI.out _ (HW8.out _ (HW9.out _ b11))) (HS8.out _ (HW8.out _ (HW9.out _ b11)))).mono (fun e w' h => (show e = .returned (.bool true) ∧ ∃ q, w' = w11.drewN q from ⟨by rw [h.1, decide_eq_true rfl], h.2⟩))
    have HS11 := Lib.hid hS11
    have p2 : w11.cell? ⟨w5.heap.size, 2, none⟩ = some (.slice PA pn pc) := cell_of_block (KP.out _ HB11.out) rfl
    clear b11 h11 hS11 HB10
    go_wp2_with fail
    refine HS11.out.mono ?_; rintro e w12 ⟨rfl, q12, rfl⟩
    have b12 := drewN_below w11 q12
    have HB12 := Lib.hid (chainB HB11.out b12)
    have HB12b := Lib.hid b12
    generalize w11.drewN q12 = w12 at b12 HB12 HB12b ⊢
    clear p2 b12 HS11
    have p2 : w12.cell? ⟨w5.heap.size, 2, none⟩ = some (.slice PA pn pc) := cell_of_block (KP.out _ HB12.out) rfl
    have m1 : decide ((pn : Int) < (R2.length : Int)) = false := by simpa using hrl
    have m2 : decide (pn < R2.length) = false := by simpa using hrl
    go_upto_region 13 with (fail)
    clear p2 m1 m2
    have HDC := Lib.hid (HDI.out _ (HW9.out _ (HW11.out _ HB12b.out)))
    have hrb := HDC.out.sl.big
    go_loopw [14] (fun ix wr => ∃ (j q : Nat), ix = .int .i64 ((j : Int) + 1) ∧ (j = 0 ∨ j < R2.length) ∧ wr = w12.drewN q) (fun ix _ => R2.length + 1 - (intOf ix).toNat)
    case atStart => exact ⟨0, 0, rfl, .inl rfl, rfl⟩
    case round =>
      obtain ⟨j, q, rfl, hj, rfl⟩ := hrel
      by_cases hlt : j + 1 < R2.length
      · obtain ⟨b1, o1, rfl, h1⟩ := HDC.out.cells (by omega)
        have e1 : w12.cell? ⟨b1, o1 + (j + 1), none⟩ = some (.int .i64 (R2.getD (j + 1) 0)) := h1 (j + 1) hlt
        have e2 : w12.cell? ⟨b1, o1 + j, none⟩ = some (.int .i64 (R2.getD j 0)) := h1 j (by omega)
        have hxy : R2.getD j 0 < R2.getD (j + 1) 0 := by
          rw [List.getD_eq_getElem?_getD, List.getD_eq_getElem?_getD, List.getElem?_eq_getElem (show j < R2.length by omega), List.getElem?_eq_getElem hlt]
          exact List.pairwise_iff_getElem.1 HRS.out j (j + 1) _ _ (by omega)
        generalize R2.getD j 0 = x at e2 hxy
        generalize R2.getD (j + 1) 0 = y at e1 hxy
        have d1 : decide (y ≤ x) = false := by simp; omega
        have d2 : ¬ y ≤ x := by omega
        have k1 : (j : Int) + 1 < (R2.length : Int) := by omega
        have k2 : decide ((j : Int) + 1 < (R2.length : Int)) = true := by simpa using k1
        have k3 : (0 : Int) ≤ (j : Int) + 1 := by omega
        have k4 : IntKind.i64.wrap (j : Int) = (j : Int) := IntWalk.i64_in _ (by omega)
        have k5 : ((j : Int) + 1).toNat = j + 1 := by omega
        have k6 : (j : Int) < (R2.length : Int) := by omega
        have k7 : IntKind.i64.wrap ((j : Int) + 1 - 1) = (j : Int) := by rw [IntWalk.i64_in _ (by omega)]; omega
        clear h1 hxy
        go_wp2
        go_quiet (fail)
        go_wp2
        go_roundw
        case rel => exact ⟨j + 1, q + nq, by go_num, .inr hlt, by first | rfl | exact World.drewN_drewN ..⟩
        case measure => simp [intOf]; omega
      · have i1 : ¬ (j : Int) + 1 < (R2.length : Int) := by omega
        have i2 : decide ((j : Int) + 1 < (R2.length : Int)) = false := by simpa using i1
        have b13 := drewN_below w12 q
        have HB13 := Lib.hid (chainB HB12.out b13)
        have HB13b := Lib.hid (chainB HB12b.out b13)
        generalize w12.drewN q = w13 at b13 HB13 HB13b ⊢
        have p0 : w13.cell? ⟨w10.heap.size, 0, none⟩ = some (.int .i64 (fn : Int)) := cell_of_block (KQ.out _ HB13b.out) rfl
        have p1 : w13.cell? ⟨w10.heap.size, 1, none⟩ = some (.int .i64 OO) := cell_of_block (KQ.out _ HB13b.out) rfl
        have p2 : w13.cell? ⟨w10.heap.size, 2, none⟩ = some (.slice QA qn qc) := cell_of_block (KQ.out _ HB13b.out) rfl
        have hR13 := Run_any (fn : Int) OO QA X qn qc xn xc (tidyOps T) xs w13 (HQ10.out.below (HW11.out _ HB13b.out)) (HX.out _ (HW.out _ HB13.out)) (by omega)
        rw [HSS.out] at hR13
        have HR13 := Lib.hid (hR13.mono fun _ _ h => h.parts)
        clear hR13 b13
        go_wp2_with fail
        refine HR13.out.mono ?_; rintro e w14 ⟨UA, un, uc, rfl, hu14, b14⟩
        have HB14 := Lib.hid (chainB HB13.out b14)
        have HB14b := Lib.hid (chainB HB13b.out b14)
        have hS14 := (sums_any UA SA un uc sn sc SV SV w14 hu14.ints (HS8.out _ (HW8.out _ (HW9.out _ (HW11.out _ HB14b.out))))).mono (fun e w' h => (show e = .returned (.bool true) ∧ ∃ q, w' = w14.drewN q from ⟨by rw [h.1, decide_eq_true rfl], h.2⟩))
        have HS14 := Lib.hid hS14
        clear p0 p1 p2 hS14 hu14 HR13 b14
        go_wp2_with fail
        refine HS14.out.mono ?_; rintro e w15 ⟨rfl, q15, rfl⟩
        have b15 := drewN_below w14 q15
        have HB15 := Lib.hid (chainB HB14.out b15)
        have HB15b := Lib.hid (chainB HB14b.out b15)
        generalize w14.drewN q15 = w15 at b15 HB15 HB15b ⊢
        have p2 : w15.cell? ⟨w10.heap.size, 2, none⟩ = some (.slice QA qn qc) := cell_of_block (KQ.out _ HB15b.out) rfl
        have p3 : w15.cell? ⟨w5.heap.size, 2, none⟩ = some (.slice PA pn pc) := cell_of_block (KP.out _ HB15.out) rfl
        have HBF := Lib.hid (HW.out _ HB15.out)
        have hle := HLE.out
        have m1 : (S2.length : Int) ≤ (R2.length : Int) := by omega
        have m2 : decide ((S2.length : Int) ≤ (R2.length : Int)) = true := by simpa using m1
        have m3 : decide (S2.length ≤ R2.length) = true := by simpa using hle
        have m4 : (qn : Int) ≤ (pn : Int) := by omega
        have m5 : decide ((qn : Int) ≤ (pn : Int)) = true := by simpa using m4
        have m6 : decide (qn ≤ pn) = true := by simpa using hqn
        clear b15 HS14
        go_wp2
        go_ret
        exact ⟨rfl, HBF.out⟩

end Go.Proofs.YtekcpapkicmckaaGreatDoor
