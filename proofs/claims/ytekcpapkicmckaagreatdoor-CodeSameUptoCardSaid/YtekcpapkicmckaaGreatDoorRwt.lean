/- The walk of thicketlaw19.CodeTidy. -/
import Derived.Test.YtekcpapkicmckaaGreatDoorRwr
namespace Go.Proofs.YtekcpapkicmckaaGreatDoor
open Go.RowKit

theorem CompilePost.no {F O : Int} {K : Int} (hK : K ≠ 0) {w : World} {e : Ending} {w' : World} (h : CompilePost F O ([], K) w e w') :
    ∃ A n c, e = .returned (.tuple #[.agg #[.int .i64 0, .int .i64 0, .slice A n c], .int .i64 K]) ∧ OwnOps w' w.heap.size A n c [] ∧ Below w.heap.size w w' := by
  obtain ⟨A, n, c, he, ho, hb⟩ := h
  simp only [if_neg hK] at he
  exact ⟨A, n, c, he, ho, hb⟩
theorem tidyV_ok {F O : Int} {ops : List OpV} (h : RightP F O ops) : tidyV F O ops = (tidyOps ops, 0) := by
  unfold tidyV
  rw [check_of h, if_neg (by simp)]
theorem outT_cats (ops : List OpV) (L l pl : List Nat) (N : Nat) (h : ∀ u ∈ ops, u.cats.length ≤ N) : ∀ k, ∀ u ∈ outT ops L l pl k, u.cats.length ≤ N
  | 0, u, hu => by simp [outT] at hu
  | k + 1, u, hu => by
    simp only [outT, List.mem_append] at hu
    have h0 : ∀ i, (opAt ops i).cats.length ≤ N := fun i => by
      by_cases hi : i < ops.length
      · rw [opAt_get hi]; exact h _ (List.getElem_mem hi)
      · unfold opAt
        rw [List.getD_eq_getElem?_getD, List.getElem?_eq_none (by omega)]
        exact Nat.zero_le _
    rcases hu with (hu | hu) | hu
    · exact outT_cats ops L l pl N h k u hu
    · simp only [List.mem_singleton] at hu
      subst hu
      split <;> exact h0 _
    · split at hu
      · simp only [List.mem_singleton] at hu
        subst hu
        exact Nat.zero_le _
      · simp at hu

set_option maxHeartbeats 4000000 in
set_option maxRecDepth 100000 in
theorem tidy_true (F O : Int) (A X : Option Addr) (n c xn xc : Nat) (ops : List OpV) (xs : List Nat) (w : World) (hp : OpsAt w A n c ops) (hx : Sl w X xn xc (fls xs)) (hn : n ≤ 1048576) (hcb : ∀ u ∈ ops, u.cats.length ≤ 1048576) (hT : TabsS w) :
    Calls Tryz.prog 8 #[.agg #[.int .i64 F, .int .i64 O, .slice A n c], .slice X xn xc] w fun e w' => e = .returned (.bool true) ∧ Below w.heap.size w w' := by
  have HP := Lib.hid (fun W (h : Below w.heap.size w W) => hp.below h)
  have HX := Lib.hid (fun W (h : Below w.heap.size w W) => hx.below h)
  have HT := Lib.hid (fun W (h : Below w.heap.size w W) => hT.below h)
  have HCB := Lib.hid (fun u hu => Nat.le_trans (hcb u hu) (show 1048576 ≤ 1000000000000 by omega))
  have HC0 := Lib.hid hcb
  obtain ⟨K1, K2, hK⟩ : ∃ K1 K2, checkV F O ops = (K1, K2) := ⟨_, _, rfl⟩
  have HK := Lib.hid hK
  have HLN := Lib.hid hp.len
  clear hp hx hT hcb hK
  go_enter Tryz.func8, Tryz.ntmps8
  go_upto_region 1 with (fail)
  have b2 := (Below.refl w.heap.size w).alloc (Nat.le_refl _) (.cells #[.int .i64 F, .int .i64 O, .slice A n c] 30)
  have k2 := heap_alloc_new w (.cells #[.int .i64 F, .int .i64 O, .slice A n c] 30)
  generalize w.alloc (.cells #[.int .i64 F, .int .i64 O, .slice A n c] 30) = w2 at b2 k2 ⊢
  have HL := Lib.hid (lives_any w2 (HT.out _ b2))
  go_wp2_with fail
  refine HL.out.mono ?_; rintro e w3 ⟨rfl, b3⟩
  have B3 := below_then b2 b2.size b3
  have k3 := (b3.block _ (lt_of_block k2)).trans k2
  clear b2 k2 b3 HL
  have p0 : w3.cell? ⟨w.heap.size, 0, none⟩ = some (.int .i64 F) := cell_of_block k3 rfl
  have p1 : w3.cell? ⟨w.heap.size, 1, none⟩ = some (.int .i64 O) := cell_of_block k3 rfl
  have p2 : w3.cell? ⟨w.heap.size, 2, none⟩ = some (.slice A n c) := cell_of_block k3 rfl
  have hCk := Check_any F O A n c ops w3 (HP.out _ B3)
  rw [HK.out] at hCk
  have HCK := Lib.hid hCk
  unfold chkOf at HCK
  clear hCk
  go_wp2_with fail
  refine HCK.out.mono ?_; rintro e w4 ⟨rfl, b4⟩
  have B4 := below_then B3 B3.size b4
  have k4 := (b4.block _ (lt_of_block k3)).trans k3
  clear p0 p1 p2 B3 k3 b4 HCK
  have p0 : w4.cell? ⟨w.heap.size, 0, none⟩ = some (.int .i64 F) := cell_of_block k4 rfl
  have p1 : w4.cell? ⟨w.heap.size, 1, none⟩ = some (.int .i64 O) := cell_of_block k4 rfl
  have p2 : w4.cell? ⟨w.heap.size, 2, none⟩ = some (.slice A n c) := cell_of_block k4 rfl
  have hTd := Tidy_any F O A n c ops w4 (HP.out _ B4) (by omega) HCB.out
  by_cases hk : K1 = 0
  · subst hk
    have hP := rightP_of (wrong_first (F := F) (O := O) (ops := ops) (by rw [HK.out]))
    rw [tidyV_ok hP] at hTd
    have HTD := Lib.hid (hTd.mono fun _ _ h => h.ok)
    have hQ := tidy_right hP
    have hsh := tidy_shorter hP
    have htt := tidy_tidy hP
    have hss := tidy_says hP xs
    have hcq : ∀ u ∈ tidyOps ops, u.cats.length ≤ 1000000000000 := outT_cats ops _ _ _ _ HCB.out _
    generalize tidyOps ops = qs at HTD hQ hsh htt hss hcq
    have HHP := Lib.hid hP
    have HHQ := Lib.hid hQ
    have HCQ := Lib.hid hcq
    have HTT := Lib.hid htt
    have HSS := Lib.hid hss
    clear hTd hP hQ htt hss hcq
    go_wp2_with fail
    refine HTD.out.mono ?_; rintro e w5 ⟨A2, n2, c2, rfl, ho, b5⟩
    have hn2 : qs.length = n2 := ho.len
    have hn3 : n2 ≤ n := by have := HLN.out; omega
    have HN2 := Lib.hid hn2
    have k5 := (b5.block _ (lt_of_block k4)).trans k4
    have B5 := below_then B4 B4.size b5
    clear hn2 hsh k4 B4 b5 p0 p1 p2 HTD
    go_upto_region 5 with (fail)
    have b6 := (Below.refl w5.heap.size w5).alloc (Nat.le_refl _) (.cells #[.int .i64 F, .int .i64 O, .slice A2 n2 c2] 30)
    have h6 := heap_alloc_new w5 (.cells #[.int .i64 F, .int .i64 O, .slice A2 n2 c2] 30)
    generalize w5.alloc (.cells #[.int .i64 F, .int .i64 O, .slice A2 n2 c2] 30) = w6 at b6 h6 ⊢
    have hq6 := ho.opsAt.below b6
    have k6 := (b6.block _ (lt_of_block k5)).trans k5
    have HB6 := Lib.hid (below_then B5 B5.size b6)
    have hT6 := Tidy_any F O A2 n2 c2 qs w6 hq6 (by omega) HCQ.out
    rw [tidyV_ok HHQ.out, HTT.out] at hT6
    have HT6 := Lib.hid (hT6.mono fun _ _ h => h.ok)
    have p0 : w6.cell? ⟨w5.heap.size, 0, none⟩ = some (.int .i64 F) := cell_of_block h6 rfl
    have p1 : w6.cell? ⟨w5.heap.size, 1, none⟩ = some (.int .i64 O) := cell_of_block h6 rfl
    have p2 : w6.cell? ⟨w5.heap.size, 2, none⟩ = some (.slice A2 n2 c2) := cell_of_block h6 rfl
    have KS0 := Lib.hid (fun (W : World) (hW : Below w6.heap.size w6 W) => And.intro ((hW.block _ (lt_of_block k6)).trans k6) ((hW.block _ (lt_of_block h6)).trans h6))
    have HQ0 := Lib.hid (fun (W : World) (hW : Below w6.heap.size w6 W) => hq6.below hW)
    clear ho k5 B5 b6 h6 hq6 k6 hT6
    go_wp2_with fail
    refine HT6.out.mono ?_; rintro e w7 ⟨A3, n3, c3, rfl, ho3, b7⟩
    have HB7 := Lib.hid b7
    clear p0 p1 p2 b7 HT6
    go_upto_region 8 with (fail)
    have b8 := (Below.refl w7.heap.size w7).alloc (Nat.le_refl _) (.cells #[.int .i64 F, .int .i64 O, .slice A3 n3 c3] 30)
    have h8 := heap_alloc_new w7 (.cells #[.int .i64 F, .int .i64 O, .slice A3 n3 c3] 30)
    generalize w7.alloc (.cells #[.int .i64 F, .int .i64 O, .slice A3 n3 c3] 30) = w8 at b8 h8 ⊢
    have hr8 := ho3.opsAt.below b8
    have b68 := below_then HB7.out HB7.out.size b8
    have ks8 := KS0.out _ b68
    have hq8 := HQ0.out _ b68
    have HB8 := Lib.hid (below_then HB6.out HB6.out.size b68)
    have HW := Lib.hid (fun (W : World) (hW : Below w8.heap.size w8 W) => below_then HB8.out HB8.out.size hW)
    have KS := Lib.hid (fun (W : World) (hW : Below w8.heap.size w8 W) => And.intro ((hW.block _ (lt_of_block ks8.1)).trans ks8.1) (And.intro ((hW.block _ (lt_of_block ks8.2)).trans ks8.2) ((hW.block _ (lt_of_block h8)).trans h8)))
    have HQ := Lib.hid (fun (W : World) (hW : Below w8.heap.size w8 W) => hq8.below hW)
    have HRr := Lib.hid (fun (W : World) (hW : Below w8.heap.size w8 W) => hr8.below hW)
    clear ho3 b8 h8 hr8 b68 ks8 hq8 KS0 HQ0 HB7 HB6
    have p0 : w8.cell? ⟨w5.heap.size, 0, none⟩ = some (.int .i64 F) := cell_of_block (KS.out _ (Below.refl _ _)).2.1 rfl
    have p1 : w8.cell? ⟨w5.heap.size, 1, none⟩ = some (.int .i64 O) := cell_of_block (KS.out _ (Below.refl _ _)).2.1 rfl
    have p2 : w8.cell? ⟨w5.heap.size, 2, none⟩ = some (.slice A2 n2 c2) := cell_of_block (KS.out _ (Below.refl _ _)).2.1 rfl
    have hC8 := Check_any F O A2 n2 c2 qs w8 (HQ.out _ (Below.refl _ _))
    rw [check_of HHQ.out] at hC8
    have HC8 := Lib.hid hC8
    unfold chkOf at HC8
    clear hC8
    go_wp2_with fail
    refine HC8.out.mono ?_; rintro e w9 ⟨rfl, b9⟩
    have HB9 := Lib.hid b9
    have ks9 := KS.out _ b9
    clear p0 p1 p2 HC8 b9
    have p0 : w9.cell? ⟨w5.heap.size, 0, none⟩ = some (.int .i64 F) := cell_of_block ks9.2.1 rfl
    have p1 : w9.cell? ⟨w5.heap.size, 1, none⟩ = some (.int .i64 O) := cell_of_block ks9.2.1 rfl
    have p2 : w9.cell? ⟨w5.heap.size, 2, none⟩ = some (.slice A2 n2 c2) := cell_of_block ks9.2.1 rfl
    have r0 : w9.cell? ⟨w7.heap.size, 0, none⟩ = some (.int .i64 F) := cell_of_block ks9.2.2 rfl
    have r1 : w9.cell? ⟨w7.heap.size, 1, none⟩ = some (.int .i64 O) := cell_of_block ks9.2.2 rfl
    have r2 : w9.cell? ⟨w7.heap.size, 2, none⟩ = some (.slice A3 n3 c3) := cell_of_block ks9.2.2 rfl
    have t2 : w9.cell? ⟨w.heap.size, 2, none⟩ = some (.slice A n c) := cell_of_block ks9.1 rfl
    have m1 : decide ((n : Int) < (n2 : Int)) = false := by simpa using hn3
    have m2 : decide (n < n2) = false := by simpa using hn3
    have hS9 := Same_any F O F O A2 A3 n2 c2 n3 c3 qs qs w9 (HQ.out _ HB9.out) (HRr.out _ HB9.out)
    rw [sameR_refl] at hS9
    have HS9 := Lib.hid hS9
    clear hS9 ks9
    go_wp2_with fail
    refine HS9.out.mono ?_; rintro e w10 ⟨rfl, b10⟩
    have HB10 := Lib.hid (chainB HB9.out b10)
    have ks10 := KS.out _ HB10.out
    clear p0 p1 p2 r0 r1 r2 t2 HS9 b10 m1 m2
    have t0 : w10.cell? ⟨w.heap.size, 0, none⟩ = some (.int .i64 F) := cell_of_block ks10.1 rfl
    have t1 : w10.cell? ⟨w.heap.size, 1, none⟩ = some (.int .i64 O) := cell_of_block ks10.1 rfl
    have t2 : w10.cell? ⟨w.heap.size, 2, none⟩ = some (.slice A n c) := cell_of_block ks10.1 rfl
    obtain ⟨R1, R2, R3, hR⟩ : ∃ R1 R2 R3, runV F O ops xs = (R1, R2, R3) := ⟨_, _, _, rfl⟩
    obtain ⟨S1, S2, S3, hS⟩ : ∃ S1 S2 S3, runV F O qs xs = (S1, S2, S3) := ⟨_, _, _, rfl⟩
    have hrs := HSS.out
    rw [hR, hS] at hrs
    obtain ⟨rfl, rfl, hle⟩ := hrs
    have hR1 := Run_any F O A X n c xn xc ops xs w10 (HP.out _ (HW.out _ HB10.out)) (HX.out _ (HW.out _ HB10.out)) (by omega)
    rw [hR] at hR1
    have HR1 := Lib.hid (hR1.mono fun _ _ h => h.parts)
    have HS0 := Lib.hid hS
    clear hR1 hR hS ks10
    go_wp2_with fail
    refine HR1.out.mono ?_; rintro e w11 ⟨SA, sn, sc, rfl, hs11, b11⟩
    have B11 := chainB HB10.out b11
    have ks11 := KS.out _ B11
    have hR2 := Run_any F O A2 X n2 c2 xn xc qs xs w11 (HQ.out _ B11) (HX.out _ (HW.out _ B11)) (by omega)
    rw [HS0.out] at hR2
    have HR2 := Lib.hid (hR2.mono fun _ _ h => h.parts)
    have p0 : w11.cell? ⟨w5.heap.size, 0, none⟩ = some (.int .i64 F) := cell_of_block ks11.2.1 rfl
    have p1 : w11.cell? ⟨w5.heap.size, 1, none⟩ = some (.int .i64 O) := cell_of_block ks11.2.1 rfl
    have p2 : w11.cell? ⟨w5.heap.size, 2, none⟩ = some (.slice A2 n2 c2) := cell_of_block ks11.2.1 rfl
    have HS11 := Lib.hid hs11.ints
    have HB11 := Lib.hid B11
    clear t0 t1 t2 HR1 hR2 hs11 b11 B11 ks11 HS0
    go_wp2_with fail
    refine HR2.out.mono ?_; rintro e w12 ⟨UA, un, uc, rfl, hu12, b12⟩
    have hS12 := (sums_any SA UA sn sc un uc _ _ w12 (HS11.out.below b12) hu12.ints).mono (fun e w' h => (show e = .returned (.bool true) ∧ ∃ q, w' = w12.drewN q from ⟨by rw [h.1, decide_eq_true rfl], h.2⟩))
    have HS12 := Lib.hid hS12
    have HB12 := Lib.hid (chainB HB11.out b12)
    have m1 : (S2.length : Int) ≤ (R2.length : Int) := by first | omega | exact_mod_cast hle
    have m2 : decide ((S2.length : Int) ≤ (R2.length : Int)) = true := by simpa using m1
    have m3 : decide (S2.length ≤ R2.length) = true := by simpa using hle
    clear p0 p1 p2 HR2 hS12 hu12 b12 HS11
    go_wp2_with fail
    refine HS12.out.mono ?_; rintro e w13 ⟨rfl, q13, rfl⟩
    have HB13 := Lib.hid (HW.out _ (chainB HB12.out (drewN_below w12 q13)))
    go_wp2
    go_ret
    exact ⟨rfl, HB13.out⟩
  · have hv : tidyV F O ops = ([], K1) := by unfold tidyV; rw [HK.out, if_pos hk]
    rw [hv] at hTd
    have HTD := Lib.hid (hTd.mono fun _ _ h => h.no hk)
    have f1 : (K1 != 0) = true := by simpa using hk
    have f2 : decide (K1 = 0) = false := by simpa using hk
    clear hTd hv hk
    go_wp2_with fail
    refine HTD.out.mono ?_; rintro e w5 ⟨A2, n2, c2, rfl, ho, b5⟩
    obtain rfl : 0 = n2 := ho.len
    have HB5 := Lib.hid (below_then B4 B4.size b5)
    clear p0 p1 p2 HTD b5 B4 k4
    go_upto_region 5 with (fail)
    have b6 := (Below.refl w5.heap.size w5).alloc (Nat.le_refl _) (.cells #[.int .i64 0, .int .i64 0, .slice A2 0 c2] 30)
    have h6 := heap_alloc_new w5 (.cells #[.int .i64 0, .int .i64 0, .slice A2 0 c2] 30)
    generalize w5.alloc (.cells #[.int .i64 0, .int .i64 0, .slice A2 0 c2] 30) = w6 at b6 h6 ⊢
    have p2 : w6.cell? ⟨w5.heap.size, 2, none⟩ = some (.slice A2 0 c2) := cell_of_block h6 rfl
    have HB6 := Lib.hid (below_then HB5.out HB5.out.size b6)
    clear b6 h6
    go_wp2
    go_ret
    exact ⟨rfl, HB6.out⟩

end Go.Proofs.YtekcpapkicmckaaGreatDoor
