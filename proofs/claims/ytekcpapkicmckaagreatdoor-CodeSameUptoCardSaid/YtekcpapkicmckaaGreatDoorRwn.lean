/- The walk of thicketlaw19.CodeCan. -/
import Derived.Test.YtekcpapkicmckaaGreatDoorRwr
import Derived.Test.YtekcpapkicmckaaGreatDoorSco
import Derived.Test.YtekcpapkicmckaaGreatDoorEns
namespace Go.Proofs.YtekcpapkicmckaaGreatDoor
open Go.RowKit

theorem Score_any (name : ByteArray) (FA : Option Addr) (fn fc : Nat) (O : Int) (BA : Option Addr) (bn bc : Nat) (TA : Option Addr) (tn tc : Nat) (X : Option Addr) (xn xc : Nat) (base : List Int) (ts : List TrV) (xs : List Nat) (w : World) (hb : Ints w BA bn bc base) (ht : TrsAt w TA tn tc ts) (hx : Sl w X xn xc (fls xs)) (hbn : bn ≤ 1000000000000) :
    Calls Tryz.prog 30 #[.agg #[.string name, .slice FA fn fc, .int .i64 O, .slice BA bn bc, .slice TA tn tc], .slice X xn xc] w (ScorePost (scoreK (fn : Int) O base ts xn) (treesSum xs ts base) w) := by
  by_cases hbad : O < 1 ∨ (bn : Int) ≠ O ∨ xn ≠ fn
  · exact Score_bad name FA fn fc O BA bn bc TA tn tc X xn xc base _ ts w hb.len hbad
  · obtain rfl : xn = fn := by omega
    have := Score_good name FA xn fc O BA bn bc TA tn tc X xc base ts xs w hb ht hx (by omega) (by omega) hbn
    unfold scoreK
    rw [hb.len, if_neg (by omega), if_neg (by simp)]
    exact this
theorem Compile_any (name : ByteArray) (FA : Option Addr) (fn fc : Nat) (O : Int) (BA : Option Addr) (bn bc : Nat) (TA : Option Addr) (tn tc : Nat) (base : List Int) (ts : List TrV) (w : World) (hb : Ints w BA bn bc base) (ht : TrsAt w TA tn tc ts) (hsum : manyNodes ts ≤ 1048576) :
    Calls Tryz.prog 13 #[.agg #[.string name, .slice FA fn fc, .int .i64 O, .slice BA bn bc, .slice TA tn tc]] w (CompilePost (fn : Int) O (compileV (fn : Int) O base ts) w) := by
  by_cases hbad : O < 1 ∨ 64 < O ∨ (bn : Int) ≠ O ∨ 65536 < (fn : Int)
  · exact Compile_size name FA fn fc O BA bn bc TA tn tc base ts w hb.len hbad
  · exact Compile_good name FA fn fc O BA bn bc TA tn tc base ts w hb ht (by omega) (by omega) (by omega) (by omega) (by omega)
theorem CompilePost.with {F O K FF OO : Int} {T : List OpV} {w : World} {e : Ending} {w' : World} (h1 : (if K = 0 then F else 0) = FF) (h2 : (if K = 0 then O else 0) = OO) (h : CompilePost F O (T, K) w e w') :
    ∃ A n c, e = .returned (.tuple #[.agg #[.int .i64 FF, .int .i64 OO, .slice A n c], .int .i64 K]) ∧ OwnOps w' w.heap.size A n c T ∧ Below w.heap.size w w' := by
  subst h1 h2
  exact h
theorem compile_none {F O K : Int} {base : List Int} {ts : List TrV} {T : List OpV} (h : compileV F O base ts = (T, K)) (hk : K ≠ 0) : T = [] := by
  unfold compileV at h
  split at h
  · exact (Prod.mk.inj h).1.symm
  · split at h
    · exact (Prod.mk.inj h).1.symm
    · exact absurd (Prod.mk.inj h).2.symm hk
/-- what Score takes, of at most 64 outputs, has a program -/
theorem score_compile {F O : Int} {base : List Int} {ts : List TrV} {m : Nat} (h : scoreK F O base ts m = 0) (hO : O ≤ 64) (hF : F ≤ 65536) : (compileV F O base ts).2 = 0 := by
  unfold scoreK at h
  split at h
  · cases h
  · split at h
    · cases h
    · unfold compileV
      rw [if_neg (by omega), h, if_neg (by simp)]

set_option maxHeartbeats 4000000 in
set_option maxRecDepth 100000 in
theorem can_true (name : ByteArray) (FA : Option Addr) (fn fc : Nat) (O : Int) (BA : Option Addr) (bn bc : Nat) (TA : Option Addr) (tn tc : Nat) (X : Option Addr) (xn xc : Nat) (feats : List ByteArray) (base : List Int) (ts : List TrV) (xs : List Nat) (w : World)
    (he : EnsAt w name FA fn fc BA bn bc TA tn tc feats base ts) (hx : Sl w X xn xc (fls xs)) (hT : TabsS w) :
    Calls Tryz.prog 9 #[.agg #[.string name, .slice FA fn fc, .int .i64 O, .slice BA bn bc, .slice TA tn tc], .slice X xn xc] w fun e w' => e = .returned (.bool true) ∧ Below w.heap.size w w' := by
  have HBS := Lib.hid (fun W (h : Below w.heap.size w W) => he.base.below h)
  have HTS := Lib.hid (fun W (h : Below w.heap.size w W) => he.trees.below h)
  have HX := Lib.hid (fun W (h : Below w.heap.size w W) => hx.below h)
  have HT := Lib.hid (fun W (h : Below w.heap.size w W) => hT.below h)
  have hbm := he.bmany
  have hfm := he.fmany
  have hnm := he.nodes
  have HBL := Lib.hid he.base.len
  obtain ⟨K1, hK1⟩ : ∃ K1, scoreK (fn : Int) O base ts xn = K1 := ⟨_, rfl⟩
  obtain ⟨T, K2, hK2⟩ : ∃ T K2, compileV (fn : Int) O base ts = (T, K2) := ⟨_, _, rfl⟩
  obtain ⟨FF, hFF⟩ : ∃ FF, (if K2 = 0 then (fn : Int) else 0) = FF := ⟨_, rfl⟩
  obtain ⟨OO, hOO⟩ : ∃ OO, (if K2 = 0 then O else 0) = OO := ⟨_, rfl⟩
  have HK1 := Lib.hid hK1
  have HK2 := Lib.hid hK2
  have HFF := Lib.hid hFF
  have HOO := Lib.hid hOO
  have HNM := Lib.hid hnm
  clear he hx hT hK1 hK2 hFF hOO hnm
  go_enter Tryz.func9, Tryz.ntmps9
  go_upto_region 1 with (fail)
  have b2 := (Below.refl w.heap.size w).alloc (Nat.le_refl _) (.cells #[.string name, .slice FA fn fc, .int .i64 O, .slice BA bn bc, .slice TA tn tc] 26)
  have k2 := heap_alloc_new w (.cells #[.string name, .slice FA fn fc, .int .i64 O, .slice BA bn bc, .slice TA tn tc] 26)
  generalize w.alloc (.cells #[.string name, .slice FA fn fc, .int .i64 O, .slice BA bn bc, .slice TA tn tc] 26) = w2 at b2 k2 ⊢
  have HL := Lib.hid (lives_any w2 (HT.out _ b2))
  go_wp2_with fail
  refine HL.out.mono ?_; rintro e w3 ⟨rfl, b3⟩
  have B3 := below_then b2 b2.size b3
  have k3 := (b3.block _ (lt_of_block k2)).trans k2
  clear b2 k2 b3 HL
  have p0 : w3.cell? ⟨w.heap.size, 0, none⟩ = some (.string name) := cell_of_block k3 rfl
  have p1 : w3.cell? ⟨w.heap.size, 1, none⟩ = some (.slice FA fn fc) := cell_of_block k3 rfl
  have p2 : w3.cell? ⟨w.heap.size, 2, none⟩ = some (.int .i64 O) := cell_of_block k3 rfl
  have p3 : w3.cell? ⟨w.heap.size, 3, none⟩ = some (.slice BA bn bc) := cell_of_block k3 rfl
  have p4 : w3.cell? ⟨w.heap.size, 4, none⟩ = some (.slice TA tn tc) := cell_of_block k3 rfl
  have hS := Score_any name FA fn fc O BA bn bc TA tn tc X xn xc base ts xs w3 (HBS.out _ B3) (HTS.out _ B3) (HX.out _ B3) (by omega)
  rw [HK1.out] at hS
  unfold ScorePost at hS
  have HS := Lib.hid hS
  have HB3 := Lib.hid B3
  have HK3 := Lib.hid k3
  clear hS B3 k3
  go_wp2_with fail
  refine HS.out.mono ?_; rintro e w4 ⟨SA, sn, sc, l, rfl, -, b4, -⟩
  have B4 := below_then HB3.out HB3.out.size b4
  have k4 := (b4.block _ (lt_of_block HK3.out)).trans HK3.out
  clear p0 p1 p2 p3 p4 HS b4
  have p0 : w4.cell? ⟨w.heap.size, 0, none⟩ = some (.string name) := cell_of_block k4 rfl
  have p1 : w4.cell? ⟨w.heap.size, 1, none⟩ = some (.slice FA fn fc) := cell_of_block k4 rfl
  have p2 : w4.cell? ⟨w.heap.size, 2, none⟩ = some (.int .i64 O) := cell_of_block k4 rfl
  have p3 : w4.cell? ⟨w.heap.size, 3, none⟩ = some (.slice BA bn bc) := cell_of_block k4 rfl
  have p4 : w4.cell? ⟨w.heap.size, 4, none⟩ = some (.slice TA tn tc) := cell_of_block k4 rfl
  have hC := Compile_any name FA fn fc O BA bn bc TA tn tc base ts w4 (HBS.out _ B4) (HTS.out _ B4) HNM.out
  rw [HK2.out] at hC
  have HC := Lib.hid (hC.mono fun _ _ h => h.with HFF.out HOO.out)
  have HB4 := Lib.hid B4
  have HK4 := Lib.hid k4
  clear hC B4 k4
  go_wp2_with fail
  refine HC.out.mono ?_; rintro e w5 ⟨PA, pn, pc, rfl, ho, b5⟩
  have B5 := below_then HB4.out HB4.out.size b5
  have k5 := (b5.block _ (lt_of_block HK4.out)).trans HK4.out
  clear p0 p1 p2 p3 p4 HC b5
  have HO := Lib.hid ho
  clear ho
  go_upto_region 5 with (fail)
  have b6 := (Below.refl w5.heap.size w5).alloc (Nat.le_refl _) (.cells #[.int .i64 FF, .int .i64 OO, .slice PA pn pc] 30)
  have h6 := heap_alloc_new w5 (.cells #[.int .i64 FF, .int .i64 OO, .slice PA pn pc] 30)
  generalize w5.alloc (.cells #[.int .i64 FF, .int .i64 OO, .slice PA pn pc] 30) = w6 at b6 h6 ⊢
  have hq6 := HO.out.opsAt.below b6
  have k6 := (b6.block _ (lt_of_block k5)).trans k5
  have B6 := below_then B5 B5.size b6
  have HB6 := Lib.hid B6
  have e1 : w6.cell? ⟨w.heap.size, 1, none⟩ = some (.slice FA fn fc) := cell_of_block k6 rfl
  have e2 : w6.cell? ⟨w.heap.size, 2, none⟩ = some (.int .i64 O) := cell_of_block k6 rfl
  have p0 : w6.cell? ⟨w5.heap.size, 0, none⟩ = some (.int .i64 FF) := cell_of_block h6 rfl
  have p1 : w6.cell? ⟨w5.heap.size, 1, none⟩ = some (.int .i64 OO) := cell_of_block h6 rfl
  have p2 : w6.cell? ⟨w5.heap.size, 2, none⟩ = some (.slice PA pn pc) := cell_of_block h6 rfl
  have HQ6 := Lib.hid hq6
  have HK6 := Lib.hid k6
  have HH6 := Lib.hid h6
  clear hq6 k6 h6 b6 B5 B6 k5
  obtain ⟨y2, hy2⟩ : ∃ y, (K2 == 0) = y := ⟨_, rfl⟩
  have hy3 : decide (K2 = 0) = y2 := by rw [← hy2]; rfl
  have HY2 := Lib.hid hy3
  have HPN := Lib.hid (show y2 = false → pn = 0 by
    intro h
    have hk : K2 ≠ 0 := by intro h2; rw [h2] at hy3; rw [← hy3] at h; simp at h
    have := HO.out.len
    rw [compile_none HK2.out hk] at this
    exact this.symm)
  by_cases hbad : K1 ≠ 0 ∨ 64 < O ∨ 65536 < (fn : Int)
  · have hbad2 : ((K1 != 0) = true) ∨ ((K1 != 0) = false ∧ decide (64 < O) = true) ∨ ((K1 != 0) = false ∧ decide (64 < O) = false ∧ decide (65536 < (fn : Int)) = true) := by
      by_cases h1 : K1 ≠ 0
      · exact .inl (by simpa using h1)
      · by_cases h2 : 64 < O
        · exact .inr (.inl ⟨by simpa using h1, by simpa using h2⟩)
        · exact .inr (.inr ⟨by simpa using h1, by simpa using h2, decide_eq_true (by omega)⟩)
    clear hbad hy2 hy3
    cases y2
    · obtain rfl := HPN.out rfl
      have z1 : (K2 == 0) = false := HY2.out
      have z2 : decide (K2 = 0) = false := HY2.out
      rcases hbad2 with g1 | ⟨g1, g2⟩ | ⟨g1, g2, g3⟩
      all_goals
        go_wp2
        go_ret
        exact ⟨rfl, HB6.out⟩
    · have z1 : (K2 == 0) = true := HY2.out
      have z2 : decide (K2 = 0) = true := HY2.out
      rcases hbad2 with g1 | ⟨g1, g2⟩ | ⟨g1, g2, g3⟩
      all_goals
        go_wp2
        go_ret
        exact ⟨rfl, HB6.out⟩
  · have hk1 : K1 = 0 := by omega
    have h2 : O ≤ 64 := by omega
    have h3 : (fn : Int) ≤ 65536 := by omega
    have hsc := HK1.out
    rw [hk1] at hsc
    have hco := score_compile hsc h2 h3
    have hrp := compile_right (show (0 : Int) ≤ (fn : Int) by omega) hco
    rw [HK2.out] at hco hrp
    simp only at hco hrp
    have hff : FF = (fn : Int) := by rw [← HFF.out, if_pos hco]
    have hoo : OO = O := by rw [← HOO.out, if_pos hco]
    subst hff hoo hco hk1
    have hCk := Check_any (fn : Int) OO PA pn pc T w6 HQ6.out
    rw [check_of hrp] at hCk
    have HCK := Lib.hid hCk
    unfold chkOf at HCK
    have g2 : decide (64 < OO) = false := by simpa using h2
    have g3 : decide (65536 < (fn : Int)) = false := by simpa using h3
    clear hbad hsc hrp hCk hy2 hy3 h2 h3
    go_wp2_with fail
    refine HCK.out.mono ?_; rintro e w7 ⟨rfl, b7⟩
    have k7 := (b7.block _ (lt_of_block HK6.out)).trans HK6.out
    have h7 := (b7.block _ (lt_of_block HH6.out)).trans HH6.out
    have HB7 := Lib.hid (below_then HB6.out HB6.out.size b7)
    clear e1 e2 p0 p1 p2 b7
    have e1 : w7.cell? ⟨w.heap.size, 1, none⟩ = some (.slice FA fn fc) := cell_of_block k7 rfl
    have e2 : w7.cell? ⟨w.heap.size, 2, none⟩ = some (.int .i64 OO) := cell_of_block k7 rfl
    have p0 : w7.cell? ⟨w5.heap.size, 0, none⟩ = some (.int .i64 (fn : Int)) := cell_of_block h7 rfl
    have p1 : w7.cell? ⟨w5.heap.size, 1, none⟩ = some (.int .i64 OO) := cell_of_block h7 rfl
    clear k7 h7
    go_wp2
    go_ret
    exact ⟨rfl, HB7.out⟩

end Go.Proofs.YtekcpapkicmckaaGreatDoor
