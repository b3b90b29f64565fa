/- floats.Read of a decimal text: the nearest number. -/
import Derived.Test.YtbcpfdeklglknaaGreatDoorGqu
import Derived.Test.YtbcpfdeklglknaaGreatDoorInf
namespace Go.Proofs.YtbcpfdeklglknaaGreatDoor
open Go.RowKit

theorem Tryz.f64one (W : World) : (convert 25 3 (.float .f64 4607182418800017408)).run Tryz.prog W = .ok (.int .i64 1) W := by kernel_rfl

set_option maxRecDepth 100000 in
set_option maxHeartbeats 1000000 in
theorem nearest_zero (B : Option Addr) (m d : Nat) (w : World) :
    Calls Tryz.prog 37 #[.agg #[.int .i64 53, .int .i64 (-1074), .int .i64 971], .slice none 0 0, .slice B m d] w fun e w' => e = .returned (.tuple #[.int .u64 0, .int .i64 (-1074), .bool true]) ∧ Below w.heap.size w w' := by
  have hw := (Below.refl w.heap.size w).alloc (Nat.le_refl _) (.cells #[.int .i64 53, .int .i64 (-1074), .int .i64 971] 68)
  have hkf := heap_alloc_new w (.cells #[.int .i64 53, .int .i64 (-1074), .int .i64 971] 68)
  have HL := fun W => Len_any none 0 0 [] W (Own.nil W 0).num
  simp only [show ((blen (val []) : Nat) : Int) = 0 by decide] at HL
  replace HL := Lib.hid HL
  go_enter Tryz.func37, Tryz.ntmps37
  go_wp2_with fail
  generalize w.alloc (.cells #[.int .i64 53, .int .i64 (-1074), .int .i64 971] 68) = w0 at hw hkf ⊢
  have c1 : w0.cell? ⟨w.heap.size, 1, none⟩ = some (.int .i64 (-1074)) := cell_of_block hkf rfl
  refine (HL.out _).mono ?_; rintro e w1 ⟨rfl, rfl⟩
  go_wp2
  go_quiet (fail)
  go_wp2
  refine bodyPost_ret (v := .tuple #[.int .u64 0, .int .i64 (-1074), .bool true]) (by simp [results, Tryz.results37, go_sem]) rfl ⟨rfl, hw.trans ⟨rfl, rfl, rfl, Nat.le_refl _, fun _ _ => rfl⟩⟩

set_option maxRecDepth 100000 in
set_option maxHeartbeats 1000000 in
theorem number_zero (B : Option Addr) (m d : Nat) (w : World) (hg : WideAt w) :
    Calls Tryz.prog 16 #[.bool false, .slice none 0 0, .slice B m d] w fun e w' => e = .returned (.float .f64 0) ∧ Below w.heap.size w w' := by
  have HQ := Lib.hid (nearest_zero B m d w)
  obtain ⟨c0, c1, c2⟩ := hg
  have ez := Tryz.f64fromZ
  go_enter Tryz.func16, Tryz.ntmps16
  go_wp2_with fail
  refine HQ.out.mono ?_; rintro e w1 ⟨rfl, hb⟩
  go_wp2
  go_ret
  exact ⟨rfl, hb⟩

set_option maxRecDepth 100000 in
set_option maxHeartbeats 2000000 in
theorem Read_dec (s dg pw : ByteArray) (b K P N : Nat) (w : World) (hW : WideAt w) (hs : s.size ≤ 4096) (h0 : 0 < s.size) (hd0 : isDig s[0].toNat = true) (hF : Fig s dg b pw)
    (hN : dv dg.data.toList = N) (hdig : AllDig dg.data.toList) (hd1 : 0 < dg.size) (hd2 : dg.size ≤ 4096) (hP : PowIs pw K) (hPK : K + b = P) (hPs : P ≤ 16000) :
    Calls Tryz.prog 6 #[.string s] w fun e w' => ∃ z, e = .returned (.tuple #[.float .f64 z, .int .i64 0, .int .i64 0]) ∧ RdIs N P z ∧ Below w.heap.size w w' := by
  have HT := Lib.hid (taken_any s dg pw b w hs h0 hd0 hF)
  have HQ0 := Lib.hid (fun W => quotient_any dg pw b K P N _ W hN rfl hdig hd1 hd2 hP hPK hPs)
  have HI := Lib.hid Inf_pos
  have HC := Lib.hid Copysign_pos
  have hWW := Lib.hid hW
  clear hW
  have hcv := Tryz.f64one
  go_enter Tryz.func6, Tryz.ntmps6
  go_wp2_with fail
  refine HT.out.mono ?_; rintro e w1 ⟨rfl, b1⟩
  have B2 := b1.alloc b1.size (.cells (tcells dg b pw) 35)
  have T2 : TextOf (w1.alloc (.cells (tcells dg b pw) 35)) w1.heap.size dg b pw := heap_alloc_new w1 _
  go_upto_region 2 with (fail)
  generalize w1.alloc (.cells (tcells dg b pw) 35) = w2 at B2 T2 ⊢
  have c0 : w2.cell? ⟨w1.heap.size, 0, none⟩ = some (.bool false) := cell_of_block T2 rfl
  have c1 : w2.cell? ⟨w1.heap.size, 1, none⟩ = some (.bool false) := cell_of_block T2 rfl
  have c2 : w2.cell? ⟨w1.heap.size, 2, none⟩ = some (.bool false) := cell_of_block T2 rfl
  have c3 : w2.cell? ⟨w1.heap.size, 3, none⟩ = some (.string dg) := cell_of_block T2 rfl
  have c4 : w2.cell? ⟨w1.heap.size, 4, none⟩ = some (.bool false) := cell_of_block T2 rfl
  have c5 : w2.cell? ⟨w1.heap.size, 5, none⟩ = some (.int .i64 (b : Int)) := cell_of_block T2 rfl
  have c6 : w2.cell? ⟨w1.heap.size, 6, none⟩ = some (.string pw) := cell_of_block T2 rfl
  have HQ := Lib.hid (HQ0.out w2)
  clear HQ0 hF hP
  go_wp2_with fail
  refine HQ.out.mono ?_; intro e w3 hq
  rcases hq with ⟨hz, B, m, d, ys, rfl, hb, hm, b3⟩ | ⟨hz, hl, B, m, d, rfl, b3⟩ | ⟨hz, hl, B, m, d, rfl, b3⟩ | ⟨hz, hl, hl2, A, n, c, B, m, d, xs, ys, rfl, ha, hb, hv, hv2, hn, hm, b3⟩
  · have T3 := T2.below b3
    have B3 := below_then B2 (by have := B2.size; omega) b3
    have c0 : w3.cell? ⟨w1.heap.size, 0, none⟩ = some (.bool false) := cell_of_block T3 rfl
    have HNU := Lib.hid (number_zero B m d w3 (hWW.out.below B3))
    clear T2 T3 c1 c2 c3 c4 c5 c6 hb HT HQ
    go_wp2_with fail
    refine HNU.out.mono ?_
    rintro e w4 ⟨rfl, b4⟩
    have B4 := below_then B3 (by have := B3.size; omega) b4
    go_wp2
    go_ret3
    exact ⟨_, rfl, .inl ⟨hz, rfl⟩, B4⟩
  · have B3 := below_then B2 (by have := B2.size; omega) b3
    clear T2 c1 c2 c3 c4 c5 c6 HT HQ
    go_wp2_with fail
    refine (HI.out _).mono ?_
    rintro e w4 ⟨rfl, rfl⟩
    go_wp2
    go_ret3
    exact ⟨_, rfl, .inr ⟨hz, .inl ⟨hl, rfl⟩⟩, B3⟩
  · have B3 := below_then B2 (by have := B2.size; omega) b3
    clear T2 c1 c2 c3 c4 c5 c6 HT HQ
    go_wp2_with fail
    refine (HC.out _).mono ?_
    rintro e w4 ⟨rfl, rfl⟩
    go_wp2
    go_ret3
    exact ⟨_, rfl, .inr ⟨hz, .inr (.inl ⟨hl, rfl⟩)⟩, B3⟩
  · have T3 := T2.below b3
    have B3 := below_then B2 (by have := B2.size; omega) b3
    have c0 : w3.cell? ⟨w1.heap.size, 0, none⟩ = some (.bool false) := cell_of_block T3 rfl
    have HNU := number_any false A B n c m d xs ys w3 (hWW.out.below B3) ha hb (by rw [hv]; exact hz) (by rw [hv2]; exact Nat.ne_of_gt (Nat.pow_pos (by omega))) (by omega) (by omega)
    rw [hv, hv2] at HNU
    obtain ⟨D, hD⟩ : ∃ D, 10 ^ P = D := ⟨_, rfl⟩
    have HDD := Lib.hid hD
    rw [hD] at HNU
    replace HNU := Lib.hid HNU
    clear hv hv2 hD T2 T3 c1 c2 c3 c4 c5 c6 ha hb HT HQ
    go_wp2_with fail
    refine HNU.out.mono ?_
    rintro e w4 ⟨e0, hE, rfl, b4⟩
    have B4 := below_then B3 (by have := B3.size; omega) b4
    have HEE := Lib.hid hE
    clear hE
    go_wp2
    go_ret3
    exact ⟨_, rfl, .inr ⟨hz, .inr (.inr ⟨hl, hl2, e0, by rw [HDD.out]; exact HEE.out, by rw [HDD.out]⟩)⟩, B4⟩

end Go.Proofs.YtbcpfdeklglknaaGreatDoor
