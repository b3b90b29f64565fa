/- The reference's nearest and Nearest (thicketref02). -/
import Derived.Test.YtilbadhadnockaaDoorRefD
import Derived.Test.YtilbadhadnockaaDoorNearN
import Derived.Test.YtilbadhadnockaaDoorWide
import Derived.BigQuiet
namespace Go.Proofs.YtilbadhadnockaaDoor
open Go.RowKit

theorem rsize_quiet (A : Option Addr) (n c a : Nat) (w : World) (hr : Num w A n c (limbs a)) (q : Nat) :
    Calls Tryd.prog 23 #[.slice A n c] (w.drewN q) fun e w' => e = .returned (.int .i64 (blen a : Nat)) ∧ w' = w.drewN q :=
  (rsize_any A n c a _ (hr.drewN q)).mono fun _ _ ⟨h1, h2⟩ => ⟨h1, h2.symm⟩

set_option maxRecDepth 100000 in
set_option maxHeartbeats 2000000 in
theorem rnearest_any (A B : Option Addr) (n c m d N D : Nat) (w : World) (hx : Num w A n c (limbs N)) (hy : Num w B m d (limbs D)) (hN : N ≠ 0) (hD : D ≠ 0) (hn : n ≤ 35184372087808) (hm : m ≤ 35184372087808) :
    Calls Tryd.prog 16 #[.slice A n c, .slice B m d, .agg #[.int .i64 53, .int .i64 (-1074), .int .i64 971]] w fun e w' =>
      ∃ e0, IsE N D e0 ∧ e = .returned (.agg #[.bool false, .bool (nearNum N D e0).1, .bool false, .int .u64 (nearNum N D e0).2.1, .int .i64 (nearNum N D e0).2.2]) ∧ Below w.heap.size w w' := by
  have hB : ∀ o, Below w.heap.size w (w.alloc o) := fun o => (Below.refl _ _).alloc (Nat.le_refl _) o
  have hla2 : blen N ≤ 32 * n := blen_le (by rw [← pow_limC, ← hx.len]; exact limbs_lt_pow N)
  have hlb2 : 32 * m ≤ blen D + 31 := by
    have h1 := blen_limbs hD
    have h2 := blen_pos (nth_limbs_top hD)
    rw [hy.len] at h1 h2
    omega
  have hlb3 : blen D ≤ 32 * m := blen_le (by rw [← pow_limC, ← hy.len]; exact limbs_lt_pow D)
  have HNF := Lib.hid (fun e (h : e + 54 ≤ (blen N : Int) - blen D) => not_fits (D := D) hN h)
  have HYF := Lib.hid (fun e (h : (blen N : Int) - blen D ≤ e + 52) => fits_of (N := N) hD h)
  go_enter Tryd.func16, Tryd.ntmps16
  go_wp2
  generalize hw0 : (w.alloc _).alloc _ = w0
  have hB0 : Below w.heap.size w w0 := by rw [← hw0]; exact (hB _).alloc (by simp) _
  have hz0 : w0.heap.size = w.heap.size + 2 := by rw [← hw0]; simp
  have hkf : w0.heap[w.heap.size]? = some (.cells #[.int .i64 53, .int .i64 (-1074), .int .i64 971] 35 (0, 0)) := by
    rw [← hw0, Below.heap_alloc _ _ _ (by simp)]; exact heap_alloc_new w _
  have hkn : w0.heap[w.heap.size + 1]? = some (.cells #[.bool false, .bool false, .bool false, .int .u64 0, .int .i64 0] 31 (0, 0)) := by
    rw [← hw0]
    have := heap_alloc_new (w.alloc (.cells #[.int .i64 53, .int .i64 (-1074), .int .i64 971] 35)) (.cells #[.bool false, .bool false, .bool false, .int .u64 0, .int .i64 0] 31)
    rwa [show (w.alloc (.cells #[.int .i64 53, .int .i64 (-1074), .int .i64 971] 35)).heap.size = w.heap.size + 1 by simp] at this
  have hx0 := hx.below hB0
  have hy0 := hy.below hB0
  have HS1 := Lib.hid (rsize_quiet _ _ _ _ w0 hx0)
  have HS2 := Lib.hid (rsize_quiet _ _ _ _ w0 hy0)
  have HX := Lib.hid hx0
  have HY := Lib.hid hy0
  have HB0 := Lib.hid hB0
  have HKF := Lib.hid hkf
  have HKN := Lib.hid hkn
  have HZ := Lib.hid hz0
  have hc0 : w0.cell? ⟨w.heap.size, 0, none⟩ = some (.int .i64 53) := by simp [World.cell?, hkf]
  have hc1 : w0.cell? ⟨w.heap.size, 1, none⟩ = some (.int .i64 (-1074)) := by simp [World.cell?, hkf]
  have hl1 := hx.sl.big
  clear hx hy hx0 hy0 hB0 hkf hkn hz0 hB hw0
  generalize blen N = la at *
  generalize blen D = lb at *
  go_quiet (first | (go_at_call 23; with_reducible refine Calls.quiet_of_same (HS1.out _)) | (go_at_call 23; with_reducible refine Calls.quiet_of_same (HS2.out _)))
  obtain ⟨M, hM1, hM2, hM3⟩ : ∃ M : Int, -1074 ≤ M ∧ (la : Int) - lb - 52 ≤ M ∧ (M = -1074 ∨ M = (la : Int) - lb - 52) := ⟨max ((la : Int) - lb - 52) (-1074), by omega, by omega, by omega⟩
  have hM4 : (m : Int) + M / 32 ≤ n ∨ M = -1074 := by omega
  obtain ⟨j0, hj0⟩ : ∃ j0 : Int, (la : Int) - lb - 53 - 1 = j0 := ⟨_, rfl⟩
  have HJ := Lib.hid hj0
  rw [hj0]
  have HL := Lib.hid (show Below w0.heap.size w0 (w0.drewN nq) from ⟨rfl, rfl, rfl, Nat.le_refl _, fun _ _ => rfl⟩)
  have hr1 : (la : Int) ≤ 1125899906842624 := by omega
  have hr2 : (lb : Int) ≤ 1125899906842624 := by omega
  clear HS1 HS2 hj0
  generalize hw1 : w0.drewN nq = w1 at *
  have hc0 : w1.cell? ⟨w.heap.size, 0, none⟩ = some (.int .i64 53) := by rw [← hw1]; exact hc0
  have hc1 : w1.cell? ⟨w.heap.size, 1, none⟩ = some (.int .i64 (-1074)) := by rw [← hw1]; exact hc1
  clear hw1
  go_upto_if 25 with fail
  go_cut [7, 25] from 26 to 27 (fun ev _tv wx => wx = w1 ∧ ∃ e : Int, ev = .int .i64 e ∧ -1074 ≤ e ∧ e ≤ M ∧ Hid (e = -1074 ∨ ¬ fits N D (e - 1)))
  case first =>
    have hM5 := Lib.hid hM1
    have hM6 := Lib.hid hM2
    have HM7 : Hid (¬ j0 < -1074 → j0 ≤ M) := Lib.hid (fun _ => by have := HJ.out; omega)
    have HM8 : Hid (j0 + 54 ≤ (la : Int) - lb) := Lib.hid (by have := HJ.out; omega)
    clear hr1 hr2 hl1 hla2 hlb2 hlb3 hM1 hM2 hM3 hM4 hn hm
    by_cases hj : j0 < -1074
    · have hjb := decide_eq_true hj
      have HJ2 := Lib.hid hj
      go_wp2_with fail
      go_meet
      exact ⟨rfl, -1074, rfl, by omega, by have := hM5.out; omega, Lib.hid (.inl rfl)⟩
    · have hjb := decide_eq_false hj
      have HJ2 := Lib.hid hj
      go_wp2_with fail
      go_meet
      exact ⟨rfl, j0, rfl, by have := HJ2.out; omega, HM7.out HJ2.out, Lib.hid (.inr (HNF.out _ (by have := HM8.out; omega)))⟩
  case rest =>
    obtain ⟨rfl, e0, rfl, hs1, hs2, HS0⟩ := hcut
    go_wp2
    go_loopw [7] (fun ev wr => ∃ e : Int, ev = .int .i64 e ∧ -1074 ≤ e ∧ e ≤ M ∧ Hid (e = -1074 ∨ ¬ fits N D (e - 1)) ∧ Below w0.heap.size w0 wr) (fun ev _ => (M - intOf ev).toNat)
    case atStart => exact ⟨e0, rfl, hs1, hs2, HS0, HL.out⟩
    case round =>
      obtain ⟨e, rfl, he1, he2, HE, hb⟩ := hrel
      clear hc0 hc1
      have hbz := hb.size
      have hz := HZ.out
      have hkw := (hb.block w.heap.size (by omega)).trans HKF.out
      have hkn := (hb.block (w.heap.size + 1) (by omega)).trans HKN.out
      have hxr := HX.out.below hb
      have hyr := HY.out.below hb
      obtain ⟨X, hX⟩ : ∃ X, sideA N e = X := ⟨_, rfl⟩
      obtain ⟨Y, hY⟩ : ∃ Y, sideB D e = Y := ⟨_, rfl⟩
      have HF : Hid (fits N D e ↔ X < 9007199254740992 * Y) := Lib.hid (by unfold fits; rw [hX, hY])
      have HM : Hid (nearM N D e = rnd (X / Y) (X % Y) Y) := Lib.hid (by unfold nearM; rw [hX, hY])
      have hX0 : X ≠ 0 := by rw [← hX]; exact Nat.ne_of_gt (Nat.mul_pos (by omega) (Nat.pow_pos (by omega)))
      have hY0 : Y ≠ 0 := by rw [← hY]; exact Nat.ne_of_gt (Nat.mul_pos (by omega) (Nat.pow_pos (by omega)))
      have HNX : Hid ((limbs N).length ≤ n) := Lib.hid (by rw [hxr.len]; omega)
      have HNY : Hid ((limbs D).length ≤ m) := Lib.hid (by rw [hyr.len]; omega)
      have HFM : Hid (¬ fits N D e → e + 1 ≤ M) := Lib.hid (fun h => by
        apply Classical.byContradiction
        intro h2
        exact h (HYF.out e (by omega)))
      have HLX : Hid ((limbs X).length < 35184372088000) := by
        refine Lib.hid ?_
        have := len_shift N n (-e).toNat HNX.out
        rw [show N * 2 ^ (-e).toNat = X from hX] at this
        omega
      have HLY : Hid ((limbs Y).length < 35184372088000) := by
        refine Lib.hid ?_
        have := len_shift D m e.toNat HNY.out
        rw [show D * 2 ^ e.toNat = Y from hY] at this
        omega
      clear hr1 hr2 hl1
      go_upto_if 31 with fail
      go_cut [8, 9, 31] from 32 to 38 (fun av bv _tv wx => ∃ A2 c2 B2 d2, av = .slice A2 (limbs X).length c2 ∧ bv = .slice B2 (limbs Y).length d2 ∧ Num wx A2 (limbs X).length c2 (limbs X) ∧ Num wx B2 (limbs Y).length d2 (limbs Y) ∧ Below wr.heap.size wr wx)
      case first =>
        by_cases hs : e < 0
        · obtain ⟨k, rfl⟩ : ∃ k : Nat, e = -(k : Int) := ⟨(-e).toNat, by omega⟩
          unfold sideA at hX
          unfold sideB at hY
          rw [Int.neg_neg, Int.toNat_natCast] at hX
          rw [show (-(k : Int)).toNat = 0 by omega, Nat.pow_zero, Nat.mul_one] at hY
          have U := rup_any _ _ _ _ k wr hxr (by omega) (by omega)
          rw [val_limbs, hX] at U
          have HU := Lib.hid U
          have hm' : m = (limbs Y).length := by rw [← hY, hyr.len]
          rw [hY] at hyr
          have HYR := Lib.hid hyr
          have HM' := Lib.hid hm'
          have hk1 : 1 ≤ k := by omega
          have hk2 : k ≤ 1074 := by omega
          clear U hX hY hxr he1 he2 hyr hm'
          go_wp2_with fail
          refine HU.out.mono ?_; rintro ex w2 ⟨A2, c2, rfl, hnX, hb2⟩
          go_wp2_with fail
          go_meet
          exact ⟨A2, c2, B, d, rfl, by rw [HM'.out], hnX, by rw [← HM'.out]; exact HYR.out.below hb2, hb2⟩
        · obtain ⟨k, rfl⟩ : ∃ k : Nat, e = k := ⟨e.toNat, by omega⟩
          unfold sideA at hX
          unfold sideB at hY
          rw [Int.toNat_natCast] at hY
          rw [show (-(k : Int)).toNat = 0 by omega, Nat.pow_zero, Nat.mul_one] at hX
          have U := rup_any _ _ _ _ k wr hyr (by omega) (by omega)
          rw [val_limbs, hY] at U
          have HU := Lib.hid U
          have hm' : n = (limbs X).length := by rw [← hX, hxr.len]
          rw [hX] at hxr
          have HXR := Lib.hid hxr
          have HM' := Lib.hid hm'
          clear U hX hY hyr he1 hxr hm'
          go_wp2_with fail
          refine HU.out.mono ?_; rintro ex w2 ⟨A2, c2, rfl, hnY, hb2⟩
          go_wp2_with fail
          go_meet
          exact ⟨A, c, A2, c2, by rw [HM'.out], rfl, by rw [← HM'.out]; exact HXR.out.below hb2, hnY, hb2⟩
      case rest =>
        obtain ⟨A2, c2, B2, d2, rfl, rfl, hnX, hnY, hb2⟩ := hcut
        have hb3 := below_then hb hbz hb2
        have hkw2 := (hb2.block w.heap.size (by omega)).trans hkw
        have hkn2 := (hb2.block (w.heap.size + 1) (by omega)).trans hkn
        have hbz2 : w0.heap.size ≤ wc.heap.size := Nat.le_trans hbz hb2.size
        clear hb hb2 hkw hkn hX hY hxr hyr hc0 hc1
        have hc0 : wc.cell? ⟨w.heap.size, 0, none⟩ = some (.int .i64 53) := by simp [World.cell?, hkw2]
        have HS1 := Lib.hid (rsize_quiet _ _ _ _ _ hnX)
        have HS2 := Lib.hid (rsize_quiet _ _ _ _ _ hnY)
        have HBG := Lib.hid (size_big (Y := Y) hX0)
        have hbx : blen X ≤ 1125899906842624 := Nat.le_trans (blen_le (k := 32 * (limbs X).length) (by rw [← pow_limC]; exact limbs_lt_pow X)) (by have := HLX.out; omega)
        have hby : blen Y ≤ 1125899906842624 := Nat.le_trans (blen_le (k := 32 * (limbs Y).length) (by rw [← pow_limC]; exact limbs_lt_pow Y)) (by have := HLY.out; omega)
        have HDV := Lib.hid (fun h W (h1 : Num W A2 (limbs X).length c2 (limbs X)) (h2 : Num W B2 (limbs Y).length d2 (limbs Y)) => rdivide_any _ _ _ _ _ _ X Y W h1 h2 hY0 h HLX.out HLY.out)
        generalize blen X = bx at *
        generalize blen Y = bY at *
        generalize (limbs X).length = lX at *
        generalize (limbs Y).length = lY at *
        go_wp2
        go_quiet (first | (go_at_call 23; with_reducible refine Calls.quiet_of_same (HS1.out _)) | (go_at_call 23; with_reducible refine Calls.quiet_of_same (HS2.out _)))
        clear HS1 HS2
        have hnX2 := hnX.drewN nq
        have hnY2 := hnY.drewN nq
        have hb4 : Below w0.heap.size w0 (wc.drewN nq) := hb3.trans ⟨rfl, rfl, rfl, Nat.le_refl _, fun _ _ => rfl⟩
        have hkw3 : (wc.drewN nq).heap[w.heap.size]? = _ := hkw2
        have hkn3 : (wc.drewN nq).heap[w.heap.size + 1]? = _ := hkn2
        have hbz3 : w0.heap.size ≤ (wc.drewN nq).heap.size := hbz2
        clear hnX hnY hb3 hkw2 hkn2 hbz2 hc0
        generalize wc.drewN nq = wd at *
        have hc0 : wd.cell? ⟨w.heap.size, 0, none⟩ = some (.int .i64 53) := by simp [World.cell?, hkw3]
        by_cases hbig : bY + 55 < bx
        · have hnf := HFM.out (fun h => HBG.out hbig (HF.out.1 h))
          have HNFT : Hid (¬ fits N D e) := Lib.hid (fun h => HBG.out hbig (HF.out.1 h))
          have hbb : (55 : Int) < (bx : Int) - bY := by omega
          have hbb2 : decide (55 < (bx : Int) - bY) = true := decide_eq_true (by omega)
          have hMb : M ≤ 1125899906842624 := by omega
          clear hbx hby hn hm hla2 hlb2 hlb3 hM1 hM2 hM3 hM4 hs1 hs2 hX0 hY0 hz hkw3 hkn3 hbz3 hbig hnX2 hnY2 hc0
          go_wp2
          go_roundw
          case rel => exact ⟨e + 1, rfl, by omega, by omega, Lib.hid (.inr (by rw [show e + 1 - 1 = e by omega]; exact HNFT.out)), hb4⟩
          case measure => simp [intOf]; omega
        · have hbb : ¬ (55 : Int) < (bx : Int) - bY := by omega
          have hbb2 : decide (55 < (bx : Int) - bY) = false := decide_eq_false (by omega)
          have HD := Lib.hid (HDV.out (by omega) _ hnX2 hnY2)
          obtain ⟨q, hq⟩ : ∃ q, X / Y = q := ⟨_, rfl⟩
          obtain ⟨r, hr⟩ : ∃ r, X % Y = r := ⟨_, rfl⟩
          have HRY : Hid (r < Y) := Lib.hid (by rw [← hr]; exact Nat.mod_lt _ (by omega))
          have HQF : Hid (fits N D e ↔ q < 9007199254740992) := Lib.hid (by rw [HF.out, ← hq, Nat.div_lt_iff_lt_mul (by omega)])
          rw [hq, hr] at HD HM
          clear hq hr HDV HBG HF
          obtain ⟨lr, hlr⟩ : ∃ lr, (limbs r).length = lr := ⟨_, rfl⟩
          have hlr2 : lr ≤ lY := by have h1 := limbs_length_mono (Nat.le_of_lt HRY.out); have := hnY2.len; omega
          rw [hlr] at HD
          have HLR := Lib.hid hlr
          clear hlr
          go_wp2_with fail
          refine HD.out.mono ?_; rintro ex w3 ⟨A3, c3, rfl, hnR, hb5⟩
          have hnY3 := hnY2.below hb5
          have hb6 := below_then hb4 hbz3 hb5
          have hkw4 := (hb5.block w.heap.size (by omega)).trans hkw3
          have hkn4 := (hb5.block (w.heap.size + 1) (by omega)).trans hkn3
          have hbz4 : w0.heap.size ≤ w3.heap.size := Nat.le_trans hbz3 hb5.size
          clear hnX2 hnY2 hb4 hkw3 hkn3 hbz3 hc0 hb5
          have hc0 : w3.cell? ⟨w.heap.size, 0, none⟩ = some (.int .i64 53) := by simp [World.cell?, hkw4]
          by_cases hq53 : 9007199254740992 ≤ q
          · have hnf := HFM.out (fun h => by have := HQF.out.1 h; omega)
            have HNFT : Hid (¬ fits N D e) := Lib.hid (fun h => by have := HQF.out.1 h; omega)
            have hq1 : decide ((9007199254740992 : Int) ≤ q) = true := decide_eq_true (by omega)
            have hq2 : decide (9007199254740992 ≤ q) = true := decide_eq_true hq53
            have hMb : M ≤ 1125899906842624 := by omega
            clear hbx hby hn hm hla2 hlb2 hlb3 hM1 hM2 hM3 hM4 hs1 hs2 hX0 hY0 hz hkw4 hkn4 hbz4 hbig
            go_wp2
            go_roundw
            case rel => exact ⟨e + 1, rfl, by omega, by omega, Lib.hid (.inr (by rw [show e + 1 - 1 = e by omega]; exact HNFT.out)), hb6⟩
            case measure => simp [intOf]; omega
          · have HIE : Hid (IsE N D e) := Lib.hid ⟨he1, HQF.out.2 (by omega), HE.out⟩
            have hq1 : decide ((9007199254740992 : Int) ≤ q) = false := decide_eq_false (by omega)
            have hq2 : decide (9007199254740992 ≤ q) = false := decide_eq_false hq53
            have hMb : M ≤ 1125899906842624 := by omega
            have hqb : q < 9007199254740992 := by omega
            have U := rup_any _ _ _ _ 1 w3 hnR (by have := HLY.out; omega) (by omega)
            rw [val_limbs, Nat.pow_one, Nat.mul_comm] at U
            have HU := Lib.hid U
            clear U hbx hby hn hm hla2 hlb2 hlb3 hM2 hM3 hM4 hs1 hs2 hX0 hY0 hz hbig hq53 hbb hbb2
            go_wp2_with fail
            refine HU.out.mono ?_; rintro ex w4 ⟨A4, c4, rfl, hn4, hb7⟩
            have HC := Lib.hid (rcmp_any _ _ _ _ _ _ (2 * r) Y w4 hn4 (hnY3.below hb7))
            have hb8 := below_then hb6 hbz4 hb7
            have hkw5 := (hb7.block w.heap.size (by have := HZ.out; omega)).trans hkw4
            have hkn5 := (hb7.block (w.heap.size + 1) (by have := HZ.out; omega)).trans hkn4
            have hbz5 : w0.heap.size ≤ w4.heap.size := Nat.le_trans hbz4 hb7.size
            clear hnR hnY3 hb6 hkw4 hkn4 hbz4 hc0 hn4 hb7 HU
            obtain ⟨l4, hl4⟩ : ∃ l4, (limbs (2 * r)).length = l4 := ⟨_, rfl⟩
            rw [hl4] at HC
            rw [hl4]
            clear hl4
            obtain ⟨cv, hcv⟩ : ∃ cv, cmpNat (2 * r) Y = cv := ⟨_, rfl⟩
            rw [hcv] at HC
            have HCV := Lib.hid hcv
            clear hcv
            go_wp2_with fail
            refine HC.out.mono ?_; rintro ex w5 ⟨rfl, q5, rfl⟩
            have hb9 : Below w0.heap.size w0 (w4.drewN q5) := hb8.trans ⟨rfl, rfl, rfl, Nat.le_refl _, fun _ _ => rfl⟩
            have hkw6 : (w4.drewN q5).heap[w.heap.size]? = _ := hkw5
            have hkn6 : (w4.drewN q5).heap[w.heap.size + 1]? = _ := hkn5
            clear hb8 hkw5 hkn5 hbz5 HC HD
            generalize w4.drewN q5 = w5 at *
            have hcc : (cv = 1 ∧ rnd q r Y = q + 1) ∨ (cv = 0 ∧ q % 2 = 1 ∧ rnd q r Y = q + 1) ∨ (cv = 0 ∧ q % 2 = 0 ∧ rnd q r Y = q) ∨ (cv = -1 ∧ rnd q r Y = q) := by
              rw [← HCV.out]
              unfold cmpNat rnd
              by_cases t1 : 2 * r < Y
              · rw [if_pos t1, if_neg (by omega)]; omega
              · by_cases t2 : Y < 2 * r
                · rw [if_neg t1, if_pos t2, if_pos (.inl t2)]; omega
                · rw [if_neg t1, if_neg t2]
                  by_cases t3 : q % 2 = 1
                  · rw [if_pos (.inr ⟨by omega, t3⟩)]; omega
                  · rw [if_neg (by omega)]; omega
            obtain ⟨q', hq'⟩ : ∃ q', rnd q r Y = q' := ⟨_, rfl⟩
            rw [hq'] at hcc HM
            have hqb' : q' ≤ 9007199254740992 := by omega
            have HQB := Lib.hid hqb'
            clear hq' HCV hqb'
            go_upto_region 15 with fail
            go_cut [12, 78] from 68 to 77 (fun _ tv wx => wx = w5 ∧ ∃ b, tv = .bool b ∧ (b = true → q' = q + 1) ∧ (b = false → q' = q))
            case first =>
              clear hkw6 hkn6 hb9
              rcases hcc with ⟨rfl, h1⟩ | ⟨rfl, h0, h1⟩ | ⟨rfl, h0, h1⟩ | ⟨rfl, h1⟩
              · have H1 := Lib.hid h1
                clear h1 hq1 hq2
                go_wp2_with fail
                go_meet
                exact ⟨rfl, true, rfl, fun _ => H1.out, fun h => by cases h⟩
              · have H1 := Lib.hid h1
                have hb0 : ((q : Int) % 2 == 1) = true := by simp; omega
                have H0 := Lib.hid h0
                clear h1 hq1 hq2 h0
                go_wp2_with fail
                go_meet
                exact ⟨rfl, true, rfl, fun _ => H1.out, fun h => by cases h⟩
              · have H1 := Lib.hid h1
                have hb0 : ((q : Int) % 2 == 1) = false := by simp; omega
                have H0 := Lib.hid h0
                clear h1 hq1 hq2 h0
                go_wp2_with fail
                go_meet
                exact ⟨rfl, false, rfl, fun h => (by cases h), fun _ => H1.out⟩
              · have H1 := Lib.hid h1
                clear h1 hq1 hq2
                go_wp2_with fail
                go_meet
                exact ⟨rfl, false, rfl, fun h => (by cases h), fun _ => H1.out⟩
            case rest =>
              obtain ⟨rfl, b, rfl, t1, t2⟩ := hcut
              have HT1 := Lib.hid t1
              have HT2 := Lib.hid t2
              clear t1 t2 hcc
              go_upto_if 78 with fail
              go_cut [10, 78] from 79 to 80 (fun qv _ wx => wx = wc ∧ qv = .int .u64 q')
              case first =>
                clear hkw6 hkn6 hb9
                cases b
                · go_wp2_with fail
                  go_meet
                  exact ⟨rfl, by rw [HT2.out (by simp)]⟩
                · go_wp2_with fail
                  go_meet
                  exact ⟨rfl, by rw [HT1.out (by simp)]; simp⟩
              case rest =>
                obtain ⟨rfl, rfl⟩ := hcut
                have hc0 : wc.cell? ⟨w.heap.size, 0, none⟩ = some (.int .i64 53) := by simp [World.cell?, hkw6]
                have hc2 : wc.cell? ⟨w.heap.size, 2, none⟩ = some (.int .i64 971) := by simp [World.cell?, hkw6]
                have hd0 : wc.cell? ⟨w.heap.size + 1, 0, none⟩ = some (.bool false) := by simp [World.cell?, hkn6]
                have hd1 : wc.cell? ⟨w.heap.size + 1, 1, none⟩ = some (.bool false) := by simp [World.cell?, hkn6]
                have hd2 : wc.cell? ⟨w.heap.size + 1, 2, none⟩ = some (.bool false) := by simp [World.cell?, hkn6]
                have hd3 : wc.cell? ⟨w.heap.size + 1, 3, none⟩ = some (.int .u64 0) := by simp [World.cell?, hkn6]
                have hd4 : wc.cell? ⟨w.heap.size + 1, 4, none⟩ = some (.int .i64 0) := by simp [World.cell?, hkn6]
                have hdf : ∀ j, wc.frozen? ⟨w.heap.size + 1, j, none⟩ = false := fun j => by simp [World.frozen?, hkn6]
                have HKW := Lib.hid hkw6
                have HKE := Lib.hid hkn6
                clear hkw6 hkn6 hq1 hq2 hqb
                by_cases hp : q' = 9007199254740992
                · have hp1 : ((q' : Int) == 9007199254740992) = true := by simp [hp]
                  have HP := Lib.hid hp
                  clear hp
                  by_cases he : 971 < e + 1
                  · have he3 := decide_eq_true he
                    have HEE := Lib.hid he
                    go_wp2
                    have hk5 := setCell_row (setCell_row (setCell_row (setCell_row (setCell_row (vs := [.bool false, .bool false, .bool false, .int .u64 0, .int .i64 0]) HKE.out 0 (.bool false)) 1 (.bool true)) 2 (.bool false)) 3 (.int .u64 0)) 4 (.int .i64 0)
                    refine bodyPost_ret (v := .agg #[.bool false, .bool true, .bool false, .int .u64 0, .int .i64 0]) (results_cell_row (fn := Tryd.f16) (p := 6) (ty := 31) rfl _ _ (w.heap.size + 1) 31 #[.bool false, .bool true, .bool false, .int .u64 0, .int .i64 0] (0, 0) _ rfl hk5 Tryd.underlying31 rfl (by kernel_rfl)) rfl ⟨e, HIE.out, ?_, ?_⟩
                    · have hnn : nearNum N D e = (true, 0, 0) := by unfold nearNum; rw [HM.out, if_pos HP.out, if_pos HEE.out]
                      try rw [hnn]
                      first | done | rfl | (have h3 := HP.out; rw [show ((q' : Int) / 2) = ((4503599627370496 : Nat) : Int) by omega])
                    · exact (((((below_then HB0.out HB0.out.size hb9).setCell (by simp) _).setCell (by simp) _).setCell (by simp) _).setCell (by simp) _).setCell (by simp) _
                  · have he3 := decide_eq_false he
                    have HEE := Lib.hid he
                    go_wp2
                    have hk5 := setCell_row (setCell_row (setCell_row (setCell_row (setCell_row (vs := [.bool false, .bool false, .bool false, .int .u64 0, .int .i64 0]) HKE.out 0 (.bool false)) 1 (.bool false)) 2 (.bool false)) 3 (.int .u64 ((q' : Int) / 2))) 4 (.int .i64 (e + 1))
                    refine bodyPost_ret (v := .agg #[.bool false, .bool false, .bool false, .int .u64 ((q' : Int) / 2), .int .i64 (e + 1)]) (results_cell_row (fn := Tryd.f16) (p := 6) (ty := 31) rfl _ _ (w.heap.size + 1) 31 #[.bool false, .bool false, .bool false, .int .u64 ((q' : Int) / 2), .int .i64 (e + 1)] (0, 0) _ rfl hk5 Tryd.underlying31 rfl (by kernel_rfl)) rfl ⟨e, HIE.out, ?_, ?_⟩
                    · have hnn : nearNum N D e = (false, 4503599627370496, e + 1) := by unfold nearNum; rw [HM.out, if_pos HP.out, if_neg (by have := HEE.out; omega)]
                      try rw [hnn]
                      first | done | rfl | (have h3 := HP.out; rw [show ((q' : Int) / 2) = ((4503599627370496 : Nat) : Int) by omega])
                    · exact (((((below_then HB0.out HB0.out.size hb9).setCell (by simp) _).setCell (by simp) _).setCell (by simp) _).setCell (by simp) _).setCell (by simp) _
                · have hp1 : ((q' : Int) == 9007199254740992) = false := by simp; omega
                  have HP := Lib.hid hp
                  clear hp
                  by_cases he : 971 < e
                  · have he3 := decide_eq_true he
                    have HEE := Lib.hid he
                    go_wp2
                    have hk5 := setCell_row (setCell_row (setCell_row (setCell_row (setCell_row (vs := [.bool false, .bool false, .bool false, .int .u64 0, .int .i64 0]) HKE.out 0 (.bool false)) 1 (.bool true)) 2 (.bool false)) 3 (.int .u64 0)) 4 (.int .i64 0)
                    refine bodyPost_ret (v := .agg #[.bool false, .bool true, .bool false, .int .u64 0, .int .i64 0]) (results_cell_row (fn := Tryd.f16) (p := 6) (ty := 31) rfl _ _ (w.heap.size + 1) 31 #[.bool false, .bool true, .bool false, .int .u64 0, .int .i64 0] (0, 0) _ rfl hk5 Tryd.underlying31 rfl (by kernel_rfl)) rfl ⟨e, HIE.out, ?_, ?_⟩
                    · have hnn : nearNum N D e = (true, 0, 0) := by unfold nearNum; rw [HM.out, if_neg HP.out, if_pos HEE.out]
                      try rw [hnn]
                      first | done | rfl | (have h3 := HP.out; rw [show ((q' : Int) / 2) = ((4503599627370496 : Nat) : Int) by omega])
                    · exact (((((below_then HB0.out HB0.out.size hb9).setCell (by simp) _).setCell (by simp) _).setCell (by simp) _).setCell (by simp) _).setCell (by simp) _
                  · have he3 := decide_eq_false he
                    have HEE := Lib.hid he
                    go_wp2
                    have hk5 := setCell_row (setCell_row (setCell_row (setCell_row (setCell_row (vs := [.bool false, .bool false, .bool false, .int .u64 0, .int .i64 0]) HKE.out 0 (.bool false)) 1 (.bool false)) 2 (.bool false)) 3 (.int .u64 (q' : Int))) 4 (.int .i64 e)
                    refine bodyPost_ret (v := .agg #[.bool false, .bool false, .bool false, .int .u64 (q' : Int), .int .i64 e]) (results_cell_row (fn := Tryd.f16) (p := 6) (ty := 31) rfl _ _ (w.heap.size + 1) 31 #[.bool false, .bool false, .bool false, .int .u64 (q' : Int), .int .i64 e] (0, 0) _ rfl hk5 Tryd.underlying31 rfl (by kernel_rfl)) rfl ⟨e, HIE.out, ?_, ?_⟩
                    · have hnn : nearNum N D e = (false, q', e) := by unfold nearNum; rw [HM.out, if_neg HP.out, if_neg (by have := HEE.out; omega)]
                      try rw [hnn]
                      first | done | rfl | (have h3 := HP.out; rw [show ((q' : Int) / 2) = ((4503599627370496 : Nat) : Int) by omega])
                    · exact (((((below_then HB0.out HB0.out.size hb9).setCell (by simp) _).setCell (by simp) _).setCell (by simp) _).setCell (by simp) _).setCell (by simp) _

end Go.Proofs.YtilbadhadnockaaDoor
