/- floats' nearest (the method of format). -/
import Derived.Test.YtekcpapkicmckaaGreatDoorDiv
import Derived.Test.YtekcpapkicmckaaGreatDoorRes
import Derived.Test.YtekcpapkicmckaaGreatDoorNearN
import Derived.Test.YtekcpapkicmckaaGreatDoorWide
import Derived.BigQuiet
namespace Go.Proofs.YtekcpapkicmckaaGreatDoor
open Go.RowKit

theorem Len_quiet (A : Option Addr) (n c : Nat) (xs : List Nat) (w : World) (hr : Num w A n c xs) (q : Nat) :
    Calls Tryz.prog 162 #[.slice A n c] (w.drewN q) fun e w' => e = .returned (.int .i64 (blen (val xs) : Nat)) ∧ w' = w.drewN q :=
  (Len_any A n c xs _ (hr.drewN q)).mono fun _ _ ⟨h1, h2⟩ => ⟨h1, h2.symm⟩

theorem below_drawn {B : Nat} {w w' : World} (h : Below B w w') (n : Nat) : Below B w (w'.drewN n) := h.trans ⟨rfl, rfl, rfl, Nat.le_refl _, fun _ _ => rfl⟩

set_option maxRecDepth 100000 in
set_option maxHeartbeats 2000000 in
theorem nearest_any (A B : Option Addr) (n c m d : Nat) (xs ys : List Nat) (w : World) (hx : Num w A n c xs) (hy : Num w B m d ys) (hN : val xs ≠ 0) (hD : val ys ≠ 0) (hn : n ≤ 35184372087808) (hm : m ≤ 35184372087808) :
    Calls Tryz.prog 165 #[.agg #[.int .i64 53, .int .i64 (-1074), .int .i64 971], .slice A n c, .slice B m d] w fun e w' =>
      ∃ (e0 : Int) (M' : Nat) (E' : Int) (ok : Bool), IsE (val xs) (val ys) e0 ∧ e = .returned (.tuple #[.int .u64 M', .int .i64 E', .bool ok]) ∧
        ((ok = false ∧ nearNum (val xs) (val ys) e0 = (true, 0, 0)) ∨ (ok = true ∧ nearNum (val xs) (val ys) e0 = (false, M', E'))) ∧ Below w.heap.size w w' := by
  have hB : ∀ o, Below w.heap.size w (w.alloc o) := fun o => (Below.refl _ _).alloc (Nat.le_refl _) o
  have hla2 : blen (val xs) ≤ 32 * n := blen_le (by rw [← pow_limC, ← hx.len]; exact val_lt hx.lim)
  have hlb3 : blen (val ys) ≤ 32 * m := blen_le (by rw [← pow_limC, ← hy.len]; exact val_lt hy.lim)
  have HYF := Lib.hid (fun e (h : (blen (val xs) : Int) - blen (val ys) ≤ e + 52) => fits_of (N := val xs) hD h)
  have HNF := Lib.hid (fun e (h : e + 54 ≤ (blen (val xs) : Int) - blen (val ys)) => not_fits (D := val ys) hN h)
  have HEX := Lib.hid (IsE.exist (N := val xs) hD)
  have HFAR := Lib.hid (fun e (h : IsE (val xs) (val ys) e) => h.far hN)
  have HNZ : Hid (val xs ≠ 0 ∧ val ys ≠ 0) := Lib.hid ⟨hN, hD⟩
  have hln : blen (val xs) ≠ 0 := Nat.ne_of_gt (blen_pos hN)
  have hlz : ((blen (val xs) : Int) == 0) = false := by simpa using hln
  have hw := hB (.cells #[.int .i64 53, .int .i64 (-1074), .int .i64 971] 245)
  have hx0 := hx.below hw
  have hy0 := hy.below hw
  have hkf := heap_alloc_new w (.cells #[.int .i64 53, .int .i64 (-1074), .int .i64 971] 245)
  generalize hw0 : w.alloc (.cells #[.int .i64 53, .int .i64 (-1074), .int .i64 971] 245) = w0 at *
  have hz0 : w0.heap.size = w.heap.size + 1 := by rw [← hw0]; simp
  have HW0 := Lib.hid hw0
  have HZ := Lib.hid hz0
  have HB0 := Lib.hid hw
  have HX := Lib.hid hx0
  have HY := Lib.hid hy0
  have HKF := Lib.hid hkf
  have HS1 := Lib.hid (Len_quiet _ _ _ _ w0 hx0)
  have HS2 := Lib.hid (Len_quiet _ _ _ _ w0 hy0)
  have HS0 := Lib.hid (Len_any _ _ _ _ w0 hx0)
  clear hx hy hx0 hy0 hkf hw hz0 hB hN hD
  generalize hN : val xs = N at *
  generalize hD : val ys = D at *
  have HXV := Lib.hid hN
  have HYV := Lib.hid hD
  clear hN hD
  generalize blen N = la at *
  generalize blen D = lb at *
  go_enter Tryz.func165, Tryz.ntmps165
  go_wp2_with fail
  refine HS0.out.mono ?_; rintro ex w1 ⟨rfl, rfl⟩
  clear hw0
  have hc0 : w0.cell? ⟨w.heap.size, 0, none⟩ = some (.int .i64 53) := by have := HKF.out; simp [World.cell?, this]
  have hc1 : w0.cell? ⟨w.heap.size, 1, none⟩ = some (.int .i64 (-1074)) := by have := HKF.out; simp [World.cell?, this]
  go_wp2
  go_quiet (first | (go_at_call 162; with_reducible refine Calls.quiet_of_same (HS1.out _)) | (go_at_call 162; with_reducible refine Calls.quiet_of_same (HS2.out _)))
  obtain ⟨M, hM1, hM2, hM3⟩ : ∃ M : Int, -1074 ≤ M ∧ (la : Int) - lb - 52 ≤ M ∧ (M = -1074 ∨ M = (la : Int) - lb - 52) := ⟨max ((la : Int) - lb - 52) (-1074), by omega, by omega, by omega⟩
  obtain ⟨j0, hj0⟩ : ∃ j0 : Int, max ((la : Int) - lb - 53) (-1074) = j0 := ⟨_, rfl⟩
  have hj1 : -1074 ≤ j0 := by omega
  have hj2 : j0 ≤ M := by omega
  have HJ : Hid ((la : Int) - lb - 53 ≤ j0 ∧ (j0 = -1074 ∨ j0 = (la : Int) - lb - 53)) := Lib.hid (by omega)
  rw [hj0]
  have hwl : Below w0.heap.size w0 (w0.drewN nq) := ⟨rfl, rfl, rfl, Nat.le_refl _, fun _ _ => rfl⟩
  have HL := Lib.hid hwl
  have hk1 : (w0.drewN nq).heap[w.heap.size]? = _ := HKF.out
  have hr1 : (la : Int) ≤ 1125899906842624 := by omega
  have hr2 : (lb : Int) ≤ 1125899906842624 := by omega
  clear HS1 HS2 HS0 hj0 hc0 hc1 hlz hln HW0
  generalize w0.drewN nq = w1 at *
  have hc2 : w1.cell? ⟨w.heap.size, 2, none⟩ = some (.int .i64 971) := by simp [World.cell?, hk1]
  by_cases hbig : 973 < j0
  · have hbd := decide_eq_true hbig
    have HBG := Lib.hid hbig
    have hwb := below_then HB0.out HB0.out.size hwl
    have HWB := Lib.hid hwb
    clear hwb hwl hk1 hr1 hr2 hM1 hM2 hM3 hj1 hj2 hla2 hlb3 hn hm
    go_wp2
    obtain ⟨e0, he0⟩ := HEX.out
    have h3 := HFAR.out e0 he0
    refine bodyPost_ret (v := .tuple #[.int .u64 0, .int .i64 0, .bool false]) (by simp [results, Tryz.results165, go_sem]) rfl ⟨e0, 0, 0, false, he0, rfl, .inl ⟨rfl, nearNum_far ?_⟩, HWB.out⟩
    have := HJ.out
    have := HBG.out
    omega
  · have hbd := decide_eq_false hbig
    have HLT := Lib.hid (show j0 ≤ 973 by omega)
    have hmm : M ≤ 974 := by have := HJ.out; omega
    go_wp2
    go_loopw [9] (fun ev wr => ∃ e : Int, ev = .int .i64 e ∧ -1074 ≤ e ∧ e ≤ M ∧ Hid (e = -1074 ∨ ¬ fits N D (e - 1)) ∧ Below w0.heap.size w0 wr) (fun ev _ => (M - intOf ev).toNat)
    case atStart => exact ⟨j0, rfl, hj1, hj2, Lib.hid (HJ.out.2.imp id (fun h => HNF.out _ (by omega))), hwl⟩
    case round =>
      obtain ⟨e, rfl, he1, he2, HE, hb⟩ := hrel
      have hbz := hb.size
      have hz := HZ.out
      have hkw := (hb.block w.heap.size (by omega)).trans HKF.out
      have hxr := HX.out.below hb
      have hyr := HY.out.below hb
      obtain ⟨X, hX⟩ : ∃ X, sideA N e = X := ⟨_, rfl⟩
      obtain ⟨Y, hY⟩ : ∃ Y, sideB D e = Y := ⟨_, rfl⟩
      have HF : Hid (fits N D e ↔ X < 9007199254740992 * Y) := Lib.hid (by unfold fits; rw [hX, hY])
      have HM : Hid (nearM N D e = rnd (X / Y) (X % Y) Y) := Lib.hid (by unfold nearM; rw [hX, hY])
      have hY0 : Y ≠ 0 := by rw [← hY]; exact Nat.ne_of_gt (Nat.mul_pos (Nat.pos_of_ne_zero HNZ.out.2) (Nat.pow_pos (by omega)))
      have HFM : Hid (¬ fits N D e → e + 1 ≤ M) := Lib.hid (fun h => by
        apply Classical.byContradiction
        intro h2
        exact h (HYF.out e (by omega)))
      have hkb : -1074 ≤ e ∧ e ≤ 974 := by omega
      clear hr1 hr2 hk1 hc2 hbd hwl hla2 hlb3 hM1 hM2 hM3 hj1 hj2 hbig
      go_upto_if 42 with fail
      go_cut [10, 11, 42] from 43 to 55 (fun av bv _tv wx => ∃ (A2 : Option Addr) (c2 : Nat) (L2 : List Nat) (B2 : Option Addr) (d2 : Nat) (R2 : List Nat), av = .slice A2 L2.length c2 ∧ bv = .slice B2 R2.length d2 ∧ Num wx A2 L2.length c2 L2 ∧ Num wx B2 R2.length d2 R2 ∧ val L2 = X ∧ val R2 = Y ∧ L2.length < 35184372088000 ∧ R2.length < 35184372088000 ∧ Below wr.heap.size wr wx)
      case first =>
        by_cases hs : e < 0
        · obtain ⟨k, rfl⟩ : ∃ k : Nat, e = -(k : Int) := ⟨(-e).toNat, by omega⟩
          unfold sideA at hX
          unfold sideB at hY
          rw [Int.neg_neg, Int.toNat_natCast] at hX
          rw [show (-(k : Int)).toNat = 0 by omega, Nat.pow_zero, Nat.mul_one] at hY
          have U := Up_any _ _ _ _ k wr hxr (by omega) (by omega)
          rw [HXV.out, hX] at U
          have hlx : (limbs X).length < 35184372088000 := by
            have := len_shift N n k (by have h1 := limbs_length_le (val_lt hxr.lim); rw [hxr.len] at h1; exact HXV.out ▸ h1)
            rw [← hX]; omega
          have HU := Lib.hid U
          have HYR := Lib.hid hyr
          have HRL := Lib.hid hyr.len
          have HVY : Hid (val ys = Y) := Lib.hid (HYV.out.trans hY)
          have hk1 : 1 ≤ k := by omega
          have hk2 : k ≤ 1074 := by omega
          clear U hX hY hxr he1 he2 hyr hkb
          go_wp2_with fail
          refine HU.out.mono ?_; rintro ex w2 ⟨A2, rfl, hnX, hb2⟩
          go_wp2_with fail
          go_meet
          exact ⟨A2, _, limbs X, B, d, ys, rfl, by rw [HRL.out], hnX.num, by rw [HRL.out]; exact HYR.out.below hb2, val_limbs X, HVY.out, hlx, by rw [HRL.out]; omega, hb2⟩
        · obtain ⟨k, rfl⟩ : ∃ k : Nat, e = k := ⟨e.toNat, by omega⟩
          unfold sideA at hX
          unfold sideB at hY
          rw [Int.toNat_natCast] at hY
          rw [show (-(k : Int)).toNat = 0 by omega, Nat.pow_zero, Nat.mul_one] at hX
          have U := Up_any _ _ _ _ k wr hyr (by omega) (by omega)
          rw [HYV.out, hY] at U
          have hlx : (limbs Y).length < 35184372088000 := by
            have := len_shift D m k (by have h1 := limbs_length_le (val_lt hyr.lim); rw [hyr.len] at h1; exact HYV.out ▸ h1)
            rw [← hY]; omega
          have HU := Lib.hid U
          have HXR := Lib.hid hxr
          have HRL := Lib.hid hxr.len
          have HVX : Hid (val xs = X) := Lib.hid (HXV.out.trans hX)
          clear U hX hY hyr he1 hxr
          go_wp2_with fail
          refine HU.out.mono ?_; rintro ex w2 ⟨A2, rfl, hnY, hb2⟩
          go_wp2_with fail
          go_meet
          exact ⟨A, c, xs, A2, _, limbs Y, by rw [HRL.out], rfl, by rw [HRL.out]; exact HXR.out.below hb2, hnY.num, HVX.out, val_limbs Y, by rw [HRL.out]; omega, hlx, hb2⟩
      case rest =>
        obtain ⟨A2, c2, L2, B2, d2, R2, rfl, rfl, hnX, hnY, hvx, hvy, hlx, hly, hb2⟩ := hcut
        have hb3 := below_then hb hbz hb2
        have hkw2 := (hb2.block w.heap.size (by omega)).trans hkw
        have hbz2 : w0.heap.size ≤ wc.heap.size := Nat.le_trans hbz hb2.size
        have HD := DivMod_any _ _ _ _ _ _ _ _ wc hnX hnY (by rw [hvy]; exact hY0) (by omega)
        unfold DivPost at HD
        rw [hvx, hvy] at HD
        obtain ⟨q, hq⟩ : ∃ q, X / Y = q := ⟨_, rfl⟩
        obtain ⟨r, hr⟩ : ∃ r, X % Y = r := ⟨_, rfl⟩
        have HRY : Hid (r < Y) := Lib.hid (by rw [← hr]; exact Nat.mod_lt _ (by omega))
        have HQF : Hid (fits N D e ↔ q < 9007199254740992) := Lib.hid (by rw [HF.out, ← hq, Nat.div_lt_iff_lt_mul (by omega)])
        rw [hq, hr] at HD HM
        have HHD := Lib.hid HD
        have HVY := Lib.hid hvy
        have hlr2 : (limbs r).length ≤ R2.length := by
          have h1 := limbs_length_mono (Nat.le_of_lt HRY.out)
          rw [← hvy] at h1
          have h2 := limbs_length_val hnY.lim
          omega
        clear HD hb hb2 hkw hX hY hxr hyr hvx hvy hnX hq hr
        obtain ⟨lr, hlr⟩ : ∃ lr, (limbs r).length = lr := ⟨_, rfl⟩
        rw [hlr] at HHD hlr2
        obtain ⟨lq, hlq⟩ : ∃ lq, (limbs q).length = lq := ⟨_, rfl⟩
        rw [hlq] at HHD
        have HLR := Lib.hid hlr
        have HLQ := Lib.hid hlq
        clear hlr hlq
        generalize hL2 : L2.length = n2 at *
        generalize hR2 : R2.length = m2 at *
        clear hL2 hR2
        go_wp2_with fail
        refine HHD.out.mono ?_; rintro ex w3 ⟨A3, c3, A4, c4, rfl, hnQ, hnR, hb5⟩
        have hb6 := below_then hb3 hbz2 hb5
        have hkw3 := (hb5.block w.heap.size (by omega)).trans hkw2
        have hbz3 : w0.heap.size ≤ w3.heap.size := Nat.le_trans hbz2 hb5.size
        have hnY3 := hnY.below hb5
        have hnQ3 := hnQ.num
        have hnR3 := hnR.num
        have HS1 := Lib.hid (Len_quiet _ _ _ _ w3 hnQ3)
        rw [val_limbs] at HS1
        have hc0 : w3.cell? ⟨w.heap.size, 0, none⟩ = some (.int .i64 53) := by simp [World.cell?, hkw3]
        have hqb : blen q ≤ 9007199254740992 := Nat.le_trans (blen_le (k := 32 * lq) (by rw [← pow_limC, ← HLQ.out]; exact limbs_lt_pow q)) (by have := hnQ.mine.big; omega)
        have HQ53 : Hid (53 < blen q → 9007199254740992 ≤ q) := Lib.hid (fun h => by
          apply Classical.byContradiction
          intro h2
          have := blen_le (n := q) (k := 53) (by rw [show (2 : Nat) ^ 53 = 9007199254740992 from rfl]; omega)
          omega)
        have HQ54 : Hid (¬ 53 < blen q → q < 9007199254740992) := Lib.hid (fun h => by
          have h1 := blen_lt q
          have h2 : 2 ^ blen q ≤ 2 ^ 53 := Nat.pow_le_pow_right (by omega) (by omega)
          rw [show (2 : Nat) ^ 53 = 9007199254740992 from rfl] at h2
          omega)
        clear hnQ hnR hnY hb3 hb5 hkw2 hbz2 HHD
        generalize blen q = bq at *
        go_wp2
        go_quiet (first | (go_at_call 162; with_reducible refine Calls.quiet_of_same (HS1.out _)))
        have hnQ4 := hnQ3.drewN nq
        have hnR4 := hnR3.drewN nq
        have hnY4 := hnY3.drewN nq
        have hb7 : Below w0.heap.size w0 (w3.drewN nq) := hb6.trans ⟨rfl, rfl, rfl, Nat.le_refl _, fun _ _ => rfl⟩
        have hkw4 : (w3.drewN nq).heap[w.heap.size]? = _ := hkw3
        have hbz4 : w0.heap.size ≤ (w3.drewN nq).heap.size := hbz3
        clear HS1 hnQ3 hnR3 hnY3 hb6 hkw3 hbz3 hc0
        generalize w3.drewN nq = w4 at *
        by_cases hbig : 53 < bq
        · have hnf := HFM.out (fun h => by have := HQF.out.1 h; have := HQ53.out hbig; omega)
          have HNFT : Hid (¬ fits N D e) := Lib.hid (fun h => by have := HQF.out.1 h; have := HQ53.out hbig; omega)
          have hbb : (53 : Int) < bq := by omega
          have hbb1 : decide ((53 : Int) < bq) = true := decide_eq_true hbb
          have hbb2 : decide (53 < bq) = true := decide_eq_true hbig
          clear hkw4 hbz4 hz hbz hY0
          go_wp2
          go_roundw
          case rel => exact ⟨e + 1, rfl, by omega, by omega, Lib.hid (.inr (by rw [show e + 1 - 1 = e by omega]; exact HNFT.out)), hb7⟩
          case measure => simp [intOf]; omega
        · have hqs : q < 9007199254740992 := HQ54.out hbig
          have HIE : Hid (IsE N D e) := Lib.hid ⟨he1, HQF.out.2 hqs, HE.out⟩
          have hbb : ¬ (53 : Int) < bq := by omega
          have hbb1 : decide ((53 : Int) < bq) = false := decide_eq_false hbb
          have hbb2 : decide (53 < bq) = false := decide_eq_false hbig
          have HSM := Small_any _ _ _ _ w4 hnQ4 (by rw [val_limbs]; omega)
          rw [val_limbs] at HSM
          have HSM2 := Lib.hid HSM
          have HAD := Add_any _ _ _ _ _ _ _ _ w4 hnR4 hnR4 (by omega) (by omega)
          rw [val_limbs, show r + r = 2 * r by omega] at HAD
          have HADD := Lib.hid HAD
          clear HSM HAD
          go_wp2_with fail
          refine HSM2.out.mono ?_; rintro ex w5 ⟨rfl, rfl⟩
          clear hbig hbb hbb1 hbb2 HSM2 HQ53 HQ54 hqb
          go_wp2_with fail
          refine HADD.out.mono ?_; rintro ex w5 ⟨A5, rfl, hn5, hb8⟩
          have HC := Cmp_any _ _ _ _ _ _ _ _ w5 hn5.num (hnY4.below hb8)
          rw [val_limbs, HVY.out] at HC
          have HCC := Lib.hid HC
          have hb9 := below_then hb7 hbz4 hb8
          have hkw5 := (hb8.block w.heap.size (by omega)).trans hkw4
          clear HC HADD hnQ4 hnR4 hnY4 hb7 hkw4 hbz4 hn5 hb8
          obtain ⟨l4, hl4⟩ : ∃ l4, (limbs (2 * r)).length = l4 := ⟨_, rfl⟩
          rw [hl4] at HCC
          rw [hl4]
          clear hl4
          obtain ⟨cv, hcv⟩ : ∃ cv, cmpNat (2 * r) Y = cv := ⟨_, rfl⟩
          rw [hcv] at HCC
          have HCV := Lib.hid hcv
          clear hcv
          go_wp2_with fail
          refine HCC.out.mono ?_; rintro ex w6 ⟨rfl, q5, rfl⟩
          have hb10 : Below w0.heap.size w0 (w5.drewN q5) := hb9.trans ⟨rfl, rfl, rfl, Nat.le_refl _, fun _ _ => rfl⟩
          have hkw6 : (w5.drewN q5).heap[w.heap.size]? = _ := hkw5
          clear hb9 hkw5 HCC
          generalize w5.drewN q5 = w6 at *
          have hcc : (cv = 1 ∧ rnd q r Y = q + 1) ∨ (cv = 0 ∧ q % 2 = 1 ∧ rnd q r Y = q + 1) ∨ (cv = 0 ∧ q % 2 = 0 ∧ rnd q r Y = q) ∨ (cv = -1 ∧ rnd q r Y = q) := by
            rw [← HCV.out]
            unfold cmpNat rnd
            by_cases t1 : 2 * r < Y
            · rw [if_pos t1, if_neg (by omega)]; omega
            · by_cases t2 : Y < 2 * r
              · rw [if_neg t1, if_pos t2, if_pos (.inl t2)]; omega
              · rw [if_neg t1, if_neg t2]
                by_cases t3 : q % 2 = 1
                · rw [if_pos (.inr ⟨by omega, t3⟩)]; omega
                · rw [if_neg (by omega)]; omega
          obtain ⟨q', hq'⟩ : ∃ q', rnd q r Y = q' := ⟨_, rfl⟩
          rw [hq'] at hcc HM
          have hqb' : q' ≤ 9007199254740992 := by omega
          have HQB := Lib.hid hqb'
          have hand : Go.bits .and .u64 (q : Int) 1 = ((q % 2 : Nat) : Int) := by
            have h := mask64 1 (by omega) q (by omega)
            rw [show ((2 : Int) ^ 1 - 1) = 1 from rfl, Nat.pow_one] at h
            exact h
          clear hq' HCV hqb'
          go_upto_region 15 with fail
          go_cut [17, 90] from 80 to 89 (fun _ tv wx => wx = w6 ∧ ∃ b, tv = .bool b ∧ (b = true → q' = q + 1) ∧ (b = false → q' = q))
          case first =>
            clear hkw6 hb10
            rcases hcc with ⟨rfl, h1⟩ | ⟨rfl, h0, h1⟩ | ⟨rfl, h0, h1⟩ | ⟨rfl, h1⟩
            · have H1 := Lib.hid h1
              clear h1 hand
              go_wp2_with fail
              go_meet
              exact ⟨rfl, true, rfl, fun _ => H1.out, fun h => by cases h⟩
            · have H1 := Lib.hid h1
              rw [h0] at hand
              clear h1 h0
              go_wp2_with fail
              go_meet
              exact ⟨rfl, true, rfl, fun _ => H1.out, fun h => by cases h⟩
            · have H1 := Lib.hid h1
              rw [h0] at hand
              clear h1 h0
              go_wp2_with fail
              go_meet
              exact ⟨rfl, false, rfl, fun h => (by cases h), fun _ => H1.out⟩
            · have H1 := Lib.hid h1
              clear h1 hand
              go_wp2_with fail
              go_meet
              exact ⟨rfl, false, rfl, fun h => (by cases h), fun _ => H1.out⟩
          case rest =>
            obtain ⟨rfl, b, rfl, t1, t2⟩ := hcut
            have HT1 := Lib.hid t1
            have HT2 := Lib.hid t2
            clear t1 t2 hcc hand
            go_upto_if 90 with fail
            go_cut [15, 90] from 91 to 92 (fun qv _ wx => wx = wc ∧ qv = .int .u64 q')
            case first =>
              clear hkw6 hb10
              cases b
              · go_wp2_with fail
                go_meet
                exact ⟨rfl, by rw [HT2.out (by simp)]⟩
              · go_wp2_with fail
                go_meet
                exact ⟨rfl, by rw [HT1.out (by simp)]; simp⟩
            case rest =>
              obtain ⟨rfl, rfl⟩ := hcut
              have hc0 : wc.cell? ⟨w.heap.size, 0, none⟩ = some (.int .i64 53) := by simp [World.cell?, hkw6]
              have hc2 : wc.cell? ⟨w.heap.size, 2, none⟩ = some (.int .i64 971) := by simp [World.cell?, hkw6]
              have HB := Lib.hid (below_drawn (below_then HB0.out HB0.out.size hb10))
              clear hkw6 hb10 hqs
              by_cases hp : q' = 9007199254740992
              · have hp1 : ((q' : Int) == 9007199254740992) = true := by simp [hp]
                have HP := Lib.hid hp
                clear hp
                have hnn : nearNum N D e = if 971 < e + 1 then (true, 0, 0) else (false, 4503599627370496, e + 1) := by unfold nearNum; rw [HM.out, if_pos HP.out]
                have HNN := Lib.hid hnn
                have HH : Hid ((q' : Int) / 2 = ((4503599627370496 : Nat) : Int)) := Lib.hid (by have := HP.out; omega)
                clear hnn
                by_cases he : e + 1 ≤ 971
                · have he3 := decide_eq_true he
                  have HEE := Lib.hid he
                  go_wp2
                  go_quiet (fail)
                  go_wp2
                  refine bodyPost_ret (v := .tuple #[.int .u64 ((q' : Int) / 2), .int .i64 (e + 1), .bool true]) (by simp [results, Tryz.results165, go_sem]) rfl ⟨e, 4503599627370496, e + 1, true, HIE.out, by rw [HH.out], .inr ⟨rfl, by rw [HNN.out, if_neg (by have := HEE.out; omega)]⟩, HB.out _⟩
                · have he3 := decide_eq_false he
                  have HEE := Lib.hid he
                  go_wp2
                  go_quiet (fail)
                  go_wp2
                  refine bodyPost_ret (v := .tuple #[.int .u64 ((q' : Int) / 2), .int .i64 (e + 1), .bool false]) (by simp [results, Tryz.results165, go_sem]) rfl ⟨e, 4503599627370496, e + 1, false, HIE.out, by rw [HH.out], .inl ⟨rfl, by rw [HNN.out, if_pos (by have := HEE.out; omega)]⟩, HB.out _⟩
              · have hp1 : ((q' : Int) == 9007199254740992) = false := by simp; omega
                have HP := Lib.hid hp
                clear hp
                have hnn : nearNum N D e = if 971 < e then (true, 0, 0) else (false, q', e) := by unfold nearNum; rw [HM.out, if_neg HP.out]
                have HNN := Lib.hid hnn
                clear hnn
                by_cases he : e ≤ 971
                · have he3 := decide_eq_true he
                  have HEE := Lib.hid he
                  go_wp2
                  go_quiet (fail)
                  go_wp2
                  refine bodyPost_ret (v := .tuple #[.int .u64 q', .int .i64 e, .bool true]) (by simp [results, Tryz.results165, go_sem]) rfl ⟨e, q', e, true, HIE.out, rfl, .inr ⟨rfl, by rw [HNN.out, if_neg (by have := HEE.out; omega)]⟩, HB.out _⟩
                · have he3 := decide_eq_false he
                  have HEE := Lib.hid he
                  go_wp2
                  go_quiet (fail)
                  go_wp2
                  refine bodyPost_ret (v := .tuple #[.int .u64 q', .int .i64 e, .bool false]) (by simp [results, Tryz.results165, go_sem]) rfl ⟨e, q', e, false, HIE.out, rfl, .inl ⟨rfl, by rw [HNN.out, if_pos (by have := HEE.out; omega)]⟩, HB.out _⟩

end Go.Proofs.YtekcpapkicmckaaGreatDoor
