/- floats.Nearest. -/
import Derived.Test.YtgdgdifnpdcgkaaGreatDoorNumb
namespace Go.Proofs.YtgdgdifnpdcgkaaGreatDoor
open Go.RowKit

theorem Tryz.f64bitsN (b : Nat) (W : World) : (callFunc 15 #[.float .f64 b]).run Tryz.prog W = .ok (.value (.int .u64 (b : Int))) W := by kernel_rfl

theorem Inf_neg (w : World) : Calls Tryz.prog 34 #[.int .i64 (-1)] w fun e w' => e = .returned (.float .f64 18442240474082181120) ∧ w = w' := by
  have ez := Tryz.f64fromZ
  go_enter Tryz.func34, Tryz.ntmps34
  go_wp2
  go_ret
  exact ⟨rfl, rfl⟩
theorem Inf_pos (w : World) : Calls Tryz.prog 34 #[.int .i64 1] w fun e w' => e = .returned (.float .f64 9218868437227405312) ∧ w = w' := by
  have ez := Tryz.f64fromZ
  go_enter Tryz.func34, Tryz.ntmps34
  go_wp2
  go_ret
  exact ⟨rfl, rfl⟩
theorem Copysign_neg (w : World) : Calls Tryz.prog 35 #[.float .f64 0, .float .f64 13830554455654793216] w fun e w' => e = .returned (.float .f64 9223372036854775808) ∧ w = w' := by
  have ez := Tryz.f64fromZ
  have e0 := Tryz.f64bitsN
  go_enter Tryz.func35, Tryz.ntmps35
  go_wp2
  go_ret
  exact ⟨rfl, rfl⟩

set_option maxRecDepth 100000 in
set_option maxHeartbeats 2000000 in
theorem Nearest_zero (neg : Bool) (A B : Option Addr) (n c m d : Nat) (ys : List Nat) (w : World) (hy : Num w B m d ys) (h0 : val ys = 0) :
    Calls Tryz.prog 14 #[.agg #[.bool neg, .slice A n c, .slice B m d]] w fun e w' => e = .returned (.tuple #[.float .f64 0, .int .i64 11]) ∧ Below w.heap.size w w' := by
  have hw := (Below.refl w.heap.size w).alloc (Nat.le_refl _) (.cells #[.bool neg, .slice A n c, .slice B m d] 28)
  have HO := Lib.hid (Over_zero neg A B n c m d ys _ (hy.below hw) h0)
  have HW := Lib.hid hw
  clear hw hy h0
  go_enter Tryz.func14, Tryz.ntmps14
  go_wp2_with fail
  refine HO.out.mono ?_
  rintro ex w1 ⟨rfl, hb⟩
  have HB := Lib.hid (below_then HW.out HW.out.size hb)
  clear hb
  go_wp2
  refine bodyPost_ret (v := .tuple #[.float .f64 0, .int .i64 11]) (by simp [results, Tryz.results14, go_sem]) rfl ⟨rfl, HB.out.alloc HB.out.size _⟩

set_option maxRecDepth 100000 in
set_option maxHeartbeats 2000000 in
theorem Nearest_nought (neg : Bool) (A B : Option Addr) (n c m d : Nat) (xs ys : List Nat) (w : World) (hx : Num w A n c xs) (hy : Num w B m d ys) (h0 : val ys ≠ 0) (h1 : val xs = 0) (hn : n ≤ 35184372087808) (hm : m ≤ 35184372087808) :
    Calls Tryz.prog 14 #[.agg #[.bool neg, .slice A n c, .slice B m d]] w fun e w' => e = .returned (.tuple #[.float .f64 0, .int .i64 0]) ∧ Below w.heap.size w w' := by
  have hw := (Below.refl w.heap.size w).alloc (Nat.le_refl _) (.cells #[.bool neg, .slice A n c, .slice B m d] 28)
  have hO := Over_some neg A B n c m d xs ys _ (hx.below hw) (hy.below hw) h0 (by omega) (by omega)
  rw [h1, Nat.zero_div, Nat.gcd_zero_left, Nat.div_self (Nat.pos_of_ne_zero h0)] at hO
  obtain ⟨P, hP⟩ : ∃ P : Nat, P = 0 := ⟨_, rfl⟩
  obtain ⟨Q, hQ⟩ : ∃ Q : Nat, Q = 1 := ⟨_, rfl⟩
  have hO2 : Calls Tryz.prog 13 #[.bool neg, .slice A n c, .slice B m d] (w.alloc (.cells #[.bool neg, .slice A n c, .slice B m d] 28)) fun e w' => ∃ v, e = .returned (.tuple #[v, .int .i64 0]) ∧ RatPost (w.alloc (.cells #[.bool neg, .slice A n c, .slice B m d] 28)) (sgn neg 0) P Q v w' := by
    subst hP hQ; exact hO
  have HO := Lib.hid hO2
  clear hO2
  have HP := Lib.hid hP
  have HQ := Lib.hid hQ
  have HW := Lib.hid hw
  clear hw hx hy h0 hO h1 hn hm hP hQ
  go_enter Tryz.func14, Tryz.ntmps14
  go_wp2_with fail
  refine HO.out.mono ?_
  rintro ex w1 ⟨v, rfl, A1, c1, A2, c2, rfl, r1, r2, r3, hb⟩
  have hb2 := below_then HW.out HW.out.size hb
  have hb3 := hb2.alloc hb2.size (.cells #[.bool (sgn neg 0), .slice A1 (limbs P).length c1, .slice A2 (limbs Q).length c2] 28)
  have hal := (Below.refl w1.heap.size w1).alloc (Nat.le_refl _) (.cells #[.bool (sgn neg 0), .slice A1 (limbs P).length c1, .slice A2 (limbs Q).length c2] 28)
  have q1 := r1.num.below hal
  have q2 := r2.num.below hal
  have hk := heap_alloc_new w1 (.cells #[.bool (sgn neg 0), .slice A1 (limbs P).length c1, .slice A2 (limbs Q).length c2] 28)
  generalize hw2 : w1.alloc (.cells #[.bool (sgn neg 0), .slice A1 (limbs P).length c1, .slice A2 (limbs Q).length c2] 28) = w2 at *
  have HW2 := Lib.hid hw2
  have HS1 := Lib.hid (Len_quiet _ _ _ _ _ q1)
  have HS2 := Lib.hid (Len_quiet _ _ _ _ _ q2)
  have HQ1 := Lib.hid q1
  have hz : blen P = 0 := by rw [HP.out]; rfl
  have hz1 : blen Q = 1 := by rw [HQ.out]; rfl
  rw [val_limbs, hz] at HS1
  rw [val_limbs, hz1] at HS2
  have HB := Lib.hid hb3
  have hd1 : w2.cell? ⟨w1.heap.size, 1, none⟩ = some (.slice A1 (limbs P).length c1) := by simp [World.cell?, hk]
  have hd2 : w2.cell? ⟨w1.heap.size, 2, none⟩ = some (.slice A2 (limbs Q).length c2) := by simp [World.cell?, hk]
  have HK := Lib.hid hk
  clear hb2 hb3 hal r1 r2 r3 hb HO HW q1 q2 hz1 hk
  go_wp2
  clear hw2
  go_quiet (first | (go_at_call 32; with_reducible refine Calls.quiet_of_same (HS1.out _)) | (go_at_call 32; with_reducible refine Calls.quiet_of_same (HS2.out _)))
  have HS3 := Len_any _ _ _ _ _ (HQ1.out.drewN nq)
  rw [val_limbs, hz] at HS3
  have HL3 := Lib.hid HS3
  have hd1 : (w2.drewN nq).cell? ⟨w1.heap.size, 1, none⟩ = some (.slice A1 (limbs P).length c1) := by have := HK.out; simp [World.cell?, this]
  clear HS1 HS2 HS3 hz
  generalize hW3 : w2.drewN nq = w3 at *
  have HW3 := Lib.hid hW3
  clear hW3
  go_wp2_with fail
  refine HL3.out.mono ?_; rintro ex w4 ⟨rfl, rfl⟩
  go_wp2
  refine bodyPost_ret (v := .tuple #[.float .f64 0, .int .i64 0]) (by simp [results, Tryz.results14, go_sem]) rfl ⟨rfl, by rw [← HW3.out]; exact below_drawn HB.out _⟩

set_option maxRecDepth 100000 in
set_option maxHeartbeats 2000000 in
theorem Nearest_some (neg : Bool) (A B : Option Addr) (n c m d : Nat) (xs ys : List Nat) (w : World) (hg : WideAt w) (hx : Num w A n c xs) (hy : Num w B m d ys) (h0 : val ys ≠ 0) (h1 : val xs ≠ 0) (hn : n ≤ 35184372087808) (hm : m ≤ 35184372087808) :
    Calls Tryz.prog 14 #[.agg #[.bool neg, .slice A n c, .slice B m d]] w fun e w' =>
      ∃ e0, IsE (val xs) (val ys) e0 ∧ e = .returned (.tuple #[.float .f64 (withSign neg (amount (nearNum (val xs) (val ys) e0).1 (nearNum (val xs) (val ys) e0).2.1 (nearNum (val xs) (val ys) e0).2.2)), .int .i64 0]) ∧ Below w.heap.size w w' := by
  have hw := (Below.refl w.heap.size w).alloc (Nat.le_refl _) (.cells #[.bool neg, .slice A n c, .slice B m d] 28)
  have hO := Over_some neg A B n c m d xs ys _ (hx.below hw) (hy.below hw) h0 (by omega) (by omega)
  have hs : sgn neg (val xs) = neg := by unfold sgn; rw [if_neg h1]
  rw [hs] at hO
  obtain ⟨g, hgg⟩ : ∃ g, Nat.gcd (val xs) (val ys) = g := ⟨_, rfl⟩
  obtain ⟨P, hP⟩ : ∃ P, val xs / g = P := ⟨_, rfl⟩
  obtain ⟨Q, hQ⟩ : ∃ Q, val ys / g = Q := ⟨_, rfl⟩
  rw [hgg, hP, hQ] at hO
  have hg0 : 0 < g := by rw [← hgg]; exact Nat.gcd_pos_of_pos_left _ (Nat.pos_of_ne_zero h1)
  have hXP : val xs = g * P := by rw [← hP, Nat.mul_div_cancel' (by rw [← hgg]; exact Nat.gcd_dvd_left _ _)]
  have hYQ : val ys = g * Q := by rw [← hQ, Nat.mul_div_cancel' (by rw [← hgg]; exact Nat.gcd_dvd_right _ _)]
  have hP0 : P ≠ 0 := fun e => h1 (by rw [hXP, e, Nat.mul_zero])
  have hQ0 : Q ≠ 0 := fun e => h0 (by rw [hYQ, e, Nat.mul_zero])
  have hlp : (limbs P).length ≤ n := by
    have h3 : P ≤ val xs := by rw [hXP]; exact Nat.le_mul_of_pos_left _ hg0
    have h4 := limbs_length_mono h3
    have h5 := limbs_length_val hx.lim
    rw [hx.len] at h5
    omega
  have hlq : (limbs Q).length ≤ m := by
    have h3 : Q ≤ val ys := by rw [hYQ]; exact Nat.le_mul_of_pos_left _ hg0
    have h4 := limbs_length_mono h3
    have h5 := limbs_length_val hy.lim
    rw [hy.len] at h5
    omega
  -- what is to be shown, of the quotient in lowest terms
  rw [hXP, hYQ]
  have KEY : Hid (∀ e0, IsE P Q e0 → IsE (g * P) (g * Q) e0 ∧ nearNum (g * P) (g * Q) e0 = nearNum P Q e0) := Lib.hid (fun e0 h => ⟨h.scale hg0, nearNum_scale hg0 e0⟩)
  have HO := Lib.hid hO
  have HW := Lib.hid hw
  have HG := Lib.hid hg
  have HEX := Lib.hid (IsE.exist (N := P) hQ0)
  have HFAR := Lib.hid (fun e (h : IsE P Q e) => h.far hP0)
  have HTINY := Lib.hid (fun h => nearM_tiny (N := P) hQ0 h)
  have HNUM := Lib.hid (fun W (hgW : WideAt W) (A1 A2 : Option Addr) (c1 c2 : Nat) (q1 : Num W A1 (limbs P).length c1 (limbs P)) (q2 : Num W A2 (limbs Q).length c2 (limbs Q)) => number_any neg _ _ _ _ _ _ _ _ W hgW q1 q2 (by rw [val_limbs]; exact hP0) (by rw [val_limbs]; exact hQ0) (by omega) (by omega))
  simp only [val_limbs] at HNUM
  have hbp : blen P ≤ 1125899906842624 := Nat.le_trans (blen_le (k := 32 * (limbs P).length) (by rw [← pow_limC]; exact limbs_lt_pow P)) (by omega)
  have hbq : blen Q ≤ 1125899906842624 := Nat.le_trans (blen_le (k := 32 * (limbs Q).length) (by rw [← pow_limC]; exact limbs_lt_pow Q)) (by omega)
  have hbp0 : ((blen P : Int) == 0) = false := by have := blen_pos hP0; simp; omega
  have hBL := fun (W : World) (A1 : Option Addr) (c1 : Nat) (q1 : Num W A1 (limbs P).length c1 (limbs P)) (q : Nat) => Len_quiet _ _ _ _ _ q1 q
  simp only [val_limbs] at hBL
  have HBL := Lib.hid hBL
  have hBL2 := fun (W : World) (A1 : Option Addr) (c1 : Nat) (q1 : Num W A1 (limbs Q).length c1 (limbs Q)) (q : Nat) => Len_quiet _ _ _ _ _ q1 q
  simp only [val_limbs] at hBL2
  have HBL2 := Lib.hid hBL2
  clear hw hx hy h0 h1 hn hm hP hQ hO hg hgg hXP hYQ hP0 hQ0 hlp hlq hs hg0 hBL hBL2
  generalize blen P = bp at *
  generalize blen Q = bq at *
  generalize hlp' : (limbs P).length = lp at *
  generalize hlq' : (limbs Q).length = lq at *
  have HLP := Lib.hid hlp'
  have HLQ := Lib.hid hlq'
  clear hlp' hlq'
  go_enter Tryz.func14, Tryz.ntmps14
  go_wp2_with fail
  refine HO.out.mono ?_
  rintro ex w1 ⟨v, rfl, A1, c1, A2, c2, rfl, r1, r2, r3, hb⟩
  rw [HLP.out] at r1
  rw [HLQ.out] at r2
  rw [HLP.out, HLQ.out]
  have hb2 := below_then HW.out HW.out.size hb
  have hb3 := hb2.alloc hb2.size (.cells #[.bool neg, .slice A1 lp c1, .slice A2 lq c2] 28)
  have hal := (Below.refl w1.heap.size w1).alloc (Nat.le_refl _) (.cells #[.bool neg, .slice A1 lp c1, .slice A2 lq c2] 28)
  have q1 := r1.num.below hal
  have q2 := r2.num.below hal
  have hk := heap_alloc_new w1 (.cells #[.bool neg, .slice A1 lp c1, .slice A2 lq c2] 28)
  generalize hw2 : w1.alloc (.cells #[.bool neg, .slice A1 lp c1, .slice A2 lq c2] 28) = w2 at *
  have HS1 := Lib.hid (HBL.out _ _ _ q1)
  have HS2 := Lib.hid (HBL2.out _ _ _ q2)
  have HQ1 := Lib.hid q1
  have HQ2 := Lib.hid q2
  have HB := Lib.hid hb3
  have hd0 : w2.cell? ⟨w1.heap.size, 0, none⟩ = some (.bool neg) := by simp [World.cell?, hk]
  have hd1 : w2.cell? ⟨w1.heap.size, 1, none⟩ = some (.slice A1 lp c1) := by simp [World.cell?, hk]
  have hd2 : w2.cell? ⟨w1.heap.size, 2, none⟩ = some (.slice A2 lq c2) := by simp [World.cell?, hk]
  have HK := Lib.hid hk
  clear hb2 hb3 hal r1 r2 r3 hb HO HW q1 q2 hk HBL2
  go_wp2
  clear hw2
  go_quiet (first | (go_at_call 32; with_reducible refine Calls.quiet_of_same (HS1.out _)) | (go_at_call 32; with_reducible refine Calls.quiet_of_same (HS2.out _)))
  have hd0 : (w2.drewN nq).cell? ⟨w1.heap.size, 0, none⟩ = some (.bool neg) := by have := HK.out; simp [World.cell?, this]
  have hd1 : (w2.drewN nq).cell? ⟨w1.heap.size, 1, none⟩ = some (.slice A1 lp c1) := by have := HK.out; simp [World.cell?, this]
  have hd2 : (w2.drewN nq).cell? ⟨w1.heap.size, 2, none⟩ = some (.slice A2 lq c2) := by have := HK.out; simp [World.cell?, this]
  have HQ3 := Lib.hid (HQ1.out.drewN nq)
  have HQ4 := Lib.hid (HQ2.out.drewN nq)
  have HB3 := Lib.hid (below_drawn HB.out nq)
  clear HS1 HS2 HB HQ1 HQ2 HK
  generalize w2.drewN nq = w3 at *
  have hL3 := HBL.out _ _ _ HQ3.out 0
  rw [show w3.drewN 0 = w3 from rfl] at hL3
  have HL3 := Lib.hid hL3
  clear hL3
  have HG3 := Lib.hid (HG.out.below HB3.out)
  have HN3 := Lib.hid (HNUM.out w3 HG3.out _ _ _ _ HQ3.out HQ4.out)
  clear HBL HNUM
  go_wp2_with fail
  refine HL3.out.mono ?_; rintro ex w4 ⟨rfl, rfl⟩
  clear HL3
  obtain ⟨top, htop⟩ : ∃ top : Int, (bp : Int) - bq = top := ⟨_, rfl⟩
  have HT := Lib.hid htop
  clear hbp hbq
  rw [htop]
  by_cases hbig : 2000 < top
  · have hbg1 := decide_eq_true hbig
    have HBIG := Lib.hid hbig
    clear htop
    cases neg
    · go_wp2_with (first | (go_at_call 34; refine (Inf_pos _).mono ?_; rintro ex w4 ⟨rfl, rfl⟩))
      refine bodyPost_ret (v := .tuple #[.float .f64 9218868437227405312, .int .i64 0]) (by simp [results, Tryz.results14, go_sem]) rfl ?_
      obtain ⟨e0, he0⟩ := HEX.out
      have h3 := HFAR.out e0 he0
      refine ⟨e0, (KEY.out e0 he0).1, ?_, HB3.out⟩
      rw [(KEY.out e0 he0).2, nearNum_far (by have := HT.out; have := HBIG.out; omega)]; rfl
    · go_wp2_with (first | (go_at_call 34; refine (Inf_neg _).mono ?_; rintro ex w4 ⟨rfl, rfl⟩))
      refine bodyPost_ret (v := .tuple #[.float .f64 18442240474082181120, .int .i64 0]) (by simp [results, Tryz.results14, go_sem]) rfl ?_
      obtain ⟨e0, he0⟩ := HEX.out
      have h3 := HFAR.out e0 he0
      refine ⟨e0, (KEY.out e0 he0).1, ?_, HB3.out⟩
      rw [(KEY.out e0 he0).2, nearNum_far (by have := HT.out; have := HBIG.out; omega)]; rfl
  · have hbg1 := decide_eq_false hbig
    have HBIG := Lib.hid hbig
    by_cases hbig2 : top < -2000
    · have hbg2 := decide_eq_true hbig2
      have HBIG2 := Lib.hid hbig2
      clear htop
      cases neg
      · go_wp2
        refine bodyPost_ret (v := .tuple #[.float .f64 0, .int .i64 0]) (by simp [results, Tryz.results14, go_sem]) rfl ?_
        obtain ⟨h3, h4⟩ := HTINY.out (by have := HT.out; have := HBIG2.out; omega)
        refine ⟨-1074, (KEY.out _ h3).1, ?_, HB3.out⟩
        rw [(KEY.out _ h3).2, nearNum_tiny h4]; rfl
      · go_wp2_with (first | (go_at_call 35; refine (Copysign_neg _).mono ?_; rintro ex w4 ⟨rfl, rfl⟩))
        refine bodyPost_ret (v := .tuple #[.float .f64 9223372036854775808, .int .i64 0]) (by simp [results, Tryz.results14, go_sem]) rfl ?_
        obtain ⟨h3, h4⟩ := HTINY.out (by have := HT.out; have := HBIG2.out; omega)
        refine ⟨-1074, (KEY.out _ h3).1, ?_, HB3.out⟩
        rw [(KEY.out _ h3).2, nearNum_tiny h4]; rfl
    · have hbg2 := decide_eq_false hbig2
      clear htop
      go_wp2_with fail
      refine HN3.out.mono ?_
      rintro ex w5 ⟨e0, he0, rfl, hb5⟩
      have HH := Lib.hid he0
      have HB5 := Lib.hid hb5
      clear he0 hb5
      obtain ⟨r, hr⟩ : ∃ r, withSign neg (amount (nearNum P Q e0).1 (nearNum P Q e0).2.1 (nearNum P Q e0).2.2) = r := ⟨_, rfl⟩
      rw [hr]
      have HR := Lib.hid hr
      clear hr
      go_wp2
      refine bodyPost_ret (v := .tuple #[.float .f64 r, .int .i64 0]) (by simp [results, Tryz.results14, go_sem]) rfl ⟨e0, (KEY.out e0 HH.out).1, ?_, below_then HB3.out HB3.out.size HB5.out⟩
      rw [(KEY.out e0 HH.out).2, HR.out]

end Go.Proofs.YtgdgdifnpdcgkaaGreatDoor
