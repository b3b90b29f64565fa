/- thicketlaw02.away. -/
import Derived.Test.YtgdgdifnpdcgkaaGreatDoorDst
import Derived.Test.YtgdgdifnpdcgkaaGreatDoorOwnW
namespace Go.Proofs.YtgdgdifnpdcgkaaGreatDoor
open Go.RowKit

/-- how far a quotient lies from a number, as a quotient -/
def AwayPost (w : World) (n : Bool) (R S b L : Nat) (e : Ending) (w' : World) : Prop :=
  ∃ U V A1 c1 A2 c2, e = .returned (.tuple #[.agg #[.bool false, .slice A1 (limbs U).length c1, .slice A2 (limbs V).length c2], .bool true]) ∧
    Own w' w.heap.size A1 (limbs U).length c1 (limbs U) ∧ Own w' w.heap.size A2 (limbs V).length c2 (limbs V) ∧ Below w.heap.size w w' ∧ V ≠ 0 ∧ U * (S * qden b) = dist n R S (fneg b) (qnum b) (qden b) * V ∧
    (limbs U).length < 2 * L + 200 ∧ (limbs V).length < 2 * L + 200

theorem plusN_le (s1 : Bool) (p : Nat) (s2 : Bool) (q : Nat) : plusN s1 p s2 q ≤ p + q := by unfold plusN; split <;> (try split) <;> omega

/-- the like of limbs.Minus -/
def MinPost (w : World) (n : Bool) (R S b L : Nat) (e : Ending) (w' : World) : Prop :=
  ∃ sg U V A1 c1 A2 c2, e = .returned (.tuple #[.agg #[.bool sg, .slice A1 (limbs U).length c1, .slice A2 (limbs V).length c2], .int .i64 0]) ∧
    Own w' w.heap.size A1 (limbs U).length c1 (limbs U) ∧ Own w' w.heap.size A2 (limbs V).length c2 (limbs V) ∧ Below w.heap.size w w' ∧ V ≠ 0 ∧ U * (S * qden b) = dist n R S (fneg b) (qnum b) (qden b) * V ∧
    (limbs U).length < 2 * L + 200 ∧ (limbs V).length < 2 * L + 200

theorem minus_away (n : Bool) (A1 B1 : Option Addr) (p1 c1 q1 d1 : Nat) (xs1 ys1 : List Nat) (b L : Nat) (w : World) (hx1 : Num w A1 p1 c1 xs1) (hy1 : Num w B1 q1 d1 ys1) (h1 : val ys1 ≠ 0) (lp1 : p1 ≤ L) (lq1 : q1 ≤ L) (hL : L < 100000000)
    (A3 A4 : Option Addr) (c3 c4 : Nat) (o3 : Num w A3 (limbs (qnum b / Nat.gcd (qnum b) (qden b))).length c3 (limbs (qnum b / Nat.gcd (qnum b) (qden b)))) (o4 : Num w A4 (limbs (qden b / Nat.gcd (qnum b) (qden b))).length c4 (limbs (qden b / Nat.gcd (qnum b) (qden b)))) :
    Calls Tryz.prog 37 #[.agg #[.bool n, .slice A1 p1 c1, .slice B1 q1 d1], .agg #[.bool (sgn (fneg b) (qnum b)), .slice A3 (limbs (qnum b / Nat.gcd (qnum b) (qden b))).length c3, .slice A4 (limbs (qden b / Nat.gcd (qnum b) (qden b))).length c4]] w
      (MinPost w n (val xs1) (val ys1) b L) := by
  have hl := quo_len b
  have qd0 : qden b ≠ 0 := Nat.ne_of_gt (Nat.pow_pos (by omega))
  have hv0 : val (limbs (qden b / Nat.gcd (qnum b) (qden b))) ≠ 0 := by rw [val_limbs]; exact div_gcd_ne qd0
  have HAW := away_law n (fneg b) (val xs1) (val ys1) (qnum b) (qden b) h1 qd0 _ _ _ _ _ _ _ rfl rfl rfl rfl rfl rfl rfl
  have lx := limbs_length_val hx1.lim
  have ly := limbs_length_val hy1.lim
  rw [hx1.len] at lx
  rw [hy1.len] at ly
  have HM := Minus_any n (sgn (fneg b) (qnum b)) A1 B1 A3 A4 p1 c1 q1 d1 _ c3 _ c4 _ _ _ _ w hx1 hy1 o3 o4 h1 hv0 (by omega) (by omega) (by omega) (by omega)
  rw [val_limbs, val_limbs] at HM
  refine HM.mono ?_
  rintro e w' ⟨v, rfl, hv⟩
  unfold RatPost at hv
  obtain ⟨B9, k9, B0, k0, rfl, o9, o0, hne, bR⟩ := hv
  have l1 := limbs_div_len (val xs1) (Nat.gcd (val xs1) (val ys1))
  have l2 := limbs_div_len (val ys1) (Nat.gcd (val xs1) (val ys1))
  have l3 := limbs_div_len (qnum b / Nat.gcd (qnum b) (qden b)) (Nat.gcd (qnum b / Nat.gcd (qnum b) (qden b)) (qden b / Nat.gcd (qnum b) (qden b)))
  have l4 := limbs_div_len (qden b / Nat.gcd (qnum b) (qden b)) (Nat.gcd (qnum b / Nat.gcd (qnum b) (qden b)) (qden b / Nat.gcd (qnum b) (qden b)))
  generalize qnum b / Nat.gcd (qnum b) (qden b) = a2 at *
  generalize qden b / Nat.gcd (qnum b) (qden b) = b2 at *
  generalize a2 / Nat.gcd a2 b2 = X2 at *
  generalize b2 / Nat.gcd a2 b2 = Y2 at *
  generalize val xs1 / Nat.gcd (val xs1) (val ys1) = X1 at *
  generalize val ys1 / Nat.gcd (val xs1) (val ys1) = Y1 at *
  have m1 := limbs_mul_len X1 Y2
  have m2 := limbs_mul_len X2 Y1
  have m3 := limbs_mul_len Y1 Y2
  have m4 := limbs_length_mono (plusN_le (sgn n (val xs1)) (X1 * Y2) (sgn (!sgn (fneg b) (qnum b)) a2) (X2 * Y1))
  have m5 := Add_len (X1 * Y2) (X2 * Y1)
  generalize plusN (sgn n (val xs1)) (X1 * Y2) (sgn (!sgn (fneg b) (qnum b)) a2) (X2 * Y1) = N at *
  have m6 := limbs_div_len N (Nat.gcd N (Y1 * Y2))
  have m7 := limbs_div_len (Y1 * Y2) (Nat.gcd N (Y1 * Y2))
  exact ⟨_, _, _, B9, k9, B0, k0, rfl, o9, o0, bR, HAW.1, HAW.2, by omega, by omega⟩

set_option maxRecDepth 100000 in
set_option maxHeartbeats 4000000 in
theorem away_some (n : Bool) (A1 B1 : Option Addr) (p1 c1 q1 d1 : Nat) (xs1 ys1 : List Nat) (b L : Nat) (w : World) (hx1 : Num w A1 p1 c1 xs1) (hy1 : Num w B1 q1 d1 ys1) (h1 : val ys1 ≠ 0) (lp1 : p1 ≤ L) (lq1 : q1 ≤ L) (hL : L < 100000000)
    (hb : b < 18446744073709551616) (hk : (partsOf b).2.2 ≤ 2) :
    Calls Tryz.prog 16 #[.agg #[.bool n, .slice A1 p1 c1, .slice B1 q1 d1], .float .f64 b] w (AwayPost w n (val xs1) (val ys1) b L) := by
  have HQ := Lib.hid (fun W => Quotient_some b W hb hk)
  have HM := Lib.hid (fun W (hW : Below w.heap.size w W) => minus_away n A1 B1 p1 c1 q1 d1 xs1 ys1 b L W (hx1.below hW) (hy1.below hW) h1 lp1 lq1 hL)
  clear hx1 hy1 h1 lp1 lq1 hL hb hk
  unfold AwayPost
  unfold MinPost at HM
  generalize val xs1 = R at *
  generalize val ys1 = S at *
  generalize sgn (fneg b) (qnum b) = qs at *
  generalize qnum b / Nat.gcd (qnum b) (qden b) = QX at *
  generalize qden b / Nat.gcd (qnum b) (qden b) = QY at *
  generalize dist n R S (fneg b) (qnum b) (qden b) = dl at *
  generalize S * qden b = SK at *
  have hB := ((Below.refl w.heap.size w).alloc (Nat.le_refl _) (.cells #[.bool n, .slice A1 p1 c1, .slice B1 q1 d1] 28)).alloc (by simp) (.cells #[.bool false, .slice none 0 0, .slice none 0 0] 28)
  have V2 := (RatVar.new w n (.slice A1 p1 c1) (.slice B1 q1 d1)).below (alloc_below _ (.cells #[.bool false, .slice none 0 0, .slice none 0 0] 28))
  have V4 := RatVar.new' (k := w.heap.size + 1) (w := w.alloc (.cells #[.bool n, .slice A1 p1 c1, .slice B1 q1 d1] 28)) (by simp) false (.slice none 0 0) (.slice none 0 0)
  go_enter Tryz.func16, Tryz.ntmps16
  go_upto_region 1 with (fail)
  generalize (w.alloc (.cells #[.bool n, .slice A1 p1 c1, .slice B1 q1 d1] 28)).alloc (.cells #[.bool false, .slice none 0 0, .slice none 0 0] 28) = w1 at hB V2 V4 ⊢
  have sz1 := V4.lt
  go_wp2_with fail
  refine (HQ.out _).mono ?_; rintro e w2 ⟨v, rfl, hv⟩
  unfold RatPost at hv
  obtain ⟨A3, c3, A4, c4, rfl, o3, o4, -, b2⟩ := hv
  have B2 := below_then hB hB.size b2
  have V6 := RatVar.new w2 qs (.slice A3 (limbs QX).length c3) (.slice A4 (limbs QY).length c4)
  have d3 := alloc_below w2 (.cells #[.bool qs, .slice A3 (limbs QX).length c3, .slice A4 (limbs QY).length c4] 28)
  have D3 := chain3 b2 d3
  have sz2 := b2.size
  go_upto_region 4 with (fail)
  generalize w2.alloc (.cells #[.bool qs, .slice A3 (limbs QX).length c3, .slice A4 (limbs QY).length c4] 28) = w3 at V6 d3 D3 ⊢
  have B3 := below_then B2 (by omega) d3
  have P2 := V2.below D3
  have P4 := V4.below D3
  have HM3 := Lib.hid (HM.out w3 B3 A3 A4 c3 c4 (o3.below d3).num (o4.below d3).num)
  have k0 := P2.c0
  have k1 := P2.c1
  have k2 := P2.c2
  have j0 := V6.c0
  have j1 := V6.c1
  have j2 := V6.c2
  have sz3 := V6.lt
  clear V2 V4 hB b2 B2 d3 D3 o3 o4 HM HQ
  go_wp2_with fail
  refine HM3.out.mono ?_; rintro e w4 ⟨sg, U, V, A5, c5, A6, c6, rfl, o5, o6, b4, hV0, hUV, hlU, hlV⟩
  have B4 := below_then B3 (by omega) b4
  have V8 := RatVar.new w4 sg (.slice A5 (limbs U).length c5) (.slice A6 (limbs V).length c6)
  have d5 := alloc_below w4 (.cells #[.bool sg, .slice A5 (limbs U).length c5, .slice A6 (limbs V).length c6] 28)
  have D5 := chain3 b4 d5
  have sz4 := b4.size
  go_upto_region 5 with (fail)
  generalize w4.alloc (.cells #[.bool sg, .slice A5 (limbs U).length c5, .slice A6 (limbs V).length c6] 28) = w5 at V8 d5 D5 ⊢
  have B5 := below_then B4 (by omega) d5
  have Q4 := P4.below D5
  have o5' := o5.below d5
  have o6' := o6.below d5
  have n5 : ∀ k, blockOf A5 = some k → k < w4.heap.size := fun k hk => (o5.mine.lt k hk).2
  have n6 : ∀ k, blockOf A6 = some k → k < w4.heap.size := fun k hk => (o6.mine.lt k hk).2
  generalize w4.heap.size = T8 at *
  clear k0 k1 k2 j0 j1 j2 P2 P4 V6 B3 b4 B4 d5 D5 o5 o6 HM3
  have j0 := V8.c0
  have jf := V8.free 0
  go_upto_region 6 with (fail)
  have E6 := Ex.set (p := fun k => k = T8) (w := w5) (g := T8) rfl 0 (.bool false)
  have P8 := V8.set0 false
  have P4 := Q4.ex E6 (by omega)
  have q5 := o5'.ex E6 (by intro k hk; have := n5 k hk; omega)
  have q6 := o6'.ex E6 (by intro k hk; have := n6 k hk; omega)
  have B6 := B5.setCell (p := ⟨T8, 0, none⟩) (show w.heap.size ≤ T8 by omega) (.bool false)
  generalize w5.setCell ⟨T8, 0, none⟩ (.bool false) = w6 at E6 P8 P4 q5 q6 B6 ⊢
  clear V8 Q4 o5' o6' B5 j0 jf E6 n5 n6
  have j0 := P8.c0
  have j1 := P8.c1
  have j2 := P8.c2
  have e0 := P4.c0
  have e1 := P4.c1
  have e2 := P4.c2
  have f0 := P4.free 0
  have f1 := P4.free 1
  have f2 := P4.free 2
  have r4 := P4.all false (.slice A5 (limbs U).length c5) (.slice A6 (limbs V).length c6)
  have E4 := all_ex (p := fun k => k = w.heap.size + 1) w6 (w.heap.size + 1) rfl (.bool false) (.slice A5 (limbs U).length c5) (.slice A6 (limbs V).length c6)
  have b4 := all_below B6 (T := w.heap.size + 1) (by omega) (.bool false) (.slice A5 (limbs U).length c5) (.slice A6 (limbs V).length c6)
  have O5 := q5.ex E4 (by intro k hk; have := q5.at k hk; omega)
  have O6 := q6.ex E4 (by intro k hk; have := q6.at k hk; omega)
  go_wp2
  refine bodyPost_ret (v := .tuple #[.agg #[.bool false, .slice A5 (limbs U).length c5, .slice A6 (limbs V).length c6], .bool true]) ?_ rfl ⟨U, V, A5, c5, A6, c6, rfl, O5.mono (by omega), O6.mono (by omega), b4, hV0, hUV, hlU, hlV⟩
  exact results_row_tmp (fn := Tryz.f16) (p := 4) (u := 5) (ty := 28) rfl _ _ (w.heap.size + 1) 28 #[.bool false, .slice A5 (limbs U).length c5, .slice A6 (limbs V).length c6] (0, 0) _ rfl r4 Tryz.underlying28 rfl (by kernel_rfl)

set_option maxRecDepth 100000 in
set_option maxHeartbeats 4000000 in
theorem away_nan (n : Bool) (A1 B1 : Option Addr) (p1 c1 q1 d1 : Nat) (b : Nat) (w : World) (hb : b < 18446744073709551616) (hk : (partsOf b).2.2 = 3 ∨ (partsOf b).2.2 = 4) :
    Calls Tryz.prog 16 #[.agg #[.bool n, .slice A1 p1 c1, .slice B1 q1 d1], .float .f64 b] w fun e w' =>
      e = .returned (.tuple #[.agg #[.bool false, .slice none 0 0, .slice none 0 0], .bool false]) ∧ Below w.heap.size w w' := by
  have HQ := Lib.hid (fun W => Quotient_nan b W hb hk)
  have hB := ((Below.refl w.heap.size w).alloc (Nat.le_refl _) (.cells #[.bool n, .slice A1 p1 c1, .slice B1 q1 d1] 28)).alloc (by simp) (.cells #[.bool false, .slice none 0 0, .slice none 0 0] 28)
  have V4 := RatVar.new' (k := w.heap.size + 1) (w := w.alloc (.cells #[.bool n, .slice A1 p1 c1, .slice B1 q1 d1] 28)) (by simp) false (.slice none 0 0) (.slice none 0 0)
  go_enter Tryz.func16, Tryz.ntmps16
  go_upto_region 1 with (fail)
  generalize (w.alloc (.cells #[.bool n, .slice A1 p1 c1, .slice B1 q1 d1] 28)).alloc (.cells #[.bool false, .slice none 0 0, .slice none 0 0] 28) = w1 at hB V4 ⊢
  have sz1 := V4.lt
  go_wp2_with fail
  refine (HQ.out _).mono ?_; rintro e w2 ⟨rfl, b2⟩
  have B2 := below_then hB hB.size b2
  have V6 := RatVar.new w2 false (.slice none 0 0) (.slice none 0 0)
  have d3 := alloc_below w2 (.cells #[.bool false, .slice none 0 0, .slice none 0 0] 28)
  have D3 := chain3 b2 d3
  have sz2 := b2.size
  go_upto_region 3 with (fail)
  generalize w2.alloc (.cells #[.bool false, .slice none 0 0, .slice none 0 0] 28) = w3 at V6 d3 D3 ⊢
  have B3 := below_then B2 (by omega) d3
  have P4 := V4.below D3
  have j0 := V6.c0
  have j1 := V6.c1
  have j2 := V6.c2
  have e0 := P4.c0
  have e1 := P4.c1
  have e2 := P4.c2
  have f0 := P4.free 0
  have f1 := P4.free 1
  have f2 := P4.free 2
  have r4 := P4.all false (.slice none 0 0) (.slice none 0 0)
  have b4 := all_below B3 (T := w.heap.size + 1) (by omega) (.bool false) (.slice none 0 0) (.slice none 0 0)
  clear V4 V6 hB b2 B2 d3 D3 HQ
  go_wp2
  refine bodyPost_ret (v := .tuple #[.agg #[.bool false, .slice none 0 0, .slice none 0 0], .bool false]) ?_ rfl ⟨rfl, b4⟩
  exact results_row_tmp (fn := Tryz.f16) (p := 4) (u := 5) (ty := 28) rfl _ _ (w.heap.size + 1) 28 #[.bool false, .slice none 0 0, .slice none 0 0] (0, 0) _ rfl r4 Tryz.underlying28 rfl (by kernel_rfl)

end Go.Proofs.YtgdgdifnpdcgkaaGreatDoor
