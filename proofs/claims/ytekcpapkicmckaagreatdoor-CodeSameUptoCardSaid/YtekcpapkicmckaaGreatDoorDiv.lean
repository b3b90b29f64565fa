/- The contract of limbs.DivMod. -/
import Derived.Test.YtekcpapkicmckaaGreatDoorLng
import Derived.Test.YtekcpapkicmckaaGreatDoorLimB
import Derived.Test.YtekcpapkicmckaaGreatDoorDivN
namespace Go.Proofs.YtekcpapkicmckaaGreatDoor
open Go.RowKit

/-- what DivMod gives of a divisor that is not nought -/
def DivPost (w : World) (X Y : Nat) (e : Ending) (w' : World) : Prop :=
  ∃ A1 c1 A2 c2, e = .returned (.tuple #[.slice A1 (limbs (X / Y)).length c1, .slice A2 (limbs (X % Y)).length c2, .int .i64 0]) ∧
    Own w' w.heap.size A1 (limbs (X / Y)).length c1 (limbs (X / Y)) ∧ Own w' w.heap.size A2 (limbs (X % Y)).length c2 (limbs (X % Y)) ∧ Below w.heap.size w w'

set_option maxHeartbeats 1000000 in
set_option maxRecDepth 100000 in
theorem DivMod_zero (A B : Option Addr) (n c m d : Nat) (xs ys : List Nat) (w : World) (hx : Num w A n c xs) (hy : Num w B m d ys) (h0 : val ys = 0) :
    Calls Tryz.prog 195 #[.slice A n c, .slice B m d] w fun e w' => e = .returned (.tuple #[.slice none 0 0, .slice none 0 0, .int .i64 11]) ∧ w = w' := by
  have h1 := Lib.hid (trim_any _ _ _ _ _ hx)
  have h2 := Lib.hid (trim_any _ _ _ _ _ hy)
  rw [h0, limbs_zero] at h2
  have hb := hx.trim.sl.big
  generalize (limbs (val xs)).length = p at h1 hb
  clear h0
  go_enter Tryz.func195, Tryz.ntmps195
  go_wp2_with fail
  refine h1.out.mono ?_; rintro e w' ⟨rfl, rfl⟩
  go_wp2_with fail
  refine h2.out.mono ?_; rintro e w' ⟨rfl, rfl⟩
  go_wp2
  go_ret3
  exact ⟨rfl, rfl⟩

/- the dividend is less -/
theorem DivMod_less (A B : Option Addr) (n c m d : Nat) (xs ys : List Nat) (w : World) (hx : Num w A n c xs) (hy : Num w B m d ys) (h0 : val xs < val ys) (hn : n ≤ 35184372088832) :
    Calls Tryz.prog 195 #[.slice A n c, .slice B m d] w (DivPost w (val xs) (val ys)) := by
  have h1 := Lib.hid (trim_any _ _ _ _ _ hx)
  have h2 := Lib.hid (trim_any _ _ _ _ _ hy)
  have hx' := hx.trim
  have hy' := hy.trim
  have hp0 : (limbs (val ys)).length ≠ 0 := fun e => by have := limbs_length_zero.1 e; omega
  have hpn : (limbs (val xs)).length ≤ n := by rw [← hx.len]; exact limbs_length_val hx.lim
  have hcmp := Lib.hid (Cmp_any _ _ _ _ _ _ _ _ w hx' hy')
  have hce : cmpNat (val (limbs (val xs))) (val (limbs (val ys))) = -1 := by rw [val_limbs, val_limbs]; unfold cmpNat; rw [if_pos h0]
  rw [hce] at hcmp
  have hnorm := fun q => Norm_any _ _ _ _ (w.drewN q) (hx'.drewN q) (by omega)
  rw [val_limbs] at hnorm
  have HN := Lib.hid hnorm
  have HV := Lib.hid h0
  have hb1 := hx'.sl.big
  have hb2 := hy'.sl.big
  obtain ⟨p, hp⟩ : ∃ p, (limbs (val xs)).length = p := ⟨_, rfl⟩
  obtain ⟨q, hq⟩ : ∃ q, (limbs (val ys)).length = q := ⟨_, rfl⟩
  rw [hp] at h1 hcmp hb1
  rw [hq] at h2 hcmp hb2 hp0
  have HP := Lib.hid hp
  have hq0 : ((q : Int) == 0) = false := by simpa using hp0
  clear h0 hce hnorm hp hq hx' hy' hpn
  go_enter Tryz.func195, Tryz.ntmps195
  go_wp2_with fail
  refine h1.out.mono ?_; rintro e w' ⟨rfl, rfl⟩
  go_wp2_with fail
  refine h2.out.mono ?_; rintro e w' ⟨rfl, rfl⟩
  go_wp2_with fail
  refine hcmp.out.mono ?_; rintro e w' ⟨rfl, k, rfl⟩
  go_wp2_with fail
  rw [← HP.out]
  refine (HN.out k).mono ?_; rintro e w' ⟨A', c', rfl, h3, h4⟩
  go_wp2
  go_ret3
  unfold DivPost
  rw [Nat.div_eq_of_lt HV.out, Nat.mod_eq_of_lt HV.out, limbs_zero]
  exact ⟨none, 0, A', c', rfl, Own.nil _ _, h3, ⟨h4.os, h4.tape, h4.output, h4.size, h4.block⟩⟩

/- the divisor has one limb -/
set_option maxHeartbeats 2000000 in
set_option maxRecDepth 100000 in
theorem DivMod_short (A B : Option Addr) (n c m d : Nat) (xs ys : List Nat) (w : World) (hx : Num w A n c xs) (hy : Num w B m d ys) (h0 : val ys ≤ val xs) (h1 : (limbs (val ys)).length = 1) (hn : n ≤ 35184372088832) :
    Calls Tryz.prog 195 #[.slice A n c, .slice B m d] w (DivPost w (val xs) (val ys)) := by
  have t1 := Lib.hid (trim_any _ _ _ _ _ hx)
  have t2 := Lib.hid (trim_any _ _ _ _ _ hy)
  have hx' := hx.trim
  have hy' := hy.trim
  have hY0 : val ys ≠ 0 := fun e => by rw [e, limbs_zero] at h1; simp at h1
  have hpn : (limbs (val xs)).length ≤ n := by rw [← hx.len]; exact limbs_length_val hx.lim
  have hcmp := Cmp_any _ _ _ _ _ _ _ _ w hx' hy'
  obtain ⟨cc, hcc, hce⟩ : ∃ cc, cmpNat (val (limbs (val xs))) (val (limbs (val ys))) = cc ∧ 0 ≤ cc := by
    rw [val_limbs, val_limbs]; unfold cmpNat; rw [if_neg (by omega)]
    exact ⟨_, rfl, by split <;> omega⟩
  rw [hcc] at hcmp
  have HCMP := Lib.hid hcmp
  rw [h1] at t2 HCMP hy'
  have hyv := val_limbs (val ys)
  have hby := nth_lt (limbs_lim (val ys)) 0
  have hyl : val ys = nth (limbs (val ys)) 0 := by
    have h2 := val_take_succ' (limbs (val ys)) 0
    rw [List.take_of_length_le (by omega), val_limbs] at h2
    simpa [val] using h2
  obtain ⟨b0, hb0⟩ : ∃ b0, nth (limbs (val ys)) 0 = b0 := ⟨_, rfl⟩
  obtain ⟨bb, bo, hBe, hbc⟩ := hy'.cells (by omega)
  have hbc0 := hbc 0 (by omega)
  rw [hb0] at hbc0 hby hyl
  subst hBe
  have HYL := Lib.hid hyl
  have hbpos : 1 ≤ b0 := by omega
  have hb1 := hx'.sl.big
  obtain ⟨p, hp⟩ : ∃ p, (limbs (val xs)).length = p := ⟨_, rfl⟩
  rw [hp] at t1 HCMP hb1 hpn hx'
  have hp0 : 0 < p := by
    rw [← hp]
    apply Nat.pos_of_ne_zero
    intro e
    have := limbs_length_zero.1 e
    omega
  have hX := limbs_lim (val xs)
  have HXV := Lib.hid (val_limbs (val xs))
  generalize limbs (val xs) = X at hX HXV hx' hp
  have HP := Lib.hid hp
  obtain ⟨ab, ao, hAe, hac⟩ := hx'.cells hp0
  subst hAe
  have HAC := Lib.hid hac
  have hmake := fun g1 g2 => make_row (P := Tryz.prog) 132 169 (.int .u32 0) 4 Tryz.under_sl Tryz.info_u32 rfl (by omega) p p g1 g2
  replace hmake := hmake (by omega) (by omega)
  clear h0 h1 hY0 hcmp hcc hyv hb0 hbc hyl hp hac hx' hy'
  go_enter Tryz.func195, Tryz.ntmps195
  go_wp2_with fail
  refine t1.out.mono ?_; rintro e w' ⟨rfl, rfl⟩
  go_wp2_with fail
  refine t2.out.mono ?_; rintro e w' ⟨rfl, rfl⟩
  go_wp2_with fail
  refine HCMP.out.mono ?_; rintro e w' ⟨rfl, k, rfl⟩
  have hd0 : decide (cc < 0) = false := by simp; omega
  go_wp2
  have hown : Own ((w.drewN k).alloc (.cells (Array.replicate p (.int .u32 0)) 169)) w.heap.size (some ⟨w.heap.size, 0, none⟩) p p (List.replicate p 0) :=
    ⟨by rw [← u32s_replicate]; exact Mine.made _ (w.drewN k) w.heap.size _ _ _ (Nat.le_refl _) (Nat.le_refl _) (by omega), Lim.replicate _⟩
  have hbel : Below w.heap.size w ((w.drewN k).alloc (.cells (Array.replicate p (.int .u32 0)) 169)) := (show Below w.heap.size w (w.drewN k) from ⟨rfl, rfl, rfl, Nat.le_refl _, fun _ _ => rfl⟩).alloc (Nat.le_refl _) _
  generalize (w.drewN k).alloc (.cells (Array.replicate p (.int .u32 0)) 169) = w1 at hown hbel ⊢
  clear hmake
  go_loopw [8, 9] (fun rv ix wr => ∃ (i r : Nat) (qs : List Nat), i ≤ p ∧ ix = .int .i64 ((i : Int) - 1) ∧ rv = .int .u64 r ∧ r < b0 ∧ Own wr w.heap.size (some ⟨w.heap.size, 0, none⟩) p p qs ∧ Below w.heap.size w wr ∧
    Hid (val (X.drop i) = val (qs.drop i) * b0 + r)) (fun _ ix _ => (intOf ix + 1).toNat)
  case atStart => exact ⟨p, 0, _, Nat.le_refl _, by go_num, rfl, by omega, hown, hbel, Lib.hid (by rw [List.drop_of_length_le (by rw [HP.out]; omega), List.drop_of_length_le (by simp)]; simp [val])⟩
  case round =>
    obtain ⟨i, r, qs, hi, rfl, rfl, hr, hq, hb, HE⟩ := hrel
    clear hown hbel
    by_cases hi0 : i = 0
    · subst hi0
      obtain ⟨hd1, hd2⟩ := div_of (X := val xs) (Y := b0) (Q := val qs) (R := r) (by have := HE.out; simp only [List.drop_zero] at this; rw [HXV.out] at this; omega) hr
      have htq := Lib.hid (trim_any _ _ _ _ _ hq.num)
      have hqt := hq.trim
      rw [hd1] at htq hqt
      have HR := Lib.hid hd2
      have hfr := Lib.hid (From_any r wr (by omega))
      clear hd1 hd2
      have hbs := hb.size
      go_wp2_with fail
      refine htq.out.mono ?_; rintro e w' ⟨rfl, rfl⟩
      go_wp2_with fail
      refine hfr.out.mono ?_; rintro e w' ⟨A', rfl, h3, h4⟩
      go_wp2
      go_ret3
      unfold DivPost
      rw [HYL.out, ← HR.out]
      exact ⟨_, _, _, _, rfl, hqt.below h4, h3.mono hbs, below_then hb hbs h4⟩
    · obtain ⟨j, rfl⟩ : ∃ j, i = j + 1 := ⟨i - 1, by omega⟩
      obtain ⟨hs1, hs2, hs3⟩ := short_step (qs := qs) (i := j) (by omega) hX hr HE.out (by rw [hq.len]; omega)
      have hcx : wr.cell? ⟨ab, ao + j, none⟩ = some (.int .u32 (nth X j : Nat)) := (hb.cell (World.block_lt_of_cell? w _ (HAC.out j (by omega)))).trans (HAC.out j (by omega))
      have hcb : wr.cell? ⟨bb, bo, none⟩ = some (.int .u32 (b0 : Nat)) := by
        rw [Nat.add_zero] at hbc0
        exact (hb.cell (World.block_lt_of_cell? w _ hbc0)).trans hbc0
      have hxb := nth_lt hX j
      have hor := or_join32 r (nth X j) (by omega) hxb
      obtain ⟨x, hx2⟩ : ∃ x, nth X j = x := ⟨_, rfl⟩
      rw [hx2] at hcx hxb hor hs1 hs2 hs3
      obtain ⟨sm, hsm⟩ : ∃ s, r * 4294967296 + x = s := ⟨_, rfl⟩
      rw [hsm] at hor hs1 hs2 hs3
      have hsb : sm < 18446744073709551616 := by
        have : r * 4294967296 ≤ 4294967295 * 4294967296 := Nat.mul_le_mul_right _ (by omega)
        omega
      have e1 : (sm : Int) / (b0 : Int) = ((sm / b0 : Nat) : Int) := (Int.natCast_ediv _ _).symm
      have e2 : (sm : Int) % (b0 : Int) = ((sm % b0 : Nat) : Int) := (Int.natCast_emod _ _).symm
      generalize sm / b0 = dg at e1 hs1 hs3
      generalize sm % b0 = rr at e2 hs2 hs3
      have HS3 := Lib.hid hs3
      have hcq := hq.cell j (by omega)
      have hfq := hq.free j
      have hA := hq.stored j dg (by omega) hs1
      have hB := hb.setCell (p := ⟨w.heap.size, j, none⟩) (Nat.le_refl _) (.int .u32 (dg : Nat))
      have HSB := Lib.hid hsb
      have hbw : bb < w.heap.size := World.block_lt_of_cell? w _ hbc0
      have hcb2 : (wr.setCell ⟨w.heap.size, j, none⟩ (.int .u32 (dg : Nat))).cell? ⟨bb, bo, none⟩ = some (.int .u32 (b0 : Nat)) :=
        (World.cell?_of_block (setCell_other (by show bb ≠ w.heap.size; omega) _ _)).trans hcb
      clear hx2 hsm hs3 hbc0 hsb hbw
      rw [show ((j + 1 : Nat) : Int) - 1 = (j : Int) by omega]
      go_wp2
      go_roundw
      case rel => exact ⟨j, rr, _, by omega, by go_num, by first | rfl | rw [e2], hs2, hA, hB, HS3⟩
      case measure => simp [intOf]

/- the divisor has more limbs than one -/
set_option maxHeartbeats 4000000 in
set_option maxRecDepth 100000 in
theorem DivMod_long (A B : Option Addr) (n c m d : Nat) (xs ys : List Nat) (w : World) (hx : Num w A n c xs) (hy : Num w B m d ys) (h0 : val ys ≤ val xs) (h1 : 2 ≤ (limbs (val ys)).length) (hn : n < 35184372088831) :
    Calls Tryz.prog 195 #[.slice A n c, .slice B m d] w (DivPost w (val xs) (val ys)) := by
  have t1 := Lib.hid (trim_any _ _ _ _ _ hx)
  have t2 := Lib.hid (trim_any _ _ _ _ _ hy)
  have hx' := hx.trim
  have hy' := hy.trim
  have hpn : (limbs (val xs)).length ≤ n := by rw [← hx.len]; exact limbs_length_val hx.lim
  have hqp : (limbs (val ys)).length ≤ (limbs (val xs)).length := limbs_length_mono h0
  have hcmp := Cmp_any _ _ _ _ _ _ _ _ w hx' hy'
  obtain ⟨cc, hcc, hce⟩ : ∃ cc, cmpNat (val (limbs (val xs))) (val (limbs (val ys))) = cc ∧ 0 ≤ cc := by
    rw [val_limbs, val_limbs]; unfold cmpNat; rw [if_neg (by omega)]
    exact ⟨_, rfl, by split <;> omega⟩
  rw [hcc] at hcmp
  have HCMP := Lib.hid hcmp
  obtain ⟨p, hp⟩ : ∃ p, (limbs (val xs)).length = p := ⟨_, rfl⟩
  obtain ⟨q, hq⟩ : ∃ q, (limbs (val ys)).length = q := ⟨_, rfl⟩
  rw [hp] at t1 HCMP hpn hqp hx'
  rw [hq] at t2 HCMP hqp hy' h1
  have hb1 := hx'.sl.big
  have hb2 := hy'.sl.big
  obtain ⟨tp, htp⟩ : ∃ tp, nth (limbs (val ys)) (q - 1) = tp := ⟨_, rfl⟩
  obtain ⟨sh, hsh⟩ : ∃ sh, 32 - blen tp = sh := ⟨_, rfl⟩
  obtain ⟨hs1, hs2, hs3⟩ := shifted (Y := val ys) (m := q) (s := sh) hq (by omega) (by rw [htp, hsh])
  obtain ⟨hvl, hvt⟩ := shifted_limbs hs2 hs3 (by omega)
  have htb := nth_lt (limbs_lim (val ys)) (q - 1)
  rw [htp] at htb
  obtain ⟨bb, bo, hBe, hbc⟩ := hy'.cells (by omega)
  have hbc0 := hbc (q - 1) (by omega)
  rw [htp] at hbc0
  subst hBe
  have HLZ := Lib.hid (fun W => LeadingZeros32_any tp W htb)
  rw [hsh] at HLZ
  have hXp : val xs < 4294967296 ^ p := by rw [← hp]; exact limbs_lt_pow _
  have HUP1 := Lib.hid (fun k => up_any _ _ _ _ sh (w.drewN k) (hx'.drewN k) (by omega) (by omega))
  have HUP2 := Lib.hid (fun W (hW : Below w.heap.size w W) => up_any _ _ _ _ sh W (hy'.below hW) (by omega) (by omega))
  rw [val_limbs] at HUP1 HUP2
  rw [hvl] at HUP2
  have hbq : (q : Int) - 1 < q := by omega
  have hq1 : ((q : Int) == 1) = false := by simp; omega
  have hq0 : ((q : Int) == 0) = false := by simp; omega
  have hd0 : decide (cc < 0) = false := by simp; omega
  have HP := Lib.hid hp
  have HY := Lib.hid hq
  have HS2 := Lib.hid hs2
  have HS3 := Lib.hid hs3
  have HVT := Lib.hid hvt
  have HVL := Lib.hid hvl
  have HXP := Lib.hid hXp
  clear hcc hcmp hp hq htp hsh hs2 hs3 hvl hvt hbc hXp hx' hy' h0
  go_enter Tryz.func195, Tryz.ntmps195
  go_wp2_with fail
  refine t1.out.mono ?_; rintro e w' ⟨rfl, rfl⟩
  go_wp2_with fail
  refine t2.out.mono ?_; rintro e w' ⟨rfl, rfl⟩
  go_wp2_with fail
  refine HCMP.out.mono ?_; rintro e w' ⟨rfl, k, rfl⟩
  go_wp2_with fail
  refine (HLZ.out _).mono ?_; rintro e w' ⟨rfl, rfl⟩
  go_wp2_with fail
  refine (HUP1.out k).mono ?_; rintro e w1 ⟨A1, rfl, hu, hb3⟩
  have hB1 : Below w.heap.size w w1 := ⟨hb3.os, hb3.tape, hb3.output, hb3.size, hb3.block⟩
  have hu' : Own w1 w.heap.size A1 (limbs (val xs * 2 ^ sh)).length (limbs (val xs * 2 ^ sh)).length (limbs (val xs * 2 ^ sh)) := hu
  clear hu hb3
  go_wp2_with fail
  refine (HUP2.out _ hB1).mono ?_; rintro e w2 ⟨A2, rfl, hv, hb4⟩
  have hB2 : Below w.heap.size w w2 := below_then hB1 hB1.size hb4
  have hL1 : p ≤ (limbs (val xs * 2 ^ sh)).length := by
    rw [← HP.out]; exact limbs_length_mono (Nat.le_mul_of_pos_right _ (Nat.pow_pos (by omega)))
  have hL2 : (limbs (val xs * 2 ^ sh)).length ≤ p + 1 := limbs_length_le (by
    rw [Nat.pow_succ]
    have h2 : 2 ^ sh ≤ 4294967296 := by rw [show (4294967296 : Nat) = 2 ^ 32 from rfl]; exact Nat.pow_le_pow_right (by omega) (by omega)
    exact Nat.lt_of_lt_of_le (Nat.mul_lt_mul_of_pos_right HXP.out (Nat.pow_pos (by omega))) (Nat.mul_le_mul_left _ h2))
  have HUV := Lib.hid (val_limbs (val xs * 2 ^ sh))
  have HVV := Lib.hid (val_limbs (val ys * 2 ^ sh))
  have hVL := limbs_lim (val ys * 2 ^ sh)
  generalize limbs (val xs * 2 ^ sh) = U0 at hu' hL1 hL2 HUV
  generalize limbs (val ys * 2 ^ sh) = V at hv HVT HVL HVV hVL
  obtain ⟨L, hL⟩ : ∃ L, U0.length = L := ⟨_, rfl⟩
  rw [hL] at hu' hL1 hL2
  rw [hL]
  obtain ⟨gv, rfl, hgv1, hgv2⟩ := hv.some_of (by omega)
  have hu2 := hu'.below hb4
  have hne : blockOf A1 ≠ some gv := fun e => by have := (hu'.mine.lt gv e).2; omega
  have hv2 := hv.num
  clear hu' hv hL hb4 hB1
  go_wp2
  go_loopg [11] (p + 1 - L) (fun k uv wr => ∃ (Au : Option Addr) (lu cu : Nat) (U : List Nat), uv = .slice Au lu cu ∧ lu + k = p + 1 ∧ Own wr w.heap.size Au lu cu U ∧ Hid (val U = val xs * 2 ^ sh) ∧ Below w.heap.size w wr ∧
    Num wr (some ⟨gv, 0, none⟩) q q V ∧ blockOf Au ≠ some gv)
  case atStart => exact ⟨A1, L, L, U0, rfl, by omega, hu2, HUV, hB2, hv2, hne⟩
  case round =>
    obtain ⟨Au, lu, cu, U, rfl, hlk, hu3, HUE, hB3, hv3, hne3⟩ := hrel
    clear hu2 hB2 hv2 hne hgv1 hgv2
    have hbs := hB3.size
    have hulen := hu3.len
    have HUL := Lib.hid hulen
    clear hulen
    by_cases hk0 : gk = 0
    · subst hk0
      obtain rfl : lu = p + 1 := by omega
      obtain ⟨gu, rfl, hgu1, hgu2⟩ := hu3.some_of (by omega)
      have hgg : gv ≠ gu := fun e => hne3 (by simp [blockOf, e])
      have HLONG := Lib.hid (long_any gu (p + 1) cu q q w.heap.size gv 0 U V wr hu3 hv3 hgg h1 (by omega) (by omega) HVT.out (by
        rw [HVV.out]
        exact shifted_top hu3.lim HUE.out HXP.out hs1 (by omega) hqp HS2.out))
      have hll : decide ((p : Int) + 1 ≤ p) = false := by simp; omega
      clear hgg hne3
      go_wp2_with fail
      refine HLONG.out.mono ?_; rintro e w4 ⟨gq, Q, U', rfl, hq4, hu4, hg4, hval, hlt⟩
      have hp2 : 0 < 2 ^ sh := Nat.pow_pos (by omega)
      rw [HUE.out, HVV.out] at hval
      rw [HVV.out] at hlt
      obtain ⟨hd1, hd2⟩ := div_of hval hlt
      rw [Nat.mul_div_mul_right _ _ hp2] at hd1
      rw [Nat.mul_mod_mul_right] at hd2
      have hut : val (U'.take q) = val xs % val ys * 2 ^ sh := by
        rw [val_take hu4.lim, hd2, Nat.mod_eq_of_lt]
        exact Nat.lt_trans (by rw [← hd2]; exact hlt) HS3.out
      have hcap : q ≤ cu := by have := hu4.mine.cap; omega
      have hut2 := hu4.num.pre q cu (by omega) hcap
      have HTQ := Lib.hid (trim_any _ _ _ _ _ hq4.num.drew)
      have HTU := Lib.hid (trim_any _ _ _ _ _ hut2.drew)
      have hut3 := hut2.drew.trim
      have hlu : (limbs (val (U'.take q))).length ≤ q := Nat.le_trans (limbs_length_val hut2.lim) (Nat.le_of_eq hut2.len)
      have HDN := Lib.hid (down_any _ _ _ _ sh _ hut3 (by omega) hs1)
      rw [val_limbs, hut, Nat.mul_div_cancel _ hp2] at HDN
      rw [hut] at HTU
      rw [hd1] at HTQ
      have hqt := hq4.trim.drew
      rw [hd1] at hqt
      have hb4 := below_grown (A := some ⟨gu, 0, none⟩) hB3 hbs hg4 (fun q hq => by simp only [blockOf, Option.some.injEq] at hq; omega)
      clear hval hlt hd1 hd2 hut hut2 hut3 hlu hq4 hu4 hg4 hB3 hu3 hv3
      generalize (limbs (val xs % val ys * 2 ^ sh)).length = lu at HTU HDN
      go_wp2
      go_region_with (first | (go_at_call 100; first | ((with_reducible refine HTQ.out.mono ?_); rintro e w' ⟨rfl, rfl⟩) | ((with_reducible refine HTU.out.mono ?_); rintro e w' ⟨rfl, rfl⟩)) | (go_at_call 224; refine HDN.out.mono ?_; rintro e w5 ⟨A', rfl, h5, h6⟩))
      go_wp2
      go_ret3
      unfold DivPost
      have hs4 := hb4.drew.size
      exact ⟨_, _, A', _, rfl, (hqt.mono hbs).below h6, h5.mono hs4, below_then hb4.drew hs4 h6⟩
    · have hll : decide ((lu : Int) ≤ p) = true := by simp; omega
      go_wp2_with (at_builtin; refine app_one w.heap.size rfl _ _ _ _ (.int .u32 0) 4 rfl Tryz.under_sl Tryz.info_u32 rfl (by omega) Au _ _ _ (.int .u32 0) rfl rfl rfl hu3.mine hbs (by omega) ?_; intro A' c2 w4 hm4 hg4 hbl)
      have hv4 := hv3.kept hg4 (.inr (fun e => hne3 e.symm))
      go_roundg (gk - 1)
      case measure => omega
      case rel =>
        refine ⟨A', lu + 1, c2, U ++ [0], rfl, by omega, ⟨?_, hu3.lim.snoc (by omega)⟩, Lib.hid ?_, below_grown hB3 hbs hg4 (fun q hq => (hu3.mine.lt q hq).1), hv4, ?_⟩
        · have e : u32s U ++ [.int .u32 0] = u32s (U ++ [0]) := by simp [u32s]
          rw [e] at hm4
          exact hm4
        · rw [val_snoc, HUE.out]; simp
        · rcases hbl with hbl | ⟨k2, hbl, hk2⟩
          · rw [hbl]; exact hne3
          · rw [hbl]
            obtain ⟨kk, hkk, hlt⟩ := hv3.sl.lt (by omega)
            simp only [blockOf, Option.some.injEq] at hkk
            simp only [ne_eq, Option.some.injEq]
            omega

theorem DivMod_any (A B : Option Addr) (n c m d : Nat) (xs ys : List Nat) (w : World) (hx : Num w A n c xs) (hy : Num w B m d ys) (h0 : val ys ≠ 0) (hn : n < 35184372088831) :
    Calls Tryz.prog 195 #[.slice A n c, .slice B m d] w (DivPost w (val xs) (val ys)) := by
  by_cases h1 : val xs < val ys
  · exact DivMod_less _ _ _ _ _ _ _ _ w hx hy h1 (by omega)
  · by_cases h2 : (limbs (val ys)).length = 1
    · exact DivMod_short _ _ _ _ _ _ _ _ w hx hy (by omega) h2 (by omega)
    · have h3 : (limbs (val ys)).length ≠ 0 := fun e => h0 (limbs_length_zero.1 e)
      exact DivMod_long _ _ _ _ _ _ _ _ w hx hy (by omega) (by omega) hn

end Go.Proofs.YtekcpapkicmckaaGreatDoor
