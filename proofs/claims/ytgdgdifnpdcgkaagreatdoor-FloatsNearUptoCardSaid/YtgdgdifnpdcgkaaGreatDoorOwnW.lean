/- The walk of thicketlaw02.FloatsOwn. -/
import Derived.Test.YtgdgdifnpdcgkaaGreatDoorOwnA
namespace Go.Proofs.YtgdgdifnpdcgkaaGreatDoor
open Go.RowKit

theorem quo_len (b : Nat) : (limbs (qnum b / Nat.gcd (qnum b) (qden b))).length ≤ 64 ∧ (limbs (qden b / Nat.gcd (qnum b) (qden b))).length ≤ 64 := by
  obtain ⟨h1, h2, h3, _⟩ := partsOf_bd b
  constructor
  · refine Nat.le_trans (limbs_length_mono (Nat.div_le_self _ _)) ?_
    unfold qnum
    exact limbs_len_pow _ _ (by omega) (by omega)
  · refine Nat.le_trans (limbs_length_mono (Nat.div_le_self _ _)) ?_
    unfold qden
    have := limbs_len_pow 1 (-(partsOf b).2.1).toNat (by omega) (by omega)
    rwa [Nat.one_mul] at this

/-- a quotient in new memory: its two lists apart -/
def QuotPost (w : World) (ng : Bool) (X Y : List Nat) (v : Value) (w' : World) : Prop :=
  ∃ A1 c1 A2 c2, v = .agg #[.bool ng, .slice A1 X.length c1, .slice A2 Y.length c2] ∧
    Own w' w.heap.size A1 X.length c1 X ∧ Own w' w.heap.size A2 Y.length c2 Y ∧ (∀ k, blockOf A1 = some k → blockOf A2 ≠ some k) ∧ Below w.heap.size w w'

set_option maxRecDepth 100000 in
set_option maxHeartbeats 4000000 in
theorem own_any (b : Nat) (w : World) (er : Int) (ng : Bool) (X Y : List Nat) (hX : Lim X) (hY : Lim Y) (hlx : X.length ≤ 64) (hly : Y.length ≤ 64) (hg : Begs w)
    (hq : ∀ W, Calls Tryz.prog 8 #[.float .f64 b] W fun e w' => ∃ v, e = .returned (.tuple #[v, .int .i64 er]) ∧ QuotPost W ng X Y v w') :
    Calls Tryz.prog 3 #[.int .u64 b] w fun e w' => e = .returned (.bool true) ∧ Below w.heap.size w w' := by
  have HB := Lib.hid (begins_any w hg)
  have HQ := Lib.hid hq
  have hLX := Lib.hid hX
  have hLY := Lib.hid hY
  clear hq hX hY
  have ef := Tryz.f64from b
  go_enter Tryz.func3, Tryz.ntmps3
  go_wp2_with fail
  refine HB.out.mono ?_; rintro e w1 ⟨rfl, b1⟩
  clear HB hg
  go_wp2_with fail
  refine (HQ.out w1).mono ?_; rintro e w2 ⟨v, rfl, A1, c1, A2, c2, rfl, o1, o2, ap12, b2⟩
  have B2 := below_then b1 b1.size b2
  have V1 := RatVar.new w2 ng (.slice A1 X.length c1) (.slice A2 Y.length c2)
  have d3 := (Below.refl w2.heap.size w2).alloc (Nat.le_refl _) (.cells #[.bool ng, .slice A1 X.length c1, .slice A2 Y.length c2] 28)
  have lt1 := o1.mine.lt
  have lt2 := o2.mine.lt
  go_upto_region 5 with (fail)
  generalize w2.alloc (.cells #[.bool ng, .slice A1 X.length c1, .slice A2 Y.length c2] 28) = w3 at V1 d3 ⊢
  go_wp2_with fail
  refine (HQ.out w3).mono ?_; rintro e w4 ⟨v, rfl, A3, c3, A4, c4, rfl, o3, o4, ap34, b4⟩
  have V2 := RatVar.new w4 ng (.slice A3 X.length c3) (.slice A4 Y.length c4)
  have d5 := (Below.refl w4.heap.size w4).alloc (Nat.le_refl _) (.cells #[.bool ng, .slice A3 X.length c3, .slice A4 Y.length c4] 28)
  have lt3 := o3.mine.lt
  have lt4 := o4.mine.lt
  go_upto_region 6 with (fail)
  generalize w4.alloc (.cells #[.bool ng, .slice A3 X.length c3, .slice A4 Y.length c4] 28) = w5 at V2 d5 ⊢
  have B3 := below_then B2 B2.size d3
  have B4 := below_then B3 B3.size b4
  have B5 := below_then B4 B4.size d5
  have V1' := (V1.below b4).below d5
  have o1' := ((o1.below d3).below b4).below d5
  have o2' := ((o2.below d3).below b4).below d5
  have o3' := o3.below d5
  have o4' := o4.below d5
  have sz1 := b1.size
  have sz2 := b2.size
  have sz3 : w2.heap.size < w3.heap.size := V1.lt
  have sz4 := b4.size
  have sz5 : w4.heap.size < w5.heap.size := V2.lt
  clear V1 o1 o2 o3 o4 b1 b2 b4 B2 B3 B4 d3 d5
  generalize hT1 : w2.heap.size = T1 at *
  generalize hT2 : w4.heap.size = T2 at *
  clear hT1 hT2
  generalize hLX : X.length = LX at *
  generalize hLY : Y.length = LY at *
  have HLX := Lib.hid hLX
  have HLY := Lib.hid hLY
  clear hLX hLY
  have k21 := V2.c1
  have E6 := Own.empty w5 w5.heap.size (Nat.le_refl _)
  have d6 := (Below.refl w5.heap.size w5).alloc (Nat.le_refl _) (.cells #[] 32)
  have m6 := E6.mine
  have s6 := (o3'.below d6).num.sl
  have z6 := d6.size
  go_upto_region 9 with (at_builtin; refine app_copy w5.heap.size rfl _ _ _ _ (.int .u32 0) 4 rfl Tryz.under_sl Tryz.info_u32 rfl (by omega) (some ⟨w5.heap.size, 0, none⟩) 0 0 [] A3 LX c3 (u32s X) rfl rfl (u32s_one _) m6 s6 z6 (by omega) ?_; intro A8 c8 w6 m7 g7)
  have f6 : Below w5.heap.size w5 w6 := below_grown d6 z6 g7 (fun k hk => by cases hk; exact Nat.le_refl _)
  have o8 : Own w6 w5.heap.size A8 LX c8 X := ⟨by simpa using m7, hLX.out⟩
  have lt8 := o8.mine.lt
  clear E6 d6 m6 s6 m7 g7 z6
  have k22 := (V2.below f6).c2
  have E7 := Own.empty w6 w6.heap.size (Nat.le_refl _)
  have d7 := (Below.refl w6.heap.size w6).alloc (Nat.le_refl _) (.cells #[] 32)
  have m7 := E7.mine
  have s7 := ((o4'.below f6).below d7).num.sl
  have z7 := d7.size
  have f6z := f6.size
  have hT2 : T2 < w6.heap.size := by omega
  go_wp2_with (at_builtin; refine app_copy w6.heap.size rfl _ _ _ _ (.int .u32 0) 4 rfl Tryz.under_sl Tryz.info_u32 rfl (by omega) (some ⟨w6.heap.size, 0, none⟩) 0 0 [] A4 LY c4 (u32s Y) rfl rfl (u32s_one _) m7 s7 z7 (by omega) ?_; intro A9 c9 w7 m8 g8)
  have f7 : Below w6.heap.size w6 w7 := below_grown d7 z7 g8 (fun k hk => by cases hk; exact Nat.le_refl _)
  have o9 : Own w7 w6.heap.size A9 LY c9 Y := ⟨by simpa using m8, hLY.out⟩
  have lt9 := o9.mine.lt
  have f57 := f6.trans (f7.mono f6z)
  have o8' := o8.below f7
  have p1 := o1'.below f57
  have p2 := o2'.below f57
  have p3 := o3'.below f57
  have p4 := o4'.below f57
  have W1 := V1'.below f57
  have W2 := V2.below f57
  have B7 := below_then B5 B5.size f57
  have sz7 := f57.size
  clear E7 d7 m7 s7 m8 g8 z7 k21 k22 o8 o1' o2' o3' o4' V1' V2 B5 f6 f7 f57
  -- the first list is written over
  have hB1 : w.heap.size ≤ T1 := by omega
  go_wp2
  go_loopw [10] (fun ix wr => ∃ (i : Nat) (xs : List Nat), i ≤ LX ∧ ix = .int .i64 i ∧ Own wr w1.heap.size A1 LX c1 xs ∧ Ex (fun k => blockOf A1 = some k) w7 wr ∧ Below w.heap.size w wr) (fun ix _ => LX - (intOf ix).toNat)
  case atStart => exact ⟨0, _, Nat.zero_le _, rfl, p1, Ex.refl _ _, B7⟩
  case round =>
    obtain ⟨i, xs, hi, rfl, ho, hex, hbw⟩ := hrel
    have hV := W1.ex hex (fun e => by have := (lt1 T1 e).2; omega)
    have k11 := hV.c1
    by_cases hlt : i < LX
    · obtain ⟨g, rfl, hg1, hg2⟩ := ho.some_of (by omega)
      have hfx := ho.free i
      have hcx := ho.cell i hlt
      have hA := ho.stored i 7 hlt (by omega)
      have hX := hex.trans (Ex.set (p := fun k => blockOf (some (⟨g, 0, none⟩ : Addr)) = some k) (w := wr) rfl i (.int .u32 7))
      have hBB := hbw.setCell (p := ⟨g, i, none⟩) (show w.heap.size ≤ g by omega) (.int .u32 7)
      go_wp2
      go_roundw
      case rel => exact ⟨i + 1, _, hlt, by go_num, hA, hX, hBB⟩
      case measure => simp [intOf]; omega
    · obtain rfl : LX = i := by omega
      have q2 := p2.ex hex (fun k hk e => ap12 k (by first | exact hk | exact e) (by first | exact hk | exact e))
      clear p1 p2 B7 hlt hi
      generalize wr = wo at *
      go_wp2
      go_loopw [11] (fun ix wr => ∃ (i : Nat) (ys : List Nat), i ≤ LY ∧ ix = .int .i64 i ∧ Own wr w1.heap.size A2 LY c2 ys ∧ Ex (fun k => blockOf A2 = some k) wo wr ∧ Below w.heap.size w wr) (fun ix _ => LY - (intOf ix).toNat)
      case atStart => exact ⟨0, _, Nat.zero_le _, rfl, q2, Ex.refl _ _, hbw⟩
      case round =>
        obtain ⟨i, ys, hi, rfl, ho2, hex2, hbw2⟩ := hrel
        have hV2 := hV.ex hex2 (fun e => by have := (lt2 T1 e).2; omega)
        have k12 := hV2.c2
        by_cases hlt : i < LY
        · obtain ⟨g, rfl, hg1, hg2⟩ := ho2.some_of (by omega)
          have hfx := ho2.free i
          have hcx := ho2.cell i hlt
          have hA := ho2.stored i 8 hlt (by omega)
          have hX := hex2.trans (Ex.set (p := fun k => blockOf (some (⟨g, 0, none⟩ : Addr)) = some k) (w := wr) rfl i (.int .u32 8))
          have hBB := hbw2.setCell (p := ⟨g, i, none⟩) (show w.heap.size ≤ g by omega) (.int .u32 8)
          go_wp2
          go_roundw
          case rel => exact ⟨i + 1, _, hlt, by go_num, hA, hX, hBB⟩
          case measure => simp [intOf]; omega
        · obtain rfl : LY = i := by omega
          have r1 := ho.ex hex2 (fun k hk e => ap12 k (by first | exact hk | exact e) (by first | exact hk | exact e))
          have hX12 := (hex.mono (q := fun k => blockOf A1 = some k ∨ blockOf A2 = some k) (fun k hk => .inl hk)).trans (hex2.mono (fun k hk => .inr hk))
          have k11 := hV2.c1
          have hz2 := hbw2.size
          have t1 := hV2.lt
          have zx := hX12.size
          clear hlt hi q2 hex hex2 hbw ho hV
          have m1 := r1.mine
          have nT1 : ¬ blockOf A1 = some T1 := fun e => by have := (lt1 T1 e).2; omega
          have nT2 : ¬ blockOf A2 = some T1 := fun e => by have := (lt2 T1 e).2; omega
          go_upto_region 19 with (at_builtin; refine app_one w1.heap.size rfl _ _ _ _ (.int .u32 0) 4 rfl Tryz.under_sl Tryz.info_u32 rfl (by omega) A1 _ _ _ (.int .u32 9) rfl rfl rfl m1 (by omega) (by omega) ?_; intro A5 c5 w8 m5 g5 h5; have x8 : Ex (fun k => blockOf A1 = some k) wr w8 := Ex.grown g5 (fun r hr => hr); have V8 := hV2.ex x8 nT1; have f81 := V8.free 1; have c81 := V8.c1)
          have o5 : Own w8 w1.heap.size A5 (LX + 1) c5 (xs ++ [9]) := ⟨by rw [← u32s_snoc]; exact m5, r1.lim.snoc (by omega)⟩
          have V9 := V8.set1 (.slice A5 (LX + 1) c5)
          have x9 := (x8.mono (q := fun k => blockOf A1 = some k ∨ k = T1) (fun k hk => .inl hk)).trans (Ex.set (g := T1) (.inr rfl) 1 (.slice A5 (LX + 1) c5))
          have n5 : blockOf A5 ≠ some T1 := fun e => by
            rcases h5 with h | ⟨k, h, h'⟩
            · exact nT1 (h ▸ e)
            · rw [e] at h; cases h; omega
          have l5 := o5.mine.lt
          have o5' := o5.kept (setCell_grownBy w8 T1 1 (.slice A5 (LX + 1) c5)) (.inr n5)
          have b9 := (hbw2.grown g5 hz2 (fun k hk => by have := (r1.mine.lt k hk).1; omega)).setCell (p := ⟨T1, 1, none⟩) hB1 (.slice A5 (LX + 1) c5)
          have o2' := ho2.ex x9 (fun k hk e => by
            rcases e with e | e
            · exact ap12 k e hk
            · exact nT2 (e ▸ hk))
          generalize w8.setCell ⟨T1, 1, none⟩ (.slice A5 (LX + 1) c5) = w9 at V9 x9 o5' b9 o2' ⊢
          clear o5 V8 f81 c81 x8 hV2 k12 k11 m1 m5 r1
          have m2 := o2'.mine
          have k92 := V9.c2
          have hz9 := b9.size
          have zx9 := x9.size
          have ht1 := V9.lt
          go_upto_region 20 with (at_builtin; refine app_one w1.heap.size rfl _ _ _ _ (.int .u32 0) 4 rfl Tryz.under_sl Tryz.info_u32 rfl (by omega) A2 _ _ _ (.int .u32 10) rfl rfl rfl m2 (by omega) (by omega) ?_; intro A6 c6 w10 m6 g6 h6; have x8 : Ex (fun k => blockOf A2 = some k) w9 w10 := Ex.grown g6 (fun r hr => hr); have V8 := V9.ex x8 nT2; have f81 := V8.free 2; have c81 := V8.c2)
          have o6 : Own w10 w1.heap.size A6 (LY + 1) c6 (ys ++ [10]) := ⟨by rw [← u32s_snoc]; exact m6, o2'.lim.snoc (by omega)⟩
          have V10 := V8.set2 (.slice A6 (LY + 1) c6)
          have x10 := (x8.mono (q := fun k => blockOf A2 = some k ∨ k = T1) (fun k hk => .inl hk)).trans (Ex.set (g := T1) (.inr rfl) 2 (.slice A6 (LY + 1) c6))
          have n6 : blockOf A6 ≠ some T1 := fun e => by
            rcases h6 with h | ⟨k, h, h'⟩
            · exact nT2 (h ▸ e)
            · rw [e] at h; cases h; omega
          have o6' := o6.kept (setCell_grownBy w10 T1 2 (.slice A6 (LY + 1) c6)) (.inr n6)
          have b10 := (b9.grown g6 hz9 (fun k hk => by have := (o2'.mine.lt k hk).1; omega)).setCell (p := ⟨T1, 2, none⟩) hB1 (.slice A6 (LY + 1) c6)
          have o5'' := o5'.ex x10 (fun k hk e => by
            rcases e with e | e
            · rcases h5 with h | ⟨q, h, h'⟩
              · exact ap12 k (by rw [← h]; exact hk) e
              · rw [hk] at h; cases h; have := (lt2 k e).2; omega
            · exact n5 (e ▸ hk))
          have X10 := (hX12.mono (q := fun k => (blockOf A1 = some k ∨ blockOf A2 = some k) ∨ k = T1) (fun k hk => .inl hk)).trans
            ((x9.mono (fun k hk => hk.elim (fun h => .inl (.inl h)) .inr)).trans (x10.mono (fun k hk => hk.elim (fun h => .inl (.inr h)) .inr)))
          generalize w10.setCell ⟨T1, 2, none⟩ (.slice A6 (LY + 1) c6) = w11 at V10 x10 o6' b10 o5'' X10 ⊢
          clear o6 V8 f81 c81 x8 V9 k92 m2 m6 o2' o5' x9 x10 hX12 b9
          go_wp2_with fail
          refine (HQ.out w11).mono ?_; rintro e w12 ⟨v, rfl, A7, c7, A0, c0, rfl, o7, o0, ap70, b12⟩
          rw [HLX.out] at o7 ⊢
          rw [HLY.out] at o0 ⊢
          have V3 := RatVar.new w12 ng (.slice A7 LX c7) (.slice A0 LY c0)
          have d13 := (Below.refl w12.heap.size w12).alloc (Nat.le_refl _) (.cells #[.bool ng, .slice A7 LX c7, .slice A0 LY c0] 28)
          have sz11 := b10.size
          have D := b12.trans (d13.mono b12.size)
          have B13 := below_then b10 sz11 D
          have E : OwnEnd (w12.alloc (.cells #[.bool ng, .slice A7 LX c7, .slice A0 LY c0] 28)) T1 T2 w12.heap.size ng X Y LX LY A3 A4 A5 A6 A7 A8 A9 A0 c3 c4 c5 c6 c7 c8 c9 c0 xs ys :=
            ⟨V10.below D, (W2.ex X10 (by
                rintro ((e | e) | e)
                · have := (lt1 _ e).2; omega
                · have := (lt2 _ e).2; omega
                · omega)).below D, V3,
              ((p3.ex X10 (by
                intro k hk
                have h3 := lt3 k hk
                rintro ((e | e) | e)
                · have := (lt1 _ e).2; omega
                · have := (lt2 _ e).2; omega
                · omega)).below D).num,
              ((p4.ex X10 (by
                intro k hk
                have h3 := lt4 k hk
                rintro ((e | e) | e)
                · have := (lt1 _ e).2; omega
                · have := (lt2 _ e).2; omega
                · omega)).below D).num,
              (o7.below d13).num, (o0.below d13).num,
              ((o8'.ex X10 (by
                intro k hk
                have h3 := lt8 k hk
                rintro ((e | e) | e)
                · have := (lt1 _ e).2; omega
                · have := (lt2 _ e).2; omega
                · omega)).below D).num,
              ((o9.ex X10 (by
                intro k hk
                have h3 := lt9 k hk
                rintro ((e | e) | e)
                · have := (lt1 _ e).2; omega
                · have := (lt2 _ e).2; omega
                · omega)).below D).num,
              (o5''.below D).num, (o6'.below D).num⟩
          go_upto_region 21 with (fail)
          generalize w12.alloc (.cells #[.bool ng, .slice A7 LX c7, .slice A0 LY c0] 28) = w13 at E B13 ⊢
          generalize w12.heap.size = T3 at E ⊢
          clear V3 d13 D o7 o0 V10 o6' b10 o5'' X10 W2 p3 p4 o8' o9 HQ ef
          clear lt1 lt2 lt3 lt4 lt8 lt9 h5 h6 nT1 nT2 n5 n6 l5
          have k01 := E.v2.c1
          have H0 := Lib.hid (same_eq _ _ _ _ _ _ _ w13 E.a3 E.a8)
          go_wp2_with fail
          refine H0.out.mono ?_; rintro e w' ⟨rfl, q0, rfl⟩
          have E0 := E.below (drawn_below w13 q0)
          have B0 := B13.trans ((drawn_below w13 q0).mono B13.size)
          generalize w13.drewN q0 = w14 at E0 B0 ⊢
          clear k01 H0 E B13
          have k11 := E0.v2.c2
          have H1 := Lib.hid (same_eq _ _ _ _ _ _ _ w14 E0.a4 E0.a9)
          go_wp2_with fail
          refine H1.out.mono ?_; rintro e w' ⟨rfl, q1, rfl⟩
          have E1 := E0.below (drawn_below w14 q1)
          have B1 := B0.trans ((drawn_below w14 q1).mono B0.size)
          generalize w14.drewN q1 = w15 at E1 B1 ⊢
          clear k11 H1 E0 
          have k21 := E1.v3.c1
          have H2 := Lib.hid (same_eq _ _ _ _ _ _ _ w15 E1.a7 E1.a8)
          go_wp2_with fail
          refine H2.out.mono ?_; rintro e w' ⟨rfl, q2, rfl⟩
          have E2 := E1.below (drawn_below w15 q2)
          have B2 := B1.trans ((drawn_below w15 q2).mono B1.size)
          generalize w15.drewN q2 = w16 at E2 B2 ⊢
          clear k21 H2 E1 
          have k31 := E2.v3.c2
          have H3 := Lib.hid (same_eq _ _ _ _ _ _ _ w16 E2.a0 E2.a9)
          go_wp2_with fail
          refine H3.out.mono ?_; rintro e w' ⟨rfl, q3, rfl⟩
          have E3 := E2.below (drawn_below w16 q3)
          have B3 := B2.trans ((drawn_below w16 q3).mono B2.size)
          generalize w16.drewN q3 = w17 at E3 B3 ⊢
          clear k31 H3 E2 
          have f1 := E3.v1.c1
          have f2 := E3.v1.c2
          obtain ⟨g5, p5, rfl, r5⟩ := E3.a5.last
          obtain ⟨g6, p6, rfl, r6⟩ := E3.a6.last
          clear E3
          go_wp2
          go_ret
          exact ⟨rfl, B3⟩

theorem own_law (b : Nat) (w : World) (hg : Begs w) (hb : b < 18446744073709551616) :
    Calls Tryz.prog 3 #[.int .u64 b] w fun e w' => e = .returned (.bool true) ∧ Below w.heap.size w w' := by
  by_cases hk : (partsOf b).2.2 ≤ 2
  · obtain ⟨h1, h2⟩ := quo_len b
    refine own_any b w 0 (sgn (fneg b) (qnum b)) _ _ (limbs_lim _) (limbs_lim _) h1 h2 hg (fun W => (Quotient_some b W hb hk).mono ?_)
    rintro e w' ⟨v, he, A1, c1, A2, c2, hv, o1, o2, hap, hbl⟩
    exact ⟨v, he, A1, c1, A2, c2, hv, o1, o2, fun k h3 h4 => hap (h3.trans h4.symm), hbl⟩
  · have hk' : (partsOf b).2.2 = 3 ∨ (partsOf b).2.2 = 4 := by have := (partsOf_bd b).2.2.2; omega
    refine own_any b w 60 false [] [] Lim.nil Lim.nil (by simp) (by simp) hg (fun W => (Quotient_nan b W hb hk').mono ?_)
    rintro e w' ⟨he, hbl⟩
    exact ⟨_, he, none, 0, none, 0, rfl, Own.nil _ _, Own.nil _ _, (fun k (h : none = some k) => by cases h), hbl⟩

end Go.Proofs.YtgdgdifnpdcgkaaGreatDoor
