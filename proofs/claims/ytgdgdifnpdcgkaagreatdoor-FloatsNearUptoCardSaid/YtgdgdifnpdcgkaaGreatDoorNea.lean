/- The walk of thicketlaw02.FloatsNear. -/
import Derived.Test.YtgdgdifnpdcgkaaGreatDoorDst
import Derived.Test.YtgdgdifnpdcgkaaGreatDoorAwa
import Derived.Test.YtgdgdifnpdcgkaaGreatDoorTop
import Derived.Test.YtgdgdifnpdcgkaaGreatDoorBeg
namespace Go.Proofs.YtgdgdifnpdcgkaaGreatDoor
open Go.RowKit

/-- what floats.Nearest answers, as the law looks at it -/
def NearestPost (w : World) (n : Bool) (R S : Nat) (e : Ending) (w' : World) : Prop :=
  ∃ b, e = .returned (.tuple #[.float .f64 b, .int .i64 0]) ∧ Below w.heap.size w w' ∧ b < 18446744073709551616 ∧
    (rung b = 9218868437227405312 ∨ ∃ a M E, b = withSign n a ∧ IsNear R S M E ∧ a = (E + 1074).toNat * 4503599627370496 + M)

theorem nearest_is (n : Bool) (A B : Option Addr) (R S p c q d : Nat) (xs ys : List Nat) (w : World) (hg : WideAt w) (hx : Num w A p c xs) (hy : Num w B q d ys) (hR : val xs = R) (hS' : val ys = S) (hS : S ≠ 0) (hn : R = 0 → n = false) (hp : p ≤ 35184372087808) (hq : q ≤ 35184372087808) :
    Calls Tryz.prog 14 #[.agg #[.bool n, .slice A p c, .slice B q d]] w (NearestPost w n R S) := by
  subst hR hS'
  by_cases h : val xs = 0
  · refine (Nearest_nought n A B p c q d xs ys w hx hy hS h hp hq).mono ?_
    rintro e w' ⟨rfl, hb⟩
    rw [h]
    refine ⟨0, rfl, hb, by omega, .inr ⟨0, 0, -1074, ?_, near_nought _, rfl⟩⟩
    rw [hn h]; rfl
  · refine (Nearest_some n A B p c q d xs ys w hg hx hy hS h hp hq).mono ?_
    rintro e w' ⟨e0, hE, rfl, hb⟩
    obtain ⟨I, M, E, hnn⟩ : ∃ I M E, nearNum (val xs) (val ys) e0 = (I, M, E) := ⟨_, _, _, rfl⟩
    rw [hnn]
    cases I
    · have hI := isNear_of hS hE hnn
      have ha := amount_rung hI
      have hl := hI.low
      have hh := hI.high
      have hm := hI.lt
      have hlt : amount false M E < 9223372036854775808 := amount_lt hm hl hh
      exact ⟨_, rfl, hb, (sign_rung n hlt).2.2.1, .inr ⟨_, M, E, rfl, hI, ha⟩⟩
    · have ha : amount true M E = 9218868437227405312 := by unfold amount; simp
      have hs := sign_rung n (a := 9218868437227405312) (by omega)
      refine ⟨_, rfl, hb, ?_, .inl ?_⟩
      · simp only [ha]; exact hs.2.2.1
      · simp only [ha]; exact hs.1

set_option maxRecDepth 100000 in
set_option maxHeartbeats 1000000 in
theorem near_zero (neg : Bool) (A B : Option Addr) (n c m d : Nat) (ys : List Nat) (w : World) (hg : Begs w) (hy : Num w B m d ys) (h0 : val ys = 0) :
    Calls Tryz.prog 5 #[.bool neg, .slice A n c, .slice B m d] w fun e w' => e = .returned (.bool true) ∧ Below w.heap.size w w' := by
  have HB := Lib.hid (begins_any w hg)
  have HO := Lib.hid (fun W (hW : Below w.heap.size w W) => Over_zero neg A B n c m d ys W (hy.below hW) h0)
  have HN := Lib.hid (fun W (hW : Below w.heap.size w W) => Nearest_zero neg A B n c m d ys W (hy.below hW) h0)
  clear hg hy
  go_enter Tryz.func5, Tryz.ntmps5
  go_wp2_with fail
  refine HB.out.mono ?_; rintro e w1 ⟨rfl, b1⟩
  go_wp2_with fail
  refine (HO.out _ b1).mono ?_; rintro e w2 ⟨rfl, b2⟩
  have B2 := below_then b1 b1.size b2
  have B3 := B2.alloc B2.size (.cells #[.bool false, .slice none 0 0, .slice none 0 0] 28)
  go_upto_region 5 with (fail)
  generalize w2.alloc (.cells #[.bool false, .slice none 0 0, .slice none 0 0] 28) = w3 at B3 ⊢
  go_wp2_with fail
  refine (HN.out _ B3).mono ?_; rintro e w4 ⟨rfl, b4⟩
  have B4 := below_then B3 B3.size b4
  go_wp2
  go_ret
  exact ⟨rfl, B4⟩

theorem Tryz.info_u64 : (Tryz.prog.info? 22).map (fun i => (i.zero, i.size, i.bytes)) = some (some (.int .u64 0), 1, 8) := by kernel_rfl
theorem and_not (b : Nat) (hb : b < 18446744073709551616) : Go.bits .andNot .u64 (b : Int) 9223372036854775808 = ((rung b : Nat) : Int) := by
  have h := mask64 63 (by omega) b hb
  rw [show ((2 : Int) ^ 63 - 1) = 9223372036854775807 from rfl, show (2 : Nat) ^ 63 = 9223372036854775808 from rfl] at h
  unfold rung
  rw [← h]
  rfl
theorem xor_or (sg : Bool) : Go.bits .or .u64 (Go.bits .xor .u64 ((withSign sg 0 : Nat) : Int) 9223372036854775808) 1 = ((withSign (!sg) 1 : Nat) : Int) := by
  cases sg <;> rfl
theorem exp_bits (b : Nat) (hb : b < 18446744073709551616) : Go.bits .and .u64 ((b : Int) / 4503599627370496) 2047 = ((fexp b : Nat) : Int) := by
  have h := mask64 11 (by omega) (b / 4503599627370496) (by omega)
  rw [show ((2 : Int) ^ 11 - 1) = 2047 from rfl, show (2 : Nat) ^ 11 = 2048 from rfl] at h
  unfold fexp; rw [← h, Int.natCast_ediv]; rfl

set_option maxRecDepth 100000 in
set_option maxHeartbeats 4000000 in
theorem near_some (neg : Bool) (A B : Option Addr) (n c m d : Nat) (xs ys : List Nat) (w : World) (hg : Begs w) (hx : Num w A n c xs) (hy : Num w B m d ys) (h0 : val ys ≠ 0) (hn : n ≤ 2000000) (hm : m ≤ 2000000) :
    Calls Tryz.prog 5 #[.bool neg, .slice A n c, .slice B m d] w fun e w' => e = .returned (.bool true) ∧ Below w.heap.size w w' := by
  have HB := Lib.hid (begins_any w hg)
  have HG := Lib.hid hg
  have HO := Lib.hid (fun W (hW : Below w.heap.size w W) => Over_some neg A B n c m d xs ys W (hx.below hW) (hy.below hW) h0 (by omega) (by omega))
  have l1 := limbs_div_len (val xs) (Nat.gcd (val xs) (val ys))
  have l2 := limbs_div_len (val ys) (Nat.gcd (val xs) (val ys))
  have l3 := limbs_length_val hx.lim
  have l4 := limbs_length_val hy.lim
  rw [hx.len] at l3
  rw [hy.len] at l4
  have hS : val ys / Nat.gcd (val xs) (val ys) ≠ 0 := div_gcd_ne h0
  have hsg : val xs / Nat.gcd (val xs) (val ys) = 0 → sgn neg (val xs) = false := fun h => by unfold sgn; rw [if_pos (div_gcd_zero.1 h)]
  clear hx hy h0
  generalize val xs / Nat.gcd (val xs) (val ys) = R at *
  generalize val ys / Nat.gcd (val xs) (val ys) = S at *
  generalize sgn neg (val xs) = sg at *
  have hlR : (limbs R).length ≤ 2000000 := by omega
  have hlS : (limbs S).length ≤ 2000000 := by omega
  clear l1 l2 l3 l4 hg hn hm
  have hvS : val (limbs S) ≠ 0 := by rw [val_limbs]; exact hS
  go_enter Tryz.func5, Tryz.ntmps5
  go_wp2_with fail
  refine HB.out.mono ?_; rintro e w1 ⟨rfl, b1⟩
  go_wp2_with fail
  refine (HO.out _ b1).mono ?_; rintro e w2 ⟨v, rfl, hv⟩
  unfold RatPost at hv
  obtain ⟨A3, c3, A4, c4, rfl, o3, o4, -, b2⟩ := hv
  have B2 := below_then b1 b1.size b2
  have V7 := RatVar.new w2 sg (.slice A3 (limbs R).length c3) (.slice A4 (limbs S).length c4)
  have d3 := alloc_below w2 (.cells #[.bool sg, .slice A3 (limbs R).length c3, .slice A4 (limbs S).length c4] 28)
  have D3 := chain3 b2 d3
  have sz2 := b2.size
  have sz1 := b1.size
  go_upto_region 7 with (fail)
  generalize w2.alloc (.cells #[.bool sg, .slice A3 (limbs R).length c3, .slice A4 (limbs S).length c4] 28) = w3 at V7 d3 D3 ⊢
  have B3 := below_then B2 (by omega) d3
  have o3' := (o3.below d3).num
  have o4' := (o4.below d3).num
  generalize w2.heap.size = T7 at *
  have k0 := V7.c0
  have k1 := V7.c1
  have k2 := V7.c2
  have sz3 := V7.lt
  clear b1 b2 B2 d3 D3 o3 o4 HB HO
  have hwd := (HG.out.below B3).tabs.wide
  go_wp2_with fail
  refine (nearest_is sg A3 A4 R S _ _ _ _ _ _ w3 hwd o3' o4' (val_limbs _) (val_limbs _) hS hsg (by omega) (by omega)).mono ?_; rintro e w4 ⟨b, rfl, b4, hb, hcase⟩
  have B4 := below_then B3 (by omega) b4
  have Q7 := V7.below b4
  have O3 := o3'.below b4
  have O4 := o4'.below b4
  have sz4 := b4.size
  clear k0 k1 k2 V7 B3 b4 o3' o4' hwd hsg
  have e0 := Tryz.f64bits b
  have e1 := exp_bits b hb
  rcases hcase with hi | ⟨a, M, E, hba, hI, ha⟩
  · have hp := rung_parts b
    have hf := fman_lt b
    have hE : fexp b = 2047 := by omega
    have hord := order_self (b := b) (by omega)
    rw [hE] at e1
    have e2 : Go.bits .and .u64 ((b : Int) / 4503599627370496) 2047 = 2047 := e1
    clear e1 hp hf hE hi
    go_wp2
    go_ret
    exact ⟨by simp; exact hord, B4⟩
  · obtain ⟨hal, hrl, hfn, hrm⟩ : a < 9218868437227405312 ∧ rung b = a ∧ fneg b = sg ∧ b % 2 = a % 2 := by
      have h1 := hI.low
      have h2 := hI.high
      have h3 := hI.lt
      have h4 : a < 9218868437227405312 := by omega
      obtain ⟨r1, r2, r3, r4⟩ := sign_rung sg (a := a) (by omega)
      rw [hba]
      exact ⟨h4, r1, r2, r4⟩
    have hE : fexp b ≠ 2047 := by
      have := rung_parts b
      omega
    have hkind : (partsOf b).2.2 ≤ 2 := by
      have h3 := hI.lt
      have h1 := hI.low
      exact (rung_val b (E + 1074).toNat M (hrl.trans ha) (by omega) (by rcases hI.form with h | h; exact .inl h; exact .inr (by omega)) (by omega)).1
    have hE' : (((fexp b : Nat) : Int) == 2047) = false := by simp; omega
    have HA1 := Lib.hid (fun W (hW : Below w4.heap.size w4 W) => away_some sg A3 A4 _ c3 _ c4 _ _ b 2000000 W (O3.below hW) (O4.below hW) hvS hlR hlS (by omega) hb hkind)
    rw [val_limbs, val_limbs] at HA1
    have k0 := Q7.c0
    have k1 := Q7.c1
    have k2 := Q7.c2
    have hxx := fexp_lt b
    have HBA := Lib.hid hba
    have HHA := Lib.hid ha
    have HRL := Lib.hid hrl
    have HFN := Lib.hid hfn
    have HRM := Lib.hid hrm
    have HI := Lib.hid hI
    clear hba ha hrl hfn hrm hI
    go_wp2_with fail
    refine (HA1.out _ (Below.refl _ _)).mono ?_; rintro e w5 ⟨U, V, A5, c5, A6, c6, rfl, o5, o6, b5, hV0, hUV, hlU, hlV⟩
    have B5 := below_then B4 B4.size b5
    have V13 := RatVar.new w5 false (.slice A5 (limbs U).length c5) (.slice A6 (limbs V).length c6)
    have d6 := alloc_below w5 (.cells #[.bool false, .slice A5 (limbs U).length c5, .slice A6 (limbs V).length c6] 28)
    have D6 := chain3 b5 d6
    have sz5 := b5.size
    go_upto_region 16 with (fail)
    generalize w5.alloc (.cells #[.bool false, .slice A5 (limbs U).length c5, .slice A6 (limbs V).length c6] 28) = w6 at V13 d6 D6 ⊢
    have B6 := below_then B5 B5.size d6
    have P7 := Q7.below D6
    have p3 := O3.below D6
    have p4 := O4.below D6
    have p5 := (o5.below d6).num
    have p6 := (o6.below d6).num
    generalize w5.heap.size = T13 at *
    clear k0 k1 k2 Q7 O3 O4 o5 o6 B4 b5 B5 d6 D6 HA1
    have hng := near_good sg HI.out (Nat.pos_of_ne_zero hS) HHA.out
    rw [← HBA.out] at hng
    obtain ⟨G1, G2, G3⟩ := hng
    have hb1 : b + 1 = withSign sg (a + 1) := by rw [HBA.out]; unfold withSign; split <;> omega
    rw [← hb1] at G1
    have hlt1 : b + 1 < 18446744073709551616 := G1.1
    have eA := and_not b hb
    rw [HRL.out] at eA
    have zz : w6.heap.size < (w6.alloc (.cells #[.int .u64 ((b : Int) + 1)] 22)).heap.size := by simp
    have M1 : Mine 22 (w6.alloc (.cells #[.int .u64 ((b : Int) + 1)] 22)) w6.heap.size (some ⟨w6.heap.size, 0, none⟩) 1 1 [.int .u64 ((b : Int) + 1)] := ⟨rfl, Nat.le_refl _, by omega, .inr ⟨w6.heap.size, [], rfl, Nat.le_refl _, by rw [heap_alloc_new, List.append_nil], by simp⟩⟩
    have D7 := alloc_below w6 (.cells #[.int .u64 ((b : Int) + 1)] 22)
    go_upto_if 73 with fail
    generalize w6.alloc (.cells #[.int .u64 ((b : Int) + 1)] 22) = w7 at zz M1 D7 ⊢
    go_cut [16, 73] from 74 to 84 (fun sv _tv wx => ∃ A16 c16 b2, sv = .slice A16 2 c16 ∧ Mine 22 wx w6.heap.size A16 2 c16 [.int .u64 ((b + 1 : Nat) : Int), .int .u64 ((b2 : Nat) : Int)] ∧ Below w6.heap.size w6 wx ∧ Hid (Good sg R S b b2))
    case first =>
      by_cases ha0 : a = 0
      · subst ha0
        have eX := xor_or sg
        rw [← HBA.out] at eX
        clear eA e1 hE hE' hxx hkind HRM
        go_wp2_with (at_builtin; refine app_one w6.heap.size rfl _ _ _ _ (.int .u64 0) 8 rfl Tryz.underlying47 Tryz.info_u64 rfl (by omega) (some ⟨w6.heap.size, 0, none⟩) _ _ _ _ rfl rfl rfl M1 (Nat.le_of_lt zz) (by omega) ?_; intro A8 c8 w8 hm8 hg8 hbl)
        go_meet
        exact ⟨A8, c8, withSign (!sg) 1, rfl, by simpa using hm8, below_grown D7 (Nat.le_of_lt zz) hg8 (fun q hq => by simp only [blockOf, Option.some.injEq] at hq; omega), Lib.hid (G3 trivial)⟩
      · have hbm : b - 1 = withSign sg (a - 1) := by rw [HBA.out]; unfold withSign; split <;> omega
        have hg2 := G2 (by omega)
        rw [← hbm] at hg2
        have hb0 : 1 ≤ b := by rw [HBA.out]; unfold withSign; split <;> omega
        have hai : (0 : Int) < (a : Int) := by omega
        have hbi : (1 : Int) ≤ (b : Int) := by omega
        clear e1 hE hE' hxx hkind HRM
        go_wp2_with (at_builtin; refine app_one w6.heap.size rfl _ _ _ _ (.int .u64 0) 8 rfl Tryz.underlying47 Tryz.info_u64 rfl (by omega) (some ⟨w6.heap.size, 0, none⟩) _ _ _ _ rfl rfl rfl M1 (Nat.le_of_lt zz) (by omega) ?_; intro A8 c8 w8 hm8 hg8 hbl)
        go_meet
        exact ⟨A8, c8, b - 1, rfl, by rw [show ((b - 1 : Nat) : Int) = (b : Int) - 1 by omega]; simpa using hm8, below_grown D7 (Nat.le_of_lt zz) hg8 (fun q hq => by simp only [blockOf, Option.some.injEq] at hq; omega), Lib.hid hg2⟩
    case rest =>
      obtain ⟨A16, c16, b2, rfl, M2, D9, HG2⟩ := hcut
      clear eA hb1 zz M1 D7 G2 G3
      obtain ⟨g, rest, rfl, hgb, hgr, -⟩ : ∃ g rest, A16 = some ⟨g, 0, none⟩ ∧ w6.heap.size ≤ g ∧ wc.heap[g]? = some (.cells ([Value.int .u64 ((b + 1 : Nat) : Int), .int .u64 ((b2 : Nat) : Int)] ++ rest).toArray 22 (0, 0)) ∧ c16 ≤ 2 + rest.length := by
        rcases M2.row with ⟨_, h, _⟩ | h
        · omega
        · exact h
      have x0 : wc.cell? ⟨g, 0, none⟩ = some (.int .u64 ((b + 1 : Nat) : Int)) := M2.cell 0 (by omega)
      have x1 : wc.cell? ⟨g, 1, none⟩ = some (.int .u64 ((b2 : Nat) : Int)) := M2.cell 1 (by omega)
      have R7 := P7.below D9
      have R13 := V13.below D9
      have q3 := p3.below D9
      have q4 := p4.below D9
      have q5 := p5.below D9
      have q6 := p6.below D9
      have BC := below_then B6 B6.size D9
      have H1 := Lib.hid G1
      clear P7 V13 p3 p4 p5 p6 D9 B6 M2 hgr G1 hlt1 e1 hE hE' hxx
      go_upto_region 21 with (fail)
      go_wp2_with fail
      go_loopg [17, 18, 19, 20, 21] 2 (fun k iv _a _b _c _d wr => ∃ i : Nat, i + k = 2 ∧ iv = .int .i64 i ∧ Below wc.heap.size wc wr)
      case atStart => exact ⟨0, rfl, rfl, Below.refl _ _⟩
      case round =>
        obtain ⟨i, hik, rfl, hw⟩ := hrel
        by_cases h2 : i = 2
        · subst h2
          have hBr := below_then BC BC.size hw
          go_wp2
          go_ret
          exact ⟨rfl, hBr⟩
        · obtain ⟨bi, hxi, hbi, hgi⟩ : ∃ bi : Nat, wr.cell? ⟨g, i, none⟩ = some (.int .u64 (bi : Int)) ∧ bi < 18446744073709551616 ∧ Hid (Good sg R S b bi) := by
            by_cases hi0 : i = 0
            · subst hi0
              exact ⟨b + 1, (hw.cell (World.block_lt_of_cell? wc _ x0)).trans x0, H1.out.1, H1⟩
            · obtain rfl : i = 1 := by omega
              exact ⟨b2, (hw.cell (World.block_lt_of_cell? wc _ x1)).trans x1, HG2.out.1, HG2⟩
          have hi2 : i < 2 := by omega
          have hi2' : (i : Int) < 2 := by omega
          have S7 := R7.below hw
          have s3 := q3.below hw
          have s4 := q4.below hw
          have k0 := S7.c0
          have k1 := S7.c1
          have k2 := S7.c2
          have f7 := Tryz.f64from bi
          have KS := Lib.hid (fun W (hW : Below wr.heap.size wr W) => And.intro (S7.below hW).c0 (And.intro (S7.below hW).c1 (And.intro (S7.below hW).c2 (cell_below hW hxi))))
          have hdr : Below wr.heap.size wr wr.drew := drawn_below wr 1
          have hda : Below wr.heap.size wr (wr.alloc (.cells #[.bool false, .slice none 0 0, .slice none 0 0] 28)).drew := chain3 (alloc_below wr _) (drawn_below (wr.alloc (.cells #[.bool false, .slice none 0 0, .slice none 0 0] 28)) 1)
          have VN : RatVar (wr.alloc (.cells #[.bool false, .slice none 0 0, .slice none 0 0] 28)).drew wr.heap.size false (.slice none 0 0) (.slice none 0 0) := (RatVar.new wr false (.slice none 0 0) (.slice none 0 0)).below (drawn_below (wr.alloc (.cells #[.bool false, .slice none 0 0, .slice none 0 0] 28)) 1)
          have HAW : Hid (∀ W, Below wr.heap.size wr W → Calls Tryz.prog 16 #[.agg #[.bool sg, .slice A3 (limbs R).length c3, .slice A4 (limbs S).length c4], .float .f64 bi] W fun e w' => ∃ A8 n8 c8 A9 n9 c9 ok, e = .returned (.tuple #[.agg #[.bool false, .slice A8 n8 c8, .slice A9 n9 c9], .bool ok]) ∧ Below W.heap.size W w' ∧
              (ok = true → ∃ U2 V2, n8 = (limbs U2).length ∧ n9 = (limbs V2).length ∧ Own w' W.heap.size A8 (limbs U2).length c8 (limbs U2) ∧ Own w' W.heap.size A9 (limbs V2).length c9 (limbs V2) ∧ (limbs U2).length < 5000000 ∧ (limbs V2).length < 5000000 ∧ V2 ≠ 0 ∧
                (cmpNat (U * V2) (U2 * V) = -1 ∨ (cmpNat (U * V2) (U2 * V) = 0 ∧ b % 2 = 0)))) := by
            refine Lib.hid (fun W hW => ?_)
            rcases hgi.out.2 with hk | ⟨hk, hc⟩
            · refine (away_nan sg A3 A4 _ c3 _ c4 bi W hbi (.inl hk)).mono ?_
              rintro e w' ⟨rfl, hb'⟩
              exact ⟨_, _, _, _, _, _, false, rfl, hb', fun h => by cases h⟩
            · have h := away_some sg A3 A4 _ c3 _ c4 _ _ bi 2000000 W (s3.below hW) (s4.below hW) hvS hlR hlS (by omega) hbi hk
              rw [val_limbs, val_limbs] at h
              refine h.mono ?_
              rintro e w' ⟨U2, V2, A8, c8, A9, c9, rfl, o8, o9, hb', hV2, hUV2, hl8, hl9⟩
              refine ⟨_, _, _, _, _, _, true, rfl, hb', fun _ => ⟨U2, V2, rfl, rfl, o8, o9, by omega, by omega, hV2, ?_⟩⟩
              have qp : ∀ z, 0 < S * qden z := fun z => Nat.mul_pos (Nat.pos_of_ne_zero hS) (Nat.pow_pos (by omega))
              rw [order_dist U V U2 V2 _ _ _ _ hUV hUV2 (qp b) (qp bi) (Nat.pos_of_ne_zero hV0) (Nat.pos_of_ne_zero hV2)]
              exact hc
          clear hkind hgi HG2 H1 x0 x1 s3 s4 hUV
          go_upto_region 24 with (fail)
          go_cut [18, 19] from 89 to 98 (fun pv ov wx => ∃ T18 A8 n8 c8 A9 n9 c9 ok, pv = .pointer (some ⟨T18, 0, none⟩) ∧ ov = .bool ok ∧ Below wr.heap.size wr wx ∧ RatVar wx T18 false (.slice A8 n8 c8) (.slice A9 n9 c9) ∧
              (ok = true → ∃ U2 V2, n8 = (limbs U2).length ∧ n9 = (limbs V2).length ∧ Num wx A8 (limbs U2).length c8 (limbs U2) ∧ Num wx A9 (limbs V2).length c9 (limbs V2) ∧ (limbs U2).length < 5000000 ∧ (limbs V2).length < 5000000 ∧ V2 ≠ 0 ∧
                (cmpNat (U * V2) (U2 * V) = -1 ∨ (cmpNat (U * V2) (U2 * V) = 0 ∧ b % 2 = 0))))
          case first =>
            go_region_held3 (fun W => W.cell? ⟨T7, 0, none⟩ = some (.bool sg) ∧ W.cell? ⟨T7, 1, none⟩ = some (.slice A3 (limbs R).length c3) ∧ W.cell? ⟨T7, 2, none⟩ = some (.slice A4 (limbs S).length c4) ∧ W.cell? ⟨g, i, none⟩ = some (.int .u64 (bi : Int)))
              (first | exact KS.out _ (by assumption) | exact KS.out _ (Below.refl _ _) | exact KS.out _ (hdr.alloc hdr.size _) | exact KS.out _ (bw.alloc bw.size _) | exact KS.out _ (all_below bw (Nat.le_refl _) _ _ _) | exact KS.out _ (all_below (bw.alloc bw.size _) bw.size _ _ _))
              (first
                | (go_at_call 16; with_reducible refine (HAW.out _ (by first | assumption | exact Below.refl _ _)).mono ?_; rintro e w8 ⟨A8, n8, c8, A9, n9, c9, ok, rfl, b8, hok⟩; have bw := chain3 (w3 := wr) (by assumption) b8; first | (have VT := VN.below b8; have t0 := VT.c0; have t1 := VT.c1; have t2 := VT.c2; have t3 := VT.free 0; have t4 := VT.free 1; have t5 := VT.free 2) | skip))
            all_goals
              go_wp2
              go_meet
              first
              | (have r := VT.all false (.slice A8 n8 c8) (.slice A9 n9 c9)
                 have hE := all_ex (p := fun k => k = wr.heap.size) w8 wr.heap.size rfl (.bool false) (.slice A8 n8 c8) (.slice A9 n9 c9)
                 refine ⟨wr.heap.size, A8, n8, c8, A9, n9, c9, ok, rfl, rfl, all_below bw (Nat.le_refl _) _ _ _, r, fun h => ?_⟩
                 obtain ⟨U2, V2, e1, e2, o8, o9, l8, l9, hV2, hc⟩ := hok h
                 have hz : (wr.alloc (.cells #[.bool false, .slice none 0 0, .slice none 0 0] 28)).drew.heap.size = wr.heap.size + 1 := (show (wr.alloc (.cells #[.bool false, .slice none 0 0, .slice none 0 0] 28)).heap.size = wr.heap.size + 1 by simp)
                 rw [hz] at o8 o9
                 exact ⟨U2, V2, e1, e2, (o8.ex hE (by intro k hk; have := o8.at k hk; omega)).num, (o9.ex hE (by intro k hk; have := o9.at k hk; omega)).num, l8, l9, hV2, hc⟩)
              | (have hE := alloc_below w8 (.cells #[.bool false, .slice A8 n8 c8, .slice A9 n9 c9] 28)
                 refine ⟨w8.heap.size, A8, n8, c8, A9, n9, c9, ok, rfl, rfl, bw.alloc bw.size _, RatVar.new w8 _ _ _, fun h => ?_⟩
                 obtain ⟨U2, V2, e1, e2, o8, o9, l8, l9, hV2, hc⟩ := hok h
                 exact ⟨U2, V2, e1, e2, (o8.below hE).num, (o9.below hE).num, l8, l9, hV2, hc⟩)
              | (trace_state; sorry)
          case rest =>
            obtain ⟨T18, A8, n8, c8, A9, n9, c9, ok, rfl, rfl, bwx, V18, hok⟩ := hcut
            have bx := below_then hw hw.size bwx
            have W13 := R13.below bx
            have z5 := q5.below bx
            have z6 := q6.below bx
            clear KS HAW hdr hda VN hxi S7 k0 k1 k2 f7
            have HI3 : Hid ((i : Int) + 1 = ((i + 1 : Nat) : Int)) := Lib.hid (by omega)
            cases ok
            · clear W13 z5 z6 hok V18
              go_wp2
              go_roundg (gk - 1)
              case measure => omega
              case rel => exact ⟨i + 1, by omega, by first | rfl | exact congrArg _ HI3.out, bx⟩
            · obtain ⟨U2, V2, rfl, rfl, y8, y9, l8, l9, hV2, hc⟩ := hok rfl
              have HO := Lib.hid (Order_any A5 A6 A8 A9 _ c5 _ c6 _ c8 _ c9 _ _ _ _ wc z5 z6 y8 y9 (by rw [val_limbs]; exact hV0) (by rw [val_limbs]; exact hV2) (by omega) (by omega) (by omega) (by omega))
              rw [val_limbs, val_limbs, val_limbs, val_limbs] at HO
              have m0 := W13.c0
              have m1 := W13.c1
              have m2 := W13.c2
              have m3 := V18.c0
              have m4 := V18.c1
              have m5 := V18.c2
              have eB : Go.bits .and .u64 (b : Int) 1 = ((b % 2 : Nat) : Int) := by
                have h := mask64 1 (by omega) b hb
                rw [show ((2 : Int) ^ 1 - 1) = 1 from rfl, show (2 : Nat) ^ 1 = 2 from rfl] at h
                exact h
              clear z5 z6 y8 y9 hok
              go_wp2_with fail
              refine HO.out.mono ?_; rintro e w9 ⟨rfl, b9⟩
              have bx9 := below_then bx bx.size b9
              clear HO m0 m1 m2 m3 m4 m5 b9 bwx V18 W13
              rcases hc with hc | ⟨hc, hev⟩
              all_goals rw [hc]
              · go_wp2
                go_roundg (gk - 1)
                case measure => omega
                case rel => exact ⟨i + 1, by omega, by first | rfl | exact congrArg _ HI3.out, bx9⟩
              · rw [hev] at eB
                have eB' : Go.bits .and .u64 (b : Int) 1 = 0 := eB
                clear eB
                go_wp2
                go_roundg (gk - 1)
                case measure => omega
                case rel => exact ⟨i + 1, by omega, by first | rfl | exact congrArg _ HI3.out, bx9⟩

end Go.Proofs.YtgdgdifnpdcgkaaGreatDoor
