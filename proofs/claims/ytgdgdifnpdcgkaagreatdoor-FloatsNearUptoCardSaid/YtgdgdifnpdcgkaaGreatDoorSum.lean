/- limbs.both and limbs.Plus: the sum of two quotients, in lowest terms. limbs.Minus and limbs.Order. limbs.Order of two quotients that are not below nought. -/
import Derived.Test.YtgdgdifnpdcgkaaGreatDoorSub
import Derived.Test.YtgdgdifnpdcgkaaGreatDoorOwnA
import Derived.Deep.RegionHeld3
namespace Go.Proofs.YtgdgdifnpdcgkaaGreatDoor
open Go.RowKit

/-- two quotients, to be read -/
def BothPost (w : World) (s1 : Bool) (X1 Y1 : Nat) (s2 : Bool) (X2 Y2 : Nat) (e : Ending) (w' : World) : Prop :=
  ∃ A1 c1 A2 c2 A3 c3 A4 c4, e = .returned (.tuple #[.agg #[.bool s1, .slice A1 (limbs X1).length c1, .slice A2 (limbs Y1).length c2], .agg #[.bool s2, .slice A3 (limbs X2).length c3, .slice A4 (limbs Y2).length c4], .int .i64 0]) ∧
    Num w' A1 (limbs X1).length c1 (limbs X1) ∧ Num w' A2 (limbs Y1).length c2 (limbs Y1) ∧ Num w' A3 (limbs X2).length c3 (limbs X2) ∧ Num w' A4 (limbs Y2).length c4 (limbs Y2) ∧ Below w.heap.size w w'

theorem RatVar.new' {w : World} {k : Nat} (hk : w.heap.size = k) (neg : Bool) (u v : Value) : RatVar (w.alloc (.cells #[.bool neg, u, v] 28)) k neg u v := by subst hk; exact RatVar.new w neg u v
theorem alloc_below (w : World) (o : Obj) : Below w.heap.size w (w.alloc o) := (Below.refl _ _).alloc (Nat.le_refl _) _

theorem RatVar.all {w : World} {T : Nat} {n : Bool} {u v : Value} (h : RatVar w T n u v) (n' : Bool) (u' v' : Value) :
    RatVar (((w.setCell ⟨T, 0, none⟩ (.bool n')).setCell ⟨T, 1, none⟩ u').setCell ⟨T, 2, none⟩ v') T n' u' v' :=
  setCell_row (vs := [.bool n', u', v]) (setCell_row (vs := [.bool n', u, v]) (setCell_row (vs := [.bool n, u, v]) h 0 (.bool n')) 1 u') 2 v'
theorem all_ex {p : Nat → Prop} (w : World) (T : Nat) (hp : p T) (a b c : Value) : Ex p w (((w.setCell ⟨T, 0, none⟩ a).setCell ⟨T, 1, none⟩ b).setCell ⟨T, 2, none⟩ c) :=
  ((Ex.set hp 0 a).trans (Ex.set hp 1 b)).trans (Ex.set hp 2 c)
theorem all_below {base : Nat} {w0 w : World} {T : Nat} (h : Below base w0 w) (hT : base ≤ T) (a b c : Value) : Below base w0 (((w.setCell ⟨T, 0, none⟩ a).setCell ⟨T, 1, none⟩ b).setCell ⟨T, 2, none⟩ c) :=
  ((h.setCell hT _).setCell hT _).setCell hT _
/-- the block lies above -/
theorem Own.at {w : World} {base : Nat} {A : Option Addr} {n c : Nat} {xs : List Nat} (h : Own w base A n c xs) : ∀ k, blockOf A = some k → base ≤ k := fun k hk => (h.mine.lt k hk).1

theorem results_cell2_tmp {fn : Func} {p q u : Tmp} {ty te : TypeId} (h : fn.results = #[.cell p ty, .cell q te, .tmp u]) (tmps : Array Value) (P : Program) (w : World) :
    (results fn tmps).run P w =
      ((asAddr (tmps.getD p undef)).run P w).andThen fun a w₁ => ((loadVar ty a).run P w₁).andThen fun x w₂ => ((asAddr (tmps.getD q undef)).run P w₂).andThen fun b w₃ => ((loadVar te b).run P w₃).andThen fun y w₄ => .ok (.tuple #[x, y, tmps.getD u undef]) w₄ := by
  simp only [results, h]
  simp [Sem.run_bind, Result.andThen]
theorem results_row2_tmp {P : Program} {fn : Func} {p q u : Tmp} {ty : TypeId} (h : fn.results = #[.cell p ty, .cell q ty, .tmp u]) (tmps : Array Value) (w : World) (g k : Nat) (t : TypeId) (cs ds : Array Value) (fr fs : Nat × Nat) (d : TypeDesc)
    (hp : tmps.getD p undef = .pointer (some ⟨g, 0, none⟩)) (hg : w.heap[g]? = some (.cells cs t fr))
    (hq : tmps.getD q undef = .pointer (some ⟨k, 0, none⟩)) (hk : w.heap[k]? = some (.cells ds t fs))
    (hu : P.underlying ty = some d) (hd : (match d with | .struct _ | .array _ _ => true | _ => false) = true) (hi : (P.info? ty).map (·.size) = some cs.size) (hj : (P.info? ty).map (·.size) = some ds.size) :
    (results fn tmps).run P w = .ok (.tuple #[.agg cs, .agg ds, tmps.getD u undef]) w := by
  rw [results_cell2_tmp h, hp, hq]
  simp [asAddr, run_loadVar_row w g t ty cs fr d hg hu hd hi, run_loadVar_row w k t ty ds fs d hk hu hd hj]

set_option maxRecDepth 100000 in
set_option maxHeartbeats 4000000 in
theorem both_any (n1 n2 : Bool) (A1 B1 A2 B2 : Option Addr) (p1 c1 q1 d1 p2 c2 q2 d2 : Nat) (xs1 ys1 xs2 ys2 : List Nat) (w : World) (hx1 : Num w A1 p1 c1 xs1) (hy1 : Num w B1 q1 d1 ys1) (hx2 : Num w A2 p2 c2 xs2) (hy2 : Num w B2 q2 d2 ys2)
    (h1 : val ys1 ≠ 0) (h2 : val ys2 ≠ 0) (lp1 : p1 < 35184372088831) (lq1 : q1 < 35184372088831) (lp2 : p2 < 35184372088831) (lq2 : q2 < 35184372088831) :
    Calls Tryz.prog 96 #[.agg #[.bool n1, .slice A1 p1 c1, .slice B1 q1 d1], .agg #[.bool n2, .slice A2 p2 c2, .slice B2 q2 d2]] w
      (BothPost w (sgn n1 (val xs1)) (val xs1 / Nat.gcd (val xs1) (val ys1)) (val ys1 / Nat.gcd (val xs1) (val ys1)) (sgn n2 (val xs2)) (val xs2 / Nat.gcd (val xs2) (val ys2)) (val ys2 / Nat.gcd (val xs2) (val ys2))) := by
  have HO1 := Lib.hid (fun W (hW : Below w.heap.size w W) => Over_some n1 A1 B1 p1 c1 q1 d1 xs1 ys1 W (hx1.below hW) (hy1.below hW) h1 lp1 lq1)
  have HO2 := Lib.hid (fun W (hW : Below w.heap.size w W) => Over_some n2 A2 B2 p2 c2 q2 d2 xs2 ys2 W (hx2.below hW) (hy2.below hW) h2 lp2 lq2)
  clear hx1 hy1 hx2 hy2 h1 h2 lp1 lq1 lp2 lq2
  generalize val xs1 / Nat.gcd (val xs1) (val ys1) = X1 at *
  generalize val ys1 / Nat.gcd (val xs1) (val ys1) = Y1 at *
  generalize val xs2 / Nat.gcd (val xs2) (val ys2) = X2 at *
  generalize val ys2 / Nat.gcd (val xs2) (val ys2) = Y2 at *
  generalize sgn n1 (val xs1) = s1 at *
  generalize sgn n2 (val xs2) = s2 at *
  have hB := ((((Below.refl w.heap.size w).alloc (Nat.le_refl _) (.cells #[.bool n1, .slice A1 p1 c1, .slice B1 q1 d1] 28)).alloc (by simp) (.cells #[.bool n2, .slice A2 p2 c2, .slice B2 q2 d2] 28)).alloc (by simp; omega) (.cells #[.bool false, .slice none 0 0, .slice none 0 0] 28)).alloc (by simp; omega) (.cells #[.bool false, .slice none 0 0, .slice none 0 0] 28)
  have V2 := (((RatVar.new w n1 (.slice A1 p1 c1) (.slice B1 q1 d1)).below (alloc_below _ (.cells #[.bool n2, .slice A2 p2 c2, .slice B2 q2 d2] 28))).below (alloc_below _ (.cells #[.bool false, .slice none 0 0, .slice none 0 0] 28))).below (alloc_below _ (.cells #[.bool false, .slice none 0 0, .slice none 0 0] 28))
  have V3 := (((RatVar.new' (k := w.heap.size + 1) (w := w.alloc (.cells #[.bool n1, .slice A1 p1 c1, .slice B1 q1 d1] 28)) (by simp) n2 (.slice A2 p2 c2) (.slice B2 q2 d2))).below (alloc_below _ (.cells #[.bool false, .slice none 0 0, .slice none 0 0] 28))).below (alloc_below _ (.cells #[.bool false, .slice none 0 0, .slice none 0 0] 28))
  have V4 := (RatVar.new' (k := w.heap.size + 1 + 1) (w := (w.alloc (.cells #[.bool n1, .slice A1 p1 c1, .slice B1 q1 d1] 28)).alloc (.cells #[.bool n2, .slice A2 p2 c2, .slice B2 q2 d2] 28)) (by simp) false (.slice none 0 0) (.slice none 0 0)).below (alloc_below _ (.cells #[.bool false, .slice none 0 0, .slice none 0 0] 28))
  have V5 := RatVar.new' (k := w.heap.size + 1 + 1 + 1) (w := ((w.alloc (.cells #[.bool n1, .slice A1 p1 c1, .slice B1 q1 d1] 28)).alloc (.cells #[.bool n2, .slice A2 p2 c2, .slice B2 q2 d2] 28)).alloc (.cells #[.bool false, .slice none 0 0, .slice none 0 0] 28)) (by simp) false (.slice none 0 0) (.slice none 0 0)
  go_enter Tryz.func96, Tryz.ntmps96
  go_upto_region 1 with (fail)
  generalize (((w.alloc (.cells #[.bool n1, .slice A1 p1 c1, .slice B1 q1 d1] 28)).alloc (.cells #[.bool n2, .slice A2 p2 c2, .slice B2 q2 d2] 28)).alloc (.cells #[.bool false, .slice none 0 0, .slice none 0 0] 28)).alloc (.cells #[.bool false, .slice none 0 0, .slice none 0 0] 28) = w1 at hB V2 V3 V4 V5 ⊢
  have k20 := V2.c0
  have k21 := V2.c1
  have k22 := V2.c2
  have sz1 := V5.lt
  go_wp2_with fail
  refine (HO1.out _ hB).mono ?_; rintro e w2 ⟨v, rfl, A5, c5, A6, c6, rfl, o5, o6, -, b2⟩
  have B2 := below_then hB (by omega) b2
  have V7 := RatVar.new w2 s1 (.slice A5 (limbs X1).length c5) (.slice A6 (limbs Y1).length c6)
  have d3 := alloc_below w2 (.cells #[.bool s1, .slice A5 (limbs X1).length c5, .slice A6 (limbs Y1).length c6] 28)
  have D3 := below_then b2 b2.size d3
  have sz2 := b2.size
  go_upto_region 2 with (fail)
  generalize w2.alloc (.cells #[.bool s1, .slice A5 (limbs X1).length c5, .slice A6 (limbs Y1).length c6] 28) = w3 at V7 d3 D3 ⊢
  have B3 := below_then B2 (by omega) d3
  have P3 := V3.below D3
  have P4 := V4.below D3
  have P5 := V5.below D3
  have o5' := o5.below d3
  have o6' := o6.below d3
  generalize w2.heap.size = T7 at V7 sz2 ⊢
  clear k20 k21 k22 V2 V3 V4 V5 hB b2 B2 d3 D3 o5 o6 HO1
  have k30 := P3.c0
  have k31 := P3.c1
  have k32 := P3.c2
  have sz3 := V7.lt
  go_wp2_with fail
  refine (HO2.out _ B3).mono ?_; rintro e w4 ⟨v, rfl, A7, c7, A8, c8, rfl, o7, o8, -, b4⟩
  have B4 := below_then B3 (by omega) b4
  have V9 := RatVar.new w4 s2 (.slice A7 (limbs X2).length c7) (.slice A8 (limbs Y2).length c8)
  have d5 := alloc_below w4 (.cells #[.bool s2, .slice A7 (limbs X2).length c7, .slice A8 (limbs Y2).length c8] 28)
  have D5 := below_then b4 b4.size d5
  have sz4 := b4.size
  go_upto_region 5 with (fail)
  generalize w4.alloc (.cells #[.bool s2, .slice A7 (limbs X2).length c7, .slice A8 (limbs Y2).length c8] 28) = w5 at V9 d5 D5 ⊢
  have B5 := below_then B4 (by omega) d5
  have Q4 := P4.below D5
  have Q5 := P5.below D5
  have Q7 := V7.below D5
  have o5'' := o5'.below D5
  have o6'' := o6'.below D5
  have o7'' := o7.below d5
  have o8'' := o8.below d5
  generalize w4.heap.size = T9 at V9 sz4 ⊢
  clear k30 k31 k32 P3 P4 P5 V7 B3 b4 B4 d5 D5 o7 o8 o5' o6' HO2
  have a0 := Q7.c0
  have a1 := Q7.c1
  have a2 := Q7.c2
  have b0 := V9.c0
  have b1 := V9.c1
  have b2 := V9.c2
  have e0 := Q4.c0
  have e1 := Q4.c1
  have e2 := Q4.c2
  have f0 := Q5.c0
  have f1 := Q5.c1
  have f2 := Q5.c2
  have g4 := fun j => Q4.free j
  have g5 := fun j => Q5.free j
  have HQ4 := Lib.hid Q4
  have HQ5 := Lib.hid Q5
  have HB5 := Lib.hid B5
  clear Q4 Q5 Q7 V9 B5
  go_region
  all_goals
    go_wp2
    have r4 := HQ4.out.all s1 (.slice A5 (limbs X1).length c5) (.slice A6 (limbs Y1).length c6)
    have E4 := all_ex (p := fun k => k = w.heap.size + 1 + 1 ∨ k = w.heap.size + 1 + 1 + 1) w5 (w.heap.size + 1 + 1) (.inl rfl) (.bool s1) (.slice A5 (limbs X1).length c5) (.slice A6 (limbs Y1).length c6)
    have B4 := all_below HB5.out (T := w.heap.size + 1 + 1) (by omega) (.bool s1) (.slice A5 (limbs X1).length c5) (.slice A6 (limbs Y1).length c6)
    have F4 := HQ5.out.ex (all_ex (p := fun k => k = w.heap.size + 1 + 1) w5 (w.heap.size + 1 + 1) rfl (.bool s1) (.slice A5 (limbs X1).length c5) (.slice A6 (limbs Y1).length c6)) (by simp)
    generalize ((w5.setCell ⟨w.heap.size + 1 + 1, 0, none⟩ (.bool s1)).setCell ⟨w.heap.size + 1 + 1, 1, none⟩ (.slice A5 (limbs X1).length c5)).setCell ⟨w.heap.size + 1 + 1, 2, none⟩ (.slice A6 (limbs Y1).length c6) = w6 at r4 E4 B4 F4 ⊢
    have r5 := F4.all s2 (.slice A7 (limbs X2).length c7) (.slice A8 (limbs Y2).length c8)
    have E5 := E4.trans (all_ex (p := fun k => k = w.heap.size + 1 + 1 ∨ k = w.heap.size + 1 + 1 + 1) w6 (w.heap.size + 1 + 1 + 1) (.inr rfl) (.bool s2) (.slice A7 (limbs X2).length c7) (.slice A8 (limbs Y2).length c8))
    have B5 := all_below B4 (T := w.heap.size + 1 + 1 + 1) (by omega) (.bool s2) (.slice A7 (limbs X2).length c7) (.slice A8 (limbs Y2).length c8)
    have r6 := r4.ex (all_ex (p := fun k => k = w.heap.size + 1 + 1 + 1) w6 (w.heap.size + 1 + 1 + 1) rfl (.bool s2) (.slice A7 (limbs X2).length c7) (.slice A8 (limbs Y2).length c8)) (by simp)
    generalize ((w6.setCell ⟨w.heap.size + 1 + 1 + 1, 0, none⟩ (.bool s2)).setCell ⟨w.heap.size + 1 + 1 + 1, 1, none⟩ (.slice A7 (limbs X2).length c7)).setCell ⟨w.heap.size + 1 + 1 + 1, 2, none⟩ (.slice A8 (limbs Y2).length c8) = w7 at r5 E5 B5 r6 ⊢
    have dr := drawn_below w7 1
    have O5 := (o5''.ex E5 (by intro k hk; have := o5''.at k hk; omega)).below dr
    have O6 := (o6''.ex E5 (by intro k hk; have := o6''.at k hk; omega)).below dr
    have O7 := (o7''.ex E5 (by intro k hk; have := o7''.at k hk; omega)).below dr
    have O8 := (o8''.ex E5 (by intro k hk; have := o8''.at k hk; omega)).below dr
    refine bodyPost_ret (v := .tuple #[.agg #[.bool s1, .slice A5 (limbs X1).length c5, .slice A6 (limbs Y1).length c6], .agg #[.bool s2, .slice A7 (limbs X2).length c7, .slice A8 (limbs Y2).length c8], .int .i64 0]) ?_ rfl ⟨A5, c5, A6, c6, A7, c7, A8, c8, rfl, O5.num, O6.num, O7.num, O8.num, ?_⟩
    · exact results_row2_tmp (fn := Tryz.f96) (p := 4) (q := 5) (u := 6) (ty := 28) rfl _ _ (w.heap.size + 1 + 1) (w.heap.size + 1 + 1 + 1) 28 #[.bool s1, .slice A5 (limbs X1).length c5, .slice A6 (limbs Y1).length c6] #[.bool s2, .slice A7 (limbs X2).length c7, .slice A8 (limbs Y2).length c8] (0, 0) (0, 0) _ rfl (r6.below dr) rfl (r5.below dr) Tryz.underlying28 rfl (by kernel_rfl) (by kernel_rfl)
    · exact below_then B5 B5.size dr

/-- the sum's sign and amount -/
def plusS (s1 : Bool) (p : Nat) (s2 : Bool) (q : Nat) : Bool := if s1 = s2 then s1 else if p < q then s2 else s1
def plusN (s1 : Bool) (p : Nat) (s2 : Bool) (q : Nat) : Nat := if s1 = s2 then p + q else if p < q then q - p else p - q
def PlusPost (w : World) (s1 : Bool) (X1 Y1 : Nat) (s2 : Bool) (X2 Y2 : Nat) (e : Ending) (w' : World) : Prop :=
  ∃ v, e = .returned (.tuple #[v, .int .i64 0]) ∧ RatPost w (sgn (plusS s1 (X1 * Y2) s2 (X2 * Y1)) (plusN s1 (X1 * Y2) s2 (X2 * Y1)))
    (plusN s1 (X1 * Y2) s2 (X2 * Y1) / Nat.gcd (plusN s1 (X1 * Y2) s2 (X2 * Y1)) (Y1 * Y2)) (Y1 * Y2 / Nat.gcd (plusN s1 (X1 * Y2) s2 (X2 * Y1)) (Y1 * Y2)) v w'

theorem limbs_mul_len (a b : Nat) : (limbs (a * b)).length ≤ (limbs a).length + (limbs b).length := by
  apply limbs_length_le
  rw [Nat.pow_add]
  have ha := val_lt (limbs_lim a)
  have hb := val_lt (limbs_lim b)
  rw [val_limbs] at ha hb
  exact Nat.mul_lt_mul_of_lt_of_le ha (Nat.le_of_lt hb) (Nat.pow_pos (by omega))
theorem chain3 {w3 W w5 : World} (h : Below w3.heap.size w3 W) (k : Below W.heap.size W w5) : Below w3.heap.size w3 w5 := below_then h h.size k
theorem RatPost.low {w w' : World} {neg : Bool} {X Y : Nat} {v : Value} (h : RatPost w neg X Y v w') : Below w.heap.size w w' := by obtain ⟨_, _, _, _, _, _, _, _, h⟩ := h; exact h
theorem cell_below {w W : World} {T j : Nat} {x : Value} (hW : Below w.heap.size w W) (h : w.cell? ⟨T, j, none⟩ = some x) : W.cell? ⟨T, j, none⟩ = some x := (hW.cell (World.block_lt_of_cell? w _ h)).trans h
theorem all_cell {w : World} {T g j : Nat} {x a b c : Value} (h : w.cell? ⟨T, j, none⟩ = some x) (hne : T ≠ g) : (((w.setCell ⟨g, 0, none⟩ a).setCell ⟨g, 1, none⟩ b).setCell ⟨g, 2, none⟩ c).cell? ⟨T, j, none⟩ = some x :=
  (World.cell?_of_block ((all_ex (p := fun k => k = g) w g rfl a b c).block T (World.block_lt_of_cell? w _ h) hne)).trans h
theorem Add_len (a b : Nat) : (limbs (a + b)).length ≤ (limbs a).length + (limbs b).length + 1 := by
  apply limbs_length_le
  have ha := val_lt (limbs_lim a)
  have hb := val_lt (limbs_lim b)
  rw [val_limbs] at ha hb
  have h1 : 4294967296 ^ (limbs a).length ≤ 4294967296 ^ ((limbs a).length + (limbs b).length) := Nat.pow_le_pow_right (by omega) (by omega)
  have h2 : 4294967296 ^ (limbs b).length ≤ 4294967296 ^ ((limbs a).length + (limbs b).length) := Nat.pow_le_pow_right (by omega) (by omega)
  rw [Nat.pow_succ]
  omega
theorem div_gcd_ne {x y : Nat} (h : y ≠ 0) : y / Nat.gcd x y ≠ 0 :=
  Nat.ne_of_gt (Nat.div_pos (Nat.le_of_dvd (Nat.pos_of_ne_zero h) (Nat.gcd_dvd_right x y)) (Nat.gcd_pos_of_pos_right x (Nat.pos_of_ne_zero h)))
theorem limbs_div_len (a g : Nat) : (limbs (a / g)).length ≤ (limbs a).length := limbs_length_mono (Nat.div_le_self _ _)

set_option maxRecDepth 100000 in
set_option maxHeartbeats 4000000 in
theorem Plus_any (n1 n2 : Bool) (A1 B1 A2 B2 : Option Addr) (p1 c1 q1 d1 p2 c2 q2 d2 : Nat) (xs1 ys1 xs2 ys2 : List Nat) (w : World) (hx1 : Num w A1 p1 c1 xs1) (hy1 : Num w B1 q1 d1 ys1) (hx2 : Num w A2 p2 c2 xs2) (hy2 : Num w B2 q2 d2 ys2)
    (h1 : val ys1 ≠ 0) (h2 : val ys2 ≠ 0) (lp1 : p1 < 1000000000000) (lq1 : q1 < 1000000000000) (lp2 : p2 < 1000000000000) (lq2 : q2 < 1000000000000) :
    Calls Tryz.prog 66 #[.agg #[.bool n1, .slice A1 p1 c1, .slice B1 q1 d1], .agg #[.bool n2, .slice A2 p2 c2, .slice B2 q2 d2]] w
      (PlusPost w (sgn n1 (val xs1)) (val xs1 / Nat.gcd (val xs1) (val ys1)) (val ys1 / Nat.gcd (val xs1) (val ys1)) (sgn n2 (val xs2)) (val xs2 / Nat.gcd (val xs2) (val ys2)) (val ys2 / Nat.gcd (val xs2) (val ys2))) := by
  have HBO := Lib.hid (fun W (hW : Below w.heap.size w W) => both_any n1 n2 A1 B1 A2 B2 p1 c1 q1 d1 p2 c2 q2 d2 xs1 ys1 xs2 ys2 W (hx1.below hW) (hy1.below hW) (hx2.below hW) (hy2.below hW) h1 h2 (by omega) (by omega) (by omega) (by omega))
  have l1 : (limbs (val xs1 / Nat.gcd (val xs1) (val ys1))).length < 1000000000000 := by have := limbs_div_len (val xs1) (Nat.gcd (val xs1) (val ys1)); have := limbs_length_val hx1.lim; rw [hx1.len] at this; omega
  have l2 : (limbs (val ys1 / Nat.gcd (val xs1) (val ys1))).length < 1000000000000 := by have := limbs_div_len (val ys1) (Nat.gcd (val xs1) (val ys1)); have := limbs_length_val hy1.lim; rw [hy1.len] at this; omega
  have l3 : (limbs (val xs2 / Nat.gcd (val xs2) (val ys2))).length < 1000000000000 := by have := limbs_div_len (val xs2) (Nat.gcd (val xs2) (val ys2)); have := limbs_length_val hx2.lim; rw [hx2.len] at this; omega
  have l4 : (limbs (val ys2 / Nat.gcd (val xs2) (val ys2))).length < 1000000000000 := by have := limbs_div_len (val ys2) (Nat.gcd (val xs2) (val ys2)); have := limbs_length_val hy2.lim; rw [hy2.len] at this; omega
  have y1 : val ys1 / Nat.gcd (val xs1) (val ys1) ≠ 0 := div_gcd_ne h1
  have y2 : val ys2 / Nat.gcd (val xs2) (val ys2) ≠ 0 := div_gcd_ne h2
  clear hx1 hy1 hx2 hy2 h1 h2 lp1 lq1 lp2 lq2
  generalize val xs1 / Nat.gcd (val xs1) (val ys1) = X1 at *
  generalize val ys1 / Nat.gcd (val xs1) (val ys1) = Y1 at *
  generalize val xs2 / Nat.gcd (val xs2) (val ys2) = X2 at *
  generalize val ys2 / Nat.gcd (val xs2) (val ys2) = Y2 at *
  generalize sgn n1 (val xs1) = s1 at *
  generalize sgn n2 (val xs2) = s2 at *
  have hB := (((Below.refl w.heap.size w).alloc (Nat.le_refl _) (.cells #[.bool n1, .slice A1 p1 c1, .slice B1 q1 d1] 28)).alloc (by simp) (.cells #[.bool n2, .slice A2 p2 c2, .slice B2 q2 d2] 28)).alloc (by simp; omega) (.cells #[.bool false, .slice none 0 0, .slice none 0 0] 28)
  have V2 := ((RatVar.new w n1 (.slice A1 p1 c1) (.slice B1 q1 d1)).below (alloc_below _ (.cells #[.bool n2, .slice A2 p2 c2, .slice B2 q2 d2] 28))).below (alloc_below _ (.cells #[.bool false, .slice none 0 0, .slice none 0 0] 28))
  have V3 := ((RatVar.new' (k := w.heap.size + 1) (w := w.alloc (.cells #[.bool n1, .slice A1 p1 c1, .slice B1 q1 d1] 28)) (by simp) n2 (.slice A2 p2 c2) (.slice B2 q2 d2))).below (alloc_below _ (.cells #[.bool false, .slice none 0 0, .slice none 0 0] 28))
  have V4 := (RatVar.new' (k := w.heap.size + 1 + 1) (w := (w.alloc (.cells #[.bool n1, .slice A1 p1 c1, .slice B1 q1 d1] 28)).alloc (.cells #[.bool n2, .slice A2 p2 c2, .slice B2 q2 d2] 28)) (by simp) false (.slice none 0 0) (.slice none 0 0))
  go_enter Tryz.func66, Tryz.ntmps66
  go_upto_region 1 with (fail)
  generalize ((w.alloc (.cells #[.bool n1, .slice A1 p1 c1, .slice B1 q1 d1] 28)).alloc (.cells #[.bool n2, .slice A2 p2 c2, .slice B2 q2 d2] 28)).alloc (.cells #[.bool false, .slice none 0 0, .slice none 0 0] 28) = w1 at hB V2 V3 V4 ⊢
  have k20 := V2.c0
  have k21 := V2.c1
  have k22 := V2.c2
  have k30 := V3.c0
  have k31 := V3.c1
  have k32 := V3.c2
  have sz1 := V4.lt
  go_wp2_with fail
  refine (HBO.out _ hB).mono ?_; rintro e w2 ⟨A5, c5, A6, c6, A7, c7, A8, c8, rfl, o5, o6, o7, o8, b2⟩
  have B2 := below_then hB (by omega) b2
  have sz2 := b2.size
  have V6 := (RatVar.new w2 s1 (.slice A5 (limbs X1).length c5) (.slice A6 (limbs Y1).length c6)).below (alloc_below _ (.cells #[.bool s2, .slice A7 (limbs X2).length c7, .slice A8 (limbs Y2).length c8] 28))
  have V7 := RatVar.new' (k := w2.heap.size + 1) (w := w2.alloc (.cells #[.bool s1, .slice A5 (limbs X1).length c5, .slice A6 (limbs Y1).length c6] 28)) (by simp) s2 (.slice A7 (limbs X2).length c7) (.slice A8 (limbs Y2).length c8)
  have d3 := ((Below.refl w2.heap.size w2).alloc (Nat.le_refl _) (.cells #[.bool s1, .slice A5 (limbs X1).length c5, .slice A6 (limbs Y1).length c6] 28)).alloc (by simp) (.cells #[.bool s2, .slice A7 (limbs X2).length c7, .slice A8 (limbs Y2).length c8] 28)
  have D3 := below_then b2 b2.size d3
  go_upto_region 4 with (fail)
  generalize (w2.alloc (.cells #[.bool s1, .slice A5 (limbs X1).length c5, .slice A6 (limbs Y1).length c6] 28)).alloc (.cells #[.bool s2, .slice A7 (limbs X2).length c7, .slice A8 (limbs Y2).length c8] 28) = w3 at V6 V7 d3 D3 ⊢
  have B3 := below_then B2 (by omega) d3
  have P4 := V4.below D3
  have o5' := o5.below d3
  have o6' := o6.below d3
  have o7' := o7.below d3
  have o8' := o8.below d3
  have sz3 := V7.lt
  generalize w2.heap.size = T6 at *
  clear k20 k21 k22 k30 k31 k32 V2 V3 V4 hB b2 B2 d3 D3 o5 o6 o7 o8 HBO
  have HP := Lib.hid (fun W (hW : Below w3.heap.size w3 W) => Mul_any _ _ _ _ _ _ _ _ W (o5'.below hW) (o8'.below hW) (by omega))
  have HQ := Lib.hid (fun W (hW : Below w3.heap.size w3 W) => Mul_any _ _ _ _ _ _ _ _ W (o7'.below hW) (o6'.below hW) (by omega))
  have HD := Lib.hid (fun W (hW : Below w3.heap.size w3 W) => Mul_any _ _ _ _ _ _ _ _ W (o6'.below hW) (o8'.below hW) (by omega))
  have lp := limbs_mul_len X1 Y2
  have lq := limbs_mul_len X2 Y1
  have ld := limbs_mul_len Y1 Y2
  have hd0 : Y1 * Y2 ≠ 0 := Nat.mul_ne_zero y1 y2
  rw [val_limbs, val_limbs] at HP HQ HD
  clear o5' o6' o7' o8'
  generalize hpe : X1 * Y2 = p at *
  generalize hqe : X2 * Y1 = q at *
  generalize hde : Y1 * Y2 = D at *
  have HEP := Lib.hid hpe
  have HEQ := Lib.hid hqe
  have HED := Lib.hid hde
  clear hpe hqe hde
  have hlp : (limbs p).length < 2000000000000 := by omega
  have hlq : (limbs q).length < 2000000000000 := by omega
  have hld : (limbs D).length < 2000000000000 := by omega
  clear lp lq ld l1 l2 l3 l4 y1 y2
  have KS := Lib.hid (fun W (hW : Below w3.heap.size w3 W) => And.intro (V6.below hW).c0 (And.intro (V6.below hW).c1 (And.intro (V6.below hW).c2 (And.intro (V7.below hW).c0 (And.intro (V7.below hW).c1 (V7.below hW).c2)))))
  go_cut [9, 10] from 24 to 33 (fun av bv wx => ∃ AP AQ, av = .slice AP (limbs p).length (limbs p).length ∧ bv = .slice AQ (limbs q).length (limbs q).length ∧ Num wx AP (limbs p).length (limbs p).length (limbs p) ∧ Num wx AQ (limbs q).length (limbs q).length (limbs q) ∧ Below w3.heap.size w3 wx)
  case first =>
    have hdr : Below w3.heap.size w3 w3.drew := drawn_below w3 1
    go_region_held3 (fun W => W.cell? ⟨T6, 1, none⟩ = some (.slice A5 (limbs X1).length c5) ∧ W.cell? ⟨T6, 2, none⟩ = some (.slice A6 (limbs Y1).length c6) ∧ W.cell? ⟨T6 + 1, 1, none⟩ = some (.slice A7 (limbs X2).length c7) ∧ W.cell? ⟨T6 + 1, 2, none⟩ = some (.slice A8 (limbs Y2).length c8))
      (first | exact ⟨(KS.out _ (by assumption)).2.1, (KS.out _ (by assumption)).2.2.1, (KS.out _ (by assumption)).2.2.2.2.1, (KS.out _ (by assumption)).2.2.2.2.2⟩ | exact ⟨(KS.out _ (Below.refl _ _)).2.1, (KS.out _ (Below.refl _ _)).2.2.1, (KS.out _ (Below.refl _ _)).2.2.2.2.1, (KS.out _ (Below.refl _ _)).2.2.2.2.2⟩)
      (first
        | (go_at_call 26; with_reducible refine (HP.out _ (by first | assumption | exact Below.refl _ _)).mono ?_; rintro e w5 ⟨AP, rfl, oP, bP⟩; have bP' := chain3 (w3 := w3) (by assumption) bP)
        | (go_at_call 26; with_reducible refine (HQ.out _ (by first | assumption | exact Below.refl _ _)).mono ?_; rintro e w6 ⟨AQ, rfl, oQ, bQ⟩; have bQ' := chain3 (w3 := w3) (by assumption) bQ))
    all_goals
      go_wp2
      go_meet
      exact ⟨AP, AQ, rfl, rfl, by first | exact oP.num | exact (oP.below bQ).num, by first | exact oQ.num | exact (oQ.below bP).num, by assumption⟩
  case rest =>
    obtain ⟨AP, AQ, rfl, rfl, oP, oQ, bW⟩ := hcut
    have c60 := (V6.below bW).c0
    have c62 := (V6.below bW).c2
    have c72 := (V7.below bW).c2
    go_wp2_with fail
    refine (HD.out _ bW).mono ?_; rintro e w5 ⟨AD, rfl, oD, bD⟩
    have B5 := chain3 bW bD
    have oP5 := oP.below bD
    have oQ5 := oQ.below bD
    have HC := Lib.hid (Cmp_any _ _ _ _ _ _ _ _ w5 oP5 oQ5)
    rw [val_limbs, val_limbs] at HC
    clear c60 c62 c72 bD bW oP oQ HP HQ HD KS
    go_wp2_with fail
    refine HC.out.mono ?_; rintro e w6 ⟨rfl, m, rfl⟩
    have dm := drawn_below w5 m
    have B6 := chain3 B5 dm
    have oP6 := oP5.below dm
    have oQ6 := oQ5.below dm
    have oD6 := oD.below dm
    generalize w5.drewN m = w6 at B6 oP6 oQ6 oD6 dm ⊢
    have c60 := (V6.below B6).c0
    have c70 := (V7.below B6).c0
    have P6 := P4.below B6
    have BB := below_then B3 (by omega) B6
    have sz6 := B6.size
    clear dm B5 B6 oP5 oQ5 oD V6 V7 P4 HC
    by_cases hs : s1 = s2
    · subst hs
      go_upto_region 9 with (fail)
      have HA := Lib.hid (fun W (hW : Below w6.heap.size w6 W) => Add_any _ _ _ _ _ _ _ _ W (oP6.below hW) (oQ6.below hW) (by omega) (by omega))
      have hlN : (limbs (p + q)).length < 35184372088831 := by have := Add_len p q; omega
      rw [val_limbs, val_limbs] at HA
      have KS := Lib.hid (fun W (hW : Below w6.heap.size w6 W) => And.intro (cell_below hW c60) (And.intro ((P6.below hW).free 0) (And.intro ((P6.below hW).free 1) ((P6.below hW).free 2))))
      have hdr : Below w6.heap.size w6 w6.drew := drawn_below w6 1
      have hne6 : T6 ≠ w.heap.size + 1 + 1 := by omega
      go_region_held3 (fun W => W.cell? ⟨T6, 0, none⟩ = some (.bool s1) ∧ W.frozen? ⟨w.heap.size + 1 + 1, 0, none⟩ = false ∧ W.frozen? ⟨w.heap.size + 1 + 1, 1, none⟩ = false ∧ W.frozen? ⟨w.heap.size + 1 + 1, 2, none⟩ = false)
        (first | exact KS.out _ (by assumption) | exact KS.out _ (Below.refl _ _) | exact ⟨all_cell (KS.out _ bR').1 hne6, ((P6.below bR').all _ _ _).free 0, ((P6.below bR').all _ _ _).free 1, ((P6.below bR').all _ _ _).free 2⟩)
        (first
          | (go_at_call 68; with_reducible refine (HA.out _ (by first | assumption | exact Below.refl _ _)).mono ?_; rintro e w7 ⟨AN, rfl, oN, bN⟩; have bN' := chain3 (w3 := w6) (by assumption) bN)
          | (go_at_call 33; with_reducible refine (right_any _ _ _ _ _ _ _ _ _ w7 oN.num (oD6.num.below bN') (by rw [val_limbs]; exact hd0) hlN (by omega)).mono ?_; rintro e w8 ⟨v, rfl, hv⟩; rw [val_limbs, val_limbs] at hv; unfold RatPost at hv; obtain ⟨B9, k9, B0, k0, rfl, o9, o0, hne, bR⟩ := hv; have bR' := chain3 (w3 := w6) bN' bR; have e0 := (P6.below bR').c0; have e1 := (P6.below bR').c1; have e2 := (P6.below bR').c2))
      go_wp2
      have hz7 := bN'.size
      have lt6 := P6.lt
      have r4 := (P6.below bR').all (sgn s1 (p + q)) (.slice B9 (limbs ((p + q) / Nat.gcd (p + q) D)).length k9) (.slice B0 (limbs (D / Nat.gcd (p + q) D)).length k0)
      have E4 := all_ex (p := fun k => k = w.heap.size + 1 + 1) w8 (w.heap.size + 1 + 1) rfl (.bool (sgn s1 (p + q))) (.slice B9 (limbs ((p + q) / Nat.gcd (p + q) D)).length k9) (.slice B0 (limbs (D / Nat.gcd (p + q) D)).length k0)
      have b4 := all_below (below_then BB (by omega) bR') (T := w.heap.size + 1 + 1) (by omega) (.bool (sgn s1 (p + q))) (.slice B9 (limbs ((p + q) / Nat.gcd (p + q) D)).length k9) (.slice B0 (limbs (D / Nat.gcd (p + q) D)).length k0)
      have O9 := o9.ex E4 (by intro k hk; have := o9.at k hk; omega)
      have O0 := o0.ex E4 (by intro k hk; have := o0.at k hk; omega)
      refine bodyPost_ret (v := .tuple #[.agg #[.bool (sgn s1 (p + q)), .slice B9 (limbs ((p + q) / Nat.gcd (p + q) D)).length k9, .slice B0 (limbs (D / Nat.gcd (p + q) D)).length k0], .int .i64 0]) ?_ rfl ?_
      · exact results_row_tmp (fn := Tryz.f66) (p := 4) (u := 5) (ty := 28) rfl _ _ (w.heap.size + 1 + 1) 28 #[.bool (sgn s1 (p + q)), .slice B9 (limbs ((p + q) / Nat.gcd (p + q) D)).length k9, .slice B0 (limbs (D / Nat.gcd (p + q) D)).length k0] (0, 0) _ rfl r4 Tryz.underlying28 rfl (by kernel_rfl)
      · unfold PlusPost
        rw [HEP.out, HEQ.out, HED.out, show plusS s1 p s1 q = s1 from if_pos rfl, show plusN s1 p s1 q = p + q from if_pos rfl]
        exact ⟨_, rfl, B9, k9, B0, k0, rfl, O9.mono (by omega), O0.mono (by omega), hne, b4⟩
    · have hsb : (s1 == s2) = false := by simpa using hs
      by_cases hpq : p < q
      · rw [show cmpNat p q = -1 from if_pos hpq]
        go_upto_region 11 with (fail)
        have HA := Lib.hid (fun W (hW : Below w6.heap.size w6 W) => sub_any _ _ _ _ _ _ _ _ W (oQ6.below hW) (oP6.below hW) (by rw [val_limbs, val_limbs]; omega) (by omega))
        have hlN : (limbs (q - p)).length < 35184372088831 := by have := limbs_length_mono (Nat.sub_le q p); omega
        rw [val_limbs, val_limbs] at HA
        have KS := Lib.hid (fun W (hW : Below w6.heap.size w6 W) => And.intro (cell_below hW c70) (And.intro ((P6.below hW).free 0) (And.intro ((P6.below hW).free 1) ((P6.below hW).free 2))))
        have hdr : Below w6.heap.size w6 w6.drew := drawn_below w6 1
        have hne6 : T6 + 1 ≠ w.heap.size + 1 + 1 := by omega
        go_region_held3 (fun W => W.cell? ⟨T6 + 1, 0, none⟩ = some (.bool s2) ∧ W.frozen? ⟨w.heap.size + 1 + 1, 0, none⟩ = false ∧ W.frozen? ⟨w.heap.size + 1 + 1, 1, none⟩ = false ∧ W.frozen? ⟨w.heap.size + 1 + 1, 2, none⟩ = false)
          (first | exact KS.out _ (by assumption) | exact KS.out _ (Below.refl _ _) | exact ⟨all_cell (KS.out _ bR').1 hne6, ((P6.below bR').all _ _ _).free 0, ((P6.below bR').all _ _ _).free 1, ((P6.below bR').all _ _ _).free 2⟩)
          (first
            | (go_at_call 97; with_reducible refine (HA.out _ (by first | assumption | exact Below.refl _ _)).mono ?_; rintro e w7 ⟨AN, rfl, oN, bN⟩; have bN' := chain3 (w3 := w6) (by assumption) bN)
            | (go_at_call 33; with_reducible refine (right_any _ _ _ _ _ _ _ _ _ w7 oN.num (oD6.num.below bN') (by rw [val_limbs]; exact hd0) hlN (by omega)).mono ?_; rintro e w8 ⟨v, rfl, hv⟩; rw [val_limbs, val_limbs] at hv; unfold RatPost at hv; obtain ⟨B9, k9, B0, k0, rfl, o9, o0, hne, bR⟩ := hv; have bR' := chain3 (w3 := w6) bN' bR; have e0 := (P6.below bR').c0; have e1 := (P6.below bR').c1; have e2 := (P6.below bR').c2))
        go_wp2
        have hz7 := bN'.size
        have lt6 := P6.lt
        have r4 := (P6.below bR').all (sgn s2 (q - p)) (.slice B9 (limbs ((q - p) / Nat.gcd (q - p) D)).length k9) (.slice B0 (limbs (D / Nat.gcd (q - p) D)).length k0)
        have E4 := all_ex (p := fun k => k = w.heap.size + 1 + 1) w8 (w.heap.size + 1 + 1) rfl (.bool (sgn s2 (q - p))) (.slice B9 (limbs ((q - p) / Nat.gcd (q - p) D)).length k9) (.slice B0 (limbs (D / Nat.gcd (q - p) D)).length k0)
        have b4 := all_below (below_then BB (by omega) bR') (T := w.heap.size + 1 + 1) (by omega) (.bool (sgn s2 (q - p))) (.slice B9 (limbs ((q - p) / Nat.gcd (q - p) D)).length k9) (.slice B0 (limbs (D / Nat.gcd (q - p) D)).length k0)
        have O9 := o9.ex E4 (by intro k hk; have := o9.at k hk; omega)
        have O0 := o0.ex E4 (by intro k hk; have := o0.at k hk; omega)
        refine bodyPost_ret (v := .tuple #[.agg #[.bool (sgn s2 (q - p)), .slice B9 (limbs ((q - p) / Nat.gcd (q - p) D)).length k9, .slice B0 (limbs (D / Nat.gcd (q - p) D)).length k0], .int .i64 0]) ?_ rfl ?_
        · exact results_row_tmp (fn := Tryz.f66) (p := 4) (u := 5) (ty := 28) rfl _ _ (w.heap.size + 1 + 1) 28 #[.bool (sgn s2 (q - p)), .slice B9 (limbs ((q - p) / Nat.gcd (q - p) D)).length k9, .slice B0 (limbs (D / Nat.gcd (q - p) D)).length k0] (0, 0) _ rfl r4 Tryz.underlying28 rfl (by kernel_rfl)
        · unfold PlusPost
          rw [HEP.out, HEQ.out, HED.out, show plusS s1 p s2 q = s2 from (if_neg hs).trans (if_pos hpq), show plusN s1 p s2 q = q - p from (if_neg hs).trans (if_pos hpq)]
          exact ⟨_, rfl, B9, k9, B0, k0, rfl, O9.mono (by omega), O0.mono (by omega), hne, b4⟩
      · have hcc : cmpNat p q = 0 ∨ cmpNat p q = 1 := by
          unfold cmpNat
          rw [if_neg hpq]
          split
          · exact .inr rfl
          · exact .inl rfl
        rcases hcc with hcc | hcc <;> rw [hcc]
        all_goals
          go_upto_region 7 with (fail)
          have HA := Lib.hid (fun W (hW : Below w6.heap.size w6 W) => sub_any _ _ _ _ _ _ _ _ W (oP6.below hW) (oQ6.below hW) (by rw [val_limbs, val_limbs]; omega) (by omega))
          have hlN : (limbs (p - q)).length < 35184372088831 := by have := limbs_length_mono (Nat.sub_le p q); omega
          rw [val_limbs, val_limbs] at HA
          have KS := Lib.hid (fun W (hW : Below w6.heap.size w6 W) => And.intro (cell_below hW c60) (And.intro ((P6.below hW).free 0) (And.intro ((P6.below hW).free 1) ((P6.below hW).free 2))))
          have hdr : Below w6.heap.size w6 w6.drew := drawn_below w6 1
          have hne6 : T6 ≠ w.heap.size + 1 + 1 := by omega
          go_region_held3 (fun W => W.cell? ⟨T6, 0, none⟩ = some (.bool s1) ∧ W.frozen? ⟨w.heap.size + 1 + 1, 0, none⟩ = false ∧ W.frozen? ⟨w.heap.size + 1 + 1, 1, none⟩ = false ∧ W.frozen? ⟨w.heap.size + 1 + 1, 2, none⟩ = false)
            (first | exact KS.out _ (by assumption) | exact KS.out _ (Below.refl _ _) | exact ⟨all_cell (KS.out _ bR').1 hne6, ((P6.below bR').all _ _ _).free 0, ((P6.below bR').all _ _ _).free 1, ((P6.below bR').all _ _ _).free 2⟩)
            (first
              | (go_at_call 97; with_reducible refine (HA.out _ (by first | assumption | exact Below.refl _ _)).mono ?_; rintro e w7 ⟨AN, rfl, oN, bN⟩; have bN' := chain3 (w3 := w6) (by assumption) bN)
              | (go_at_call 33; with_reducible refine (right_any _ _ _ _ _ _ _ _ _ w7 oN.num (oD6.num.below bN') (by rw [val_limbs]; exact hd0) hlN (by omega)).mono ?_; rintro e w8 ⟨v, rfl, hv⟩; rw [val_limbs, val_limbs] at hv; unfold RatPost at hv; obtain ⟨B9, k9, B0, k0, rfl, o9, o0, hne, bR⟩ := hv; have bR' := chain3 (w3 := w6) bN' bR; have e0 := (P6.below bR').c0; have e1 := (P6.below bR').c1; have e2 := (P6.below bR').c2))
          go_wp2
          have hz7 := bN'.size
          have lt6 := P6.lt
          have r4 := (P6.below bR').all (sgn s1 (p - q)) (.slice B9 (limbs ((p - q) / Nat.gcd (p - q) D)).length k9) (.slice B0 (limbs (D / Nat.gcd (p - q) D)).length k0)
          have E4 := all_ex (p := fun k => k = w.heap.size + 1 + 1) w8 (w.heap.size + 1 + 1) rfl (.bool (sgn s1 (p - q))) (.slice B9 (limbs ((p - q) / Nat.gcd (p - q) D)).length k9) (.slice B0 (limbs (D / Nat.gcd (p - q) D)).length k0)
          have b4 := all_below (below_then BB (by omega) bR') (T := w.heap.size + 1 + 1) (by omega) (.bool (sgn s1 (p - q))) (.slice B9 (limbs ((p - q) / Nat.gcd (p - q) D)).length k9) (.slice B0 (limbs (D / Nat.gcd (p - q) D)).length k0)
          have O9 := o9.ex E4 (by intro k hk; have := o9.at k hk; omega)
          have O0 := o0.ex E4 (by intro k hk; have := o0.at k hk; omega)
          refine bodyPost_ret (v := .tuple #[.agg #[.bool (sgn s1 (p - q)), .slice B9 (limbs ((p - q) / Nat.gcd (p - q) D)).length k9, .slice B0 (limbs (D / Nat.gcd (p - q) D)).length k0], .int .i64 0]) ?_ rfl ?_
          · exact results_row_tmp (fn := Tryz.f66) (p := 4) (u := 5) (ty := 28) rfl _ _ (w.heap.size + 1 + 1) 28 #[.bool (sgn s1 (p - q)), .slice B9 (limbs ((p - q) / Nat.gcd (p - q) D)).length k9, .slice B0 (limbs (D / Nat.gcd (p - q) D)).length k0] (0, 0) _ rfl r4 Tryz.underlying28 rfl (by kernel_rfl)
          · unfold PlusPost
            rw [HEP.out, HEQ.out, HED.out, show plusS s1 p s2 q = s1 from (if_neg hs).trans (if_neg hpq), show plusN s1 p s2 q = p - q from (if_neg hs).trans (if_neg hpq)]
            exact ⟨_, rfl, B9, k9, B0, k0, rfl, O9.mono (by omega), O0.mono (by omega), hne, b4⟩

end Go.Proofs.YtgdgdifnpdcgkaaGreatDoor

namespace Go.Proofs.YtgdgdifnpdcgkaaGreatDoor
open Go.RowKit

theorem RatVar.set0 {w : World} {T : Nat} {n : Bool} {u v : Value} (h : RatVar w T n u v) (n' : Bool) : RatVar (w.setCell ⟨T, 0, none⟩ (.bool n')) T n' u v := heap_setCell_same w T 0 _ _ (.bool n') h

set_option maxRecDepth 100000 in
set_option maxHeartbeats 4000000 in
theorem Minus_any (n1 n2 : Bool) (A1 B1 A2 B2 : Option Addr) (p1 c1 q1 d1 p2 c2 q2 d2 : Nat) (xs1 ys1 xs2 ys2 : List Nat) (w : World) (hx1 : Num w A1 p1 c1 xs1) (hy1 : Num w B1 q1 d1 ys1) (hx2 : Num w A2 p2 c2 xs2) (hy2 : Num w B2 q2 d2 ys2)
    (h1 : val ys1 ≠ 0) (h2 : val ys2 ≠ 0) (lp1 : p1 < 1000000000000) (lq1 : q1 < 1000000000000) (lp2 : p2 < 1000000000000) (lq2 : q2 < 1000000000000) :
    Calls Tryz.prog 37 #[.agg #[.bool n1, .slice A1 p1 c1, .slice B1 q1 d1], .agg #[.bool n2, .slice A2 p2 c2, .slice B2 q2 d2]] w
      (PlusPost w (sgn n1 (val xs1)) (val xs1 / Nat.gcd (val xs1) (val ys1)) (val ys1 / Nat.gcd (val xs1) (val ys1)) (sgn (!n2) (val xs2)) (val xs2 / Nat.gcd (val xs2) (val ys2)) (val ys2 / Nat.gcd (val xs2) (val ys2))) := by
  have HBO := Lib.hid (fun W (hW : Below w.heap.size w W) => Plus_any n1 (!n2) A1 B1 A2 B2 p1 c1 q1 d1 p2 c2 q2 d2 xs1 ys1 xs2 ys2 W (hx1.below hW) (hy1.below hW) (hx2.below hW) (hy2.below hW) h1 h2 (by omega) (by omega) (by omega) (by omega))
  clear hx1 hy1 hx2 hy2 h1 h2 lp1 lq1 lp2 lq2
  generalize val xs1 / Nat.gcd (val xs1) (val ys1) = X1 at *
  generalize val ys1 / Nat.gcd (val xs1) (val ys1) = Y1 at *
  generalize val xs2 / Nat.gcd (val xs2) (val ys2) = X2 at *
  generalize val ys2 / Nat.gcd (val xs2) (val ys2) = Y2 at *
  generalize sgn n1 (val xs1) = s1 at *
  generalize sgn (!n2) (val xs2) = s2 at *
  have hB := (((Below.refl w.heap.size w).alloc (Nat.le_refl _) (.cells #[.bool n1, .slice A1 p1 c1, .slice B1 q1 d1] 28)).alloc (by simp) (.cells #[.bool n2, .slice A2 p2 c2, .slice B2 q2 d2] 28)).alloc (by simp; omega) (.cells #[.bool false, .slice none 0 0, .slice none 0 0] 28)
  have V2 := ((RatVar.new w n1 (.slice A1 p1 c1) (.slice B1 q1 d1)).below (alloc_below _ (.cells #[.bool n2, .slice A2 p2 c2, .slice B2 q2 d2] 28))).below (alloc_below _ (.cells #[.bool false, .slice none 0 0, .slice none 0 0] 28))
  have V3 := ((RatVar.new' (k := w.heap.size + 1) (w := w.alloc (.cells #[.bool n1, .slice A1 p1 c1, .slice B1 q1 d1] 28)) (by simp) n2 (.slice A2 p2 c2) (.slice B2 q2 d2))).below (alloc_below _ (.cells #[.bool false, .slice none 0 0, .slice none 0 0] 28))
  have V4 := (RatVar.new' (k := w.heap.size + 1 + 1) (w := (w.alloc (.cells #[.bool n1, .slice A1 p1 c1, .slice B1 q1 d1] 28)).alloc (.cells #[.bool n2, .slice A2 p2 c2, .slice B2 q2 d2] 28)) (by simp) false (.slice none 0 0) (.slice none 0 0))
  go_enter Tryz.func37, Tryz.ntmps37
  go_upto_region 1 with (fail)
  generalize ((w.alloc (.cells #[.bool n1, .slice A1 p1 c1, .slice B1 q1 d1] 28)).alloc (.cells #[.bool n2, .slice A2 p2 c2, .slice B2 q2 d2] 28)).alloc (.cells #[.bool false, .slice none 0 0, .slice none 0 0] 28) = w1 at hB V2 V3 V4 ⊢
  have k30 := V3.c0
  have k31 := V3.c1
  have k32 := V3.c2
  have kf := V3.free 0
  have sz1 := V4.lt
  go_upto_region 2 with (fail)
  have P3 := V3.set0 (!n2)
  have E3 := Ex.set (p := fun k => k = w.heap.size + 1) (w := w1) (g := w.heap.size + 1) rfl 0 (.bool (!n2))
  have P2 := V2.ex E3 (by omega)
  have P4 := V4.ex E3 (by omega)
  have B3 := hB.setCell (p := ⟨w.heap.size + 1, 0, none⟩) (Nat.le_succ _) (.bool (!n2))
  have sz2 := E3.size
  generalize w1.setCell ⟨w.heap.size + 1, 0, none⟩ (.bool (!n2)) = w2 at P3 P2 P4 B3 sz2 ⊢
  clear k30 k31 k32 kf V2 V3 V4 hB E3
  have k20 := P2.c0
  have k21 := P2.c1
  have k22 := P2.c2
  have k30 := P3.c0
  have k31 := P3.c1
  have k32 := P3.c2
  go_wp2_with fail
  refine (HBO.out _ B3).mono ?_; rintro e w8 ⟨v, rfl, hv⟩
  unfold RatPost at hv
  generalize hsg : sgn (plusS s1 (X1 * Y2) s2 (X2 * Y1)) (plusN s1 (X1 * Y2) s2 (X2 * Y1)) = sg at hv
  generalize hU : plusN s1 (X1 * Y2) s2 (X2 * Y1) / Nat.gcd (plusN s1 (X1 * Y2) s2 (X2 * Y1)) (Y1 * Y2) = U at hv
  generalize hV : Y1 * Y2 / Nat.gcd (plusN s1 (X1 * Y2) s2 (X2 * Y1)) (Y1 * Y2) = V at hv
  obtain ⟨B9, k9, B0, k0, rfl, o9, o0, hne, bR⟩ := hv
  have HSG := Lib.hid hsg
  have HU := Lib.hid hU
  have HV := Lib.hid hV
  have P5 := P4.below bR
  have B5 := below_then B3 (by omega) bR
  have r4 := P5.all sg (.slice B9 (limbs U).length k9) (.slice B0 (limbs V).length k0)
  have E4 := all_ex (p := fun k => k = w.heap.size + 1 + 1) w8 (w.heap.size + 1 + 1) rfl (.bool sg) (.slice B9 (limbs U).length k9) (.slice B0 (limbs V).length k0)
  have b4 := all_below B5 (T := w.heap.size + 1 + 1) (by omega) (.bool sg) (.slice B9 (limbs U).length k9) (.slice B0 (limbs V).length k0)
  have O9 := o9.ex E4 (by intro k hk; have := o9.at k hk; omega)
  have O0 := o0.ex E4 (by intro k hk; have := o0.at k hk; omega)
  have e0 := P5.c0
  have e1 := P5.c1
  have e2 := P5.c2
  have f0 := P5.free 0
  have f1 := P5.free 1
  have f2 := P5.free 2
  clear hsg hU hV k20 k21 k22 k30 k31 k32 P2 P3 HBO
  go_wp2
  refine bodyPost_ret (v := .tuple #[.agg #[.bool sg, .slice B9 (limbs U).length k9, .slice B0 (limbs V).length k0], .int .i64 0]) ?_ rfl ?_
  · exact results_row_tmp (fn := Tryz.f37) (p := 4) (u := 5) (ty := 28) rfl _ _ (w.heap.size + 1 + 1) 28 #[.bool sg, .slice B9 (limbs U).length k9, .slice B0 (limbs V).length k0] (0, 0) _ rfl r4 Tryz.underlying28 rfl (by kernel_rfl)
  · unfold PlusPost
    rw [HSG.out, HU.out, HV.out]
    exact ⟨_, rfl, B9, k9, B0, k0, rfl, O9.mono (by omega), O0.mono (by omega), hne, b4⟩

end Go.Proofs.YtgdgdifnpdcgkaaGreatDoor

namespace Go.Proofs.YtgdgdifnpdcgkaaGreatDoor
open Go.RowKit

theorem cmpNat_mul (a b : Nat) {k : Nat} (hk : 0 < k) : cmpNat (a * k) (b * k) = cmpNat a b := by
  unfold cmpNat
  simp only [Nat.mul_lt_mul_right hk]

theorem order_law (p q X2 : Nat) (hq : X2 = 0 → q = 0) :
    (plusN false p (sgn true X2) q = 0 ∧ cmpNat p q = 0) ∨
    (plusN false p (sgn true X2) q ≠ 0 ∧ sgn (plusS false p (sgn true X2) q) (plusN false p (sgn true X2) q) = true ∧ cmpNat p q = -1) ∨
    (plusN false p (sgn true X2) q ≠ 0 ∧ sgn (plusS false p (sgn true X2) q) (plusN false p (sgn true X2) q) = false ∧ cmpNat p q = 1) := by
  by_cases h : X2 = 0
  · have hq0 := hq h
    subst hq0
    have e1 : sgn true X2 = false := if_pos h
    rw [e1]
    have e2 : plusN false p false 0 = p := by unfold plusN; simp
    have e3 : plusS false p false 0 = false := by unfold plusS; simp
    rw [e2, e3]
    by_cases hp : p = 0
    · left; subst hp; exact ⟨rfl, by decide⟩
    · right; right
      exact ⟨hp, by unfold sgn; simp, by unfold cmpNat; rw [if_neg (by omega), if_pos (by omega)]⟩
  · have e1 : sgn true X2 = true := if_neg h
    rw [e1]
    by_cases hpq : p < q
    · right; left
      have e2 : plusN false p true q = q - p := by unfold plusN; simp [hpq]
      have e3 : plusS false p true q = true := by unfold plusS; simp [hpq]
      rw [e2, e3]
      exact ⟨by omega, if_neg (by omega), if_pos hpq⟩
    · have e2 : plusN false p true q = p - q := by unfold plusN; simp [hpq]
      have e3 : plusS false p true q = false := by unfold plusS; simp [hpq]
      rw [e2, e3]
      by_cases he : p = q
      · left; subst he; exact ⟨by omega, by unfold cmpNat; simp⟩
      · right; right
        exact ⟨by omega, by unfold sgn; simp, by unfold cmpNat; rw [if_neg hpq, if_pos (by omega)]⟩

theorem div_gcd_zero {N D : Nat} : N / Nat.gcd N D = 0 ↔ N = 0 := by
  constructor
  · intro h
    apply Classical.byContradiction
    intro hn
    have h1 : 0 < Nat.gcd N D := Nat.gcd_pos_of_pos_left D (Nat.pos_of_ne_zero hn)
    have h2 := Nat.div_pos (Nat.le_of_dvd (Nat.pos_of_ne_zero hn) (Nat.gcd_dvd_left N D)) h1
    omega
  · rintro rfl
    exact Nat.zero_div _

set_option maxRecDepth 100000 in
set_option maxHeartbeats 4000000 in
theorem Order_red (A1 B1 A2 B2 : Option Addr) (p1 c1 q1 d1 p2 c2 q2 d2 : Nat) (xs1 ys1 xs2 ys2 : List Nat) (w : World) (hx1 : Num w A1 p1 c1 xs1) (hy1 : Num w B1 q1 d1 ys1) (hx2 : Num w A2 p2 c2 xs2) (hy2 : Num w B2 q2 d2 ys2)
    (h1 : val ys1 ≠ 0) (h2 : val ys2 ≠ 0) (lp1 : p1 < 1000000000000) (lq1 : q1 < 1000000000000) (lp2 : p2 < 1000000000000) (lq2 : q2 < 1000000000000) :
    Calls Tryz.prog 17 #[.agg #[.bool false, .slice A1 p1 c1, .slice B1 q1 d1], .agg #[.bool false, .slice A2 p2 c2, .slice B2 q2 d2]] w fun e w' =>
      e = .returned (.tuple #[.int .i64 (cmpNat (val xs1 / Nat.gcd (val xs1) (val ys1) * (val ys2 / Nat.gcd (val xs2) (val ys2))) (val xs2 / Nat.gcd (val xs2) (val ys2) * (val ys1 / Nat.gcd (val xs1) (val ys1)))), .int .i64 0]) ∧ Below w.heap.size w w' := by
  have HBO := Lib.hid (fun W (hW : Below w.heap.size w W) => Minus_any false false A1 B1 A2 B2 p1 c1 q1 d1 p2 c2 q2 d2 xs1 ys1 xs2 ys2 W (hx1.below hW) (hy1.below hW) (hx2.below hW) (hy2.below hW) h1 h2 (by omega) (by omega) (by omega) (by omega))
  have hs1 : sgn false (val xs1) = false := by unfold sgn; simp
  have hs2 : sgn (!false) (val xs2) = sgn true (val xs2 / Nat.gcd (val xs2) (val ys2)) := by
    unfold sgn
    simp only [div_gcd_zero, Bool.not_false]
  rw [hs1, hs2] at HBO
  have HL := order_law (val xs1 / Nat.gcd (val xs1) (val ys1) * (val ys2 / Nat.gcd (val xs2) (val ys2))) (val xs2 / Nat.gcd (val xs2) (val ys2) * (val ys1 / Nat.gcd (val xs1) (val ys1))) (val xs2 / Nat.gcd (val xs2) (val ys2)) (fun h => by rw [h, Nat.zero_mul])
  clear hx1 hy1 hx2 hy2 h1 h2 lp1 lq1 lp2 lq2 hs1 hs2
  unfold PlusPost at HBO
  generalize val xs1 / Nat.gcd (val xs1) (val ys1) = X1 at *
  generalize val ys1 / Nat.gcd (val xs1) (val ys1) = Y1 at *
  generalize val xs2 / Nat.gcd (val xs2) (val ys2) = X2 at *
  generalize val ys2 / Nat.gcd (val xs2) (val ys2) = Y2 at *
  generalize plusS false (X1 * Y2) (sgn true X2) (X2 * Y1) = sp at *
  generalize plusN false (X1 * Y2) (sgn true X2) (X2 * Y1) = N at *
  generalize X1 * Y2 = p at *
  generalize X2 * Y1 = q at *
  generalize Y1 * Y2 = D at *
  generalize sgn sp N = sg at *
  simp only [← div_gcd_zero (N := N) (D := D), ne_eq] at HL
  generalize N / Nat.gcd N D = U at *
  generalize D / Nat.gcd N D = V at *
  have hB := ((Below.refl w.heap.size w).alloc (Nat.le_refl _) (.cells #[.bool false, .slice A1 p1 c1, .slice B1 q1 d1] 28)).alloc (by simp) (.cells #[.bool false, .slice A2 p2 c2, .slice B2 q2 d2] 28)
  have V2 := ((RatVar.new w false (.slice A1 p1 c1) (.slice B1 q1 d1)).below (alloc_below _ (.cells #[.bool false, .slice A2 p2 c2, .slice B2 q2 d2] 28)))
  have V3 := (RatVar.new' (k := w.heap.size + 1) (w := w.alloc (.cells #[.bool false, .slice A1 p1 c1, .slice B1 q1 d1] 28)) (by simp) false (.slice A2 p2 c2) (.slice B2 q2 d2))
  go_enter Tryz.func17, Tryz.ntmps17
  go_upto_region 1 with (fail)
  generalize (w.alloc (.cells #[.bool false, .slice A1 p1 c1, .slice B1 q1 d1] 28)).alloc (.cells #[.bool false, .slice A2 p2 c2, .slice B2 q2 d2] 28) = w1 at hB V2 V3 ⊢
  have k20 := V2.c0
  have k21 := V2.c1
  have k22 := V2.c2
  have k30 := V3.c0
  have k31 := V3.c1
  have k32 := V3.c2
  go_wp2_with fail
  refine (HBO.out _ hB).mono ?_; rintro e w8 ⟨v, rfl, hv⟩
  unfold RatPost at hv
  obtain ⟨B9, k9, B0, k0, rfl, o9, o0, hne, bR⟩ := hv
  have B5 := below_then hB hB.size bR
  have V6 := RatVar.new w8 sg (.slice B9 (limbs U).length k9) (.slice B0 (limbs V).length k0)
  have B6 := B5.alloc B5.size (.cells #[.bool sg, .slice B9 (limbs U).length k9, .slice B0 (limbs V).length k0] 28)
  clear k20 k21 k22 k30 k31 k32 V2 V3 hB HBO o9 o0 hne bR B5
  go_upto_region 2 with (fail)
  generalize w8.alloc (.cells #[.bool sg, .slice B9 (limbs U).length k9, .slice B0 (limbs V).length k0] 28) = w9 at V6 B6 ⊢
  have e0 := V6.c0
  have e1 := V6.c1
  rcases HL with ⟨hz, hc⟩ | ⟨hz, rfl, hc⟩ | ⟨hz, rfl, hc⟩
  · have hl : (limbs U).length = 0 := limbs_length_zero.2 hz
    rw [hl] at e1
    go_wp2
    rw [hc]
    go_ret2
    exact ⟨rfl, B6⟩
  · have hl : (limbs U).length ≠ 0 := fun h => hz (limbs_length_zero.1 h)
    obtain ⟨m, hm⟩ := Nat.exists_eq_succ_of_ne_zero hl
    rw [hm] at e1
    go_wp2
    rw [hc]
    go_ret2
    exact ⟨rfl, B6⟩
  · have hl : (limbs U).length ≠ 0 := fun h => hz (limbs_length_zero.1 h)
    obtain ⟨m, hm⟩ := Nat.exists_eq_succ_of_ne_zero hl
    rw [hm] at e1
    go_wp2
    rw [hc]
    go_ret2
    exact ⟨rfl, B6⟩

theorem cmpNat_cross (a b c d : Nat) (hb : b ≠ 0) (hd : d ≠ 0) : cmpNat (a / Nat.gcd a b * (d / Nat.gcd c d)) (c / Nat.gcd c d * (b / Nat.gcd a b)) = cmpNat (a * d) (c * b) := by
  have g1 : 0 < Nat.gcd a b := Nat.gcd_pos_of_pos_right a (Nat.pos_of_ne_zero hb)
  have g2 : 0 < Nat.gcd c d := Nat.gcd_pos_of_pos_right c (Nat.pos_of_ne_zero hd)
  have e1 := Nat.div_mul_cancel (Nat.gcd_dvd_left a b)
  have e2 := Nat.div_mul_cancel (Nat.gcd_dvd_right a b)
  have e3 := Nat.div_mul_cancel (Nat.gcd_dvd_left c d)
  have e4 := Nat.div_mul_cancel (Nat.gcd_dvd_right c d)
  rw [← cmpNat_mul _ _ (Nat.mul_pos g1 g2)]
  congr 1
  · rw [show a * d = (a / Nat.gcd a b * Nat.gcd a b) * (d / Nat.gcd c d * Nat.gcd c d) by rw [e1, e4]]
    simp only [Nat.mul_comm, Nat.mul_left_comm, Nat.mul_assoc]
  · rw [show c * b = (c / Nat.gcd c d * Nat.gcd c d) * (b / Nat.gcd a b * Nat.gcd a b) by rw [e2, e3]]
    simp only [Nat.mul_comm, Nat.mul_left_comm, Nat.mul_assoc]

theorem Order_any (A1 B1 A2 B2 : Option Addr) (p1 c1 q1 d1 p2 c2 q2 d2 : Nat) (xs1 ys1 xs2 ys2 : List Nat) (w : World) (hx1 : Num w A1 p1 c1 xs1) (hy1 : Num w B1 q1 d1 ys1) (hx2 : Num w A2 p2 c2 xs2) (hy2 : Num w B2 q2 d2 ys2)
    (h1 : val ys1 ≠ 0) (h2 : val ys2 ≠ 0) (lp1 : p1 < 1000000000000) (lq1 : q1 < 1000000000000) (lp2 : p2 < 1000000000000) (lq2 : q2 < 1000000000000) :
    Calls Tryz.prog 17 #[.agg #[.bool false, .slice A1 p1 c1, .slice B1 q1 d1], .agg #[.bool false, .slice A2 p2 c2, .slice B2 q2 d2]] w fun e w' =>
      e = .returned (.tuple #[.int .i64 (cmpNat (val xs1 * val ys2) (val xs2 * val ys1)), .int .i64 0]) ∧ Below w.heap.size w w' := by
  have := Order_red A1 B1 A2 B2 p1 c1 q1 d1 p2 c2 q2 d2 xs1 ys1 xs2 ys2 w hx1 hy1 hx2 hy2 h1 h2 lp1 lq1 lp2 lq2
  rw [cmpNat_cross _ _ _ _ h1 h2] at this
  exact this

end Go.Proofs.YtgdgdifnpdcgkaaGreatDoor
