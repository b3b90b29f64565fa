/- floats.number. -/
import Derived.Test.YtekcpapkicmckaaGreatDoorNear
import Derived.Test.YtekcpapkicmckaaGreatDoorAmo
namespace Go.Proofs.YtekcpapkicmckaaGreatDoor
open Go.RowKit

theorem Tryz.f64fromZ (z : Int) (W : World) : (callFunc 137 #[.int .u64 z]).run Tryz.prog W = .ok (.value (.float .f64 z.toNat)) W := by kernel_rfl

/-- the package's variable holds the wide format -/
structure WideAt (w : World) : Prop where
  c0 : w.cell? ⟨2, 0, none⟩ = some (.int .i64 53)
  c1 : w.cell? ⟨2, 1, none⟩ = some (.int .i64 (-1074))
  c2 : w.cell? ⟨2, 2, none⟩ = some (.int .i64 971)

theorem WideAt.below {w w' : World} (h : WideAt w) (hb : Below w.heap.size w w') : WideAt w' :=
  ⟨(hb.cell (World.block_lt_of_cell? w _ h.c0)).trans h.c0, (hb.cell (World.block_lt_of_cell? w _ h.c1)).trans h.c1, (hb.cell (World.block_lt_of_cell? w _ h.c2)).trans h.c2⟩

theorem nearNum_bd {N D : Nat} (hD : D ≠ 0) {e : Int} (h : IsE N D e) : (nearNum N D e).2.1 < 9007199254740992 ∧ -1074 ≤ (nearNum N D e).2.2 ∧ (nearNum N D e).2.2 ≤ 971 := by
  have h1 := nearM_le (Nat.pos_of_ne_zero hD) h.fit
  have h2 := h.low
  unfold nearNum
  split
  · split <;> simp <;> omega
  · split <;> simp <;> omega

theorem nearNum_zero {N D : Nat} {e : Int} (h : (nearNum N D e).1 = true) : nearNum N D e = (true, 0, 0) := by
  revert h
  unfold nearNum
  split
  · split <;> simp
  · split <;> simp

theorem fin_neg {z : Int} {b : Nat} (hz : z = (b : Int)) (hb : b < 9223372036854775808) : (Go.bits .or .u64 z 9223372036854775808).toNat = withSign true b := by
  rw [hz, or_top b hb, Int.toNat_natCast]; rfl
theorem fin_pos {z : Int} {b : Nat} (hz : z = (b : Int)) : z.toNat = withSign false b := by rw [hz, Int.toNat_natCast]; rfl
theorem amount_small {M : Nat} {E : Int} (h : M < 4503599627370496) : amount false M E = M := by
  unfold amount; rw [if_neg (by simp), if_neg (by omega)]
theorem amount_great {M : Nat} {E : Int} (h : ¬ M < 4503599627370496) (h1 : -1074 ≤ E) : (E + 1075) * 4503599627370496 + ((M : Int) - 4503599627370496) = ((amount false M E : Nat) : Int) := by
  unfold amount; rw [if_neg (by simp), if_pos (by omega)]
  obtain ⟨k, hk⟩ : ∃ k : Nat, E + 1075 = k := ⟨(E + 1075).toNat, by omega⟩
  rw [hk, Int.toNat_natCast]; omega

set_option maxRecDepth 100000 in
set_option maxHeartbeats 2000000 in
theorem number_any (neg : Bool) (A B : Option Addr) (n c m d : Nat) (xs ys : List Nat) (w : World) (hg : WideAt w) (hx : Num w A n c xs) (hy : Num w B m d ys) (hN : val xs ≠ 0) (hD : val ys ≠ 0) (hn : n ≤ 35184372087808) (hm : m ≤ 35184372087808) :
    Calls Tryz.prog 127 #[.bool neg, .slice A n c, .slice B m d] w fun e w' =>
      ∃ e0, IsE (val xs) (val ys) e0 ∧ e = .returned (.float .f64 (withSign neg (amount (nearNum (val xs) (val ys) e0).1 (nearNum (val xs) (val ys) e0).2.1 (nearNum (val xs) (val ys) e0).2.2))) ∧ Below w.heap.size w w' := by
  have HQ := Lib.hid (nearest_any _ _ _ _ _ _ _ _ w hx hy hN hD hn hm)
  have HBD := Lib.hid (fun e (h : IsE (val xs) (val ys) e) => nearNum_bd hD h)
  obtain ⟨c0, c1, c2⟩ := hg
  clear hx hy hN hD hn hm
  generalize val xs = N at *
  generalize val ys = D at *
  have ez := Tryz.f64fromZ
  go_enter Tryz.func127, Tryz.ntmps127
  go_wp2_with fail
  refine HQ.out.mono ?_
  rintro ex w1 ⟨e0, M, E, ok, hE, rfl, hok, hb⟩
  have HBB := Lib.hid hb
  have hbd := HBD.out e0 hE
  have HE := Lib.hid hE
  clear hb hE HBD HQ c0 c1 c2
  rcases hok with ⟨rfl, hnn⟩ | ⟨rfl, hnn⟩
  · have HNN := Lib.hid hnn
    clear hnn hbd
    cases neg
    · go_wp2
      go_ret
      refine ⟨e0, HE.out, ret_eq (congrArg (Value.float .f64) ?_), HBB.out⟩
      rw [HNN.out]; rfl
    · go_wp2
      go_ret
      refine ⟨e0, HE.out, ret_eq (congrArg (Value.float .f64) ?_), HBB.out⟩
      rw [HNN.out]
      exact fin_neg (b := 9218868437227405312) rfl (by omega)
  · rw [hnn] at hbd
    have HNN := Lib.hid hnn
    clear hnn
    obtain ⟨b1, b2, b3⟩ := hbd
    simp only at b1 b2 b3
    have HAL := Lib.hid (amount_lt (I := false) b1 b2 b3)
    by_cases hM : M < 4503599627370496
    · have hm1 := decide_eq_true hM
      have hm2 : decide ((M : Int) < 4503599627370496) = true := decide_eq_true (by omega)
      have HA := Lib.hid (amount_small (E := E) hM)
      cases neg
      · go_wp2
        go_ret
        refine ⟨e0, HE.out, ret_eq (congrArg (Value.float .f64) ?_), HBB.out⟩
        rw [HNN.out]
        exact HA.out.symm
      · go_wp2
        go_ret
        refine ⟨e0, HE.out, ret_eq (congrArg (Value.float .f64) ?_), HBB.out⟩
        rw [HNN.out]
        exact fin_neg (by rw [HA.out]) HAL.out
    · have hm1 := decide_eq_false hM
      have hm2 : decide ((M : Int) < 4503599627370496) = false := decide_eq_false (by omega)
      have HA := Lib.hid (amount_great (E := E) hM b2)
      cases neg
      · go_wp2
        go_ret
        refine ⟨e0, HE.out, ret_eq (congrArg (Value.float .f64) ?_), HBB.out⟩
        rw [HNN.out]
        exact fin_pos HA.out
      · go_wp2
        go_ret
        refine ⟨e0, HE.out, ret_eq (congrArg (Value.float .f64) ?_), HBB.out⟩
        rw [HNN.out]
        exact fin_neg HA.out HAL.out

end Go.Proofs.YtekcpapkicmckaaGreatDoor
