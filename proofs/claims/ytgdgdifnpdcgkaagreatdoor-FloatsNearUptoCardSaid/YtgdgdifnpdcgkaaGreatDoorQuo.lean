/- The contract of floats.Quotient. -/
import Derived.Test.YtgdgdifnpdcgkaaGreatDoorFlo
namespace Go.Proofs.YtgdgdifnpdcgkaaGreatDoor
open Go.RowKit

theorem partsOf_bd (b : Nat) : (partsOf b).1 < 9007199254740992 ∧ -1074 ≤ (partsOf b).2.1 ∧ (partsOf b).2.1 ≤ 971 ∧ (partsOf b).2.2 ≤ 4 := by
  have h1 := fexp_lt b
  have h2 := fman_lt b
  unfold partsOf
  split
  · split <;> simp <;> omega
  · split
    · split <;> simp <;> omega
    · simp; omega

set_option maxHeartbeats 1000000 in
theorem Quotient_nan (b : Nat) (w : World) (hb : b < 18446744073709551616) (hk : (partsOf b).2.2 = 3 ∨ (partsOf b).2.2 = 4) :
    Calls Tryz.prog 8 #[.float .f64 b] w fun e w' => e = .returned (.tuple #[.agg #[.bool false, .slice none 0 0, .slice none 0 0], .int .i64 60]) ∧ Below w.heap.size w w' := by
  have HP := Lib.hid (fun W => Parts_any b W hb)
  generalize partsOf b = pb at HP hk
  obtain ⟨m, e, k⟩ := pb
  simp only at hk HP
  have hB := (Below.refl w.heap.size w).alloc (Nat.le_refl _)
  rcases hk with rfl | rfl
  all_goals
    go_enter Tryz.func8, Tryz.ntmps8
    go_wp2_with fail
    refine (HP.out _).mono ?_; rintro e' w' ⟨rfl, rfl⟩
    go_wp2
    refine bodyPost_ret (v := .tuple #[.agg #[.bool false, .slice none 0 0, .slice none 0 0], .int .i64 60]) (by simp [results, Tryz.results8, go_sem]) rfl ⟨rfl, hB _⟩

/-- the quotient of which a finite number is the lowest terms -/
def qnum (b : Nat) : Nat := (partsOf b).1 * 2 ^ (partsOf b).2.1.toNat
def qden (b : Nat) : Nat := 2 ^ (-(partsOf b).2.1).toNat

theorem pow_lim (n : Nat) : 4294967296 ^ n = 2 ^ (32 * n) := by rw [show (4294967296 : Nat) = 2 ^ 32 from rfl, ← Nat.pow_mul]
theorem limbs_len_pow' (m k L : Nat) (hm : m < 18446744073709551616) (hk : 64 + k ≤ 32 * L) : (limbs (m * 2 ^ k)).length ≤ L := by
  apply limbs_length_le
  rw [pow_lim L]
  have h1 : m * 2 ^ k < 2 ^ 64 * 2 ^ k := Nat.mul_lt_mul_of_pos_right (by rw [show (2 : Nat) ^ 64 = 18446744073709551616 from rfl]; exact hm) (Nat.pow_pos (by omega))
  rw [← Nat.pow_add] at h1
  exact Nat.lt_of_lt_of_le h1 (Nat.pow_le_pow_right (by omega) hk)
theorem limbs_len_pow (m k : Nat) (hm : m < 18446744073709551616) (hk : k ≤ 1100) : (limbs (m * 2 ^ k)).length ≤ 64 := limbs_len_pow' m k 64 hm (by omega)

set_option maxHeartbeats 2000000 in
theorem Quotient_some (b : Nat) (w : World) (hb : b < 18446744073709551616) (hk : (partsOf b).2.2 ≤ 2) :
    Calls Tryz.prog 8 #[.float .f64 b] w fun e w' => ∃ v, e = .returned (.tuple #[v, .int .i64 0]) ∧ RatPost w (sgn (fneg b) (qnum b)) (qnum b / Nat.gcd (qnum b) (qden b)) (qden b / Nat.gcd (qnum b) (qden b)) v w' := by
  have HP := Lib.hid (fun W => Parts_any b W hb)
  obtain ⟨b1, b2, b3, _⟩ := partsOf_bd b
  have HN : Hid (qnum b = (partsOf b).1 * 2 ^ (partsOf b).2.1.toNat) := Lib.hid rfl
  have HD : Hid (qden b = 2 ^ (-(partsOf b).2.1).toNat) := Lib.hid rfl
  generalize partsOf b = pb at HP hk b1 b2 b3 HN HD
  obtain ⟨m, e, kd⟩ := pb
  simp only at hk HP b1 b2 b3 HN HD
  generalize fneg b = ng at HP ⊢
  have k4 : ((kd : Int) == 4) = false := by simp; omega
  have k3 : ((kd : Int) == 3) = false := by simp; omega
  have hB := (Below.refl w.heap.size w).alloc (Nat.le_refl _)
  by_cases he : 0 ≤ e
  · obtain ⟨k, rfl⟩ := Int.eq_ofNat_of_zero_le he
    have hX : Hid (qnum b = m * 2 ^ k) := Lib.hid (by rw [HN.out]; simp)
    have hY : Hid (qden b = 1) := Lib.hid (by rw [HD.out]; simp)
    clear HN HD he
    go_enter Tryz.func8, Tryz.ntmps8
    go_wp2_with fail
    refine (HP.out _).mono ?_; rintro e' w' ⟨rfl, rfl⟩
    have hblk : (w.alloc (.cells #[.bool false, .slice none 0 0, .slice none 0 0] 28)).heap[w.heap.size]? = some (.cells #[.bool false, .slice none 0 0, .slice none 0 0] 28 (0, 0)) := heap_alloc_new w _
    have hsz : (w.alloc (.cells #[.bool false, .slice none 0 0, .slice none 0 0] 28)).heap.size = w.heap.size + 1 := by simp
    have hB0 := hB (.cells #[.bool false, .slice none 0 0, .slice none 0 0] 28)
    generalize hw0 : w.alloc (.cells #[.bool false, .slice none 0 0, .slice none 0 0] 28) = w0 at *
    have HW0 := Lib.hid hw0
    have lm := Lib.hid (limbs_len_pow m 0 (by omega) (by omega))
    have l1 := Lib.hid (limbs_len_pow 1 0 (by omega) (by omega))
    rw [Nat.pow_zero, Nat.mul_one] at lm l1
    have lU := Lib.hid (limbs_len_pow m k (by omega) (by omega))
    clear hw0 hB
    go_wp2_with fail
    refine (From_any m _ (by omega)).mono ?_; rintro e' w1 ⟨A1, rfl, hn, hb1⟩
    go_wp2_with fail
    refine (From_any 1 _ (by omega)).mono ?_; rintro e' w2 ⟨A2, rfl, hd, hb2⟩
    have hn2 := hn.below hb2
    have c2 := below_then hb1 hb1.size hb2
    clear hn hb1
    go_wp2_with fail
    have hU := Up_any _ _ _ _ k w2 hn2.num (by have := lm.out; omega) (by omega)
    rw [val_limbs] at hU
    refine hU.mono ?_; rintro e' w3 ⟨A3, rfl, hu, hb3⟩
    have hd3 := hd.below hb3
    have c3 := below_then c2 c2.size hb3
    have hO := Over_some ng _ _ _ _ _ _ _ _ w3 hu.num hd3.num (by rw [val_limbs]; omega) (by have := lU.out; omega) (by have := l1.out; omega)
    rw [show val (limbs (m * 2 ^ k)) = qnum b by rw [val_limbs, hX.out], show val (limbs 1) = qden b by rw [val_limbs, hY.out]] at hO
    have HO := Lib.hid hO
    clear hn2 hd hb2 hb3 c2 hU hO hu hd3
    generalize (limbs (m * 2 ^ k)).length = p at HO
    generalize (limbs 1).length = q at HO
    go_wp2_with fail
    refine HO.out.mono ?_
    rintro e' w4 ⟨v, rfl, hR⟩
    obtain ⟨A4, c4, A5, c5, rfl, r1, r2, r3, r4⟩ := hR
    have hk3 := ((c3.trans (r4.mono c3.size)).block w.heap.size (by omega)).trans hblk
    have hsz4 := c3.size
    have HS := Lib.hid ((show RatPost w3 (sgn ng (qnum b)) (qnum b / Nat.gcd (qnum b) (qden b)) (qden b / Nat.gcd (qnum b) (qden b)) (.agg #[.bool (sgn ng (qnum b)), .slice A4 (limbs (qnum b / Nat.gcd (qnum b) (qden b))).length c4, .slice A5 (limbs (qden b / Nat.gcd (qnum b) (qden b))).length c5]) w4 from ⟨A4, c4, A5, c5, rfl, r1, r2, r3, r4⟩).stored (below_then hB0 hB0.size c3) (Nat.le_refl _) (by omega) (.bool (sgn ng (qnum b))) (.slice A4 (limbs (qnum b / Nat.gcd (qnum b) (qden b))).length c4) (.slice A5 (limbs (qden b / Nat.gcd (qnum b) (qden b))).length c5))
    clear r1 r2 r3 r4 hblk hsz hB0 c3
    obtain ⟨X, hXe⟩ : ∃ X, qnum b / Nat.gcd (qnum b) (qden b) = X := ⟨_, rfl⟩
    obtain ⟨Y, hYe⟩ : ∃ Y, qden b / Nat.gcd (qnum b) (qden b) = Y := ⟨_, rfl⟩
    obtain ⟨sg, hsg⟩ : ∃ sg, sgn ng (qnum b) = sg := ⟨_, rfl⟩
    rw [hXe, hYe, hsg] at HS ⊢
    have HXE := Lib.hid hXe
    have HYE := Lib.hid hYe
    have HSG := Lib.hid hsg
    clear hXe hYe hsg
    have hc0 : w4.cell? ⟨w.heap.size, 0, none⟩ = some (.bool false) := by simp [World.cell?, hk3]
    have hc1 : w4.cell? ⟨w.heap.size, 1, none⟩ = some (.slice none 0 0) := by simp [World.cell?, hk3]
    have hc2 : w4.cell? ⟨w.heap.size, 2, none⟩ = some (.slice none 0 0) := by simp [World.cell?, hk3]
    have hf0 : ∀ j, w4.frozen? ⟨w.heap.size, j, none⟩ = false := fun j => by simp [World.frozen?, hk3]
    go_wp2
    have hk4 := setCell_row (setCell_row (setCell_row (vs := [.bool false, .slice none 0 0, .slice none 0 0]) hk3 0 (.bool sg)) 1 (.slice A4 (limbs X).length c4)) 2 (.slice A5 (limbs Y).length c5)
    refine bodyPost_ret (v := .tuple #[.agg #[.bool sg, .slice A4 (limbs X).length c4, .slice A5 (limbs Y).length c5], .int .i64 0]) ?_ rfl ⟨_, rfl, by rw [HXE.out, HYE.out, HSG.out]; exact HS.out⟩
    exact results_row_tmp (fn := Tryz.f8) (p := 2) (u := 3) (ty := 28) rfl _ _ w.heap.size 28 #[.bool sg, .slice A4 (limbs X).length c4, .slice A5 (limbs Y).length c5] (0, 0) _ rfl hk4 Tryz.underlying28 rfl (by kernel_rfl)
  · obtain ⟨k, hk⟩ := Int.eq_ofNat_of_zero_le (show 0 ≤ -e by omega)
    obtain rfl : e = -(k : Int) := by omega
    have hX : Hid (qnum b = m) := Lib.hid (by rw [HN.out, show (-(k : Int)).toNat = 0 by omega]; simp)
    have hY : Hid (qden b = 1 * 2 ^ k) := Lib.hid (by rw [HD.out, show (- -(k : Int)).toNat = k by omega]; simp)
    clear HN HD hk
    have hneg : decide (0 ≤ -(k : Int)) = false := by simp; omega
    have hkp : 1 ≤ k := by omega
    go_enter Tryz.func8, Tryz.ntmps8
    go_wp2_with fail
    refine (HP.out _).mono ?_; rintro e' w' ⟨rfl, rfl⟩
    have hblk : (w.alloc (.cells #[.bool false, .slice none 0 0, .slice none 0 0] 28)).heap[w.heap.size]? = some (.cells #[.bool false, .slice none 0 0, .slice none 0 0] 28 (0, 0)) := heap_alloc_new w _
    have hsz : (w.alloc (.cells #[.bool false, .slice none 0 0, .slice none 0 0] 28)).heap.size = w.heap.size + 1 := by simp
    have hB0 := hB (.cells #[.bool false, .slice none 0 0, .slice none 0 0] 28)
    generalize hw0 : w.alloc (.cells #[.bool false, .slice none 0 0, .slice none 0 0] 28) = w0 at *
    have HW0 := Lib.hid hw0
    have lm := Lib.hid (limbs_len_pow m 0 (by omega) (by omega))
    have l1 := Lib.hid (limbs_len_pow 1 0 (by omega) (by omega))
    rw [Nat.pow_zero, Nat.mul_one] at lm l1
    have lU := Lib.hid (limbs_len_pow 1 k (by omega) (by omega))
    clear hw0 hB
    go_wp2_with fail
    refine (From_any m _ (by omega)).mono ?_; rintro e' w1 ⟨A1, rfl, hn, hb1⟩
    go_wp2_with fail
    refine (From_any 1 _ (by omega)).mono ?_; rintro e' w2 ⟨A2, rfl, hd, hb2⟩
    have hn2 := hn.below hb2
    have c2 := below_then hb1 hb1.size hb2
    clear hn hb1
    go_wp2_with fail
    have hU := Up_any _ _ _ _ k w2 hd.num (by have := l1.out; omega) (by omega)
    rw [val_limbs] at hU
    refine hU.mono ?_; rintro e' w3 ⟨A3, rfl, hu, hb3⟩
    have hn3 := hn2.below hb3
    have c3 := below_then c2 c2.size hb3
    have hO := Over_some ng _ _ _ _ _ _ _ _ w3 hn3.num hu.num (by rw [val_limbs]; exact Nat.pos_iff_ne_zero.1 (Nat.mul_pos (by omega) (Nat.pow_pos (by omega)))) (by have := lm.out; omega) (by have := lU.out; omega)
    rw [show val (limbs m) = qnum b by rw [val_limbs, hX.out], show val (limbs (1 * 2 ^ k)) = qden b by rw [val_limbs, hY.out]] at hO
    have HO := Lib.hid hO
    clear hn2 hd hb2 hb3 c2 hU hO hu hn3
    generalize (limbs m).length = p at HO
    generalize (limbs (1 * 2 ^ k)).length = q at HO
    go_wp2_with fail
    refine HO.out.mono ?_
    rintro e' w4 ⟨v, rfl, hR⟩
    obtain ⟨A4, c4, A5, c5, rfl, r1, r2, r3, r4⟩ := hR
    have hk3 := ((c3.trans (r4.mono c3.size)).block w.heap.size (by omega)).trans hblk
    have hsz4 := c3.size
    have HS := Lib.hid ((show RatPost w3 (sgn ng (qnum b)) (qnum b / Nat.gcd (qnum b) (qden b)) (qden b / Nat.gcd (qnum b) (qden b)) (.agg #[.bool (sgn ng (qnum b)), .slice A4 (limbs (qnum b / Nat.gcd (qnum b) (qden b))).length c4, .slice A5 (limbs (qden b / Nat.gcd (qnum b) (qden b))).length c5]) w4 from ⟨A4, c4, A5, c5, rfl, r1, r2, r3, r4⟩).stored (below_then hB0 hB0.size c3) (Nat.le_refl _) (by omega) (.bool (sgn ng (qnum b))) (.slice A4 (limbs (qnum b / Nat.gcd (qnum b) (qden b))).length c4) (.slice A5 (limbs (qden b / Nat.gcd (qnum b) (qden b))).length c5))
    clear r1 r2 r3 r4 hblk hsz hB0 c3
    obtain ⟨X, hXe⟩ : ∃ X, qnum b / Nat.gcd (qnum b) (qden b) = X := ⟨_, rfl⟩
    obtain ⟨Y, hYe⟩ : ∃ Y, qden b / Nat.gcd (qnum b) (qden b) = Y := ⟨_, rfl⟩
    obtain ⟨sg, hsg⟩ : ∃ sg, sgn ng (qnum b) = sg := ⟨_, rfl⟩
    rw [hXe, hYe, hsg] at HS ⊢
    have HXE := Lib.hid hXe
    have HYE := Lib.hid hYe
    have HSG := Lib.hid hsg
    clear hXe hYe hsg
    have hc0 : w4.cell? ⟨w.heap.size, 0, none⟩ = some (.bool false) := by simp [World.cell?, hk3]
    have hc1 : w4.cell? ⟨w.heap.size, 1, none⟩ = some (.slice none 0 0) := by simp [World.cell?, hk3]
    have hc2 : w4.cell? ⟨w.heap.size, 2, none⟩ = some (.slice none 0 0) := by simp [World.cell?, hk3]
    have hf0 : ∀ j, w4.frozen? ⟨w.heap.size, j, none⟩ = false := fun j => by simp [World.frozen?, hk3]
    go_wp2
    have hk4 := setCell_row (setCell_row (setCell_row (vs := [.bool false, .slice none 0 0, .slice none 0 0]) hk3 0 (.bool sg)) 1 (.slice A4 (limbs X).length c4)) 2 (.slice A5 (limbs Y).length c5)
    refine bodyPost_ret (v := .tuple #[.agg #[.bool sg, .slice A4 (limbs X).length c4, .slice A5 (limbs Y).length c5], .int .i64 0]) ?_ rfl ⟨_, rfl, by rw [HXE.out, HYE.out, HSG.out]; exact HS.out⟩
    exact results_row_tmp (fn := Tryz.f8) (p := 2) (u := 3) (ty := 28) rfl _ _ w.heap.size 28 #[.bool sg, .slice A4 (limbs X).length c4, .slice A5 (limbs Y).length c5] (0, 0) _ rfl hk4 Tryz.underlying28 rfl (by kernel_rfl)

end Go.Proofs.YtgdgdifnpdcgkaaGreatDoor
