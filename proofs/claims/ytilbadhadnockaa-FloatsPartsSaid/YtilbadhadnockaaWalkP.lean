/- The walk of FloatsParts. -/
import Derived.Test.YtilbadhadnockaaLawP
namespace Go.Proofs.Ytilbadhadnockaa
open Go.RowKit

theorem sign_bit (b : Nat) (hb : b < 18446744073709551616) : ((b : Int) / 9223372036854775808 == 1) = fneg b := by
  unfold fneg
  by_cases h : 9223372036854775808 ≤ b
  · have : (b : Int) / 9223372036854775808 = 1 := by omega
    simp [this, h]
  · have : (b : Int) / 9223372036854775808 = 0 := by omega
    simp [this]; omega

theorem below_drew' {B : Nat} {w w' : World} (h : Below B w w') (n : Nat) : Below B w (w'.drewN n) := h.trans ⟨rfl, rfl, rfl, Nat.le_refl _, fun _ _ => rfl⟩

set_option maxHeartbeats 2000000 in
theorem Parts_some (b : Nat) (w : World) (m : Nat) (x : Int) (k : Nat) (hb : b < 18446744073709551616) (hp : partsOf b = (m, x, k)) (ho : ofOf b = (false, false, m, x))
    (hk : (k = 2 ∧ 4503599627370496 ≤ m) ∨ (k = 1 ∧ 0 < m ∧ m < 4503599627370496)) :
    Calls Try.prog 3 #[.int .u64 b] w fun e w' => e = .returned (.bool true) ∧ Below w.heap.size w w' := by
  obtain ⟨b1, b2, b3, _⟩ := partsOf_bd b
  have e0 := Try.f64from b
  have e1 := sign_bit b hb
  have HO := Lib.hid (fun W => Of_any b W hb)
  have HP := Lib.hid (fun W => Parts_any b W hb)
  have HQ := Lib.hid (fun W => Quotient_some b W hb (by rw [hp]; rcases hk with ⟨rfl, _⟩ | ⟨rfl, _⟩ <;> simp))
  have HW := Lib.hid (fun W => Wide_any W)
  rw [hp] at b1 b2 b3
  rw [ho] at HO
  rw [hp] at HP
  simp only at HO HP b1 b2 b3
  have hm0 : m ≠ 0 := by omega
  obtain ⟨M0, T, hodd, hMT⟩ := odd_part m hm0
  have hT : T < 64 := odd_bd hodd (by rw [hMT, show (2 : Nat) ^ 64 = 18446744073709551616 from rfl]; omega)
  obtain ⟨P, hP⟩ : ∃ P, qnum b / Nat.gcd (qnum b) (qden b) = P := ⟨_, rfl⟩
  obtain ⟨Q, hQ⟩ : ∃ Q, qden b / Nat.gcd (qnum b) (qden b) = Q := ⟨_, rfl⟩
  obtain ⟨l1, l2⟩ := lowest M0 T x hodd (qnum b) (qden b) P Q (by unfold qnum; rw [hp, hMT]) (by unfold qden; rw [hp]) hP.symm hQ.symm
  have HR := Lib.hid (fun W => Ratio_some (fneg b) false false M0 T x W hodd (by rw [hMT]; omega) (by omega) (by omega) (by omega) P Q (Lib.hid l1) (Lib.hid l2))
  have hsg : sgn (fneg b) (qnum b) = fneg b := by
    unfold sgn; rw [if_neg]
    unfold qnum; rw [hp]
    exact Nat.ne_of_gt (Nat.mul_pos (by omega) (Nat.pow_pos (by omega)))
  rw [hP, hQ, hsg] at HQ
  rw [hMT] at HR
  clear hP hQ hsg hMT l1 l2 hodd hT hp ho
  have m1 : ((m : Int) == 0) = false := by simp; omega
  have m4 : decide (0 < m) = true := by simp; omega
  have m5 : decide ((0 : Int) < m) = true := by simp; omega
  generalize fneg b = N at *
  rcases hk with ⟨rfl, hk⟩ | ⟨rfl, hk0, hk⟩
  all_goals
    first
    | have m2 : decide ((m : Int) < 4503599627370496) = false := by simp; omega
      have m3 : decide (m < 4503599627370496) = false := by simp; omega
    | have m2 : decide ((m : Int) < 4503599627370496) = true := by simp; omega
      have m3 : decide (m < 4503599627370496) = true := by simp; omega
    have HK := Lib.hid hk
    clear hk
    go_enter Try.func3, Try.ntmps3
    go_wp2_with (first
      | (go_at_call 6; refine (HW.out _).mono ?_; rintro x1 w1 ⟨rfl, hb1⟩)
      | (go_at_call 5; refine (HO.out _).mono ?_; rintro x2 w2 ⟨rfl, hb2⟩)
      | (go_at_call 7; refine (HP.out _).mono ?_; rintro x3 w3 ⟨rfl, rfl⟩))
    have hb3 := below_then hb1 hb1.size hb2
    have hb4 : Below w.heap.size w (w2.alloc (.cells #[.bool N, .bool false, .bool false, .int .u64 m, .int .i64 x] 26)) := hb3.alloc hb3.size _
    have hblk : (w2.alloc (.cells #[.bool N, .bool false, .bool false, .int .u64 m, .int .i64 x] 26)).heap[w2.heap.size]? = some (.cells #[.bool N, .bool false, .bool false, .int .u64 m, .int .i64 x] 26 (0, 0)) := heap_alloc_new w2 _
    have hsz : w2.heap.size < (w2.alloc (.cells #[.bool N, .bool false, .bool false, .int .u64 m, .int .i64 x] 26)).heap.size := by simp
    generalize w2.alloc (.cells #[.bool N, .bool false, .bool false, .int .u64 m, .int .i64 x] 26) = w3 at hb4 hblk hsz ⊢
    generalize w2.heap.size = g at *
    clear hb1 hb2 hb3
    refine (HQ.out _).mono ?_
    rintro e w4 ⟨v, rfl, A1, c1, A2, c2, rfl, r1, r2, r3, r4⟩
    have hk4 := (r4.block g hsz).trans hblk
    have hc0 : w4.cell? ⟨g, 0, none⟩ = some (.bool N) := by simp [World.cell?, hk4]
    have hc1 : w4.cell? ⟨g, 1, none⟩ = some (.bool false) := by simp [World.cell?, hk4]
    have hc2 : w4.cell? ⟨g, 2, none⟩ = some (.bool false) := by simp [World.cell?, hk4]
    have hc3 : w4.cell? ⟨g, 3, none⟩ = some (.int .u64 m) := by simp [World.cell?, hk4]
    have hc4 : w4.cell? ⟨g, 4, none⟩ = some (.int .i64 x) := by simp [World.cell?, hk4]
    have hg4 : g < w4.heap.size := Nat.lt_of_lt_of_le hsz r4.size
    have HB := Lib.hid hb
    have hb5' := hb4
    clear hb m2 m3 b1 b2 b3 hb4 hblk hsz e0 e1
    have HB4 := Lib.hid (below_then hb5' hb5'.size r4)
    clear r4 hb5'
    have hsz4 : Below w4.heap.size w4 (w4.alloc (.cells #[.bool N, .slice A1 (limbs P).length c1, .slice A2 (limbs Q).length c2] 37)) := (Below.refl _ _).alloc (Nat.le_refl _) _
    have HS := Lib.hid hsz4
    have HR1 := Lib.hid r1
    have HR2 := Lib.hid r2
    clear hsz4 r1 r2 r3
    go_wp2_with fail
    refine (HR.out _).mono ?_
    rintro e w5 ⟨v, rfl, A3, c3, A4, c4, rfl, s1, s2, s3⟩
    have q1 := (HR1.out.below HS.out).below s3
    have q2 := (HR2.out.below HS.out).below s3
    have hz5 : w4.heap.size < w5.heap.size := Nat.lt_of_lt_of_le (by simp) s3.size
    have hk5 := (s3.block w4.heap.size (by simp)).trans (heap_alloc_new w4 _)
    have hk6 := (s3.block g (by simp; omega)).trans ((Below.heap_alloc w4 _ g hg4).trans hk4)
    have HB5 := Lib.hid (below_then (HB4.out) HB4.out.size (below_then HS.out HS.out.size s3))
    clear hc0 hc1 hc2 hc3 hc4 hk4 s3
    generalize w4.heap.size = g2 at *
    have hc0 : w5.cell? ⟨g, 0, none⟩ = some (.bool N) := by simp [World.cell?, hk6]
    have hc3 : w5.cell? ⟨g, 3, none⟩ = some (.int .u64 m) := by simp [World.cell?, hk6]
    have hd0 : w5.cell? ⟨g2, 0, none⟩ = some (.bool N) := by simp [World.cell?, hk5]
    have hd1 : w5.cell? ⟨g2, 1, none⟩ = some (.slice A1 (limbs P).length c1) := by simp [World.cell?, hk5]
    have hd2 : w5.cell? ⟨g2, 2, none⟩ = some (.slice A2 (limbs Q).length c2) := by simp [World.cell?, hk5]
    clear hk5 hk6
    have hNN : (N == N) = true := by simp
    cases N
    all_goals
      go_wp2_with fail
      refine (same_any _ _ _ _ _ _ (limbs P) (limbs P) _ q1.num s1).mono ?_
      rintro e w6 ⟨rfl, n6, rfl⟩
      go_wp2_with fail
      refine (same_any _ _ _ _ _ _ (limbs Q) (limbs Q) _ (q2.drewN _).num (s2.drewN _)).mono ?_
      rintro e w7 ⟨rfl, n7, rfl⟩
      go_wp2
      go_ret
      refine ⟨by simp, ?_⟩
      exact below_drew' HB5.out _

set_option maxHeartbeats 2000000 in
theorem Parts_zero (b : Nat) (w : World) (hb : b < 18446744073709551616) (hp : partsOf b = (0, 0, 0)) (ho : ofOf b = (false, false, 0, -1074)) :
    Calls Try.prog 3 #[.int .u64 b] w fun e w' => e = .returned (.bool true) ∧ Below w.heap.size w w' := by
  have e0 := Try.f64from b
  have e1 := sign_bit b hb
  have HO := Lib.hid (fun W => Of_any b W hb)
  have HP := Lib.hid (fun W => Parts_any b W hb)
  have hsg : sgn (fneg b) 0 = false := by unfold sgn; rw [if_pos rfl]
  have hq0 : qnum b = 0 := by unfold qnum; rw [hp]; simp
  have hq1 : qden b = 1 := by unfold qden; rw [hp]; rfl
  have HW := Lib.hid (fun W => Wide_any W)
  have hQ0 := fun W => Quotient_some b W hb (by rw [hp]; simp)
  rw [hq0, hq1, hsg] at hQ0
  obtain ⟨P, hP⟩ : ∃ P : Nat, P = 0 := ⟨_, rfl⟩
  obtain ⟨Q, hQ⟩ : ∃ Q : Nat, Q = 1 := ⟨_, rfl⟩
  have HQ : Hid (∀ W : World, Calls Try.prog 8 #[.float .f64 b] W fun e w' => ∃ v, e = .returned (.tuple #[v, .int .i64 0]) ∧ RatPost W false P Q v w') := Lib.hid (fun W => by rw [hP, hQ]; exact hQ0 W)
  have HR : Hid (∀ W : World, Calls Try.prog 9 #[.agg #[.bool (fneg b), .bool false, .bool false, .int .u64 0, .int .i64 0]] W fun e w' => ∃ v, e = .returned v ∧ RefPost W P Q v w') := by
    rw [hP, hQ]
    exact Lib.hid (fun W => Ratio_zero (fneg b) false false 0 W)
  rw [ho] at HO
  rw [hp] at HP
  simp only at HO HP
  clear hsg hq0 hq1 hp ho hQ0 hP hQ
  generalize fneg b = N at *
  go_enter Try.func3, Try.ntmps3
  go_wp2_with (first
    | (go_at_call 6; refine (HW.out _).mono ?_; rintro x1 w1 ⟨rfl, hb1⟩)
    | (go_at_call 5; refine (HO.out _).mono ?_; rintro x2 w2 ⟨rfl, hb2⟩)
    | (go_at_call 7; refine (HP.out _).mono ?_; rintro x3 w3 ⟨rfl, rfl⟩))
  have hb3 := below_then hb1 hb1.size hb2
  have hb4 : Below w.heap.size w (w2.alloc (.cells #[.bool N, .bool false, .bool false, .int .u64 0, .int .i64 0] 26)) := hb3.alloc hb3.size _
  have hblk : (w2.alloc (.cells #[.bool N, .bool false, .bool false, .int .u64 0, .int .i64 0] 26)).heap[w2.heap.size]? = some (.cells #[.bool N, .bool false, .bool false, .int .u64 0, .int .i64 0] 26 (0, 0)) := heap_alloc_new w2 _
  have hsz : w2.heap.size < (w2.alloc (.cells #[.bool N, .bool false, .bool false, .int .u64 0, .int .i64 0] 26)).heap.size := by simp
  generalize w2.alloc (.cells #[.bool N, .bool false, .bool false, .int .u64 0, .int .i64 0] 26) = w3 at hb4 hblk hsz ⊢
  generalize w2.heap.size = g at *
  clear hb1 hb2 hb3
  refine (HQ.out _).mono ?_
  rintro e w4 ⟨v, rfl, A1, c1, A2, c2, rfl, r1, r2, r3, r4⟩
  have hk4 := (r4.block g hsz).trans hblk
  have hc0 : w4.cell? ⟨g, 0, none⟩ = some (.bool N) := by simp [World.cell?, hk4]
  have hc1 : w4.cell? ⟨g, 1, none⟩ = some (.bool false) := by simp [World.cell?, hk4]
  have hc2 : w4.cell? ⟨g, 2, none⟩ = some (.bool false) := by simp [World.cell?, hk4]
  have hc3 : w4.cell? ⟨g, 3, none⟩ = some (.int .u64 0) := by simp [World.cell?, hk4]
  have hc4 : w4.cell? ⟨g, 4, none⟩ = some (.int .i64 0) := by simp [World.cell?, hk4]
  have hg4 : g < w4.heap.size := Nat.lt_of_lt_of_le hsz r4.size
  have HB := Lib.hid hb
  have hb5' := hb4
  clear hb hb4 hblk hsz e0 e1
  have HB4 := Lib.hid (below_then hb5' hb5'.size r4)
  clear r4 hb5'
  have hsz4 : Below w4.heap.size w4 (w4.alloc (.cells #[.bool false, .slice A1 (limbs P).length c1, .slice A2 (limbs Q).length c2] 37)) := (Below.refl _ _).alloc (Nat.le_refl _) _
  have HS := Lib.hid hsz4
  have HR1 := Lib.hid r1
  have HR2 := Lib.hid r2
  clear hsz4 r1 r2 r3
  go_wp2_with fail
  refine (HR.out _).mono ?_
  rintro e w5 ⟨v, rfl, A3, c3, A4, c4, rfl, s1, s2, s3⟩
  have q1 := (HR1.out.below HS.out).below s3
  have q2 := (HR2.out.below HS.out).below s3
  have hz5 : w4.heap.size < w5.heap.size := Nat.lt_of_lt_of_le (by simp) s3.size
  have hk5 := (s3.block w4.heap.size (by simp)).trans (heap_alloc_new w4 _)
  have hk6 := (s3.block g (by simp; omega)).trans ((Below.heap_alloc w4 _ g hg4).trans hk4)
  have HB5 := Lib.hid (below_then (HB4.out) HB4.out.size (below_then HS.out HS.out.size s3))
  clear hc0 hc1 hc2 hc3 hc4 hk4 s3
  generalize w4.heap.size = g2 at *
  have hc0 : w5.cell? ⟨g, 0, none⟩ = some (.bool N) := by simp [World.cell?, hk6]
  have hc3 : w5.cell? ⟨g, 3, none⟩ = some (.int .u64 0) := by simp [World.cell?, hk6]
  have hd0 : w5.cell? ⟨g2, 0, none⟩ = some (.bool false) := by simp [World.cell?, hk5]
  have hd1 : w5.cell? ⟨g2, 1, none⟩ = some (.slice A1 (limbs P).length c1) := by simp [World.cell?, hk5]
  have hd2 : w5.cell? ⟨g2, 2, none⟩ = some (.slice A2 (limbs Q).length c2) := by simp [World.cell?, hk5]
  clear hk5 hk6
  cases N
  all_goals
    go_wp2_with fail
    refine (same_any _ _ _ _ _ _ (limbs P) (limbs P) _ q1.num s1).mono ?_
    rintro e w6 ⟨rfl, n6, rfl⟩
    go_wp2_with fail
    refine (same_any _ _ _ _ _ _ (limbs Q) (limbs Q) _ (q2.drewN _).num (s2.drewN _)).mono ?_
    rintro e w7 ⟨rfl, n7, rfl⟩
    go_wp2
    go_ret
    refine ⟨by simp, ?_⟩
    exact below_drew' HB5.out _

set_option maxHeartbeats 2000000 in
theorem Parts_nan (b : Nat) (w : World) (hb : b < 18446744073709551616) (I : Bool) (M k : Nat) (hp : partsOf b = (M, 0, k)) (ho : ofOf b = (I, !I, M, 0)) (hk : k = cond I 3 4) :
    Calls Try.prog 3 #[.int .u64 b] w fun e w' => e = .returned (.bool true) ∧ Below w.heap.size w w' := by
  have e0 := Try.f64from b
  have e1 := sign_bit b hb
  have HO := Lib.hid (fun W => Of_any b W hb)
  have HP := Lib.hid (fun W => Parts_any b W hb)
  have HQ := Lib.hid (fun W => Quotient_nan b W hb (by rw [hp, hk]; cases I <;> simp))
  have HW := Lib.hid (fun W => Wide_any W)
  rw [ho] at HO
  rw [hp] at HP
  simp only at HO HP
  subst hk
  clear hp ho
  generalize fneg b = N at *
  cases I
  all_goals
    simp only [cond, Bool.not_true, Bool.not_false] at HO HP
    go_enter Try.func3, Try.ntmps3
    go_wp2_with (first
      | (go_at_call 6; refine (HW.out _).mono ?_; rintro x1 w1 ⟨rfl, hb1⟩)
      | (go_at_call 5; refine (HO.out _).mono ?_; rintro x2 w2 ⟨rfl, hb2⟩)
      | (go_at_call 7; refine (HP.out _).mono ?_; rintro x3 w3 ⟨rfl, rfl⟩))
    have hb3 := below_then hb1 hb1.size hb2
    generalize hW3 : w2.alloc _ = w3
    have hb4 : Below w.heap.size w w3 := by rw [← hW3]; exact hb3.alloc hb3.size _
    first
    | have hblk : w3.heap[w2.heap.size]? = some (.cells #[.bool N, .bool true, .bool false, .int .u64 M, .int .i64 0] 26 (0, 0)) := by rw [← hW3]; exact heap_alloc_new w2 _
    | have hblk : w3.heap[w2.heap.size]? = some (.cells #[.bool N, .bool false, .bool true, .int .u64 M, .int .i64 0] 26 (0, 0)) := by rw [← hW3]; exact heap_alloc_new w2 _
    have hsz : w2.heap.size < w3.heap.size := by rw [← hW3]; simp
    refine (HQ.out _).mono ?_
    rintro x4 w4 ⟨rfl, hb5⟩
    have hk4 := (hb5.block _ hsz).trans hblk
    have hg4 : w2.heap.size < w4.heap.size := Nat.lt_of_lt_of_le hsz hb5.size
    have hB5 := Lib.hid (below_then hb4 hb4.size hb5)
    clear hb3 hb2 hb1 hb4 hb5 hsz hblk hW3 hb e0 e1
    generalize w2.heap.size = g at *
    first
    | have hc1 : w4.cell? ⟨g, 1, none⟩ = some (.bool true) := by simp [World.cell?, hk4]
    | have hc1 : w4.cell? ⟨g, 1, none⟩ = some (.bool false) := by simp [World.cell?, hk4]
    first
    | have hc2 : w4.cell? ⟨g, 2, none⟩ = some (.bool false) := by simp [World.cell?, hk4]
    | have hc2 : w4.cell? ⟨g, 2, none⟩ = some (.bool true) := by simp [World.cell?, hk4]
    go_wp2
    go_ret
    exact ⟨rfl, hB5.out.alloc hB5.out.size _⟩

/-- FloatsParts answers true. -/
theorem Parts_true (b : Nat) (w : World) (hb : b < 18446744073709551616) :
    Calls Try.prog 3 #[.int .u64 b] w fun e w' => e = .returned (.bool true) ∧ Below w.heap.size w w' := by
  have hm := fman_lt b
  by_cases h1 : fexp b = 2047
  · by_cases h2 : fman b = 0
    · exact Parts_nan b w hb true 0 3 (by unfold partsOf; rw [if_pos h1, if_pos h2]) (by unfold ofOf; rw [if_pos h1, h2]; rfl) rfl
    · exact Parts_nan b w hb false (fman b) 4 (by unfold partsOf; rw [if_pos h1, if_neg h2]) (by unfold ofOf; rw [if_pos h1, decide_eq_false h2, decide_eq_true h2]; rfl) rfl
  · by_cases h3 : fexp b = 0
    · by_cases h2 : fman b = 0
      · exact Parts_zero b w hb (by unfold partsOf; rw [if_neg h1, if_pos h3, if_pos h2]) (by unfold ofOf; rw [if_neg h1, if_pos h3, h2])
      · exact Parts_some b w (fman b) (-1074) 1 hb (by unfold partsOf; rw [if_neg h1, if_pos h3, if_neg h2]) (by unfold ofOf; rw [if_neg h1, if_pos h3]) (.inr ⟨rfl, by omega, hm⟩)
    · exact Parts_some b w _ _ 2 hb (by unfold partsOf; rw [if_neg h1, if_neg h3]) (by unfold ofOf; rw [if_neg h1, if_neg h3]) (.inl ⟨rfl, by omega⟩)

end Go.Proofs.Ytilbadhadnockaa
