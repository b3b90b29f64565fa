/- thicketref02.Ratio. -/
import Derived.Test.YtilbadhadnockaaRefW
namespace Go.Proofs.Ytilbadhadnockaa
open Go.RowKit

def RefPost (w : World) (X Y : Nat) (v : Value) (w' : World) : Prop :=
  ∃ A c B d, v = .tuple #[.slice A (limbs X).length c, .slice B (limbs Y).length d] ∧ Num w' A (limbs X).length c (limbs X) ∧ Num w' B (limbs Y).length d (limbs Y) ∧ Below w.heap.size w w'

set_option maxHeartbeats 1000000 in
theorem Ratio_zero (a b c : Bool) (E : Int) (w : World) :
    Calls Try.prog 9 #[.agg #[.bool a, .bool b, .bool c, .int .u64 0, .int .i64 E]] w fun e w' => ∃ v, e = .returned v ∧ RefPost w 0 1 v w' := by
  have hB : ∀ o, Below w.heap.size w (w.alloc o) := fun o => (Below.refl _ _).alloc (Nat.le_refl _) o
  have e1 : limbs 1 = [1] := by rw [limbs_pos (by omega)]; simp [limbs_zero]
  go_enter Try.func9, Try.ntmps9
  go_wp2
  refine bodyPost_ret (v := .tuple #[.slice none 0 0, .slice (some ⟨w.heap.size + 1, 0, none⟩) 1 1]) (by simp [results, Try.results9, go_sem]) rfl ⟨_, rfl, ?_⟩
  unfold RefPost
  rw [limbs_zero, e1]
  refine ⟨none, 0, _, 1, rfl, Num.nil _ _, ?_, (hB _).alloc (by simp) _⟩
  have := (own_block (w.alloc (.cells #[.bool a, .bool b, .bool c, .int .u64 0, .int .i64 E] 26)) w.heap.size [1] (Lim.cons (by omega) Lim.nil) (by simp) (by simp)).num
  simpa [u32s] using this

set_option maxHeartbeats 1000000 in
theorem Ratio_some (a b c : Bool) (M0 T : Nat) (E : Int) (w : World) (hodd : M0 % 2 = 1) (hM : M0 * 2 ^ T < 18446744073709551616) (hT : T ≤ 64) (h1 : -100000 ≤ E) (h2 : E ≤ 100000) (P Q : Nat)
    (HP : Hid (0 ≤ E + T → P = M0 * 2 ^ (E + T).toNat ∧ Q = 1)) (HQ : Hid (E + T < 0 → P = M0 ∧ Q = 2 ^ (-(E + T)).toNat)) :
    Calls Try.prog 9 #[.agg #[.bool a, .bool b, .bool c, .int .u64 ((M0 * 2 ^ T : Nat) : Int), .int .i64 E]] w fun e w' => ∃ v, e = .returned v ∧
      RefPost w P Q v w' := by
  have hB : ∀ o, Below w.heap.size w (w.alloc o) := fun o => (Below.refl _ _).alloc (Nat.le_refl _) o
  have e1 : limbs 1 = [1] := by rw [limbs_pos (by omega)]; simp [limbs_zero]
  obtain ⟨m, hm⟩ : ∃ m, M0 * 2 ^ T = m := ⟨_, rfl⟩
  have hm0 : m ≠ 0 := by rw [← hm]; exact Nat.ne_of_gt (Nat.mul_pos (by omega) (Nat.pow_pos (by omega)))
  rw [hm] at hM ⊢
  have hz : ((m : Int) == 0) = false := by simpa using hm0
  have HM := Lib.hid hm
  clear hm hm0
  go_enter Try.func9, Try.ntmps9
  go_wp2
  go_loop [4, 5] (fun x y => ∃ (j : Nat) (m : Nat) (e : Int), j ≤ T ∧ x = .int .u64 m ∧ y = .int .i64 e ∧ m < 18446744073709551616 ∧ Hid (M0 * 2 ^ j = m) ∧ e + j = E + T) (fun x _ => (intOf x).toNat)
  case atStart => exact ⟨T, m, E, Nat.le_refl _, rfl, rfl, hM, HM, rfl⟩
  case round =>
    obtain ⟨j, m', e, hj, rfl, rfl, hM', HJ, he⟩ := hrel
    clear hz HM hM
    by_cases h0 : j = 0
    · have hm0 : M0 = m' := by rw [← HJ.out, h0]; simp
      have he2 : E + T = e := by omega
      have t1 : ((m' : Int) % 2 == 0) = false := by simp; omega
      rw [he2] at HP HQ
      subst hm0
      have HO := Lib.hid hodd
      have hk1 : e ≤ 1000000 := by omega
      have hk2 : -1000000 ≤ e := by omega
      clear HJ h0 hj he he2 hodd h1 h2 hT
      have F := Lib.hid (fun W => rfrom_any M0 W hM')
      have hc : (limbs M0).length ≤ 2 := limbs_length_le (by omega)
      by_cases h3 : 0 ≤ e
      · obtain ⟨hP, hQ⟩ := HP.out h3
        clear HP HQ
        obtain ⟨k, rfl⟩ : ∃ k : Nat, e = k := ⟨e.toNat, by omega⟩
        rw [Int.toNat_natCast] at hP
        subst hQ
        have HP := Lib.hid hP
        clear hP
        have hk : k ≤ 1048576 := by omega
        clear h3 hk1 hk2
        go_wp2_with (first | (go_at_call 16; refine (F.out _).mono ?_; rintro e1 w1 ⟨A1, c1, rfl, hn1, hb1⟩))
        have hb2 := below_then (hB _) (by simp) hb1
        have U := rup_any _ _ _ _ k w1 hn1 (by omega) hk
        rw [val_limbs] at U
        have HU := Lib.hid U
        clear U
        refine HU.out.mono ?_; rintro e2 w2 ⟨A2, c2, rfl, hn2, hb3⟩
        have hb4 := below_then hb2 hb2.size hb3
        go_wp2
        refine bodyPost_ret (v := .tuple #[.slice A2 (limbs (M0 * 2 ^ k)).length c2, .slice (some ⟨w2.heap.size, 0, none⟩) 1 1]) (by simp [results, Try.results9, go_sem]) rfl ⟨_, rfl, ?_⟩
        unfold RefPost
        rw [HP.out, e1]
        refine ⟨A2, c2, _, 1, rfl, hn2.below ((Below.refl _ _).alloc (Nat.le_refl _) _), ?_, hb4.alloc hb4.size _⟩
        have := (own_block w2 w.heap.size [1] (Lim.cons (by omega) Lim.nil) hb4.size (by simp)).num
        simpa [u32s] using this
      · obtain ⟨hP, hQ⟩ := HQ.out (by omega)
        clear HP HQ
        obtain ⟨k, rfl⟩ : ∃ k : Nat, e = -k := ⟨(-e).toNat, by omega⟩
        rw [Int.neg_neg, Int.toNat_natCast] at hQ
        subst hP
        have HQ := Lib.hid hQ
        clear hQ
        have hk : k ≤ 1048576 := by omega
        have hk0 : 0 < k := by omega
        clear h3 hk1 hk2
        go_wp2_with (first | (go_at_call 16; refine (F.out _).mono ?_; rintro e1 w1 ⟨A1, c1, rfl, hn1, hb1⟩))
        have hb2 := below_then (hB _) (by simp) hb1
        have ho : Num (w1.alloc (.cells #[.int .u32 1] 50)) (some ⟨w1.heap.size, 0, none⟩) 1 1 [1] := by
          have := (own_block w1 w.heap.size [1] (Lim.cons (by omega) Lim.nil) hb2.size (by simp)).num
          simpa [u32s] using this
        have hb3 : Below w.heap.size w (w1.alloc (.cells #[.int .u32 1] 50)) := hb2.alloc hb2.size _
        have hn2 := hn1.below ((Below.refl _ _).alloc (Nat.le_refl _) (.cells #[.int .u32 1] 50))
        generalize w1.alloc (.cells #[.int .u32 1] 50) = w2 at ho hb3 hn2 ⊢
        have U := rup_any _ _ _ _ k w2 ho (by omega) hk
        rw [show val [1] = 1 from rfl, Nat.one_mul] at U
        have HU := Lib.hid U
        clear U
        refine HU.out.mono ?_; rintro e2 w3 ⟨A2, c2, rfl, hn3, hb4⟩
        have hb5 := below_then hb3 hb3.size hb4
        go_wp2
        refine bodyPost_ret (v := .tuple #[.slice A1 (limbs P).length c1, .slice A2 (limbs (2 ^ k)).length c2]) (by simp [results, Try.results9, go_sem]) rfl ⟨_, rfl, ?_⟩
        unfold RefPost
        rw [HQ.out]
        exact ⟨A1, c1, A2, c2, rfl, hn2.below hb4, hn3, hb5⟩
    · obtain ⟨i, rfl⟩ : ∃ i, j = i + 1 := ⟨j - 1, by omega⟩
      obtain ⟨h, hh⟩ : ∃ h, M0 * 2 ^ i = h := ⟨_, rfl⟩
      have hmh : m' = 2 * h := by rw [← HJ.out, ← hh, Nat.pow_succ, ← Nat.mul_assoc, Nat.mul_comm]
      have hp : 0 < h := by rw [← hh]; exact Nat.mul_pos (by omega) (Nat.pow_pos (by omega))
      have HH := Lib.hid hh
      clear hh HJ
      subst hmh
      have t1 : (((2 * h : Nat) : Int) % 2 == 0) = true := by simp
      go_wp2
      go_round
      case rel =>
        exact ⟨i, h, e + 1, by omega, by go_num, by go_num, by omega, HH, by omega⟩
      case measure => simp [intOf]; omega

end Go.Proofs.Ytilbadhadnockaa
