/- The text of a finite number in full, as a list of bytes: plain Lean, no program in sight. floats.Exact. floats.Exact of every number. -/
import Derived.Test.YtgdgdifnpdcgkaaGreatDoorRead
import Derived.Test.YtgdgdifnpdcgkaaGreatDoorQuo
import Derived.Lib.Strings
import Derived.Test.YtgdgdifnpdcgkaaGreatDoorPla
import Derived.Test.YtgdgdifnpdcgkaaGreatDoorPrint
import Derived.Test.YtgdgdifnpdcgkaaGreatDoorPow
namespace Go.Proofs.YtgdgdifnpdcgkaaGreatDoor

theorem AllDig.append {l m : List UInt8} (h : AllDig l) (k : AllDig m) : AllDig (l ++ m) := fun c hc => (List.mem_append.1 hc).elim (h c) (k c)
theorem AllDig.left {l m : List UInt8} (h : AllDig (l ++ m)) : AllDig l := fun c hc => h c (List.mem_append_left _ hc)
theorem AllDig.right {l m : List UInt8} (h : AllDig (l ++ m)) : AllDig m := fun c hc => h c (List.mem_append_right _ hc)
theorem AllDig.zeros (k : Nat) : AllDig (List.replicate k 48) := fun c hc => by obtain rfl := List.eq_of_mem_replicate hc; decide
theorem dv_zeros (k : Nat) : dv (List.replicate k 48) = 0 := by
  induction k with
  | zero => rfl
  | succ k ih => rw [List.replicate_succ', dv_snoc, ih]; rfl
theorem dv_lead (k : Nat) (l : List UInt8) : dv (List.replicate k 48 ++ l) = dv l := by rw [dv_append, dv_zeros]; simp
theorem dv_trail (l : List UInt8) (k : Nat) : dv (l ++ List.replicate k 48) = dv l * 10 ^ k := by rw [dv_append, dv_zeros]; simp

/-- noughts behind a list -/
theorem trim_split (l : List UInt8) : ∃ j, l = Lib.trimRightB l 48 ++ List.replicate j 48 := by
  unfold Lib.trimRightB
  have h := List.takeWhile_append_dropWhile (p := (· == (48 : UInt8))) (l := l.reverse)
  have h2 : ∀ c ∈ l.reverse.takeWhile (· == (48 : UInt8)), c = 48 := fun c hc => by simpa using List.all_eq_true.1 List.all_takeWhile c hc
  have h3 := List.eq_replicate_iff.2 ⟨rfl, h2⟩
  refine ⟨(l.reverse.takeWhile (· == (48 : UInt8))).length, ?_⟩
  have h4 := congrArg List.reverse h
  rw [List.reverse_append, List.reverse_reverse, h3, List.reverse_replicate] at h4
  exact h4.symm
theorem trim_append (a b : List UInt8) (c : UInt8) (hc : c ≠ 48) : Lib.trimRightB (a ++ c :: b) 48 = a ++ c :: Lib.trimRightB b 48 := by
  unfold Lib.trimRightB
  rw [List.reverse_append, List.reverse_cons, List.append_assoc, List.dropWhile_append]
  by_cases h : (b.reverse.dropWhile (· == (48 : UInt8))).isEmpty
  · rw [if_pos h, List.isEmpty_iff.1 h, List.singleton_append, List.dropWhile_cons, if_neg (by simpa using hc)]
    simp
  · rw [if_neg h]; simp

/-- a fraction's digits behind the point, the last noughts left out -/
theorem frac_law (D : List UInt8) (m k at_ : Nat) (hd : dv D = m * 5 ^ k) (hl : D.length = at_ + k) :
    dv (D.take at_ ++ Lib.trimRightB (D.drop at_) 48) * 2 ^ k = m * 10 ^ (Lib.trimRightB (D.drop at_) 48).length := by
  obtain ⟨j, hj⟩ := trim_split (D.drop at_)
  have hlen : (D.drop at_).length = k := by rw [List.length_drop]; omega
  generalize Lib.trimRightB (D.drop at_) 48 = B at *
  have h1 : k = B.length + j := by rw [← hlen, hj, List.length_append, List.length_replicate]
  have h2 : dv (D.take at_ ++ B) * 10 ^ j = m * 5 ^ k := by
    rw [← dv_trail, List.append_assoc, ← hj, List.take_append_drop, hd]
  have h3 : 0 < 10 ^ j := Nat.pow_pos (by omega)
  apply Nat.eq_of_mul_eq_mul_right h3
  rw [Nat.mul_right_comm, h2, Nat.mul_assoc, ← Nat.mul_pow, Nat.mul_assoc, ← Nat.pow_add, ← h1]

theorem AllDig.trim {l : List UInt8} (h : AllDig l) : AllDig (Lib.trimRightB l 48) := by
  obtain ⟨j, hj⟩ := trim_split l
  rw [hj] at h
  exact h.left
/-- a point at the end is left out -/
theorem suffix_law (A B : List UInt8) (h : AllDig B) : Lib.trimSuffix (A ++ 46 :: B) [46] = A ++ (if B = [] then [] else 46 :: B) := by
  unfold Lib.trimSuffix Lib.hasSuffix
  by_cases hB : B = []
  · subst hB
    rw [if_pos (List.isSuffixOf_iff_suffix.2 ⟨A, rfl⟩), if_pos rfl]
    simp
  · rw [if_neg, if_neg hB]
    intro hs
    obtain ⟨t, ht⟩ := List.isSuffixOf_iff_suffix.1 hs
    have h1 := congrArg List.getLast? ht
    rw [List.getLast?_concat, List.getLast?_append, List.getLast?_cons_of_ne_nil hB, List.getLast?_eq_some_getLast hB] at h1
    have h2 := h 46 (by rw [Option.some_or, Option.some.injEq] at h1; rw [h1]; exact List.getLast_mem hB)
    simp at h2

/-- lowest terms are one for quotients that are one -/
theorem lowest_same {a b c d : Nat} (hb : b ≠ 0) (hd : d ≠ 0) (h : a * d = c * b) : a / Nat.gcd a b = c / Nat.gcd c d ∧ b / Nat.gcd a b = d / Nat.gcd c d := by
  have hg : 0 < Nat.gcd a b := Nat.gcd_pos_of_pos_right _ (Nat.pos_of_ne_zero hb)
  have hk : 0 < Nat.gcd c d := Nat.gcd_pos_of_pos_right _ (Nat.pos_of_ne_zero hd)
  have c1 : Nat.Coprime (a / Nat.gcd a b) (b / Nat.gcd a b) := Nat.coprime_div_gcd_div_gcd hg
  have c2 : Nat.Coprime (c / Nat.gcd c d) (d / Nat.gcd c d) := Nat.coprime_div_gcd_div_gcd hk
  have e1 := Nat.div_mul_cancel (Nat.gcd_dvd_left a b)
  have e2 := Nat.div_mul_cancel (Nat.gcd_dvd_right a b)
  have e3 := Nat.div_mul_cancel (Nat.gcd_dvd_left c d)
  have e4 := Nat.div_mul_cancel (Nat.gcd_dvd_right c d)
  generalize a / Nat.gcd a b = a' at *
  generalize b / Nat.gcd a b = b' at *
  generalize c / Nat.gcd c d = c' at *
  generalize d / Nat.gcd c d = d' at *
  generalize Nat.gcd a b = g at *
  generalize Nat.gcd c d = k at *
  subst e1 e2 e3 e4
  have hx : a' * d' = c' * b' := by
    have h1 : a' * d' * (g * k) = c' * b' * (g * k) := by
      have e5 : a' * g * (d' * k) = a' * d' * (g * k) := by simp only [Nat.mul_assoc, Nat.mul_left_comm]
      have e6 : c' * k * (b' * g) = c' * b' * (g * k) := by rw [Nat.mul_comm g k]; simp only [Nat.mul_assoc, Nat.mul_left_comm]
      rw [← e5, ← e6]; exact h
    exact Nat.eq_of_mul_eq_mul_right (Nat.mul_pos hg hk) h1
  constructor
  · apply Nat.dvd_antisymm
    · exact c1.dvd_of_dvd_mul_right (hx ▸ Nat.dvd_mul_right a' d')
    · exact c2.dvd_of_dvd_mul_right (hx.symm ▸ Nat.dvd_mul_right c' b')
  · apply Nat.dvd_antisymm
    · exact c1.symm.dvd_of_dvd_mul_left (hx.symm ▸ Nat.dvd_mul_left b' c')
    · exact c2.symm.dvd_of_dvd_mul_left (hx ▸ Nat.dvd_mul_left d' a')

/-- what Exact's text is of a finite number: a sign, digits, a point and digits -/
def exactT (ng : Bool) (A B : List UInt8) : List UInt8 := (if ng then [45] else []) ++ (A ++ (if B = [] then [] else 46 :: B))
structure IsExact (b : Nat) (A B : List UInt8) : Prop where
  da : AllDig A
  db : AllDig B
  ne : A ≠ []
  law : dv (A ++ B) * qden b = qnum b * 10 ^ B.length
  la : A.length ≤ 2000
  lb : B.length ≤ 1074

end Go.Proofs.YtgdgdifnpdcgkaaGreatDoor

namespace Go.Proofs.YtgdgdifnpdcgkaaGreatDoor
open Go.RowKit

theorem neq_empty (l : List UInt8) (h : l ≠ []) : (ByteArray.mk l.toArray).toList.isEmpty = false := by
  rw [ByteArray.toList_eq]
  cases l with
  | nil => exact absurd rfl h
  | cons _ _ => rfl

theorem dec_len (n k : Nat) (hk : 0 < k) (h : n < 10 ^ k) : (Lib.decDigits n).length ≤ k := by
  by_cases h0 : n = 0
  · subst h0
    rw [Lib.decDigits, dif_pos (by omega)]
    exact hk
  · obtain ⟨j, hj⟩ := pad_dec k n h0 h
    have := congrArg List.length hj
    rw [padD_length, List.length_append] at this
    omega

theorem str_app (a b : List UInt8) : (ByteArray.mk a.toArray) ++ (ByteArray.mk b.toArray) = ⟨(a ++ b).toArray⟩ := by
  apply ByteArray.ext
  simp
theorem rep_one (c : Nat) : Lib.repeatL [48] c = List.replicate c 48 := by
  induction c with
  | zero => rfl
  | succ c ih => rw [Lib.repeatL, ih, List.replicate_succ]; rfl
theorem two_ten (j p : Nat) (h : j ≤ 3 * p) : 2 ^ j ≤ 10 ^ p :=
  Nat.le_trans (Nat.pow_le_pow_right (by omega) h) (by rw [Nat.pow_mul]; exact Nat.pow_le_pow_left (by omega) p)
theorem whole_len (m k p : Nat) (hm : m < 9007199254740992) (h : 53 + k ≤ 3 * p) : (Lib.decDigits (m * 2 ^ k)).length ≤ p := by
  apply dec_len _ _ (by omega)
  refine Nat.lt_of_lt_of_le (Nat.mul_lt_mul_of_pos_right (show m < 2 ^ 53 by rw [show (2 : Nat) ^ 53 = 9007199254740992 from rfl]; exact hm) (Nat.pow_pos (by omega))) ?_
  rw [← Nat.pow_add]
  exact two_ten _ _ h

set_option maxRecDepth 100000 in
set_option maxHeartbeats 1000000 in
/-- nought and what is no number -/
theorem Exact_plain (b : Nat) (t : ByteArray) (w : World) (hp : ∀ W, Calls Tryz.prog 24 #[.float .f64 b] W fun e w' => e = .returned (.string t) ∧ W = w') (ht : t.toList.isEmpty = false) :
    Calls Tryz.prog 10 #[.float .f64 b] w fun e w' => e = .returned (.string t) ∧ w = w' := by
  have HP := Lib.hid hp
  go_enter Tryz.func10, Tryz.ntmps10
  go_wp2_with fail
  refine (HP.out _).mono ?_; rintro e w' ⟨rfl, rfl⟩
  go_wp2
  go_ret
  exact ⟨rfl, rfl⟩

set_option maxRecDepth 100000 in
set_option maxHeartbeats 1000000 in
/-- a whole number -/
theorem Exact_whole (b m k : Nat) (w : World) (ng : Bool) (hp : ∀ W, Calls Tryz.prog 24 #[.float .f64 b] W fun e w' => e = .returned (.string ⟨#[]⟩) ∧ W = w')
    (hq : ∀ W, Calls Tryz.prog 21 #[.float .f64 b] W fun e w' => e = .returned (.tuple #[.bool ng, .int .u64 m, .int .i64 k, .int .u8 2]) ∧ W = w') (hm : m < 9007199254740992) (hk : k ≤ 971) :
    Calls Tryz.prog 10 #[.float .f64 b] w fun e w' => e = .returned (.string ⟨(exactT ng (Lib.decDigits (m * 2 ^ k)) []).toArray⟩) ∧ Below w.heap.size w w' := by
  have HP := Lib.hid hp
  have HQ := Lib.hid hq
  have lm := Lib.hid (limbs_len_pow m 0 (by omega) (by omega))
  rw [Nat.pow_zero, Nat.mul_one] at lm
  have lU := Lib.hid (limbs_len_pow m k (by omega) (by omega))
  clear hp hq
  go_enter Tryz.func10, Tryz.ntmps10
  go_wp2_with fail
  refine (HP.out _).mono ?_; rintro e w' ⟨rfl, rfl⟩
  go_wp2_with fail
  refine (HQ.out _).mono ?_; rintro e w' ⟨rfl, rfl⟩
  go_wp2_with fail
  refine (From_any m _ (by omega)).mono ?_; rintro e' w1 ⟨A1, rfl, hn, hb1⟩
  have hU := Up_any _ _ _ _ k w1 hn.num (by have := lm.out; omega) (by omega)
  rw [val_limbs] at hU
  replace hU := Lib.hid hU
  go_wp2_with fail
  refine hU.out.mono ?_; rintro e' w2 ⟨A2, rfl, hu, hb2⟩
  have c2 := below_then hb1 hb1.size hb2
  have hP := Print_any _ _ _ _ w2 hu.num (by have := lU.out; omega)
  rw [val_limbs] at hP
  replace hP := Lib.hid hP
  go_wp2_with fail
  refine hP.out.mono ?_; rintro e' w3 ⟨rfl, hb3⟩
  have c3 := below_then c2 c2.size hb3
  cases ng
  · go_wp2
    go_ret
    exact ⟨by simp [exactT], c3⟩
  · have hl := whole_len m k 400 hm (by omega)
    generalize hD : Lib.decDigits (m * 2 ^ k) = D at hl ⊢
    have HD := Lib.hid hD
    clear hD
    go_wp2
    go_ret
    exact ⟨by rw [exactT, HD.out]; simp [str_app [45] D], c3⟩

theorem five_len' (m k L : Nat) (hm : m < 9007199254740992) (hk : 53 + 3 * k ≤ 32 * L) : (limbs (m * 5 ^ k)).length ≤ L := by
  apply limbs_length_le
  rw [pow_lim]
  refine Nat.lt_of_lt_of_le (Nat.mul_lt_mul_of_pos_right (show m < 2 ^ 53 by rw [show (2 : Nat) ^ 53 = 9007199254740992 from rfl]; exact hm) (Nat.pow_pos (by omega))) ?_
  have h1 : 5 ^ k ≤ 2 ^ (3 * k) := by rw [Nat.pow_mul]; exact Nat.pow_le_pow_left (by omega) k
  refine Nat.le_trans (Nat.mul_le_mul_left _ h1) ?_
  rw [← Nat.pow_add]
  exact Nat.pow_le_pow_right (by omega) hk
theorem five_len (m k : Nat) (hm : m < 9007199254740992) (hk : k ≤ 1074) : (limbs (m * 5 ^ k)).length ≤ 256 := five_len' m k 256 hm (by omega)
theorem five_dec (m k p : Nat) (hm : m < 9007199254740992) (h : 53 + 3 * k ≤ 3 * p) : (Lib.decDigits (m * 5 ^ k)).length ≤ p := by
  apply dec_len _ _ (by omega)
  refine Nat.lt_of_lt_of_le (Nat.mul_lt_mul_of_pos_right (show m < 2 ^ 53 by rw [show (2 : Nat) ^ 53 = 9007199254740992 from rfl]; exact hm) (Nat.pow_pos (by omega))) ?_
  have h1 : 5 ^ k ≤ 2 ^ (3 * k) := by rw [Nat.pow_mul]; exact Nat.pow_le_pow_left (by omega) k
  refine Nat.le_trans (Nat.mul_le_mul_left _ h1) ?_
  rw [← Nat.pow_add]
  exact two_ten _ _ h

/-- the digits of a fraction, noughts ahead so that one stands ahead of the point -/
def fracD (M k : Nat) : List UInt8 := List.replicate (1 + k - (Lib.decDigits M).length) 48 ++ Lib.decDigits M

set_option maxRecDepth 100000 in
set_option maxHeartbeats 1000000 in
/-- a fraction -/
theorem Exact_frac (b m k : Nat) (w : World) (ng : Bool) (kd : Nat) (hp : ∀ W, Calls Tryz.prog 24 #[.float .f64 b] W fun e w' => e = .returned (.string ⟨#[]⟩) ∧ W = w')
    (hq : ∀ W, Calls Tryz.prog 21 #[.float .f64 b] W fun e w' => e = .returned (.tuple #[.bool ng, .int .u64 m, .int .i64 (-(k : Int)), .int .u8 kd]) ∧ W = w') (hm : m < 9007199254740992) (hk : k ≤ 1074) (hk1 : 1 ≤ k) :
    Calls Tryz.prog 10 #[.float .f64 b] w fun e w' => e = .returned (.string ⟨(exactT ng ((fracD (m * 5 ^ k) k).take ((fracD (m * 5 ^ k) k).length - k)) (Lib.trimRightB ((fracD (m * 5 ^ k) k).drop ((fracD (m * 5 ^ k) k).length - k)) 48)).toArray⟩) ∧ Below w.heap.size w w' := by
  have HP := Lib.hid hp
  have HQ := Lib.hid hq
  have lm := Lib.hid (limbs_len_pow m 0 (by omega) (by omega))
  rw [Nat.pow_zero, Nat.mul_one] at lm
  have hneg : decide (0 ≤ -(k : Int)) = false := by simp; omega
  clear hp hq
  go_enter Tryz.func10, Tryz.ntmps10
  go_wp2_with fail
  refine (HP.out _).mono ?_; rintro e w' ⟨rfl, rfl⟩
  go_wp2_with fail
  refine (HQ.out _).mono ?_; rintro e w' ⟨rfl, rfl⟩
  go_wp2_with fail
  refine (From_any m _ (by omega)).mono ?_; rintro e' w1 ⟨A1, rfl, hn, hb1⟩
  go_wp2_with fail
  have o5 : Own (w1.alloc (.cells #[.int .u32 5] 32)) w1.heap.size (some ⟨w1.heap.size, 0, none⟩) 1 1 [5] := by
    have := own_block w1 w1.heap.size [5] (Lim.cons (by omega) Lim.nil) (by simp) (by simp)
    simpa [u32s] using this
  have d5 := (Below.refl w1.heap.size w1).alloc (Nat.le_refl _) (.cells #[.int .u32 5] 32)
  have B5 := below_then hb1 hb1.size d5
  have n5 := hn.below d5
  generalize w1.alloc (.cells #[.int .u32 5] 32) = w5 at o5 B5 n5 ⊢
  have HPW := Pow_any _ 1 1 [5] k w5 o5.num (by omega) (by omega) (by rw [show blen (val [5]) = 3 by decide]; omega)
  rw [show val [5] = 5 by rfl] at HPW
  replace HPW := Lib.hid HPW
  refine HPW.out.mono ?_; rintro e w6 ⟨A6, rfl, o6, b6⟩
  have B6 := below_then B5 B5.size b6
  have n6 := n5.below b6
  clear o5 n5 hn hb1 B5 b6 d5
  have hf := limbs_len_pow 1 0 (by omega) (by omega)
  have l5 : (limbs (5 ^ k)).length ≤ 256 := by have := five_len 1 k (by omega) hk; rwa [Nat.one_mul] at this
  have HM := Mul_any _ _ _ _ _ _ _ _ w6 n6.num o6.num (by have := lm.out; omega)
  rw [val_limbs, val_limbs] at HM
  replace HM := Lib.hid HM
  go_wp2_with fail
  refine HM.out.mono ?_; rintro e w7 ⟨A7, rfl, o7, b7⟩
  have B7 := below_then B6 B6.size b7
  have l7 := five_len m k hm hk
  have HPR := Print_any _ _ _ _ w7 o7.num (by omega)
  rw [val_limbs] at HPR
  replace HPR := Lib.hid HPR
  clear HM HPW n6 o6 B6 b7 hf l5
  go_wp2_with fail
  refine HPR.out.mono ?_; rintro e w8 ⟨rfl, b8⟩
  have B8 := below_then B7 B7.size b8
  have hDl := five_dec m k 1200 hm (by omega)
  generalize hD : Lib.decDigits (m * 5 ^ k) = D at hDl ⊢
  have HD := Lib.hid hD
  clear hD HPR o7 B7 b8 l7
  have hmain : ∃ (F : List UInt8) (at_ : Nat), Hid (F = fracD (m * 5 ^ k) k) ∧ F.length = at_ + k ∧ 1 ≤ at_ ∧ at_ ≤ 1200 := by
    have h1 : fracD (m * 5 ^ k) k = List.replicate (1 + k - D.length) 48 ++ D := by unfold fracD; rw [HD.out]
    refine ⟨_, (fracD (m * 5 ^ k) k).length - k, Lib.hid rfl, ?_⟩
    rw [h1, List.length_append, List.length_replicate]
    omega
  obtain ⟨F, at_, HF, hFl, hat1, hat2⟩ := hmain
  have hor : D.length ≤ k ∨ ¬ D.length ≤ k := by omega
  rcases hor with hLk | hLk
  case' inl =>
    have HRP := Lib.hid (fun W => Tryz.strings_Repeat ⟨#[48]⟩ (1 + k - D.length) W (by omega) (by simp [ByteArray.size]; omega))
    obtain ⟨c, hc⟩ : ∃ c, 1 + k - D.length = c := ⟨_, rfl⟩
    rw [hc] at HRP
    have HFF : Hid ((ByteArray.mk (Lib.repeatL [48] c).toArray) ++ (ByteArray.mk D.toArray) = ⟨F.toArray⟩) := Lib.hid (by
      rw [str_app, HF.out, fracD, HD.out, hc, rep_one])
    have hcz : (1 : Int) + k - D.length = c := by omega
    have hrs : (Lib.repeatL [48] c).length = c := by rw [rep_one]; simp
    have hcb : c ≤ 1200 := by omega
    clear hc
    go_wp2_with fail
    refine (HRP.out _).mono ?_; rintro e w9 ⟨rfl, b9⟩
    have B9 := below_then B8 B8.size b9
    go_upto_region 14 with (fail)
    rw [HFF.out]
    clear HRP hcz hrs hcb b9 B8 HFF
    generalize w9 = wz at B9 ⊢
    clear hLk
  case' inr =>
    have hFD : Hid (F = D) := Lib.hid (by rw [HF.out, fracD, HD.out, show 1 + k - D.length = 0 by omega]; rfl)
    go_upto_region 14 with (fail)
    rw [← hFD.out]
    have B9 := B8
    clear B8 hLk hFD
    generalize w8 = wz at B9 ⊢
  all_goals
    obtain ⟨TA, hTA⟩ : ∃ T, (ByteArray.mk F.toArray).extract 0 at_ = T := ⟨_, rfl⟩
    obtain ⟨TB, hTB⟩ : ∃ T, (ByteArray.mk F.toArray).extract at_ (at_ + k) = T := ⟨_, rfl⟩
    obtain ⟨TC, hTC⟩ : ∃ T, TA ++ ByteArray.mk #[46] = T := ⟨_, rfl⟩
    obtain ⟨TD, hTD⟩ : ∃ T, TC ++ TB = T := ⟨_, rfl⟩
    have dA : TA.data.toList = F.take at_ := by rw [← hTA, Lib.extract_data]; simp
    have dB : TB.data.toList = F.drop at_ := by rw [← hTB, Lib.extract_data, List.take_of_length_le (by simp; omega)]
    have dD : TD.data.toList = F.take at_ ++ 46 :: F.drop at_ := by rw [← hTD, ← hTC, data_append, data_append, dA, dB]; simp
    have sA : TA.size = at_ := by rw [← size_data, dA, List.length_take]; omega
    have sB : TB.size = k := by rw [← size_data, dB, List.length_drop]; omega
    have sC : TC.size = at_ + 1 := by rw [← hTC, ← size_data, data_append, dA]; simp; omega
    have sD : TD.size ≤ 9223372036854775807 := by rw [← size_data, dD, List.length_append, List.length_cons, List.length_take, List.length_drop]; omega
    have HDD := Lib.hid dD
    have HT := fun q => (Tryz.strings_TrimRight_one TD 48 (by decide) (wz.drewN q) sD)
    rw [dD, trim_append _ _ _ (by decide)] at HT
    replace HT := Lib.hid HT
    have hat3 : (at_ : Int) + k + -(k : Int) = at_ := by omega
    have hsF : (ByteArray.mk F.toArray).size = at_ + k := by rw [← size_data]; exact hFl
    have sl1 : ∀ W : World, (Instr.slice 9 (.string ⟨F.toArray⟩) none (some (.int .i64 (at_ : Int))) none).run Tryz.prog W = .ok (.string TA) W := fun W => by
      rw [run_slice_string_h (ht := Tryz.underlying9) (h0 := by omega) (h2 := by rw [hsF]; omega), Int.toNat_natCast, hTA]
    have sl2 : ∀ W : World, (Instr.slice 9 (.string ⟨F.toArray⟩) (some (.int .i64 (at_ : Int))) none none).run Tryz.prog W = .ok (.string TB) W := fun W => by
      rw [run_slice_string_l (ht := Tryz.underlying9) (h0 := by omega) (h1 := by rw [hsF]; omega), Int.toNat_natCast, hsF, hTB]
    have hs1 : TA.size + (ByteArray.mk #[46]).size ≤ 9223372036854775807 := by rw [sA]; simp [ByteArray.size]; omega
    have hs2 : TC.size + TB.size ≤ 9223372036854775807 := by rw [sC, sB]; omega
    clear dA dB dD HD hDl hTA hTB hsF
    go_wp2
    go_quiet (first | (go_at_call 28; with_reducible refine Calls.quiet_of_same (HT.out _)))
    have B10 := B9.trans ((show Below wz.heap.size wz (wz.drewN nq) from ⟨rfl, rfl, rfl, Nat.le_refl _, fun _ _ => rfl⟩).mono B9.size)
    generalize wz.drewN nq = wy at B10 ⊢
    clear HT hTC hTD sA sB sC sD HDD B9 hat3 sl1 sl2 hs1 hs2
    have hB' : Hid (Lib.trimSuffix (F.take at_ ++ 46 :: Lib.trimRightB (F.drop at_) 48) [46] = F.take at_ ++ (if Lib.trimRightB (F.drop at_) 48 = [] then [] else 46 :: Lib.trimRightB (F.drop at_) 48)) := Lib.hid (suffix_law _ _ (by
      apply AllDig.trim
      intro c hc
      have hc' := List.mem_of_mem_drop hc
      rw [HF.out] at hc'
      unfold fracD at hc'
      exact ((AllDig.zeros _).append (dec_digits _)) c hc'))
    have hlb : (Lib.trimRightB (F.drop at_) 48).length ≤ k := by
      obtain ⟨j, hj⟩ := trim_split (F.drop at_)
      have := congrArg List.length hj
      rw [List.length_drop, List.length_append] at this
      omega
    have hfin : Hid (F.take at_ = (fracD (m * 5 ^ k) k).take ((fracD (m * 5 ^ k) k).length - k) ∧ F.drop at_ = (fracD (m * 5 ^ k) k).drop ((fracD (m * 5 ^ k) k).length - k)) := Lib.hid (by
      rw [← HF.out, hFl, Nat.add_sub_cancel]; exact ⟨rfl, rfl⟩)
    have hla : (F.take at_).length = at_ := by rw [List.length_take]; omega
    generalize F.take at_ = A at hB' hfin hla ⊢
    generalize hBB : Lib.trimRightB (F.drop at_) 48 = B at hB' hlb ⊢
    have HBB := Lib.hid hBB
    clear hBB hFl
    have HS := Tryz.strings_TrimSuffix ⟨(A ++ 46 :: B).toArray⟩ ⟨#[46]⟩ wy (by simp [ByteArray.size]; omega)
    rw [show (ByteArray.mk (A ++ 46 :: B).toArray).data.toList = A ++ 46 :: B from rfl, show (ByteArray.mk #[46]).data.toList = [46] from rfl, hB'.out] at HS
    replace HS := Lib.hid HS
    go_wp2_with fail
    refine HS.out.mono ?_; rintro e w10 ⟨rfl, rfl⟩
    have hlt : (A ++ (if B = [] then [] else 46 :: B)).length ≤ 3000 := by
      rw [List.length_append]
      split
      · simp; omega
      · simp; omega
    have hT0 : Hid (∀ ng, exactT ng A B = (if ng then [45] else []) ++ (A ++ (if B = [] then [] else 46 :: B))) := Lib.hid (fun _ => rfl)
    generalize A ++ (if B = [] then [] else 46 :: B) = T at hlt hT0 ⊢
    have hgoal : Hid (exactT ng A B = exactT ng ((fracD (m * 5 ^ k) k).take ((fracD (m * 5 ^ k) k).length - k)) (Lib.trimRightB ((fracD (m * 5 ^ k) k).drop ((fracD (m * 5 ^ k) k).length - k)) 48)) := Lib.hid (by
      rw [← hfin.out.1, ← hfin.out.2, HBB.out])
    cases ng
    · go_wp2
      go_ret
      exact ⟨by rw [← hgoal.out, hT0.out]; rfl, B10⟩
    · go_wp2
      go_ret
      exact ⟨by rw [← hgoal.out, hT0.out]; simp [str_app [45] T], B10⟩

end Go.Proofs.YtgdgdifnpdcgkaaGreatDoor

namespace Go.Proofs.YtgdgdifnpdcgkaaGreatDoor
open Go.RowKit

theorem fneg_not (b : Nat) : fneg b = !decide (b < 9223372036854775808) := by
  unfold fneg
  by_cases h : b < 9223372036854775808
  · simp [h]
  · simp [h]; omega

theorem Exact_fin (b : Nat) (hb : b < 18446744073709551616) (hk : (partsOf b).2.2 ≤ 2) : ∃ A B, IsExact b A B ∧
    ∀ w, Calls Tryz.prog 10 #[.float .f64 b] w fun e w' => e = .returned (.string ⟨(exactT (fneg b) A B).toArray⟩) ∧ Below w.heap.size w w' := by
  have hr := rung_parts b
  have h1 := fexp_lt b
  have h2 := fman_lt b
  have hfin : rung b < 9218868437227405312 := by
    unfold partsOf at hk
    by_cases h : fexp b = 2047
    · rw [if_pos h] at hk
      split at hk <;> simp at hk
    · omega
  have hP := fun W => plain_some b W hb (by omega)
  by_cases h0 : rung b = 0
  · have hm : fman b = 0 := by omega
    have he : fexp b = 0 := by omega
    have hpo : partsOf b = (0, 0, 0) := by unfold partsOf; rw [if_neg (by omega), if_pos he, if_pos hm]
    refine ⟨[48], [], ⟨?_, (fun c hc => by cases hc), by simp, ?_, by simp, by simp⟩, fun w => ?_⟩
    · intro c hc; obtain rfl := List.mem_singleton.1 hc; decide
    · unfold qnum qden; rw [hpo]; rfl
    · have e : plainB b = exactT (fneg b) [48] [] := by
        unfold plainB exactT
        rw [if_neg (by omega), if_pos h0, fneg_not]
        by_cases hs : b < 9223372036854775808
        · simp [hs]
        · simp [hs]
      rw [e] at hP
      refine (Exact_plain b _ w hP ?_).mono ?_
      · apply neq_empty
        unfold exactT
        simp
      · rintro ex w' ⟨rfl, rfl⟩
        exact ⟨rfl, Below.refl _ _⟩
  · have e : plainB b = [] := by unfold plainB; rw [if_neg (by omega), if_neg h0]
    rw [e] at hP
    have hQ := fun W => Parts_any b W hb
    have hbd := partsOf_bd b
    have hkind : (partsOf b).2.2 = 1 ∧ (partsOf b).2.1 = -1074 ∨ (partsOf b).2.2 = 2 := by
      unfold partsOf at hk ⊢
      split
      · omega
      · split
        · split
          · omega
          · exact .inl ⟨rfl, rfl⟩
        · exact .inr rfl
    have hqn : qnum b = (partsOf b).1 * 2 ^ (partsOf b).2.1.toNat := rfl
    have hqd : qden b = 2 ^ (-(partsOf b).2.1).toNat := rfl
    generalize partsOf b = pb at hQ hbd hkind hqn hqd
    obtain ⟨m, e, kd⟩ := pb
    simp only at hQ hbd hkind hqn hqd
    by_cases he : 0 ≤ e
    · obtain ⟨k, rfl⟩ := Int.eq_ofNat_of_zero_le he
      obtain rfl : kd = 2 := by omega
      refine ⟨_, [], ⟨dec_digits _, (fun c hc => by cases hc), ?_, ?_, ?_, by simp⟩, fun w => Exact_whole b m k w (fneg b) hP hQ (by omega) (by omega)⟩
      · intro e
        have := congrArg List.length e
        rw [Lib.decDigits_length, List.length_nil] at this
        have h3 := congrArg List.length (Lib.decDigits_eq (m * 2 ^ k))
        rw [Lib.decDigits_length] at h3
        unfold Lib.decDigits at e
        split at e <;> simp at e
      · rw [List.append_nil, dv_dec, hqn, hqd]
        simp
      · have := whole_len m k 400 (by omega) (by omega)
        omega
    · obtain ⟨k, hk2⟩ := Int.eq_ofNat_of_zero_le (show 0 ≤ -e by omega)
      obtain rfl : e = -(k : Int) := by omega
      have hfl : (fracD (m * 5 ^ k) k).length = ((fracD (m * 5 ^ k) k).length - k) + k := by
        unfold fracD
        rw [List.length_append, List.length_replicate]; omega
      have hfl2 : 1 ≤ (fracD (m * 5 ^ k) k).length - k ∧ (fracD (m * 5 ^ k) k).length - k ≤ 1200 := by
        have := five_dec m k 1200 (by omega) (by omega)
        unfold fracD
        rw [List.length_append, List.length_replicate]; omega
      have hfd : AllDig (fracD (m * 5 ^ k) k) := (AllDig.zeros _).append (dec_digits _)
      have hfv : dv (fracD (m * 5 ^ k) k) = m * 5 ^ k := by unfold fracD; rw [dv_lead, dv_dec]
      refine ⟨_, _, ⟨fun c hc => hfd c (List.mem_of_mem_take hc), AllDig.trim (fun c hc => hfd c (List.mem_of_mem_drop hc)), ?_, ?_, ?_, ?_⟩, fun w => Exact_frac b m k w (fneg b) kd hP hQ (by omega) (by omega) (by omega)⟩
      · intro e
        have := congrArg List.length e
        rw [List.length_take, List.length_nil] at this
        omega
      · have := frac_law (fracD (m * 5 ^ k) k) m k _ hfv hfl
        rw [hqn, hqd, show (-(k : Int)).toNat = 0 by omega, show (- -(k : Int)).toNat = k by omega, Nat.pow_zero, Nat.mul_one]
        exact this
      · rw [List.length_take]; omega
      · obtain ⟨j, hj⟩ := trim_split ((fracD (m * 5 ^ k) k).drop ((fracD (m * 5 ^ k) k).length - k))
        have := congrArg List.length hj
        rw [List.length_drop, List.length_append] at this
        omega

/-- a text of what is no finite number -/
def outT (t : ByteArray) : Prop := t = ⟨#[110, 97, 110]⟩ ∨ t = ⟨#[105, 110, 102]⟩ ∨ t = ⟨#[45, 105, 110, 102]⟩

theorem Exact_out (b : Nat) (hb : b < 18446744073709551616) (hk : (partsOf b).2.2 = 3 ∨ (partsOf b).2.2 = 4) : ∃ t, outT t ∧
    ∀ w, Calls Tryz.prog 10 #[.float .f64 b] w fun e w' => e = .returned (.string t) ∧ w = w' := by
  have hr := rung_parts b
  have h1 := fexp_lt b
  have h2 := fman_lt b
  have hx : fexp b = 2047 := by
    unfold partsOf at hk
    by_cases h : fexp b = 2047
    · exact h
    · rw [if_neg h] at hk
      split at hk
      · split at hk <;> simp at hk
      · simp at hk
  by_cases hm : fman b = 0
  · have h0 : rung b = 9218868437227405312 := by omega
    have hP := fun W => plain_some b W hb (by omega)
    by_cases hs : b < 9223372036854775808
    · have e : plainB b = [105, 110, 102] := by unfold plainB; rw [if_pos h0, if_pos hs]
      rw [e] at hP
      exact ⟨_, .inr (.inl rfl), fun w => Exact_plain b _ w hP (by rw [ByteArray.toList_eq]; rfl)⟩
    · have e : plainB b = [45, 105, 110, 102] := by unfold plainB; rw [if_pos h0, if_neg hs]
      rw [e] at hP
      exact ⟨_, .inr (.inr rfl), fun w => Exact_plain b _ w hP (by rw [ByteArray.toList_eq]; rfl)⟩
  · exact ⟨_, .inl rfl, fun w => Exact_plain b _ w (fun W => plain_nan b W (by omega)) (by rw [ByteArray.toList_eq]; rfl)⟩

end Go.Proofs.YtgdgdifnpdcgkaaGreatDoor
