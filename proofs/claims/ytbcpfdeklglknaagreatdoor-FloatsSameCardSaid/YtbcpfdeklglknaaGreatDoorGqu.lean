/- floats.Read: a decimal text's power and quotient. -/
import Derived.Test.YtbcpfdeklglknaaGreatDoorGtk
import Derived.Test.YtbcpfdeklglknaaGreatDoorDcl
namespace Go.Proofs.YtbcpfdeklglknaaGreatDoor
open Go.RowKit

/-- digits' value, a sign left out -/
def pv (l : List UInt8) : Nat := dv (l.filter (fun c => c ≠ 45))
theorem pv_minus {l : List UInt8} : pv (l ++ [45]) = pv l := by unfold pv; simp
theorem pv_digit {l : List UInt8} {c : UInt8} (h : c ≠ 45) : pv (l ++ [c]) = 10 * pv l + (c.toNat - 48) := by
  unfold pv; rw [List.filter_append]; simp only [List.filter_cons, List.filter_nil]; rw [if_pos (by simpa using h), dv_snoc]
theorem pv_le (a b : List UInt8) : pv a ≤ pv (a ++ b) := by
  unfold pv; rw [List.filter_append, dv_append]
  have : 1 ≤ 10 ^ (b.filter (fun c => c ≠ 45)).length := Nat.pow_pos (by omega)
  have := Nat.mul_le_mul_left (dv (a.filter (fun c => c ≠ 45))) this
  omega
theorem pv_take (l : List UInt8) (i : Nat) : pv (l.take i) ≤ pv l := by
  have := pv_le (l.take i) (l.drop i)
  rwa [List.take_append_drop] at this
theorem take_snoc {s : ByteArray} {i : Nat} (h : i < s.size) : s.data.toList.take (i + 1) = s.data.toList.take i ++ [s[i]] := by
  rw [List.take_succ_eq_append_getElem (by simpa using h)]; rfl

/-- the power that a text's power says -/
def PowIs (pw : ByteArray) (K : Nat) : Prop := ∀ w, Calls Tryz.prog 31 #[.string pw] w fun e w' => e = .returned (.int .i64 (-(K : Int))) ∧ w = w'

theorem powIs_empty : PowIs ⟨#[]⟩ 0 := fun w => power_empty w

set_option maxRecDepth 100000 in
set_option maxHeartbeats 1000000 in
theorem power_any (s : ByteArray) (g : Bool) (w : World) (hs : s.size ≤ 4096) (h0 : 0 < s.size) (hg : decide (s[0].toNat = 45) = g) (hd : ∀ k (hk : k < s.size), s[k] = 45 ∨ isDig s[k].toNat = true) (hb : pv s.data.toList < 100000) :
    Calls Tryz.prog 31 #[.string s] w fun e w' => e = .returned (.int .i64 (if g then -(pv s.data.toList : Int) else pv s.data.toList)) ∧ w = w' := by
  have HD := Lib.hid hd
  have HB := Lib.hid hb
  clear hd hb
  have l1 : decide ((0 : Int) < (s.size : Int)) = true := by simp; omega
  have l2 : (0 : Int) < (s.size : Int) := by omega
  have l3 : decide ((s[0].toNat : Int) = 45) = g := by rw [← hg]; by_cases h : s[0].toNat = 45 <;> simp [h]; omega
  have l4 : ((s[0].toNat : Int) == 45) = g := by rw [← l3]; rfl
  clear hg
  cases g
  all_goals
    go_enter Tryz.func31, Tryz.ntmps31
    go_wp2
    go_loopw [4, 16] (fun nx ix wr => ∃ (i n : Nat), nx = .int .i64 (n : Int) ∧ ix = .int .i64 (i : Int) ∧ wr = w ∧ i ≤ s.size ∧ Hid (n = pv (s.data.toList.take i)) ∧ n < 100000) (fun _ ix _ => s.size - (intOf ix).toNat)
    case atStart => exact ⟨0, 0, rfl, rfl, rfl, Nat.zero_le _, Lib.hid rfl, by omega⟩
    case round =>
      obtain ⟨i, n, rfl, rfl, rfl, hi, HN, hn⟩ := hrel
      by_cases hlt : i < s.size
      · have m1 : decide ((i : Int) < (s.size : Int)) = true := by simp; omega
        have m2 : (i : Int) < (s.size : Int) := by omega
        have hc := HD.out i hlt
        have ht := take_snoc hlt
        rcases hc with hc | hc
        · have HN2 : Hid (n = pv (s.data.toList.take (i + 1))) := Lib.hid (by rw [ht, hc, pv_minus]; exact HN.out)
          have hx : (s[i].toNat : Int) = 45 := by rw [hc]; rfl
          clear hc ht HN
          go_wp2
          go_round
          case rel => exact ⟨i + 1, n, rfl, by go_num, by simp, hlt, HN2, hn⟩
          case measure => simp [intOf]; omega
        · have hk := isDig_lt hc
          have hne : s[i] ≠ 45 := by intro e; rw [e] at hk; revert hk; decide
          have hpv : pv (s.data.toList.take (i + 1)) = 10 * n + (s[i].toNat - 48) := by rw [ht, pv_digit hne, ← HN.out]
          have hle := pv_take s.data.toList (i + 1)
          have hbb := HB.out
          have hx0 : (48 : Int) ≤ (s[i].toNat : Int) := by omega
          have hx1 : (s[i].toNat : Int) ≤ 57 := by omega
          have hx2 : decide ((s[i].toNat : Int) = 45) = false := by simp; omega
          have hx3 : ((s[i].toNat : Int) == 45) = false := by simp; omega
          have hm2 : 10 * n + (s[i].toNat - 48) < 100000 := by omega
          have HN2 : Hid (10 * n + (s[i].toNat - 48) = pv (s.data.toList.take (i + 1))) := Lib.hid (by rw [hpv])
          clear hc ht HN hpv hle hbb hne
          go_wp2
          go_round
          case rel => exact ⟨i + 1, 10 * n + (s[i].toNat - 48), by go_num, by go_num, by simp, hlt, HN2, hm2⟩
          case measure => simp [intOf]; omega
      · obtain rfl : i = s.size := by omega
        have m1 : decide ((s.size : Int) < (s.size : Int)) = false := by simp
        have HN2 : Hid (n = pv s.data.toList) := Lib.hid (by rw [HN.out, List.take_of_length_le (by simp)])
        clear HN
        go_wp2
        go_ret
        first
        | exact ⟨by rw [HN2.out]; rfl, rfl⟩
        | exact ⟨by rw [HN2.out]; simp, rfl⟩

/-- what the quotient of digits is, the point so many of them from the right -/
def QuoDec (w : World) (N P : Nat) (e : Ending) (w' : World) : Prop :=
  (N = 0 ∧ ∃ B m d ys, e = .returned (.tuple #[.slice none 0 0, .slice B m d, .bool false, .bool false]) ∧ Num w' B m d ys ∧ m ≤ 4096 ∧ Below w.heap.size w w') ∨
  (N ≠ 0 ∧ 600 + P < (Lib.decDigits N).length ∧ ∃ B m d, e = .returned (.tuple #[.slice none 0 0, .slice B m d, .bool true, .bool false]) ∧ Below w.heap.size w w') ∨
  (N ≠ 0 ∧ (Lib.decDigits N).length + 600 < P ∧ ∃ B m d, e = .returned (.tuple #[.slice none 0 0, .slice B m d, .bool false, .bool true]) ∧ Below w.heap.size w w') ∨
  (N ≠ 0 ∧ (Lib.decDigits N).length ≤ 600 + P ∧ P ≤ (Lib.decDigits N).length + 600 ∧ ∃ A n c B m d xs ys, e = .returned (.tuple #[.slice A n c, .slice B m d, .bool false, .bool false]) ∧ Num w' A n c xs ∧ Num w' B m d ys ∧ val xs = N ∧ val ys = 10 ^ P ∧ n ≤ 20000 ∧ m ≤ 20000 ∧ Below w.heap.size w w')

theorem limbs_ten {x k : Nat} (h : x < 10 ^ k) : (limbs x).length ≤ k := by
  apply limbs_length_le
  exact Nat.lt_of_lt_of_le h (Nat.pow_le_pow_left (by omega) k)

set_option maxRecDepth 100000 in
set_option maxHeartbeats 4000000 in
theorem quotient_any (dg pw : ByteArray) (b K P N L : Nat) (w : World) (hN : dv dg.data.toList = N) (hL : (Lib.decDigits N).length = L) (hdig : AllDig dg.data.toList) (h0 : 0 < dg.size) (hs : dg.size ≤ 4096) (hP : PowIs pw K) (hPK : K + b = P) (hPs : P ≤ 16000) :
    Calls Tryz.prog 14 #[.agg (tcells dg b pw)] w (QuoDec w N P) := by
  have hlen : (limbs N).length ≤ 4096 := by
    have h1 := dv_lt hdig
    rw [hN] at h1
    have := limbs_ten h1
    simp at this
    omega
  have hB := (Below.refl w.heap.size w).alloc (Nat.le_refl _) (.cells (tcells dg b pw) 35)
  have hT : TextOf (w.alloc (.cells (tcells dg b pw) 35)) w.heap.size dg b pw := heap_alloc_new w _
  have l1 : limbs 1 = [1] := by rw [limbs_pos (by omega)]; simp [limbs_zero]
  have HF := From_any 1
  rw [l1] at HF
  replace HF := Lib.hid (fun W => HF W (by omega))
  have HR0 := fun W => Read_any dg W hdig h0 (by omega)
  rw [hN] at HR0
  replace HR0 := Lib.hid HR0
  have HP0 := Lib.hid hP
  have hD := dec_pow (N := N)
  have hLL : N = 0 → L = 1 := by intro e; rw [← hL, e, show Lib.decDigits 0 = [48] by kernel_rfl]; rfl
  have hLS : L ≤ 4096 := by
    by_cases hz : N = 0
    · rw [hLL hz]; omega
    · have h1 := (hD hz).1
      have h2 := dv_lt hdig
      rw [hN] at h2
      rw [hL] at h1
      have h3 : 10 ^ (L - 1) < 10 ^ dg.data.toList.length := Nat.lt_of_le_of_lt h1 h2
      have h4 := (Nat.pow_lt_pow_iff_right (by omega)).1 h3
      simp at h4
      omega
  have HQD : Hid (∀ e w', QuoDec w N P e w' ↔ QuoDec w N P e w') := Lib.hid fun _ _ => Iff.rfl
  have HLE := Lib.hid hL
  have HNL := Lib.hid (limbs_length_zero (n := N))
  clear hP hdig hN hD hLL l1
  go_enter Tryz.func14, Tryz.ntmps14
  go_wp2_with fail
  generalize w.alloc (.cells (tcells dg b pw) 35) = w1 at hB hT ⊢
  refine (HF.out _).mono ?_; rintro e w2 ⟨A1, rfl, o2, b2⟩
  have t2 := hT.below b2
  have lT := lt_of_block hT
  have B2 := below_then hB hB.size b2
  clear hB hT b2 HF
  have c4 : w2.cell? ⟨w.heap.size, 4, none⟩ = some (.bool false) := cell_of_block t2 rfl
  have c3 : w2.cell? ⟨w.heap.size, 3, none⟩ = some (.string dg) := cell_of_block t2 rfl
  have HR := Lib.hid (HR0.out w2)
  clear HR0
  go_wp2_with fail
  refine HR.out.mono ?_; rintro e w3 ⟨A2, rfl, o3, b3⟩
  have t3 := t2.below b3
  have n3 := o2.below b3
  have B3 := below_then B2 (by have := B2.size; omega) b3
  clear c4 c3 HR t2 o2 b3 B2
  have c5 : w3.cell? ⟨w.heap.size, 5, none⟩ = some (.int .i64 (b : Int)) := cell_of_block t3 rfl
  have c6 : w3.cell? ⟨w.heap.size, 6, none⟩ = some (.string pw) := cell_of_block t3 rfl
  have HP := Lib.hid (fun q => (HP0.out (w3.drewN q)).mono (by rintro e W ⟨rfl, rfl⟩; exact ⟨rfl, rfl⟩) : ∀ q, Calls Tryz.prog 31 #[.string pw] (w3.drewN q) fun e W => e = .returned (.int .i64 (-(K : Int))) ∧ W = w3.drewN q)
  have up : IntKind.i64.wrap (-(K : Int) - (b : Int)) = -(P : Int) := by rw [show -(K : Int) - (b : Int) = -(P : Int) by omega]; exact IntWalk.i64_in _ (by omega)
  go_wp2
  go_quiet (first | (go_at_call 31; with_reducible refine Calls.quiet_of_same (HP.out _)))
  have d4 : Below w3.heap.size w3 (w3.drewN nq) := ⟨rfl, rfl, rfl, Nat.le_refl _, fun _ _ => rfl⟩
  have n4 := n3.below d4
  have o4 := o3.below d4
  have B4 := below_then B3 (by have := B3.size; omega) d4
  generalize w3.drewN nq = w4 at n4 o4 B4 ⊢
  clear c5 c6 HP t3 n3 o3 B3 d4 HP0
  have HPR := Print_any A2 _ _ (limbs N) w4 o4.num (by omega)
  rw [val_limbs] at HPR
  obtain ⟨t, ht⟩ : ∃ t : ByteArray, t = ⟨(Lib.decDigits N).toArray⟩ := ⟨_, rfl⟩
  have hts : (t.size : Int) = (L : Int) := by rw [ht, ← HLE.out]; rfl
  rw [← ht] at HPR
  clear ht
  replace HPR := Lib.hid HPR
  have ut : IntKind.i64.wrap ((L : Int) + -(P : Int)) = (L : Int) - (P : Int) := by rw [show (L : Int) + -(P : Int) = (L : Int) - (P : Int) by omega]; exact IntWalk.i64_in _ (by omega)
  go_wp2_with fail
  refine HPR.out.mono ?_; rintro e w5 ⟨rfl, b5⟩
  have n5 := n4.below b5
  have o5 := o4.below b5
  have B5 := below_then B4 (by have := B4.size; omega) b5
  clear HPR n4 o4 B4 b5
  have HL := Len_any A2 _ _ (limbs N) w5 o5.num
  rw [val_limbs] at HL
  obtain ⟨bl, hbl⟩ : ∃ bl, blen N = bl := ⟨_, rfl⟩
  have hb0 : bl = 0 ↔ N = 0 := by
    constructor
    · intro e
      by_cases hz : N = 0
      · exact hz
      · have := blen_pos hz; omega
    · intro e; rw [← hbl, e]; decide
  rw [hbl] at HL
  replace HL := Lib.hid HL
  clear hbl
  go_wp2_with fail
  refine HL.out.mono ?_; rintro e w6 ⟨rfl, rfl⟩
  by_cases hN0 : N = 0
  · obtain rfl : bl = 0 := hb0.2 hN0
    go_wp2
    refine bodyPost_ret (v := .tuple #[.slice none 0 0, .slice A1 1 1, .bool false, .bool false]) (by simp [results, Tryz.results14, go_sem]) rfl ?_
    exact .inl ⟨hN0, A1, 1, 1, [1], rfl, n5.num, by omega, B5⟩
  · have hbz : ((bl : Int) == 0) = false := by have : bl ≠ 0 := fun e => hN0 (hb0.1 e); simp; omega
    have hbz2 : decide ((bl : Int) = 0) = false := by have : bl ≠ 0 := fun e => hN0 (hb0.1 e); simp; omega
    clear hb0
    by_cases hbig : 600 + P < L
    · have q1 : decide ((600 : Int) < (L : Int) - (P : Int)) = true := by simp; omega
      have q2 : (600 : Int) < (L : Int) - (P : Int) := by omega
      go_wp2
      refine bodyPost_ret (v := .tuple #[.slice none 0 0, .slice A1 1 1, .bool true, .bool false]) (by simp [results, Tryz.results14, go_sem]) rfl ?_
      exact .inr (.inl ⟨hN0, by rw [HLE.out]; exact hbig, A1, 1, 1, rfl, B5⟩)
    · have q1 : decide ((600 : Int) < (L : Int) - (P : Int)) = false := by simp; omega
      have q2 : ¬ (600 : Int) < (L : Int) - (P : Int) := by omega
      by_cases hsm : L + 600 < P
      · have q3 : decide ((L : Int) - (P : Int) < -600) = true := by simp; omega
        have q4 : (L : Int) - (P : Int) < -600 := by omega
        go_wp2
        refine bodyPost_ret (v := .tuple #[.slice none 0 0, .slice A1 1 1, .bool false, .bool true]) (by simp [results, Tryz.results14, go_sem]) rfl ?_
        exact .inr (.inr (.inl ⟨hN0, by rw [HLE.out]; exact hsm, A1, 1, 1, rfl, B5⟩))
      · have q3 : decide ((L : Int) - (P : Int) < -600) = false := by simp; omega
        have q4 : ¬ (L : Int) - (P : Int) < -600 := by omega
        by_cases hp0 : P = 0
        · have q5 : decide ((0 : Int) ≤ -(P : Int)) = true := by simp; omega
          have q6 : (0 : Int) ≤ -(P : Int) := by omega
          have q7 : -(P : Int) = 0 := by omega
          go_wp2_with fail
          have o7 : Own (w5.alloc (.cells #[.int .u32 10] 65)) w5.heap.size (some ⟨w5.heap.size, 0, none⟩) 1 1 [10] := by
            have := own_block w5 w5.heap.size [10] (Lim.cons (by omega) Lim.nil) (by simp) (by simp)
            simpa [u32s] using this
          have d7 := (Below.refl w5.heap.size w5).alloc (Nat.le_refl _) (.cells #[.int .u32 10] 65)
          have B7 := below_then B5 (by have := B5.size; omega) d7
          have o8 := o5.below d7
          have n8 := n5.below d7
          generalize w5.alloc (.cells #[.int .u32 10] 65) = w7 at o7 B7 o8 n8 ⊢
          have HPW := Pow_any _ 1 1 [10] 0 w7 o7.num (by omega) (by omega) (by decide)
          rw [show val [10] ^ 0 = 1 by rfl, show limbs 1 = [1] by rw [limbs_pos (by omega)]; simp [limbs_zero]] at HPW
          have HPW := Lib.hid HPW
          refine HPW.out.mono ?_; rintro e w8 ⟨A8, rfl, o9, b9⟩
          have o10 := o8.below b9
          have n10 := n8.below b9
          have B9 := below_then B7 (by have := B7.size; omega) b9
          clear HPW o7 d7 o8 n8 B7 b9 n5 o5 B5 HL
          have HM := Mul_any A2 A8 _ _ 1 1 (limbs N) [1] w8 o10.num o9.num (by omega)
          rw [val_limbs, show val [1] = 1 by rfl, Nat.mul_one] at HM
          replace HM := Lib.hid HM
          go_wp2_with fail
          refine HM.out.mono ?_; rintro e w9 ⟨A9, rfl, o11, b10⟩
          have n11 := n10.below b10
          have B10 := below_then B9 (by have := B9.size; omega) b10
          go_wp2
          refine bodyPost_ret (v := .tuple #[.slice A9 (limbs N).length (limbs N).length, .slice A1 1 1, .bool false, .bool false]) (by simp [results, Tryz.results14, go_sem]) rfl ?_
          exact .inr (.inr (.inr ⟨hN0, by rw [HLE.out]; omega, by rw [HLE.out]; omega, A9, _, _, A1, 1, 1, limbs N, [1], rfl, o11.num, n11.num, val_limbs _, by rw [hp0]; rfl, by omega, by omega, B10⟩))
        · have q5 : decide ((0 : Int) ≤ -(P : Int)) = false := by simp; omega
          have q6 : ¬ (0 : Int) ≤ -(P : Int) := by omega
          have q7 : IntKind.i64.wrap (-(-(P : Int))) = (P : Int) := by rw [show -(-(P : Int)) = (P : Int) by omega]; exact IntWalk.i64_in _ (by omega)
          go_wp2_with fail
          have o7 : Own (w5.alloc (.cells #[.int .u32 10] 65)) w5.heap.size (some ⟨w5.heap.size, 0, none⟩) 1 1 [10] := by
            have := own_block w5 w5.heap.size [10] (Lim.cons (by omega) Lim.nil) (by simp) (by simp)
            simpa [u32s] using this
          have d7 := (Below.refl w5.heap.size w5).alloc (Nat.le_refl _) (.cells #[.int .u32 10] 65)
          have B7 := below_then B5 (by have := B5.size; omega) d7
          have o8 := o5.below d7
          generalize w5.alloc (.cells #[.int .u32 10] 65) = w7 at o7 B7 o8 ⊢
          have HPW := Pow_any _ 1 1 [10] P w7 o7.num (by omega) (by omega) (by rw [show blen (val [10]) = 4 by decide]; omega)
          rw [show val [10] = 10 by rfl] at HPW
          have l9 : (limbs (10 ^ P)).length ≤ 20000 := by
            have := limbs_ten (x := 10 ^ P) (k := P + 1) (Nat.pow_lt_pow_right (by omega) (by omega))
            omega
          have HLT := Lib.hid l9
          obtain ⟨T, hT⟩ : ∃ T, 10 ^ P = T := ⟨_, rfl⟩
          have HTT := Lib.hid hT
          rw [hT] at HPW l9
          clear hT
          have HPW := Lib.hid HPW
          refine HPW.out.mono ?_; rintro e w8 ⟨A8, rfl, o9, b9⟩
          have o10 := o8.below b9
          have B9 := below_then B7 (by have := B7.size; omega) b9
          clear HPW o7 d7 o8 B7 b9 n5 o5 B5 HL
          go_wp2
          refine bodyPost_ret (v := .tuple #[.slice A2 (limbs N).length (limbs N).length, .slice A8 (limbs T).length (limbs T).length, .bool false, .bool false]) (by simp [results, Tryz.results14, go_sem]) rfl ?_
          exact .inr (.inr (.inr ⟨hN0, by rw [HLE.out]; omega, by rw [HLE.out]; omega, A2, _, _, A8, _, _, limbs N, limbs T, rfl, o10.num, o9.num, val_limbs _, by rw [val_limbs, HTT.out], by omega, l9, B9⟩))

end Go.Proofs.YtbcpfdeklglknaaGreatDoor
