/- The walk of thicketlaw02.FloatsWhole. -/
import Derived.Test.YtgdgdifnpdcgkaaGreatDoorExaC
import Derived.Test.YtgdgdifnpdcgkaaGreatDoorOwnA
namespace Go.Proofs.YtgdgdifnpdcgkaaGreatDoor
open Go.RowKit

/-- the text without its sign -/
def bodyT (A B : List UInt8) : List UInt8 := A ++ (if B = [] then [] else 46 :: B)
theorem exact_body (ng : Bool) (A B : List UInt8) : exactT ng A B = (if ng then [45] else []) ++ bodyT A B := rfl
theorem body_length (A B : List UInt8) : (bodyT A B).length = if B = [] then A.length else A.length + 1 + B.length := by
  unfold bodyT; split <;> simp; omega

theorem sgn_same {N Q D K : Nat} (g : Bool) (h : N * D = Q * 10 ^ K) (hD : D ≠ 0 := by exact Nat.pos_iff_ne_zero.1 (Nat.pow_pos (by omega))) : sgn g N = sgn g Q := by
  have hp : 0 < 10 ^ K := Nat.pow_pos (by omega)
  unfold sgn
  by_cases h0 : N = 0
  · subst h0
    rw [Nat.zero_mul] at h
    have : Q = 0 := by
      rcases Nat.mul_eq_zero.1 h.symm with h1 | h1
      · exact h1
      · omega
    rw [if_pos rfl, if_pos this]
  · have : Q ≠ 0 := fun e => by
      rw [e, Nat.zero_mul] at h
      rcases Nat.mul_eq_zero.1 h with h1 | h1
      · exact h0 h1
      · exact hD h1
    rw [if_neg h0, if_neg this]

theorem dv_limbs (l : List UInt8) (n : Nat) (h : AllDig l) (hl : l.length ≤ 8 * n) : (limbs (dv l)).length ≤ n := by
  apply limbs_length_le
  rw [pow_limC]
  refine Nat.lt_of_lt_of_le (dv_lt h) ?_
  refine Nat.le_trans (Nat.pow_le_pow_left (show 10 ≤ 2 ^ 4 by omega) _) ?_
  rw [← Nat.pow_mul]
  exact Nat.pow_le_pow_right (by omega) (by omega)

set_option maxRecDepth 100000 in
set_option maxHeartbeats 1000000 in
theorem whole_out (b : Nat) (w : World) (hg : Begs w) (hb : b < 18446744073709551616) (hk : (partsOf b).2.2 = 3 ∨ (partsOf b).2.2 = 4) :
    Calls Tryz.prog 4 #[.int .u64 b] w fun e w' => e = .returned (.bool true) ∧ Below w.heap.size w w' := by
  have HB := Lib.hid (begins_any w hg)
  obtain ⟨t, ht, hE⟩ := Exact_out b hb hk
  have HE := Lib.hid hE
  have HQ := Lib.hid (fun W => Quotient_nan b W hb hk)
  have ef := Tryz.f64from b
  clear hE hk hb hg
  rcases ht with rfl | rfl | rfl
  all_goals
    go_enter Tryz.func4, Tryz.ntmps4
    go_wp2_with fail
    refine HB.out.mono ?_; rintro e w1 ⟨rfl, b1⟩
    go_wp2_with fail
    refine (HE.out _).mono ?_; rintro e w' ⟨rfl, rfl⟩
    go_wp2_with fail
    refine (HQ.out _).mono ?_; rintro e w2 ⟨rfl, b2⟩
    have B2 := below_then b1 b1.size b2
    have B3 := B2.alloc B2.size (.cells #[.bool false, .slice none 0 0, .slice none 0 0] 28)
    go_wp2
    go_ret
    exact ⟨rfl, B3⟩

set_option maxRecDepth 100000 in
set_option maxHeartbeats 4000000 in
theorem whole_fin (b : Nat) (w : World) (hg : Begs w) (hb : b < 18446744073709551616) (hk : (partsOf b).2.2 ≤ 2) :
    Calls Tryz.prog 4 #[.int .u64 b] w fun e w' => e = .returned (.bool true) ∧ Below w.heap.size w w' := by
  have HB := Lib.hid (begins_any w hg)
  obtain ⟨A, B, hIE, hE⟩ := Exact_fin b hb hk
  have HE := Lib.hid hE
  have HQ := Lib.hid (fun W => Quotient_some b W hb hk)
  have ef := Tryz.f64from b
  have hsh : ((b : Int) / 9223372036854775808 == 1) = fneg b := by
    unfold fneg
    by_cases h : 9223372036854775808 ≤ b
    · have : (b : Int) / 9223372036854775808 = 1 := by omega
      simp [this, h]
    · have : (b : Int) / 9223372036854775808 = 0 := by omega
      simp [this]; omega
  clear hE hk hb hg
  have HI := Lib.hid hIE
  have hTl := body_length A B
  have hA1 := hIE.la
  have hB1 := hIE.lb
  have hA0 : 0 < A.length := List.length_pos_iff.2 hIE.ne
  have hTb : (bodyT A B).length ≤ 4000 := by rw [hTl]; split <;> omega
  clear hIE
  go_enter Tryz.func4, Tryz.ntmps4
  go_wp2_with fail
  refine HB.out.mono ?_; rintro e w1 ⟨rfl, b1⟩
  go_wp2_with fail
  refine (HE.out _).mono ?_; rintro e w' ⟨rfl, be⟩
  have B1 := below_then b1 b1.size be
  clear HE HB b1 be
  go_wp2_with fail
  refine (HQ.out _).mono ?_; rintro e w2 ⟨v, rfl, A1, c1, A2, c2, rfl, o1, o2, ap12, b2⟩
  have B2 := below_then B1 B1.size b2
  have V1 := RatVar.new w2 (sgn (fneg b) (qnum b)) (.slice A1 (limbs (qnum b / Nat.gcd (qnum b) (qden b))).length c1) (.slice A2 (limbs (qden b / Nat.gcd (qnum b) (qden b))).length c2)
  have d3 := (Below.refl w2.heap.size w2).alloc (Nat.le_refl _) (.cells #[.bool (sgn (fneg b) (qnum b)), .slice A1 (limbs (qnum b / Nat.gcd (qnum b) (qden b))).length c1, .slice A2 (limbs (qden b / Nat.gcd (qnum b) (qden b))).length c2] 28)
  have B3 := below_then B2 B2.size d3
  have p1 := (o1.below d3).num
  have p2 := (o2.below d3).num
  go_upto_region 8 with (fail)
  generalize w2.alloc (.cells #[.bool (sgn (fneg b) (qnum b)), .slice A1 (limbs (qnum b / Nat.gcd (qnum b) (qden b))).length c1, .slice A2 (limbs (qden b / Nat.gcd (qnum b) (qden b))).length c2] 28) = w3 at V1 B3 p1 p2 ⊢
  generalize w2.heap.size = T1 at V1 ⊢
  clear b2 B1 B2 d3 o1 o2 ap12 HQ ef
  rw [exact_body]
  generalize hng : fneg b = ng at *
  have HNG := Lib.hid hng
  clear hng
  generalize hT : bodyT A B = T at *
  have HT := Lib.hid hT
  clear hT
  have hT0 : 0 < T.length := by rw [hTl]; split <;> omega
  have hTA : Hid (T.head? = A.head?) := Lib.hid (by
    rw [← HT.out]; unfold bodyT
    cases A with
    | nil => simp at hA0
    | cons a r => simp)
  cases ng
  case' false =>
    obtain ⟨S, hS⟩ : ∃ S, ByteArray.mk ((if false = true then [45] else []) ++ T).toArray = S := ⟨_, rfl⟩
    have hd : S.data.toList = T := by rw [← hS]; rfl
    have hs0 : 0 < S.size := by rw [← size_data, hd]; exact hT0
    have hb0 : (((S[0]'hs0).toNat : Int) == 45) = false := by
      have h1 : S[0] = S.data.toList[0]'(by rw [size_data]; exact hs0) := rfl
      have h2 : T.head? = some S[0] := by rw [h1, ← hd, List.head?_eq_getElem?, List.getElem?_eq_getElem]
      have h3 := HI.out.da S[0] (List.mem_of_head? (hTA.out ▸ h2))
      simp
      omega
    rw [hS]
    have HSD := Lib.hid hd
    clear hd hS
    go_upto_region 13 with (fail)
    clear hb0
  case' true =>
    obtain ⟨SS, hSS⟩ : ∃ S, ByteArray.mk ((if true = true then [45] else []) ++ T).toArray = S := ⟨_, rfl⟩
    have hd : SS.data.toList = 45 :: T := by rw [← hSS]; rfl
    have hsz : SS.size = T.length + 1 := by rw [← size_data, hd]; rfl
    have hs0 : 0 < SS.size := by omega
    have hb0 : (((SS[0]'hs0).toNat : Int) == 45) = true := by
      have h1 : SS[0] = SS.data.toList[0]'(by rw [size_data]; exact hs0) := rfl
      have h2 : SS[0] = 45 := by rw [h1]; simp [hd]
      rw [h2]; rfl
    obtain ⟨S, hS⟩ : ∃ S, SS.extract 1 SS.size = S := ⟨_, rfl⟩
    have HSD : Hid (S.data.toList = T) := Lib.hid (by rw [← hS, Lib.extract_to_end, hd]; rfl)
    have sl1 : ∀ W : World, (Instr.slice 9 (.string SS) (some (.int .i64 1)) none none).run Tryz.prog W = .ok (.string S) W := fun W => by
      rw [run_slice_string_l (ht := Tryz.underlying9) (h0 := by omega) (h1 := by omega), ← hS]; rfl
    rw [hSS]
    clear hd hS hSS hsz
    go_upto_region 13 with (fail)
    clear hb0 sl1
  all_goals
    have hSz : S.size = T.length := by rw [← size_data, HSD.out]
    have HTL := Lib.hid hTl
    have HTA := hTA
    clear hTl hT0 hTA hsh
    go_wp2
    go_loop [8, 9, 10, 11] (fun dx kx px ix => ∃ (i K : Nat) (pt : Bool) (d : ByteArray), i ≤ T.length ∧ ix = .int .i64 i ∧ dx = .string d ∧ kx = .int .i64 K ∧ px = .bool pt ∧ Hid (K = i - (A.length + 1)) ∧ Hid (pt = decide (A.length < i)) ∧
      Hid (d.data.toList = A.take i ++ B.take (i - (A.length + 1))) ∧ d.size ≤ i ∧ K ≤ i) (fun _ _ _ ix => T.length - (intOf ix).toNat)
    case atStart => exact ⟨0, 0, false, ⟨#[]⟩, Nat.zero_le _, rfl, rfl, rfl, rfl, Lib.hid (by omega), Lib.hid (by simp), Lib.hid (by simp), by simp [ByteArray.size], Nat.le_refl _⟩
    case round =>
      obtain ⟨i, K, pt, d, hi, rfl, rfl, rfl, rfl, HK, HPT, HD, hds, hKi⟩ := hrel
      by_cases hlt : i < T.length
      · have hiS : i < S.size := by omega
        obtain ⟨TX, hTX⟩ : ∃ X, S.extract i (i + 1) = X := ⟨_, rfl⟩
        have hTX2 : TX.data.toList = [S[i]] := by
          rw [← hTX, Lib.extract_data, show i + 1 - i = 1 by omega, List.drop_eq_getElem_cons (by rw [size_data]; exact hiS)]
          rfl
        have hTs : TX.size = 1 := by rw [← size_data, hTX2]; rfl
        have HX := Lib.hid hTX2
        have hcS : Hid (T[i] = S[i]) := Lib.hid (by
          have h1 : S[i] = S.data.toList[i]'(by rw [size_data]; exact hiS) := rfl
          rw [h1]; simp only [HSD.out])
        have hsum : d.size + TX.size ≤ 9223372036854775807 := by omega
        have sl1 : ∀ W : World, (Instr.slice 9 (.string S) (some (.int .i64 (i : Int))) (some (.int .i64 ((i : Int) + 1))) none).run Tryz.prog W = .ok (.string TX) W := fun W => by
          rw [run_slice_string (h := Tryz.underlying9) (h0 := by omega) (h1 := by omega) (h2 := by omega), Int.toNat_natCast, show ((i : Int) + 1).toNat = i + 1 by omega, hTX]
        clear hTX hTX2
        have h3 : i < A.length ∨ i = A.length ∨ A.length < i := by omega
        rcases h3 with h3 | h3 | h3
        · have hct : Hid (T[i] = A[i]) := Lib.hid (by simp only [← HT.out, bodyT]; rw [List.getElem_append_left h3])
          have hb := HI.out.da A[i] (List.getElem_mem _)
          rw [← hct.out, hcS.out] at hb
          have hne : (((S[i]).toNat : Int) == 46) = false := by simp; omega
          have hpt : pt = false := by rw [HPT.out]; simp; omega
          subst hpt
          have HD2 : Hid ((d ++ TX).data.toList = A.take (i + 1) ++ B.take (i + 1 - (A.length + 1))) := Lib.hid (by
            rw [data_append, HD.out, HX.out, List.take_succ_eq_append_getElem h3, ← hct.out, hcS.out, show i - (A.length + 1) = 0 by omega, show i + 1 - (A.length + 1) = 0 by omega]
            simp)
          have hsz2 : (d ++ TX).size ≤ i + 1 := by rw [ByteArray.size_append]; omega
          clear hb
          go_wp2
          go_round
          case rel => exact ⟨i + 1, K, false, _, hlt, by go_num, rfl, rfl, rfl, Lib.hid (by have := HK.out; omega), Lib.hid (by simp; omega), HD2, hsz2, by omega⟩
          case measure => simp [intOf]; omega
        · have hBne : B ≠ [] := fun e => by have := HTL.out; rw [if_pos e] at this; omega
          have hct : Hid (T[i] = 46) := Lib.hid (by
            simp only [← HT.out, bodyT]
            subst h3
            simp [hBne])
          have hne : (((S[i]).toNat : Int) == 46) = true := by rw [← hcS.out, hct.out]; rfl
          have HD2 : Hid (d.data.toList = A.take (i + 1) ++ B.take (i + 1 - (A.length + 1))) := Lib.hid (by
            rw [HD.out, show i - (A.length + 1) = 0 by omega, show i + 1 - (A.length + 1) = 0 by omega, List.take_of_length_le (l := A) (i := i) (by omega), List.take_of_length_le (l := A) (i := i + 1) (by omega)])
          have hle : i ≤ A.length := by omega
          have hge : A.length ≤ i := by omega
          clear h3
          go_wp2
          go_round
          case rel => exact ⟨i + 1, K, true, d, hlt, by go_num, rfl, rfl, rfl, Lib.hid (by have := HK.out; omega), Lib.hid (by simp; omega), HD2, by omega, by omega⟩
          case measure => simp [intOf]; omega
        · have hBne : B ≠ [] := fun e => by have := HTL.out; rw [if_pos e] at this; omega
          have hjB : i - (A.length + 1) < B.length := by have := HTL.out; rw [if_neg hBne] at this; omega
          have hct : Hid (T[i] = B[i - (A.length + 1)]) := Lib.hid (by
            simp only [← HT.out, bodyT, if_neg hBne]
            rw [List.getElem_append_right (by omega)]
            simp only [List.getElem_cons]
            rw [dif_neg (by omega)]
            congr 1)
          have hb := HI.out.db B[i - (A.length + 1)] (List.getElem_mem _)
          rw [← hct.out, hcS.out] at hb
          have hne : (((S[i]).toNat : Int) == 46) = false := by simp; omega
          have hpt : pt = true := by rw [HPT.out]; simp; omega
          subst hpt
          have HD2 : Hid ((d ++ TX).data.toList = A.take (i + 1) ++ B.take (i + 1 - (A.length + 1))) := Lib.hid (by
            rw [data_append, HD.out, HX.out, List.take_of_length_le (l := A) (i := i) (by omega), List.take_of_length_le (l := A) (i := i + 1) (by omega), show i + 1 - (A.length + 1) = (i - (A.length + 1)) + 1 by omega, List.take_succ_eq_append_getElem hjB, ← hct.out, hcS.out]
            simp)
          have hsz2 : (d ++ TX).size ≤ i + 1 := by rw [ByteArray.size_append]; omega
          clear hb
          go_wp2
          go_round
          case rel => exact ⟨i + 1, K + 1, true, _, hlt, by go_num, rfl, by go_num, rfl, Lib.hid (by have := HK.out; omega), Lib.hid (by simp; omega), HD2, hsz2, by omega⟩
          case measure => simp [intOf]; omega
      · obtain rfl : T.length = i := by omega
        have hend : T.length - (A.length + 1) = B.length ∧ A.take T.length = A ∧ B.take (T.length - (A.length + 1)) = B := by
          have h1 := HTL.out
          by_cases hBe : B = []
          · rw [if_pos hBe] at h1
            subst hBe
            exact ⟨by simp; omega, List.take_of_length_le (by omega), by simp⟩
          · rw [if_neg hBe] at h1
            exact ⟨by omega, List.take_of_length_le (by omega), List.take_of_length_le (by omega)⟩
        have hdd : d.data.toList = A ++ B := by rw [HD.out, hend.2.1, hend.2.2]
        have hK : K = B.length := by rw [HK.out, hend.1]
        subst hK
        have hds2 : 0 < d.size := by rw [← size_data, hdd, List.length_append]; omega
        have hR := Read_any d w3 (by rw [hdd]; exact HI.out.da.append HI.out.db) hds2 (by omega)
        rw [hdd] at hR
        have HR := Lib.hid hR
        clear hR hend HD HK hdd
        go_wp2_with fail
        refine HR.out.mono ?_; rintro e w4 ⟨A3, rfl, o3, b3⟩
        have hlaw := HI.out.law
        have hlN := dv_limbs (A ++ B) 400 (HI.out.da.append HI.out.db) (by rw [List.length_append]; omega)
        generalize dv (A ++ B) = N at o3 hlaw hlN ⊢
        generalize hKK : B.length = K at *
        have HLAW := Lib.hid hlaw
        clear HR HPT HTL HTA HT hlaw hi hds hlt hKi hds2 HI hKK
        have B4 := below_then B3 B3.size b3
        have q1 := p1.below b3
        have q2 := p2.below b3
        have V2 := V1.below b3
        clear B3 p1 p2 V1 b3
        go_wp2_with fail
        have o7 : Own (w4.alloc (.cells #[.int .u32 10] 32)) w4.heap.size (some ⟨w4.heap.size, 0, none⟩) 1 1 [10] := by
          have := own_block w4 w4.heap.size [10] (Lim.cons (by omega) Lim.nil) (by simp) (by simp)
          simpa [u32s] using this
        have d7 := (Below.refl w4.heap.size w4).alloc (Nat.le_refl _) (.cells #[.int .u32 10] 32)
        have B7 := below_then B4 B4.size d7
        have r1 := q1.below d7
        have r2 := q2.below d7
        have V3 := V2.below d7
        have o8 := o3.below d7
        generalize w4.alloc (.cells #[.int .u32 10] 32) = w7 at o7 B7 r1 r2 V3 o8 ⊢
        have HPW := Pow_any _ 1 1 [10] K w7 o7.num (by omega) (by omega) (by rw [show blen (val [10]) = 4 by decide]; omega)
        rw [show val [10] = 10 by rfl] at HPW
        replace HPW := Lib.hid HPW
        refine HPW.out.mono ?_; rintro e w8 ⟨A8, rfl, o9, b9⟩
        have l9 := pow_bd 10 K K 2049 rfl (by rw [show blen 10 = 4 by decide]; omega) (Nat.le_refl _)
        have B9 := below_then B7 B7.size b9
        have s1 := r1.below b9
        have s2 := r2.below b9
        have V4 := V3.below b9
        have o10 := o8.below b9
        clear HPW o7 d7 q1 q2 V2 o3 B4 r1 r2 V3 o8 B7 b9
        have HO := Over_some (fneg b) _ _ _ _ _ _ _ _ w8 o10.num o9.num (by rw [val_limbs]; exact Nat.pos_iff_ne_zero.1 (Nat.pow_pos (by omega))) (by omega) (by omega)
        rw [HNG.out, val_limbs, val_limbs] at HO
        replace HO := Lib.hid HO
        go_wp2_with fail
        refine HO.out.mono ?_; rintro e w9 ⟨v, rfl, A5, c5, A6, c6, rfl, o5, o6, -, b5⟩
        obtain ⟨e1, e2⟩ := lowest_same (a := N) (b := 10 ^ K) (c := qnum b) (d := qden b) (Nat.pos_iff_ne_zero.1 (Nat.pow_pos (by omega))) (Nat.pos_iff_ne_zero.1 (Nat.pow_pos (by omega))) HLAW.out
        have e3 := fun g => sgn_same (K := K) g HLAW.out
        rw [e1] at o5 ⊢
        rw [e2] at o6 ⊢
        rw [e3]
        generalize qnum b / Nat.gcd (qnum b) (qden b) = X at s1 s2 V4 o5 o6 ⊢
        generalize qden b / Nat.gcd (qnum b) (qden b) = Y at s1 s2 V4 o5 o6 ⊢
        generalize sgn _ (qnum b) = sg at V4 ⊢
        clear e1 e2 e3 HO HLAW o9 o10
        have V5 := V4.below b5
        have t1 := s1.below b5
        have t2 := s2.below b5
        have B10 := below_then B9 B9.size b5
        have W := RatVar.new w9 sg (.slice A5 (limbs X).length c5) (.slice A6 (limbs Y).length c6)
        have d9 := (Below.refl w9.heap.size w9).alloc (Nat.le_refl _) (.cells #[.bool sg, .slice A5 (limbs X).length c5, .slice A6 (limbs Y).length c6] 28)
        have B11 := below_then B10 B10.size d9
        have V6 := V5.below d9
        have u1 := t1.below d9
        have u2 := t2.below d9
        have o5' := (o5.below d9).num
        have o6' := (o6.below d9).num
        go_upto_region 31 with (fail)
        generalize w9.alloc (.cells #[.bool sg, .slice A5 (limbs X).length c5, .slice A6 (limbs Y).length c6] 28) = w10 at W B11 V6 u1 u2 o5' o6' ⊢
        generalize w9.heap.size = T2 at W ⊢
        clear V4 V5 s1 s2 t1 t2 B9 B10 b5 o5 o6 d9 l9 hlN
        have k0 := W.c0
        have k1 := W.c1
        have j0 := V6.c0
        have j1 := V6.c1
        have H1 := Lib.hid (same_eq _ _ _ _ _ _ _ w10 o5' u1)
        go_wp2_with fail
        refine H1.out.mono ?_; rintro e w' ⟨rfl, q, rfl⟩
        have d10 := drawn_below w10 q
        have W' := W.below d10
        have V7 := V6.below d10
        have o7' := o6'.below d10
        have u3 := u2.below d10
        have B12 := below_then B11 B11.size d10
        generalize w10.drewN q = w11 at W' V7 o7' u3 B12 ⊢
        clear H1 k0 k1 j0 j1 W V6 o5' o6' u1 u2 B11 d10
        have k2 := W'.c2
        have j2 := V7.c2
        have H2 := Lib.hid (same_eq _ _ _ _ _ _ _ w11 o7' u3)
        go_wp2_with fail
        refine H2.out.mono ?_; rintro e w' ⟨rfl, q2, rfl⟩
        have B13 := below_then B12 B12.size (drawn_below w11 q2)
        go_wp2
        go_ret
        exact ⟨rfl, B13⟩

theorem whole_law (b : Nat) (w : World) (hg : Begs w) (hb : b < 18446744073709551616) :
    Calls Tryz.prog 4 #[.int .u64 b] w fun e w' => e = .returned (.bool true) ∧ Below w.heap.size w w' := by
  by_cases hk : (partsOf b).2.2 ≤ 2
  · exact whole_fin b w hg hb hk
  · exact whole_out b w hg hb (by have := (partsOf_bd b).2.2.2; omega)

end Go.Proofs.YtgdgdifnpdcgkaaGreatDoor
