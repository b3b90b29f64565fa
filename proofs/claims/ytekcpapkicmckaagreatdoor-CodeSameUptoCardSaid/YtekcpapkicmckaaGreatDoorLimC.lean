/- limbs.Len, limbs.Small, limbs.Add. -/
import Derived.Test.YtekcpapkicmckaaGreatDoorLimA
import Derived.Test.YtekcpapkicmckaaGreatDoorBits
namespace Go.Proofs.YtekcpapkicmckaaGreatDoor
open Go.RowKit

theorem pow_limC (n : Nat) : 4294967296 ^ n = 2 ^ (32 * n) := by rw [show (4294967296 : Nat) = 2 ^ 32 from rfl, ← Nat.pow_mul]

theorem blen_limbs {n : Nat} (h : n ≠ 0) : blen n = 32 * ((limbs n).length - 1) + blen (nth (limbs n) ((limbs n).length - 1)) := by
  have hl : (limbs n).length ≠ 0 := fun e => h (limbs_length_zero.1 e)
  obtain ⟨k, hk⟩ : ∃ k, (limbs n).length = k + 1 := ⟨(limbs n).length - 1, by omega⟩
  have ht := nth_limbs_top h
  have hv := val_take_succ' (limbs n) k
  have hb := val_take_lt (limbs_lim n) k
  rw [← hk, List.take_length, val_limbs] at hv
  rw [hk, Nat.add_sub_cancel] at ht ⊢
  generalize nth (limbs n) k = t at *
  generalize val ((limbs n).take k) = r at *
  have h1 := blen_lt t
  have h2 := blen_ge ht
  have h3 := blen_pos ht
  obtain ⟨b, hb'⟩ : ∃ b, blen t = b + 1 := ⟨blen t - 1, by omega⟩
  rw [hb', Nat.add_sub_cancel] at h2
  rw [hb'] at h1
  rw [hb', show 32 * k + (b + 1) = (32 * k + b) + 1 by omega]
  rw [pow_limC k] at hv hb
  have h4 : 2 ^ (32 * k) * 2 ^ b ≤ 2 ^ (32 * k) * t := Nat.mul_le_mul_left _ h2
  have h5 : 2 ^ (32 * k) * (t + 1) ≤ 2 ^ (32 * k) * 2 ^ (b + 1) := Nat.mul_le_mul_left _ h1
  rw [Nat.mul_add, Nat.mul_one] at h5
  apply blen_unique
  · rw [Nat.pow_add]; omega
  · rw [show 32 * k + b + 1 = 32 * k + (b + 1) by omega, Nat.pow_add]; omega

set_option maxHeartbeats 400000 in
theorem Len_any (A : Option Addr) (n c : Nat) (xs : List Nat) (w : World) (hr : Num w A n c xs) :
    Calls Tryz.prog 162 #[.slice A n c] w fun e w' => e = .returned (.int .i64 (blen (val xs) : Nat)) ∧ w = w' := by
  have hT := Lib.hid (trim_any _ _ _ _ _ hr)
  have ht := hr.trim
  have HB := Lib.hid (fun h => blen_limbs (n := val xs) h)
  have HZ := Lib.hid (limbs_length_zero (n := val xs))
  have hX := limbs_lim (val xs)
  generalize val xs = v at *
  generalize limbs v = X at *
  obtain ⟨m, hm⟩ : ∃ m, X.length = m := ⟨_, rfl⟩
  rw [hm] at hT ht HB HZ
  have hmb := ht.sl.big
  clear hm
  by_cases h0 : m = 0
  · have e : blen v = 0 := by rw [HZ.out.1 h0]; rfl
    subst h0
    rw [e]
    clear e
    go_enter Tryz.func162, Tryz.ntmps162
    go_wp2_with (first | (go_at_call 100; refine hT.out.mono ?_; rintro e w' ⟨rfl, rfl⟩))
    go_ret
    exact ⟨rfl, rfl⟩
  · have e : blen v = 32 * (m - 1) + blen (nth X (m - 1)) := HB.out (fun e => h0 (HZ.out.2 e))
    obtain ⟨b, off, rfl, hcl⟩ := ht.cells (by omega)
    have hc := hcl (m - 1) (by omega)
    have hx := nth_lt hX (m - 1)
    have hL := Lib.hid (fun W => Len32_any (nth X (m - 1)) W hx)
    have hble := blen_le (n := nth X (m - 1)) (k := 32) hx
    obtain ⟨j, rfl⟩ : ∃ j, m = j + 1 := ⟨m - 1, by omega⟩
    rw [Nat.add_sub_cancel] at *
    have HE := Lib.hid e
    clear e hcl
    generalize nth X j = x at *
    go_enter Tryz.func162, Tryz.ntmps162
    go_wp2_with (first | (go_at_call 100; refine hT.out.mono ?_; rintro e w' ⟨rfl, rfl⟩) | (go_at_call 194; refine (hL.out _).mono ?_; rintro e w' ⟨rfl, rfl⟩))
    go_ret
    exact ⟨by rw [HE.out]; simp, rfl⟩

theorem addc_step (xs ys os : List Nat) (i cr : Nat) (ho : os.length = i) (hv : val os + cr * 4294967296 ^ i = val (xs.take i) + val (ys.take i)) :
    val (os ++ [(cr + nth xs i + nth ys i) % 4294967296]) + (cr + nth xs i + nth ys i) / 4294967296 * 4294967296 ^ (i + 1) = val (xs.take (i + 1)) + val (ys.take (i + 1)) := by
  rw [val_snoc, ho, val_take_succ', val_take_succ', Nat.pow_succ]
  generalize 4294967296 ^ i = P at *
  generalize hy : cr + nth xs i + nth ys i = y
  have e3 : P * (y % 4294967296) + y / 4294967296 * (P * 4294967296) = P * y := by
    have : y = y % 4294967296 + 4294967296 * (y / 4294967296) := by omega
    conv => rhs; rw [this]
    rw [Nat.mul_add]
    simp only [Nat.mul_left_comm, Nat.mul_comm]
  have e4 : P * y = cr * P + P * nth xs i + P * nth ys i := by rw [← hy, Nat.mul_add, Nat.mul_add, Nat.mul_comm P cr]
  omega

set_option maxHeartbeats 1000000 in
theorem Add_sw (sw : Bool) (A B : Option Addr) (n c m d : Nat) (xs ys : List Nat) (w : World) (hx : Num w A n c xs) (hy : Num w B m d ys) (hmn : m ≤ n) (hsw : sw = true → m < n) (hn : n < 35184372088831) :
    Calls Tryz.prog 159 (bif sw then #[.slice B m d, .slice A n c] else #[.slice A n c, .slice B m d]) w fun e w' => ∃ A', e = .returned (.slice A' (limbs (val xs + val ys)).length (limbs (val xs + val ys)).length) ∧
      Own w' w.heap.size A' (limbs (val xs + val ys)).length (limbs (val xs + val ys)).length (limbs (val xs + val ys)) ∧ Below w.heap.size w w' := by
  have HX := Lib.hid hx.len
  have HY := Lib.hid hy.len
  have hmake := fun h1 h2 => make_row (P := Tryz.prog) 132 169 (.int .u32 0) 4 Tryz.under_sl Tryz.info_u32 rfl (by omega) 0 (n + 1) h1 h2
  replace hmake := hmake (by omega) (by omega)
  push_cast at hmake
  cases sw
  all_goals
    simp only [cond]
    first
    | have hnm : m < n := hsw rfl
      have hdec : decide (m < n) = true := by simpa using hnm
    | have hdec : decide (n < m) = false := by simp; omega
    clear hsw
    go_enter Tryz.func159, Tryz.ntmps159
    go_wp2
    go_loopw [5, 6, 21] (fun o cy ix wr => ∃ (i cr c' : Nat) (G : Option Addr) (os : List Nat), i ≤ n ∧ ix = .int .i64 i ∧ cy = .int .u64 cr ∧ o = .slice G i c' ∧ Own wr w.heap.size G i c' os ∧ Below w.heap.size w wr ∧
        cr ≤ 1 ∧ Hid (val os + cr * 4294967296 ^ i = val (xs.take i) + val (ys.take i))) (fun _ _ ix _ => n - (intOf ix).toNat)
    case atStart =>
      refine ⟨0, 0, n + 1, some ⟨w.heap.size, 0, none⟩, [], Nat.zero_le _, rfl, rfl, by first | rfl | simp, ⟨?_, Lim.nil⟩, ?_, by omega, Lib.hid (by simp [val])⟩
      · exact Mine.made 169 w w.heap.size (.int .u32 0) 0 (n + 1) (Nat.le_refl _) (by omega) (by omega)
      · exact (Below.refl _ _).alloc (Nat.le_refl _) _
    case round =>
      obtain ⟨i, cr, c', G, os, hi, rfl, rfl, rfl, hown, hb, hcr, HV⟩ := hrel
      have hbz := hb.size
      have HL := Lib.hid hown.len
      by_cases hlt : i < n
      · obtain ⟨b1, o1, rfl, hc1⟩ := hx.cells (by omega)
        have hcx : wr.cell? ⟨b1, o1 + i, none⟩ = some (.int .u32 (nth xs i : Nat)) := (hb.cell (World.block_lt_of_cell? w _ (hc1 i hlt))).trans (hc1 i hlt)
        clear hc1
        have hbx := nth_lt hx.lim i
        have hby := nth_lt hy.lim i
        have HS := Lib.hid (addc_step xs ys os i cr HL.out HV.out)
        by_cases him : i < m
        · obtain ⟨b2, o2, rfl, hc2⟩ := hy.cells (by omega)
          have hcy : wr.cell? ⟨b2, o2 + i, none⟩ = some (.int .u32 (nth ys i : Nat)) := (hb.cell (World.block_lt_of_cell? w _ (hc2 i him))).trans (hc2 i him)
          clear hc2
          generalize nth xs i = x at *
          generalize nth ys i = z at *
          go_wp2_with (first | (go_at_call 102; refine (low_int _ _ (by omega) (by omega)).mono ?_; rintro e w' ⟨rfl, rfl⟩) | (go_at_call 103; refine (high_int _ _ (by omega)).mono ?_; rintro e w' ⟨rfl, rfl⟩) |
            (at_builtin; refine app_one w.heap.size rfl _ _ _ _ (.int .u32 0) 4 rfl Tryz.under_sl Tryz.info_u32 rfl (by omega) G _ _ _ (.int .u32 (((cr : Int) + x + z) % 4294967296)) rfl rfl rfl hown.mine hbz (by omega) ?_; intro A' c2 w2 hm2 hg2 _))
          go_roundw
          case rel =>
            refine ⟨i + 1, (cr + x + z) / 4294967296, c2, A', os ++ [(cr + x + z) % 4294967296], hlt, by go_num, by first | rfl | simp, by first | rfl | simp [Nat.add_assoc], ⟨?_, ?_⟩, ?_, by omega, HS⟩
            · have e : u32s os ++ [.int .u32 (((cr : Int) + x + z) % 4294967296)] = u32s (os ++ [(cr + x + z) % 4294967296]) := by simp [u32s]
              rw [e] at hm2
              exact hm2
            · exact hown.lim.snoc (Nat.mod_lt _ (by omega))
            · exact below_grown hb hbz hg2 (fun q hq => (hown.mine.lt q hq).1)
          case measure => simp [intOf]; omega
        · have hz : nth ys i = 0 := nth_over (by rw [HY.out]; omega)
          rw [hz] at HS
          clear hz
          generalize nth xs i = x at *
          go_wp2_with (first | (go_at_call 102; refine (low_int _ _ (by omega) (by omega)).mono ?_; rintro e w' ⟨rfl, rfl⟩) | (go_at_call 103; refine (high_int _ _ (by omega)).mono ?_; rintro e w' ⟨rfl, rfl⟩) |
            (at_builtin; refine app_one w.heap.size rfl _ _ _ _ (.int .u32 0) 4 rfl Tryz.under_sl Tryz.info_u32 rfl (by omega) G _ _ _ (.int .u32 (((cr : Int) + x) % 4294967296)) rfl rfl rfl hown.mine hbz (by omega) ?_; intro A' c2 w2 hm2 hg2 _))
          go_roundw
          case rel =>
            refine ⟨i + 1, (cr + x + 0) / 4294967296, c2, A', os ++ [(cr + x + 0) % 4294967296], hlt, by go_num, by first | rfl | simp, by first | rfl | simp [Nat.add_assoc], ⟨?_, ?_⟩, ?_, by omega, HS⟩
            · have e : u32s os ++ [.int .u32 (((cr : Int) + x) % 4294967296)] = u32s (os ++ [(cr + x + 0) % 4294967296]) := by simp [u32s]
              rw [e] at hm2
              exact hm2
            · exact hown.lim.snoc (Nat.mod_lt _ (by omega))
            · exact below_grown hb hbz hg2 (fun q hq => (hown.mine.lt q hq).1)
          case measure => simp [intOf]; omega
      · obtain rfl : i = n := by omega
        have e : u32s os ++ [.int .u32 (cr : Int)] = u32s (os ++ [cr]) := by simp [u32s]
        have hv2 : val (os ++ [cr]) = val xs + val ys := by
          rw [val_snoc, HL.out, Nat.mul_comm _ cr, HV.out, List.take_of_length_le (by rw [HX.out]; omega), List.take_of_length_le (by rw [HY.out]; omega)]
        have HE := Lib.hid e
        have HV2 := Lib.hid hv2
        clear e hv2
        go_wp2_with (at_builtin; refine app_one w.heap.size rfl _ _ _ _ (.int .u32 0) 4 rfl Tryz.under_sl Tryz.info_u32 rfl (by omega) G _ _ _ (.int .u32 (cr : Int)) rfl rfl rfl hown.mine hbz (by omega) ?_; intro A' c2 w2 hm2 hg2 _)
        rw [HE.out] at hm2
        have hown2 : Own w2 w.heap.size A' (i + 1) c2 (os ++ [cr]) := ⟨hm2, hown.lim.snoc (by omega)⟩
        have h3 := hown2.trim
        rw [HV2.out] at h3
        have HT := trim_any _ _ _ _ _ hown2.num
        rw [HV2.out] at HT
        replace HT := Lib.hid HT
        refine HT.out.mono ?_
        rintro e w' ⟨rfl, rfl⟩
        go_wp2
        go_ret
        exact ⟨A', rfl, h3, below_grown hb hbz hg2 (fun q hq => (hown.mine.lt q hq).1)⟩

theorem Add_any (A B : Option Addr) (n c m d : Nat) (xs ys : List Nat) (w : World) (hx : Num w A n c xs) (hy : Num w B m d ys) (hn : n < 35184372088831) (hm : m < 35184372088831) :
    Calls Tryz.prog 159 #[.slice A n c, .slice B m d] w fun e w' => ∃ A', e = .returned (.slice A' (limbs (val xs + val ys)).length (limbs (val xs + val ys)).length) ∧
      Own w' w.heap.size A' (limbs (val xs + val ys)).length (limbs (val xs + val ys)).length (limbs (val xs + val ys)) ∧ Below w.heap.size w w' := by
  by_cases h : n < m
  · rw [Nat.add_comm]
    exact Add_sw true _ _ _ _ _ _ _ _ w hy hx (by omega) (fun _ => h) hm
  · exact Add_sw false _ _ _ _ _ _ _ _ w hx hy (by omega) (fun h => by cases h) hn

set_option maxHeartbeats 400000 in
theorem Small_any (A : Option Addr) (n c : Nat) (xs : List Nat) (w : World) (hr : Num w A n c xs) (hv : val xs < 18446744073709551616) :
    Calls Tryz.prog 168 #[.slice A n c] w fun e w' => e = .returned (.tuple #[.int .u64 (val xs), .bool true]) ∧ w = w' := by
  have hT := Lib.hid (trim_any _ _ _ _ _ hr)
  have ht := hr.trim
  have HX := Lib.hid (val_limbs (val xs))
  have hX := limbs_lim (val xs)
  have hl := limbs_length_le (n := val xs) (k := 2) hv
  generalize val xs = v at *
  generalize limbs v = X at *
  obtain ⟨m, hm⟩ : ∃ m, X.length = m := ⟨_, rfl⟩
  rw [hm] at hT ht hl
  have HM := Lib.hid hm
  clear hm
  go_enter Tryz.func168, Tryz.ntmps168
  go_wp2_with (first | (go_at_call 100; refine hT.out.mono ?_; rintro e w' ⟨rfl, rfl⟩))
  go_loop [4, 13] (fun t ix => ∃ i : Nat, i ≤ m ∧ ix = .int .i64 i ∧ t = .int .u64 (val (X.take i) : Nat)) (fun _ ix => m - (intOf ix).toNat)
  case atStart => exact ⟨0, Nat.zero_le _, rfl, by simp [val]⟩
  case round =>
    obtain ⟨i, hi, rfl, rfl⟩ := hrel
    by_cases hlt : i < m
    · obtain ⟨b, off, rfl, hcl⟩ := ht.cells (by omega)
      have hc := hcl i hlt
      have hx := nth_lt hX i
      have hs := val_take_succ' X i
      clear hcl
      have hb := val_take_lt hX i
      have hi2 : i < 2 := by omega
      generalize nth X i = x at *
      generalize val (X.take i) = z at *
      go_wp2
      go_round
      case rel =>
        refine ⟨i + 1, hlt, by go_num, ?_⟩
        rw [hs]
        rw [pow_limC i] at hb ⊢
        have hp : 2 ^ (32 * i) ≤ 4294967296 := by
          obtain rfl | rfl : i = 0 ∨ i = 1 := by omega
          · simp
          · simp
        have hm2 : x * 2 ^ (32 * i) + 2 ^ (32 * i) ≤ 4294967296 * 4294967296 := by
          have h1 : (x + 1) * 2 ^ (32 * i) ≤ 4294967296 * 4294967296 := Nat.mul_le_mul hx hp
          rwa [Nat.add_mul, Nat.one_mul] at h1
        have e0 : ((x : Int) * 2 ^ (32 * i)) = ((x * 2 ^ (32 * i) : Nat) : Int) := by push_cast; rfl
        rw [e0, wrap_u64 (by omega) (by omega)]
        rw [show Go.bits .or .u64 (z : Int) ((x * 2 ^ (32 * i) : Nat) : Int) = Go.bits .or .u64 ((x * 2 ^ (32 * i) : Nat) : Int) (z : Int) by simp only [Go.bits, BitVec.or_comm], or_join64 (32 * i) x z hb (by omega), Nat.add_comm, Nat.mul_comm]
      case measure => simp [intOf]; omega
    · obtain rfl : i = m := by omega
      have e : val (X.take i) = v := by rw [List.take_of_length_le (by rw [HM.out]; omega), HX.out]
      rw [e]
      go_wp2
      go_ret2
      exact ⟨rfl, rfl⟩

end Go.Proofs.YtekcpapkicmckaaGreatDoor
