/- The reference's naturals (thicketref02): cmp, size, minus, divide. -/
import Derived.Test.YtilbadhadnockaaDoorRefN
import Derived.Test.YtilbadhadnockaaDoorLimC
import Derived.Test.YtilbadhadnockaaDoorLongP
namespace Go.Proofs.YtilbadhadnockaaDoor
open Go.RowKit

set_option maxHeartbeats 400000 in
theorem rcmp_any (A B : Option Addr) (n c m d a b : Nat) (w : World) (hx : Num w A n c (limbs a)) (hy : Num w B m d (limbs b)) :
    Calls Tryd.prog 26 #[.slice A n c, .slice B m d] w fun e w' => e = .returned (.int .i64 (cmpNat a b)) ∧ ∃ q, w' = w.drewN q := by
  have HP := Lib.hid hx.len
  have HQ := Lib.hid hy.len
  have hpb := hx.sl.big
  have hqb := hy.sl.big
  by_cases hpq : n = m
  · subst hpq
    have hLX := limbs_lim a
    have hLY := limbs_lim b
    have EX := Lib.hid (val_limbs a)
    have EY := Lib.hid (val_limbs b)
    generalize limbs a = X at *
    generalize limbs b = Y at *
    go_enter Tryd.func26, Tryd.ntmps26
    go_wp2
    go_loopw [5] (fun ix wr => ∃ (k q : Nat), k ≤ n ∧ ix = .int .i64 ((k : Int) - 1) ∧ wr = w.drewN q ∧ X.drop k = Y.drop k) (fun ix _ => (intOf ix + 1).toNat)
    case atStart => exact ⟨n, 0, Nat.le_refl _, rfl, rfl, by rw [List.drop_of_length_le (by rw [HP.out]; omega), List.drop_of_length_le (by rw [HQ.out]; omega)]⟩
    case round =>
      obtain ⟨k, q, hk, rfl, rfl, hd⟩ := hrel
      have HD := Lib.hid hd
      clear hd
      by_cases h0 : k = 0
      · subst h0
        go_wp2
        go_ret
        have e : cmpNat a b = 0 := by
          have h1 : X = Y := by simpa using HD.out
          have h2 : a = b := by rw [← EX.out, ← EY.out, h1]
          unfold cmpNat; rw [h2]; simp
        exact ⟨by rw [e]; rfl, q, rfl⟩
      · obtain ⟨j, rfl⟩ : ∃ j, k = j + 1 := ⟨k - 1, by omega⟩
        obtain ⟨b1, o1, rfl, hc1⟩ := hx.cells (by omega)
        obtain ⟨b2, o2, rfl, hc2⟩ := hy.cells (by omega)
        have hcx := hc1 j (by omega)
        have hcy := hc2 j (by omega)
        clear hc1 hc2
        have hbx := nth_lt hLX j
        have hby := nth_lt hLY j
        by_cases hxy : nth X j = nth Y j
        · have HE := Lib.hid hxy
          rw [hxy] at hcx
          clear hxy
          go_wp2
          go_quiet (fail)
          go_wp2
          go_roundw
          case rel =>
            refine ⟨j, _, by omega, by go_num, by first | rfl | (simp only [World.drewN_drewN]; rfl), ?_⟩
            rw [drop_nth (by rw [HP.out]; omega), drop_nth (xs := Y) (by rw [HQ.out]; omega), HD.out, HE.out]
          case measure => simp [intOf]
        · have hne : (((nth X j : Nat) : Int) != ((nth Y j : Nat) : Int)) = true := by simp; omega
          by_cases hlt : nth X j < nth Y j
          · have e : cmpNat a b = -1 := by
              have := cmp_at (xs := X) (ys := Y) hLX j HD.out hlt
              rw [EX.out, EY.out] at this
              unfold cmpNat; rw [if_pos this]
            have hdec : decide (nth X j < nth Y j) = true := by simpa using hlt
            have HE := Lib.hid e
            clear e hxy
            go_wp2
            go_quiet (fail)
            go_wp2
            go_quiet (fail)
            go_wp2
            go_ret
            exact ⟨by rw [HE.out]; rfl, _, by rw [World.drewN_drewN, World.drewN_drewN]⟩
          · have e : cmpNat a b = 1 := by
              have := cmp_at (xs := Y) (ys := X) hLY j HD.out.symm (by omega)
              rw [EX.out, EY.out] at this
              unfold cmpNat; rw [if_neg (by omega), if_pos this]
            have hdec : decide (nth X j < nth Y j) = false := by simpa using hlt
            have HE := Lib.hid e
            clear e hxy
            go_wp2
            go_quiet (fail)
            go_wp2
            go_quiet (fail)
            go_wp2
            go_ret
            exact ⟨by rw [HE.out]; rfl, _, by rw [World.drewN_drewN, World.drewN_drewN]⟩
  · have hne : ((n : Int) != (m : Int)) = true := by simp; omega
    have HN := Lib.hid hpq
    clear hpq
    go_enter Tryd.func26, Tryd.ntmps26
    by_cases hlt : n < m
    · have e : cmpNat a b = -1 := by
        have := cmp_len (a := a) (b := b) (by rw [HP.out, HQ.out]; exact hlt)
        unfold cmpNat; rw [if_pos this]
      go_wp2
      go_ret
      exact ⟨by rw [e]; rfl, 0, rfl⟩
    · have e : cmpNat a b = 1 := by
        have := cmp_len (a := b) (b := a) (by rw [HP.out, HQ.out]; have := HN.out; omega)
        unfold cmpNat; rw [if_neg (by omega), if_pos this]
      go_wp2
      go_ret
      exact ⟨by rw [e]; rfl, 0, rfl⟩

set_option maxHeartbeats 400000 in
theorem rsize_any (A : Option Addr) (n c a : Nat) (w : World) (hr : Num w A n c (limbs a)) :
    Calls Tryd.prog 23 #[.slice A n c] w fun e w' => e = .returned (.int .i64 (blen a : Nat)) ∧ w = w' := by
  have hnb := hr.sl.big
  have HL := Lib.hid hr.len
  by_cases h0 : n = 0
  · have e : blen a = 0 := by
      have : a = 0 := limbs_length_zero.1 (by rw [HL.out, h0])
      rw [this]; rfl
    subst h0
    rw [e]
    clear e
    go_enter Tryd.func23, Tryd.ntmps23
    go_wp2
    go_ret
    exact ⟨rfl, rfl⟩
  · have e := blen_limbs (n := a) (fun e => h0 (by rw [← HL.out, e, limbs_zero]; rfl))
    rw [HL.out] at e
    obtain ⟨b, off, rfl, hcl⟩ := hr.cells (by omega)
    have hc := hcl (n - 1) (by omega)
    have hx := nth_lt (limbs_lim a) (n - 1)
    obtain ⟨j, rfl⟩ : ∃ j, n = j + 1 := ⟨n - 1, by omega⟩
    rw [Nat.add_sub_cancel] at e hc hx
    have hble := blen_le (n := nth (limbs a) j) (k := 32) hx
    have HE := Lib.hid e
    clear e hcl
    generalize nth (limbs a) j = x at *
    go_enter Tryd.func23, Tryd.ntmps23
    go_wp2
    go_loop [3, 4] (fun t v => ∃ (k y : Nat), t = .int .i64 k ∧ v = .int .u32 y ∧ y < 4294967296 ∧ k + blen y = 32 * j + blen x) (fun _ v => (intOf v).toNat)
    case atStart => exact ⟨32 * j, x, by go_num, rfl, hx, rfl⟩
    case round =>
      obtain ⟨k, y, rfl, rfl, hy, hk⟩ := hrel
      by_cases hy0 : y = 0
      · subst hy0
        rw [blen_zero] at hk
        have HK := Lib.hid hk
        clear hk
        go_wp2
        go_ret
        exact ⟨by rw [HE.out, ← HK.out]; rfl, rfl⟩
      · have hp : 0 < y := by omega
        have hh := blen_half y hy0
        have hkb : k ≤ 32 * j + 32 := by omega
        have HK := Lib.hid hk
        have HH := Lib.hid hh
        clear hk hh hy0
        go_wp2
        go_round
        case rel =>
          refine ⟨k + 1, y / 2, by go_num, by go_num, by omega, ?_⟩
          have h1 := HK.out
          have h2 := HH.out
          omega
        case measure => simp [intOf]; omega

theorem minus_step (xs ys os : List Nat) (i : Nat) (cr : Int) (ho : os.length = i) (hv : (val os : Int) + cr * (4294967296 ^ i : Nat) = (val (xs.take i) : Int) - val (ys.take i)) :
    (val (os ++ [((cr + nth xs i - nth ys i) % 4294967296).toNat]) : Int) + (cr + nth xs i - nth ys i) / 4294967296 * (4294967296 ^ (i + 1) : Nat) = (val (xs.take (i + 1)) : Int) - val (ys.take (i + 1)) := by
  rw [val_snoc, ho, val_take_succ', val_take_succ', Nat.pow_succ]
  generalize 4294967296 ^ i = P at *
  generalize hy : cr + nth xs i - nth ys i = y
  obtain ⟨r, hr⟩ : ∃ r : Nat, y % 4294967296 = r := ⟨(y % 4294967296).toNat, by omega⟩
  rw [hr, Int.toNat_natCast]
  have e1 : y = r + 4294967296 * (y / 4294967296) := by omega
  generalize y / 4294967296 = q at *
  have c1 : ((P * 4294967296 : Nat) : Int) = P * 4294967296 := by rw [Int.natCast_mul]; rfl
  rw [c1]
  simp only [Int.natCast_add, Int.natCast_mul]
  have e2 : (P : Int) * (cr + nth xs i - nth ys i) = P * (r + 4294967296 * q) := by rw [hy, e1]
  rw [Int.mul_sub, Int.mul_add, Int.mul_add] at e2
  have e3 : q * ((P : Int) * 4294967296) = P * (4294967296 * q) := by
    rw [Int.mul_comm q, Int.mul_assoc]
  have e4 : cr * (P : Int) = P * cr := Int.mul_comm _ _
  omega

set_option maxHeartbeats 1000000 in
theorem rminus_any (A B : Option Addr) (n c m d a b : Nat) (w : World) (hx : Num w A n c (limbs a)) (hy : Num w B m d (limbs b)) (hba : b ≤ a) (hn : n < 35184372088831) :
    Calls Tryd.prog 33 #[.slice A n c, .slice B m d] w fun e w' => ∃ A' c', e = .returned (.slice A' (limbs (a - b)).length c') ∧
      Num w' A' (limbs (a - b)).length c' (limbs (a - b)) ∧ Below w.heap.size w w' := by
  have HX := Lib.hid hx.len
  have HY := Lib.hid hy.len
  have hmn : m ≤ n := by rw [← hx.len, ← hy.len]; exact limbs_length_mono hba
  have EX := Lib.hid (val_limbs a)
  have EY := Lib.hid (val_limbs b)
  generalize limbs a = xs at *
  generalize limbs b = ys at *
  go_enter Tryd.func33, Tryd.ntmps33
  go_wp2
  go_loopw [5, 6, 7] (fun o cy ix wr => ∃ (i c' : Nat) (cr : Int) (G : Option Addr) (os : List Nat), i ≤ n ∧ ix = .int .i64 i ∧ cy = .int .i64 cr ∧ o = .slice G i c' ∧ Own wr w.heap.size G i c' os ∧ Below w.heap.size w wr ∧
      -1 ≤ cr ∧ cr ≤ 0 ∧ Hid ((val os : Int) + cr * (4294967296 ^ i : Nat) = (val (xs.take i) : Int) - val (ys.take i))) (fun _ _ ix _ => n - (intOf ix).toNat)
  case atStart => exact ⟨0, 0, 0, none, [], Nat.zero_le _, rfl, rfl, rfl, Own.nil _ _, Below.refl _ _, by omega, by omega, Lib.hid (by simp [val])⟩
  case round =>
    obtain ⟨i, c', cr, G, os, hi, rfl, rfl, rfl, hown, hb, hc1, hc2, HV⟩ := hrel
    have hbz := hb.size
    have HL := Lib.hid hown.len
    by_cases hlt : i < n
    · obtain ⟨b1, o1, rfl, hcl1⟩ := hx.cells (by omega)
      have hcx : wr.cell? ⟨b1, o1 + i, none⟩ = some (.int .u32 (nth xs i : Nat)) := (hb.cell (World.block_lt_of_cell? w _ (hcl1 i hlt))).trans (hcl1 i hlt)
      clear hcl1
      have hbx := nth_lt hx.lim i
      have hby := nth_lt hy.lim i
      have HS := Lib.hid (minus_step xs ys os i cr HL.out HV.out)
      by_cases him : i < m
      · obtain ⟨b2, o2, rfl, hcl2⟩ := hy.cells (by omega)
        have hcy : wr.cell? ⟨b2, o2 + i, none⟩ = some (.int .u32 (nth ys i : Nat)) := (hb.cell (World.block_lt_of_cell? w _ (hcl2 i him))).trans (hcl2 i him)
        clear hcl2
        generalize nth xs i = x at *
        generalize nth ys i = z at *
        go_wp2_with (first |
          (at_builtin; refine app_one w.heap.size rfl _ _ _ _ (.int .u32 0) 4 rfl Tryd.under_sl Tryd.info_u32 rfl (by omega) G _ _ _ (.int .u32 ((cr + x - z) % 4294967296)) rfl rfl rfl hown.mine hbz (by omega) ?_; intro A' c2 w2 hm2 hg2 _))
        go_roundw
        case rel =>
          refine ⟨i + 1, c2, (cr + x - z) / 4294967296, A', os ++ [((cr + x - z) % 4294967296).toNat], hlt, by go_num, rfl, rfl, ⟨?_, ?_⟩, ?_, by omega, by omega, HS⟩
          · have e : u32s os ++ [.int .u32 ((cr + x - z) % 4294967296)] = u32s (os ++ [((cr + x - z) % 4294967296).toNat]) := by
              have h0 : 0 ≤ (cr + x - z) % 4294967296 := by omega
              simp [u32s, Int.max_eq_left h0]
            rw [e] at hm2
            exact hm2
          · exact hown.lim.snoc (by omega)
          · exact below_grown hb hbz hg2 (fun q hq => (hown.mine.lt q hq).1)
        case measure => simp [intOf]; omega
      · have hz : nth ys i = 0 := nth_over (by rw [HY.out]; omega)
        rw [hz] at HS
        clear hz
        generalize nth xs i = x at *
        go_wp2_with (first |
          (at_builtin; refine app_one w.heap.size rfl _ _ _ _ (.int .u32 0) 4 rfl Tryd.under_sl Tryd.info_u32 rfl (by omega) G _ _ _ (.int .u32 ((cr + x) % 4294967296)) rfl rfl rfl hown.mine hbz (by omega) ?_; intro A' c2 w2 hm2 hg2 _))
        go_roundw
        case rel =>
          refine ⟨i + 1, c2, (cr + x - (0 : Nat)) / 4294967296, A', os ++ [((cr + x - (0 : Nat)) % 4294967296).toNat], hlt, by go_num, by simp, rfl, ⟨?_, ?_⟩, ?_, by omega, by omega, HS⟩
          · have e : u32s os ++ [.int .u32 ((cr + x) % 4294967296)] = u32s (os ++ [((cr + x - (0 : Nat)) % 4294967296).toNat]) := by
              have h0 : 0 ≤ (cr + x) % 4294967296 := by omega
              simp [u32s, Int.max_eq_left h0]
            rw [e] at hm2
            exact hm2
          · exact hown.lim.snoc (by omega)
          · exact below_grown hb hbz hg2 (fun q hq => (hown.mine.lt q hq).1)
        case measure => simp [intOf]; omega
    · obtain rfl : i = n := by omega
      have h1 := HV.out
      rw [List.take_of_length_le (by rw [HX.out]; omega), List.take_of_length_le (by rw [HY.out]; omega), EX.out, EY.out] at h1
      have h2 := val_lt hown.lim
      rw [HL.out] at h2
      have hv : val os = a - b := by
        generalize 4294967296 ^ i = P at *
        obtain rfl | rfl : cr = 0 ∨ cr = -1 := by omega
        · omega
        · omega
      have hN := rnorm_any _ _ _ _ _ hown.num
      have h3 := hown.top
      rw [hv] at h3 hN
      have HN := Lib.hid hN
      clear h1 h2 hv hN
      go_wp2_with (first | (go_at_call 15; refine HN.out.mono ?_; rintro e w' ⟨rfl, rfl⟩))
      go_ret
      exact ⟨G, c', rfl, h3, hb⟩

theorem cmpNat_ge {a b : Nat} (h : b ≤ a) : 0 ≤ cmpNat a b := by unfold cmpNat; rw [if_neg (by omega)]; split <;> omega
theorem cmpNat_lt {a b : Nat} (h : a < b) : cmpNat a b = -1 := by unfold cmpNat; rw [if_pos h]
theorem div_ge {a b q r i : Nat} (hv : a = q * 2 ^ (i + 1) * b + r) (hr : r < b * 2 ^ (i + 1)) (h : b * 2 ^ i ≤ r) :
    a = (2 * q + 1) * 2 ^ i * b + (r - b * 2 ^ i) ∧ r - b * 2 ^ i < b * 2 ^ i := by
  rw [Nat.pow_succ] at hv hr
  have e1 : (2 * q + 1) * 2 ^ i * b = q * (2 ^ i * 2) * b + b * 2 ^ i := by
    rw [Nat.add_mul, Nat.add_mul, Nat.one_mul, Nat.mul_comm b, Nat.mul_comm 2 q, Nat.mul_assoc q, Nat.mul_comm 2]
  have e2 : b * (2 ^ i * 2) = 2 * (b * 2 ^ i) := by rw [← Nat.mul_assoc, Nat.mul_comm]
  rw [e2] at hr
  rw [e1]
  omega
theorem div_lt {a b q r i : Nat} (hv : a = q * 2 ^ (i + 1) * b + r) (h : r < b * 2 ^ i) : a = 2 * q * 2 ^ i * b + r ∧ r < b * 2 ^ i := by
  refine ⟨?_, h⟩
  rw [hv, Nat.pow_succ, Nat.mul_comm (2 ^ i) 2, ← Nat.mul_assoc q, Nat.mul_comm q 2]
theorem div_end {a b q r : Nat} (hv : a = q * 2 ^ 0 * b + r) (h : r < b * 2 ^ 0) : a / b = q ∧ a % b = r := by
  rw [Nat.pow_zero, Nat.mul_one] at hv h
  have := Nat.div_mod_unique (a := a) (b := b) (c := r) (d := q) (by omega)
  exact this.2 ⟨by rw [hv, Nat.mul_comm, Nat.add_comm], h⟩

set_option maxHeartbeats 1000000 in
theorem rdivide_any (A B : Option Addr) (n c m d a b : Nat) (w : World) (hx : Num w A n c (limbs a)) (hy : Num w B m d (limbs b)) (hb0 : b ≠ 0) (hs : blen a ≤ blen b + 62) (hn : n < 35184372088000) (hm : m < 35184372088000) :
    Calls Tryd.prog 25 #[.slice A n c, .slice B m d] w fun e w' => ∃ A' c', e = .returned (.tuple #[.int .u64 (a / b : Nat), .slice A' (limbs (a % b)).length c']) ∧
      Num w' A' (limbs (a % b)).length c' (limbs (a % b)) ∧ Below w.heap.size w w' := by
  have HS1 := Lib.hid (rsize_any _ _ _ _ _ hx)
  have HS2 := Lib.hid (rsize_any _ _ _ _ _ hy)
  have hab : a < b * 2 ^ ((blen a : Int) - blen b + 1).toNat := by
    have h1 := blen_lt a
    have h2 := blen_ge hb0
    have h3 := blen_pos hb0
    have h4 : 2 ^ blen a ≤ 2 ^ (blen b - 1) * 2 ^ ((blen a : Int) - blen b + 1).toNat := by
      rw [← Nat.pow_add]; exact Nat.pow_le_pow_right (by omega) (by omega)
    have h5 := Nat.mul_le_mul_right (2 ^ ((blen a : Int) - blen b + 1).toNat) h2
    omega
  have hla : n = (limbs a).length := hx.len.symm
  have hla2 : blen a ≤ 32 * n := blen_le (by rw [← pow_limC, hla]; exact limbs_lt_pow a)
  have hlb : m = (limbs b).length := hy.len.symm
  have hlb2 : blen b ≤ 32 * m := blen_le (by rw [← pow_limC, hlb]; exact limbs_lt_pow b)
  have HBA := Lib.hid hab
  have HLA := Lib.hid hla
  clear hab hla hlb
  generalize blen a = la at *
  generalize blen b = lb at *
  obtain ⟨j0, hj0⟩ : ∃ j0 : Int, (la : Int) - lb = j0 := ⟨_, rfl⟩
  rw [hj0] at HBA
  have HJ := Lib.hid hj0
  go_enter Tryd.func25, Tryd.ntmps25
  go_wp2_with fail
  refine HS1.out.mono ?_; rintro e w' ⟨rfl, rfl⟩
  go_wp2_with fail
  refine HS2.out.mono ?_; rintro e w' ⟨rfl, rfl⟩
  go_wp2_with fail
  have hj1 : j0 ≤ 62 := by omega
  have hj2 : -2251799813685248 ≤ j0 := by omega
  clear hj0 hs hla2 hlb2 HS1 HS2
  have hA : Hid (a < b * 9223372036854775808) := Lib.hid (Nat.lt_of_lt_of_le HBA.out (Nat.mul_le_mul_left _ (show 2 ^ (j0 + 1).toNat ≤ 2 ^ 63 from Nat.pow_le_pow_right (by omega) (by omega))))
  go_loopw [0, 6, 8] (fun av qv iv wr => ∃ (j : Int) (q Q r c' : Nat) (A' : Option Addr), iv = .int .i64 j ∧ -2251799813685249 ≤ j ∧ j ≤ 62 ∧ qv = .int .u64 Q ∧ av = .slice A' (limbs r).length c' ∧ Num wr A' (limbs r).length c' (limbs r) ∧ Below w.heap.size w wr ∧
      Hid (Q = q * 2 ^ (j + 1).toNat) ∧ Hid (a = q * 2 ^ (j + 1).toNat * b + r ∧ r < b * 2 ^ (j + 1).toNat)) (fun _ _ iv _ => (intOf iv + 1).toNat)
  case atStart =>
    have e : n = (limbs a).length := hx.len.symm
    subst e
    exact ⟨j0, 0, 0, a, c, A, rfl, by omega, hj1, rfl, rfl, hx, Below.refl _ _, Lib.hid (by simp), Lib.hid ⟨by simp, HBA.out⟩⟩
  case round =>
    obtain ⟨j, q, Q, r, c', A', rfl, h1, h2, rfl, rfl, hr, hb, HQ, HV⟩ := hrel
    clear hx
    have hra : r ≤ a := by have := HV.out.1; omega
    have hlr : (limbs r).length ≤ n := by have := limbs_length_mono hra; have := HLA.out; omega
    by_cases h0 : 0 ≤ j
    · obtain ⟨i, rfl⟩ := Int.eq_ofNat_of_zero_le h0
      rw [show ((i : Int) + 1).toNat = i + 1 by omega] at HQ HV
      have hyr := hy.below hb
      have U := rup_any _ _ _ _ i wr hyr (by omega) (by omega)
      rw [val_limbs] at U
      have HU := Lib.hid U
      clear U hyr h0 h1
      obtain ⟨lr, hl⟩ : ∃ lr, (limbs r).length = lr := ⟨_, rfl⟩
      rw [hl] at hr hlr ⊢
      have HL := Lib.hid hl
      clear hl
      obtain ⟨t, ht⟩ : ∃ t, b * 2 ^ i = t := ⟨_, rfl⟩
      rw [ht] at HU
      have HT := Lib.hid ht
      obtain ⟨lt, hlt⟩ : ∃ lt, (limbs t).length = lt := ⟨_, rfl⟩
      rw [hlt] at HU
      clear ht hlt
      have hi : i ≤ 62 := by omega
      go_wp2_with fail
      refine HU.out.mono ?_; rintro e w1 ⟨A1, c1, rfl, hn1, hb1⟩
      have hr1 := hr.below hb1
      have hb2 := below_then hb hb.size hb1
      have HC := Lib.hid (rcmp_any _ _ _ _ _ _ r t w1 hr1 hn1)
      clear hr hb hb1 HU
      by_cases htr : t ≤ r
      · have hcv := cmpNat_ge htr
        have HM := Lib.hid (fun q => rminus_any _ _ _ _ _ _ r t (w1.drewN q) (hr1.drewN q) (hn1.drewN q) htr (by omega))
        have HTR := Lib.hid htr
        generalize cmpNat r t = cv at hcv HC
        clear htr
        go_wp2_with fail
        refine HC.out.mono ?_; rintro e w2 ⟨rfl, q2, rfl⟩
        go_wp2_with fail
        refine (HM.out q2).mono ?_; rintro e w3 ⟨A3, c3, rfl, hn3, hb3⟩
        have hb2' : Below w.heap.size w (w1.drewN q2) := hb2.trans ⟨rfl, rfl, rfl, Nat.le_refl _, fun _ _ => rfl⟩
        have hb4 := below_then hb2' hb2'.size hb3
        clear hb2'
        obtain ⟨s, hs⟩ : ∃ s, r - t = s := ⟨_, rfl⟩
        obtain ⟨ls, hls⟩ : ∃ ls, (limbs s).length = ls := ⟨_, rfl⟩
        rw [hs, hls] at hn3
        rw [hs, hls]
        have HS := Lib.hid hs
        have HLS := Lib.hid hls
        clear hs hls hr1 hn1 hb2 hb3 HM
        go_wp2
        go_roundw
        case rel =>
          obtain ⟨v1, v2⟩ := div_ge HV.out.1 HV.out.2 (by rw [HT.out]; exact HTR.out)
          rw [HT.out, HS.out] at v1 v2
          have hq : (2 * q + 1) * 2 ^ i < 9223372036854775808 := by
            have h1 := hA.out
            rw [Nat.mul_comm b] at h1
            exact Nat.lt_of_mul_lt_mul_right (a := b) (by omega)
          have e5 : (2 * q + 1) * 2 ^ i = q * 2 ^ (i + 1) + 2 ^ i := by
            rw [Nat.add_mul, Nat.one_mul, Nat.pow_succ, Nat.mul_comm (2 ^ i) 2, ← Nat.mul_assoc q, Nat.mul_comm q 2]
          have e6 : Go.bits .or .u64 (Q : Int) (IntKind.u64.wrap (2 ^ i)) = (((2 * q + 1) * 2 ^ i : Nat) : Int) := by
            rw [e5] at hq ⊢
            have e7 : ((2 : Int) ^ i) = ((2 ^ i : Nat) : Int) := by push_cast; rfl
            have e8 : 2 ^ i < 2 ^ (i + 1) := Nat.pow_lt_pow_right (by omega) (by omega)
            have e9 := HQ.out
            rw [e7]
            clear e7 e5 v1 HT HV HQ
            generalize 2 ^ i = p at *
            generalize hz : q * 2 ^ (i + 1) = z at *
            rw [wrap_u64 (by omega) (by omega), e9, ← hz, or_join64 (i + 1) q p e8 (by omega)]
          refine ⟨(i : Int) - 1, 2 * q + 1, (2 * q + 1) * 2 ^ i, s, c3, A3, rfl, by omega, by omega, by rw [e6], by rw [HLS.out], by rw [HLS.out]; exact hn3, hb4, Lib.hid ?_, Lib.hid ?_⟩
          · rw [show ((i : Int) - 1 + 1).toNat = i by omega]
          · rw [show ((i : Int) - 1 + 1).toNat = i by omega, HT.out]; exact ⟨v1, v2⟩
        case measure => simp [intOf]
      · have HC2 := HC.out
        rw [cmpNat_lt (by omega)] at HC2
        have HC3 := Lib.hid HC2
        have HTR := Lib.hid (show r < t by omega)
        clear HC2 HC htr
        go_wp2_with fail
        refine HC3.out.mono ?_; rintro e w2 ⟨rfl, q2, rfl⟩
        go_wp2
        go_roundw
        case rel =>
          obtain ⟨v1, v2⟩ := div_lt HV.out.1 (by rw [HT.out]; exact HTR.out)
          refine ⟨(i : Int) - 1, 2 * q, Q, r, c', A', by first | rfl | go_num, by omega, by omega, rfl, by rw [HL.out], by rw [HL.out]; exact hr1.drewN _, hb2.trans ⟨rfl, rfl, rfl, Nat.le_refl _, fun _ _ => rfl⟩, Lib.hid ?_, Lib.hid ?_⟩
          · rw [HQ.out, show ((i : Int) - 1 + 1).toNat = i by omega, Nat.pow_succ, Nat.mul_comm (2 ^ i) 2, ← Nat.mul_assoc, Nat.mul_comm q 2]
          · rw [show ((i : Int) - 1 + 1).toNat = i by omega]; exact ⟨v1, v2⟩
        case measure => simp [intOf]
    · have hj : (j + 1).toNat = 0 := by omega
      rw [hj] at HQ HV
      obtain ⟨e1, e2⟩ := div_end HV.out.1 HV.out.2
      have eQ := HQ.out
      rw [Nat.pow_zero, Nat.mul_one] at eQ
      subst eQ
      have E1 := Lib.hid e1
      have E2 := Lib.hid e2
      clear HQ HV hj e1 e2 hra
      obtain ⟨lr, hl⟩ : ∃ lr, (limbs r).length = lr := ⟨_, rfl⟩
      rw [hl] at hr hlr ⊢
      have HL := Lib.hid hl
      clear hl
      go_wp2
      go_ret2
      have e3 : (a : Int) / b = Q := by rw [← E1.out]; rfl
      refine ⟨A', c', ?_, by rw [E2.out, HL.out]; exact hr, hb⟩
      rw [e3, E2.out, HL.out]; rfl

end Go.Proofs.YtilbadhadnockaaDoor
