/- The reference's naturals (thicketref02): norm, up. -/
import Derived.Test.YtilbadhadnockaaDoorLimA
import Derived.Deep.LoopGhost
namespace Go.Proofs.YtilbadhadnockaaDoor
open Go.RowKit

theorem Own.top {w : World} {base : Nat} {A : Option Addr} {n c : Nat} {xs : List Nat} (h : Own w base A n c xs) : Num w A (limbs (val xs)).length c (limbs (val xs)) := by
  have h1 := h.num.pre (limbs (val xs)).length c (by rw [← h.len]; exact limbs_length_val h.lim) (Nat.le_trans (by rw [← h.len]; exact limbs_length_val h.lim) h.mine.cap)
  rwa [← limbs_take h.lim] at h1

set_option maxHeartbeats 400000 in
theorem rnorm_any (A : Option Addr) (n c : Nat) (xs : List Nat) (w : World) (hr : Num w A n c xs) :
    Calls Tryd.prog 15 #[.slice A n c] w fun e w' => e = .returned (.slice A (limbs (val xs)).length c) ∧ w = w' := by
  have hn := hr.sl.big
  have hc := hr.sl.cap
  have ht0 : Hid (topOf xs n = (limbs (val xs)).length) := by rw [← hr.len]; exact topOf_limbs hr.lim
  go_enter Tryd.func15, Tryd.ntmps15
  go_wp2
  go_loop [3] (fun t => ∃ k : Nat, k ≤ n ∧ topOf xs k = topOf xs n ∧ t = .int .i64 k) (fun t => (intOf t).toNat)
  case atStart => exact ⟨n, Nat.le_refl _, rfl, rfl⟩
  case round =>
    obtain ⟨k, hk, ht, rfl⟩ := hrel
    by_cases h0 : 0 < k
    · obtain ⟨b, o, rfl, hcl⟩ := hr.cells (by omega)
      have hc1 := hcl (k - 1) (by omega)
      clear hcl
      obtain ⟨j, rfl⟩ : ∃ j, k = j + 1 := ⟨k - 1, by omega⟩
      have e : j + 1 - 1 = j := rfl
      rw [e] at hc1
      clear e
      have H2 := Lib.hid ht
      by_cases hz : nth xs j = 0
      · have hb : (((nth xs j : Nat) : Int) == 0) = true := by simp [hz]
        have H := Lib.hid hz
        clear hz ht
        go_wp2
        go_round
        case rel =>
          refine ⟨j, by omega, ?_, by go_num⟩
          rw [← H2.out, topOf, if_pos H.out]
        case measure => simp [intOf]
      · have hb : (((nth xs j : Nat) : Int) == 0) = false := by simp [hz]
        have H := Lib.hid hz
        clear hz ht
        go_wp2
        go_ret
        have e : (limbs (val xs)).length = j + 1 := by rw [← ht0.out, ← H2.out, topOf, if_neg H.out]
        exact ⟨by rw [e]; rfl, rfl⟩
    · obtain rfl : k = 0 := by omega
      have H2 := Lib.hid ht
      clear ht
      go_wp2
      go_ret
      have e : (limbs (val xs)).length = 0 := by rw [← ht0.out, ← H2.out]; rfl
      exact ⟨by rw [e]; rfl, rfl⟩


theorem rup_start (k : Nat) (L : List Nat) : val (List.replicate (k / 32) 0) + 0 * 4294967296 ^ (k / 32 + 0) = val (L.take 0) * 2 ^ k := by rw [val_replicate]; simp [val]

set_option maxHeartbeats 1000000 in
theorem rup_any (A : Option Addr) (n c : Nat) (xs : List Nat) (k : Nat) (w : World) (hr : Num w A n c xs) (hn : n + k / 32 < 35184372088831) (hk : k ≤ 1125899906842624) :
    Calls Tryd.prog 24 #[.slice A n c, .int .i64 k] w fun e w' => ∃ A' c', e = .returned (.slice A' (limbs (val xs * 2 ^ k)).length c') ∧
      Num w' A' (limbs (val xs * 2 ^ k)).length c' (limbs (val xs * 2 ^ k)) ∧ Below w.heap.size w w' := by
  by_cases h0 : n = 0
  · have hv : val xs = 0 := by
      have := hr.len
      rw [h0] at this
      rw [List.eq_nil_of_length_eq_zero this]; rfl
    rw [hv, Nat.zero_mul, limbs_zero]
    subst h0
    clear hv
    go_enter Tryd.func24, Tryd.ntmps24
    go_wp2
    go_ret
    exact ⟨none, 0, rfl, Num.nil _ _, Below.refl _ _⟩
  · have hn0 : ((n : Int) == 0) = false := by simpa using h0
    have HL := Lib.hid hr.len
    obtain ⟨b, off, rfl, hcl⟩ := hr.cells (by omega)
    have HCL := Lib.hid hcl
    clear hcl
    go_enter Tryd.func24, Tryd.ntmps24
    go_wp2
    go_loopw [5, 6] (fun o ix wr => ∃ (i c' : Nat) (G : Option Addr), i ≤ k / 32 ∧ ix = .int .i64 i ∧ o = .slice G i c' ∧ Own wr w.heap.size G i c' (List.replicate i 0) ∧ Below w.heap.size w wr) (fun _ ix _ => k / 32 - (intOf ix).toNat)
    case atStart => exact ⟨0, 0, none, Nat.zero_le _, rfl, rfl, Own.nil _ _, Below.refl _ _⟩
    case round =>
      obtain ⟨d, c', G, hi, rfl, rfl, hown, hb⟩ := hrel
      have hbz := hb.size
      by_cases hlt : d < k / 32
      · go_wp2_with (at_builtin; refine app_one w.heap.size rfl _ _ _ _ (.int .u32 0) 4 rfl Tryd.under_sl Tryd.info_u32 rfl (by omega) G _ _ _ (.int .u32 0) rfl rfl rfl hown.mine hbz (by omega) ?_; intro A' c2 w2 hm2 hg2 _)
        go_roundw
        case rel =>
          refine ⟨d + 1, c2, A', hlt, by go_num, rfl, ⟨?_, Lim.replicate _⟩, below_grown hb hbz hg2 (fun q hq => (hown.mine.lt q hq).1)⟩
          have e : u32s (List.replicate d 0) ++ [.int .u32 0] = u32s (List.replicate (d + 1) 0) := by simp [u32s, List.replicate_succ']
          rw [e] at hm2
          exact hm2
        case measure => simp [intOf]; omega
      · have hd : d = k / 32 := by omega
        have HV0 := Lib.hid (rup_start k xs)
        rw [← hd] at HV0
        have hdn : n + d < 35184372088831 := by omega
        have HD := Lib.hid hd
        have hlt2 := hlt
        clear hd hlt hi hn
        go_wp2
        go_loopw [5, 8, 9] (fun o cy ix wr2 => ∃ (i cr c' : Nat) (G : Option Addr) (os : List Nat), i ≤ n ∧ ix = .int .i64 i ∧ cy = .int .u64 cr ∧ o = .slice G (d + i) c' ∧ Own wr2 w.heap.size G (d + i) c' os ∧ Below w.heap.size w wr2 ∧
          cr < 2 ^ (k % 32) ∧ Hid (val os + cr * 4294967296 ^ (d + i) = val (xs.take i) * 2 ^ k)) (fun _ _ ix _ => n - (intOf ix).toNat)
        case atStart => exact ⟨0, 0, c', G, _, Nat.zero_le _, rfl, rfl, rfl, hown, hb, Nat.pow_pos (by omega), HV0⟩
        case round =>
          obtain ⟨i, cr, c3, G2, os, hi2, rfl, rfl, rfl, hown2, hb2, hcr, HV⟩ := hrel
          clear hown hb hbz
          have hbz := hb2.size
          have HL2 := Lib.hid hown2.len
          by_cases hlt : i < n
          · have hcell : wr.cell? ⟨b, off + i, none⟩ = some (.int .u32 (nth xs i : Nat)) := (hb2.cell (World.block_lt_of_cell? w _ (HCL.out i hlt))).trans (HCL.out i hlt)
            have hx := nth_lt hr.lim i
            have HS := up_step xs os k i cr (by rw [HL.out]; exact hlt) (by rw [HL2.out, HD.out]) (by rw [← HD.out]; exact HV.out)
            rw [← HD.out] at HS
            replace HS := Lib.hid HS
            generalize nth xs i = x at hcell hx HS
            obtain ⟨hy, hyc, hor⟩ := up_carry k x cr hx hcr
            generalize cr + x * 2 ^ (k % 32) = y at hy hyc hor HS
            go_wp2_with (at_builtin; refine app_one w.heap.size rfl _ _ _ _ (.int .u32 0) 4 rfl Tryd.under_sl Tryd.info_u32 rfl (by omega) G2 _ _ _ (.int .u32 ((y : Int) % 4294967296)) rfl rfl rfl hown2.mine hbz (by omega) ?_; intro A' c2 w2 hm2 hg2 _)
            go_roundw
            case rel =>
              refine ⟨i + 1, y / 4294967296, c2, A', os ++ [y % 4294967296], hlt, by go_num, by first | rfl | simp, by first | rfl | simp [Nat.add_assoc], ⟨?_, ?_⟩, ?_, hyc, HS⟩
              · have e : u32s os ++ [.int .u32 ((y : Int) % 4294967296)] = u32s (os ++ [y % 4294967296]) := by simp [u32s]
                rw [e] at hm2
                exact hm2
              · exact hown2.lim.snoc (Nat.mod_lt _ (by omega))
              · exact below_grown hb2 hbz hg2 (fun q hq => (hown2.mine.lt q hq).1)
            case measure => simp [intOf]; omega
          · obtain rfl : i = n := by omega
            go_wp2_with (at_builtin; refine app_one w.heap.size rfl _ _ _ _ (.int .u32 0) 4 rfl Tryd.under_sl Tryd.info_u32 rfl (by omega) G2 _ _ _ (.int .u32 ((cr : Int) % 4294967296)) rfl rfl rfl hown2.mine hbz (by omega) ?_; intro A' c2 w2 hm2 hg2 _)
            have e : u32s os ++ [.int .u32 ((cr : Int) % 4294967296)] = u32s (os ++ [cr]) := by
              have := pow_lt32 k
              simp [u32s]
              omega
            rw [e] at hm2
            have hown3 : Own w2 w.heap.size A' (d + i + 1) c2 (os ++ [cr]) := ⟨hm2, hown2.lim.snoc (by have := pow_lt32 k; omega)⟩
            have hv2 : val (os ++ [cr]) = val xs * 2 ^ k := by
              rw [val_snoc, HL2.out, Nat.mul_comm _ cr, HV.out, List.take_of_length_le (by rw [HL.out]; omega)]
            have hN := rnorm_any _ _ _ _ _ hown3.num
            have h3 := hown3.top
            rw [hv2] at h3 hN
            have HN := Lib.hid hN
            clear hN hv2
            refine HN.out.mono ?_
            rintro e w' ⟨rfl, rfl⟩
            go_wp2
            go_ret
            exact ⟨A', _, rfl, h3, below_grown hb2 hbz hg2 (fun q hq => (hown2.mine.lt q hq).1)⟩

end Go.Proofs.YtilbadhadnockaaDoor
