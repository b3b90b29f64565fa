/- Contracts of the small functions of package limbs: trim, low, high, From, Norm, up, Up, down, Cmp. -/
import Derived.Test.YtekcpapkicmckaaGreatDoorMem
import Derived.Deep.LoopGhost
import Derived.Deep.QuietTactic
import Derived.BigQuiet
namespace Go.Proofs.YtekcpapkicmckaaGreatDoor
open Go.RowKit

theorem Num.trim {w : World} {A : Option Addr} {n c : Nat} {xs : List Nat} (h : Num w A n c xs) : Num w A (limbs (val xs)).length (limbs (val xs)).length (limbs (val xs)) := by
  have h1 := h.pre (limbs (val xs)).length (limbs (val xs)).length (by rw [← h.len]; exact limbs_length_val h.lim) (Nat.le_refl _)
  rwa [← limbs_take h.lim] at h1
theorem Own.trim {w : World} {base : Nat} {A : Option Addr} {n c : Nat} {xs : List Nat} (h : Own w base A n c xs) : Own w base A (limbs (val xs)).length (limbs (val xs)).length (limbs (val xs)) := by
  have h1 := h.pre (limbs (val xs)).length (by rw [← h.len]; exact limbs_length_val h.lim)
  rwa [← limbs_take h.lim] at h1

theorem ret_eq {u v : Value} (h : u = v) : Ending.returned u = .returned v := by rw [h]

set_option maxHeartbeats 400000 in
theorem trim_any (A : Option Addr) (n c : Nat) (xs : List Nat) (w : World) (hr : Num w A n c xs) :
    Calls Tryz.prog 100 #[.slice A n c] w fun e w' => e = .returned (.slice A (limbs (val xs)).length (limbs (val xs)).length) ∧ w = w' := by
  have hn := hr.sl.big
  have hc := hr.sl.cap
  have ht0 : Hid (topOf xs n = (limbs (val xs)).length) := by rw [← hr.len]; exact topOf_limbs hr.lim
  go_enter Tryz.func100, Tryz.ntmps100
  go_wp2
  go_loop [3] (fun t => ∃ k : Nat, k ≤ n ∧ topOf xs k = topOf xs n ∧ t = .int .i64 k) (fun t => (intOf t).toNat)
  case atStart => exact ⟨n, Nat.le_refl _, rfl, rfl⟩
  case round =>
    obtain ⟨k, hk, ht, rfl⟩ := hrel
    by_cases h0 : 0 < k
    · obtain ⟨b, o, rfl, hcl⟩ := hr.cells (by omega)
      have hc1 := hcl (k - 1) (by omega)
      clear hcl
      obtain ⟨j, rfl⟩ : ∃ j, k = j + 1 := ⟨k - 1, by omega⟩
      have e : j + 1 - 1 = j := rfl
      rw [e] at hc1
      clear e
      have H2 := Lib.hid ht
      by_cases hz : nth xs j = 0
      · have hb : (((nth xs j : Nat) : Int) == 0) = true := by simp [hz]
        have H := Lib.hid hz
        clear hz ht
        go_wp2
        go_round
        case rel =>
          refine ⟨j, by omega, ?_, by go_num⟩
          rw [← H2.out, topOf, if_pos H.out]
        case measure => simp [intOf]
      · have hb : (((nth xs j : Nat) : Int) == 0) = false := by simp [hz]
        have H := Lib.hid hz
        clear hz ht
        go_wp2
        go_ret
        have e : (limbs (val xs)).length = j + 1 := by rw [← ht0.out, ← H2.out, topOf, if_neg H.out]
        exact ⟨by rw [e]; rfl, rfl⟩
    · obtain rfl : k = 0 := by omega
      have H2 := Lib.hid ht
      clear ht
      go_wp2
      go_ret
      have e : (limbs (val xs)).length = 0 := by rw [← ht0.out, ← H2.out]; rfl
      exact ⟨by rw [e]; rfl, rfl⟩

theorem and_low (x : Nat) (hx : x < 18446744073709551616) : Go.bits .and .u64 (x : Int) 4294967295 = ((x % 4294967296 : Nat) : Int) := by
  have h := bits_mask .u64 64 (by decide) (fun n h0 h1 => by
    have e : IntKind.u64.wrap n = n % 18446744073709551616 := by simp [IntKind.wrap, IntKind.bits, IntKind.signed]
    rw [e]; omega) 32 (by decide) (x : Int) (by omega) (by omega)
  rw [show ((2 : Int) ^ 32 - 1) = 4294967295 from rfl] at h
  rw [h]
  omega

set_option maxHeartbeats 400000 in
theorem low_any (x : Nat) (w : World) (hx : x < 18446744073709551616) :
    Calls Tryz.prog 102 #[.int .u64 x] w fun e w' => e = .returned (.int .u32 (x % 4294967296 : Nat)) ∧ w = w' := by
  have e1 := and_low x hx
  go_enter Tryz.func102, Tryz.ntmps102
  go_wp2
  go_ret
  exact ⟨ret_eq (by simp), rfl⟩

theorem low_int (x : Int) (w : World) (h0 : 0 ≤ x) (h1 : x < 18446744073709551616) :
    Calls Tryz.prog 102 #[.int .u64 x] w fun e w' => e = .returned (.int .u32 (x % 4294967296)) ∧ w = w' := by
  obtain ⟨y, rfl⟩ := Int.eq_ofNat_of_zero_le h0
  have := low_any y w (by omega)
  rwa [show ((y % 4294967296 : Nat) : Int) = (y : Int) % 4294967296 by omega] at this

set_option maxHeartbeats 400000 in
theorem high_any (x : Nat) (w : World) :
    Calls Tryz.prog 103 #[.int .u64 x] w fun e w' => e = .returned (.int .u64 (x / 4294967296 : Nat)) ∧ w = w' := by
  go_enter Tryz.func103, Tryz.ntmps103
  go_wp2
  go_ret
  exact ⟨ret_eq (by simp), rfl⟩

theorem high_int (x : Int) (w : World) (h0 : 0 ≤ x) :
    Calls Tryz.prog 103 #[.int .u64 x] w fun e w' => e = .returned (.int .u64 (x / 4294967296)) ∧ w = w' := by
  obtain ⟨y, rfl⟩ := Int.eq_ofNat_of_zero_le h0
  have := high_any y w
  rwa [show ((y / 4294967296 : Nat) : Int) = (y : Int) / 4294967296 by omega] at this

theorem own_block (w : World) (base : Nat) (xs : List Nat) (h : Lim xs) (hb : base ≤ w.heap.size) (hl : xs.length ≤ 281474976710656) :
    Own (w.alloc (.cells (u32s xs).toArray 169)) base (some ⟨w.heap.size, 0, none⟩) xs.length xs.length xs :=
  ⟨⟨by rw [u32s_length], Nat.le_refl _, hl, .inr ⟨w.heap.size, [], rfl, hb, by rw [heap_alloc_new, List.append_nil], by simp⟩⟩, h⟩

theorem limbs_two (x : Nat) (hx : x < 18446744073709551616) : Lim [x % 4294967296, x / 4294967296] ∧ val [x % 4294967296, x / 4294967296] = x := by
  refine ⟨Lim.cons (Nat.mod_lt _ (by omega)) (Lim.cons (by omega) Lim.nil), ?_⟩
  simp only [val]
  omega

set_option maxHeartbeats 400000 in
theorem From_any (x : Nat) (w : World) (hx : x < 18446744073709551616) :
    Calls Tryz.prog 81 #[.int .u64 x] w fun e w' => ∃ A, e = .returned (.slice A (limbs x).length (limbs x).length) ∧ Own w' w.heap.size A (limbs x).length (limbs x).length (limbs x) ∧ Below w.heap.size w w' := by
  obtain ⟨hlim, hval⟩ := limbs_two x hx
  have hown := own_block w w.heap.size _ hlim (Nat.le_refl _) (by simp)
  have hcs : (u32s [x % 4294967296, x / 4294967296]).toArray = #[.int .u32 ((x : Int) % 4294967296), .int .u32 ((x : Int) / 4294967296)] := by simp [u32s]
  rw [hcs] at hown
  have HV := Lib.hid hval
  clear hcs hval
  go_enter Tryz.func81, Tryz.ntmps81
  go_wp2_with (first | (go_at_call 102; refine (low_any _ _ (by omega)).mono ?_; rintro e w' ⟨rfl, rfl⟩) | (go_at_call 103; refine (high_any _ _).mono ?_; rintro e w' ⟨rfl, rfl⟩) | (go_at_call 100; refine (trim_any _ _ _ _ _ hown.num).mono ?_; rintro e w' ⟨rfl, rfl⟩))
  rw [HV.out]
  go_ret
  have h1 := hown.trim
  rw [HV.out] at h1
  exact ⟨_, rfl, h1, (Below.refl _ _).alloc (Nat.le_refl _) _⟩

theorem Tryz.under_sl : Tryz.prog.underlying 132 = some (.slice 169) := Tryz.underlying132

set_option maxHeartbeats 400000 in
theorem Norm_any (A : Option Addr) (n c : Nat) (xs : List Nat) (w : World) (hr : Num w A n c xs) (hn : n ≤ 35184372088832) :
    Calls Tryz.prog 99 #[.slice A n c] w fun e w' => ∃ A' c', e = .returned (.slice A' (limbs (val xs)).length c') ∧ Own w' w.heap.size A' (limbs (val xs)).length c' (limbs (val xs)) ∧ Below w.heap.size w w' := by
  have hlen : (limbs (val xs)).length ≤ n := by rw [← hr.len]; exact limbs_length_val hr.lim
  have ht := hr.trim
  go_enter Tryz.func99, Tryz.ntmps99
  go_wp2_with (first | (go_at_call 100; refine (trim_any _ _ _ _ _ hr).mono ?_; rintro e w' ⟨rfl, rfl⟩) | (at_builtin; refine app_all w.heap.size rfl _ _ _ _ (.int .u32 0) 4 rfl Tryz.under_sl Tryz.info_u32 rfl (by omega) none 0 0 [] A _ _ _ rfl rfl (u32s_one _) (Mine.nil _ _ _) ht.sl (Nat.le_refl _) ?hb (fun _ => .inr ⟨rfl, rfl, rfl⟩) ?h0 ?h1))
  case hb => omega
  case h0 =>
    intro h0
    go_wp2
    go_ret
    rw [h0]
    exact ⟨none, 0, rfl, Own.nil _ _, Below.refl _ _⟩
  case h1 =>
    intro _ A' c' w' hm hg _
    go_wp2
    go_ret
    exact ⟨A', c', rfl, ⟨hm, limbs_lim _⟩, below_of_grownBy hg⟩

/-- what u64's and signed numbers' wraps leave alone -/
theorem wrap_u64 {n : Int} (h0 : 0 ≤ n) (h1 : n < 18446744073709551616) : IntKind.u64.wrap n = n := by
  have e : IntKind.u64.wrap n = n % 18446744073709551616 := by simp [IntKind.wrap, IntKind.bits, IntKind.signed]
  rw [e]; omega

theorem or_join64 (i : Nat) (a b : Nat) (hb : b < 2 ^ i) (hs : a * 2 ^ i + b < 18446744073709551616) :
    Go.bits .or .u64 ((a * 2 ^ i : Nat) : Int) (b : Int) = ((a * 2 ^ i + b : Nat) : Int) := by
  have hp : (b : Int) < 2 ^ i := by
    have : ((b : Nat) : Int) < ((2 ^ i : Nat) : Int) := by omega
    simpa using this
  have hs' : ((a * 2 ^ i + b : Nat) : Int) < 18446744073709551616 := by omega
  simp only [Int.natCast_add, Int.natCast_mul, Int.natCast_pow] at hs' ⊢
  have ha0 : (0 : Int) ≤ (a : Int) * (2 : Nat) ^ i := Int.mul_nonneg (by omega) (Int.pow_nonneg (by omega))
  exact bits_join .u64 64 (by decide) (fun n h0 h1 => wrap_u64 h0 (by simpa using h1)) i _ _ ha0 (Int.mul_emod_left _ _) (by simp only [show ((2 : Int) ^ 64) = 18446744073709551616 from rfl]; omega) (by omega) hp (by simp only [show ((2 : Int) ^ 64) = 18446744073709551616 from rfl]; omega)

theorem pow_split (k : Nat) : 2 ^ k = 4294967296 ^ (k / 32) * 2 ^ (k % 32) := by
  rw [show (4294967296 : Nat) = 2 ^ 32 from rfl, ← Nat.pow_mul, ← Nat.pow_add]
  congr 1
  omega
theorem pow_lt32 (k : Nat) : 2 ^ (k % 32) < 4294967296 := by
  rw [show (4294967296 : Nat) = 2 ^ 32 from rfl]
  exact Nat.pow_lt_pow_right (by omega) (Nat.mod_lt _ (by omega))

theorem up_step (L os : List Nat) (k i cr : Nat) (hi : i < L.length) (ho : os.length = k / 32 + i) (hv : val os + cr * 4294967296 ^ (k / 32 + i) = val (L.take i) * 2 ^ k) :
    val (os ++ [(cr + nth L i * 2 ^ (k % 32)) % 4294967296]) + (cr + nth L i * 2 ^ (k % 32)) / 4294967296 * 4294967296 ^ (k / 32 + (i + 1)) = val (L.take (i + 1)) * 2 ^ k := by
  generalize hy : cr + nth L i * 2 ^ (k % 32) = y
  rw [val_snoc, ho, val_take_succ hi, Nat.add_mul, ← hv, show k / 32 + (i + 1) = (k / 32 + i) + 1 by omega, Nat.pow_succ]
  have e1 : 4294967296 ^ i * nth L i * 2 ^ k = 4294967296 ^ (k / 32 + i) * (nth L i * 2 ^ (k % 32)) := by
    rw [pow_split k, Nat.pow_add]
    simp only [Nat.mul_assoc, Nat.mul_left_comm, Nat.mul_comm]
  rw [e1]
  generalize 4294967296 ^ (k / 32 + i) = P
  have e2 : nth L i * 2 ^ (k % 32) = y - cr := by omega
  rw [e2]
  have e3 : P * (y % 4294967296) + y / 4294967296 * (P * 4294967296) = P * y := by
    have : y = y % 4294967296 + 4294967296 * (y / 4294967296) := by omega
    conv => rhs; rw [this]
    rw [Nat.mul_add]
    simp only [Nat.mul_left_comm, Nat.mul_comm]
  rw [Nat.add_assoc, e3, Nat.add_assoc, Nat.mul_comm cr P, ← Nat.mul_add]
  congr 2
  omega

theorem up_carry (k x cr : Nat) (hx : x < 4294967296) (hc : cr < 2 ^ (k % 32)) :
    cr + x * 2 ^ (k % 32) < 18446744073709551616 ∧ (cr + x * 2 ^ (k % 32)) / 4294967296 < 2 ^ (k % 32) ∧
    Go.bits .or .u64 (cr : Int) (IntKind.u64.wrap ((x : Int) * 2 ^ (k % 32))) = ((cr + x * 2 ^ (k % 32) : Nat) : Int) := by
  have h1 := pow_lt32 k
  have h2 : x * 2 ^ (k % 32) + 2 ^ (k % 32) ≤ 4294967296 * 2 ^ (k % 32) := by
    have : (x + 1) * 2 ^ (k % 32) ≤ 4294967296 * 2 ^ (k % 32) := Nat.mul_le_mul_right _ (by omega)
    rwa [Nat.add_mul, Nat.one_mul] at this
  have h3 : 4294967296 * 2 ^ (k % 32) < 18446744073709551616 := by omega
  refine ⟨by omega, Nat.div_lt_of_lt_mul (by omega), ?_⟩
  have e : IntKind.u64.wrap ((x : Int) * 2 ^ (k % 32)) = ((x * 2 ^ (k % 32) : Nat) : Int) := by
    have e0 : ((x : Int) * 2 ^ (k % 32)) = ((x * 2 ^ (k % 32) : Nat) : Int) := by push_cast; rfl
    rw [e0, wrap_u64 (by omega) (by omega)]
  rw [e, show Go.bits .or .u64 (cr : Int) ((x * 2 ^ (k % 32) : Nat) : Int) = Go.bits .or .u64 ((x * 2 ^ (k % 32) : Nat) : Int) (cr : Int) by simp only [Go.bits, BitVec.or_comm], or_join64 (k % 32) x cr hc (by omega), Nat.add_comm]

set_option maxHeartbeats 400000 in
theorem up_any (A : Option Addr) (n c : Nat) (xs : List Nat) (k : Nat) (w : World) (hr : Num w A n c xs) (hn : n + k / 32 < 35184372088832) (hk : k ≤ 1048576) :
    Calls Tryz.prog 193 #[.slice A n c, .int .i64 k] w fun e w' => ∃ A', e = .returned (.slice A' (limbs (val xs * 2 ^ k)).length (limbs (val xs * 2 ^ k)).length) ∧
      Own w' w.heap.size A' (limbs (val xs * 2 ^ k)).length (limbs (val xs * 2 ^ k)).length (limbs (val xs * 2 ^ k)) ∧ Below w.heap.size w w' := by
  obtain ⟨m, hm⟩ : ∃ m, (limbs (val xs)).length = m := ⟨_, rfl⟩
  have hlen : m ≤ n := by rw [← hr.len, ← hm]; exact limbs_length_val hr.lim
  have ht := hr.trim
  rw [hm] at ht
  have HM := Lib.hid hm
  have hmake := fun h1 h2 => make_row (P := Tryz.prog) 132 169 (.int .u32 0) 4 Tryz.under_sl Tryz.info_u32 rfl (by omega) (k / 32) (k / 32 + m + 1) h1 h2
  replace hmake := hmake (by omega) (by omega)
  push_cast at hmake
  by_cases h0 : m = 0
  · have HZ := Lib.hid h0
    clear hmake
    subst h0
    go_enter Tryz.func193, Tryz.ntmps193
    go_wp2_with (first | (go_at_call 100; refine (trim_any _ _ _ _ _ hr).mono ?_; rw [HM.out]; rintro e w' ⟨rfl, rfl⟩))
    go_ret
    have e : limbs (val xs * 2 ^ k) = [] := by
      have : val xs = 0 := limbs_length_zero.1 HM.out
      rw [this, Nat.zero_mul, limbs_zero]
    rw [e]
    exact ⟨none, rfl, Own.nil _ _, Below.refl _ _⟩
  · have hmb : ((m : Int) == 0) = false := by simpa using h0
    go_enter Tryz.func193, Tryz.ntmps193
    go_wp2_with (first | (go_at_call 100; refine (trim_any _ _ _ _ _ hr).mono ?_; rw [HM.out]; rintro e w' ⟨rfl, rfl⟩))
    obtain ⟨b, off, rfl, hcl⟩ := ht.cells (by omega)
    go_loopw [5, 6, 25] (fun o cy ix wr => ∃ (i cr c' : Nat) (G : Option Addr) (os : List Nat), i ≤ m ∧ ix = .int .i64 i ∧ cy = .int .u64 cr ∧ o = .slice G (k / 32 + i) c' ∧ Own wr w.heap.size G (k / 32 + i) c' os ∧ Below w.heap.size w wr ∧
        cr < 2 ^ (k % 32) ∧ val os + cr * 4294967296 ^ (k / 32 + i) = val ((limbs (val xs)).take i) * 2 ^ k) (fun _ _ ix _ => m - (intOf ix).toNat)
    case atStart =>
      refine ⟨0, 0, k / 32 + m + 1, some ⟨w.heap.size, 0, none⟩, List.replicate (k / 32) 0, Nat.zero_le _, rfl, rfl, by first | rfl | simp, ⟨?_, Lim.replicate _⟩, ?_, Nat.pow_pos (by omega), ?_⟩
      · rw [← u32s_replicate]; exact Mine.made _ _ _ _ _ _ (Nat.le_refl _) (by omega) (by omega)
      · exact (Below.refl _ _).alloc (Nat.le_refl _) _
      · rw [val_replicate]; simp [val]
    case round =>
      obtain ⟨i, cr, c', G, os, hi, rfl, rfl, rfl, hown, hb, hcr, hval⟩ := hrel
      have hbz := hb.size
      have hlz := hown.len
      have HV := Lib.hid hval
      have HL := Lib.hid hlz
      clear hval hlz
      by_cases hlt : i < m
      · have hcell : wr.cell? ⟨b, off + i, none⟩ = some (.int .u32 (nth (limbs (val xs)) i : Nat)) := (hb.cell (World.block_lt_of_cell? w _ (hcl i hlt))).trans (hcl i hlt)
        have hx := nth_lt (limbs_lim (val xs)) i
        have HS := Lib.hid (up_step (limbs (val xs)) os k i cr (by rw [HM.out]; exact hlt) HL.out HV.out)
        generalize nth (limbs (val xs)) i = x at hcell hx HS
        obtain ⟨hy, hyc, hor⟩ := up_carry k x cr hx hcr
        generalize cr + x * 2 ^ (k % 32) = y at hy hyc hor HS
        go_wp2_with (first | (go_at_call 102; refine (low_any _ _ hy).mono ?_; rintro e w' ⟨rfl, rfl⟩) | (go_at_call 103; refine (high_any _ _).mono ?_; rintro e w' ⟨rfl, rfl⟩) |
          (at_builtin; refine app_one w.heap.size rfl _ _ _ _ (.int .u32 0) 4 rfl Tryz.under_sl Tryz.info_u32 rfl (by omega) G _ _ _ (.int .u32 ((y : Int) % 4294967296)) rfl rfl rfl hown.mine hbz (by omega) ?_; intro A' c2 w2 hm2 hg2 _))
        go_roundw
        case rel =>
          refine ⟨i + 1, y / 4294967296, c2, A', os ++ [y % 4294967296], hlt, by go_num, by first | rfl | simp, by first | rfl | simp [Nat.add_assoc], ⟨?_, ?_⟩, ?_, hyc, HS.out⟩
          · have e : u32s os ++ [.int .u32 ((y : Int) % 4294967296)] = u32s (os ++ [y % 4294967296]) := by simp [u32s]
            rw [e] at hm2
            exact hm2
          · exact hown.lim.snoc (Nat.mod_lt _ (by omega))
          · exact below_grown hb hbz hg2 (fun q hq => (hown.mine.lt q hq).1)
        case measure => simp [intOf]; omega
      · go_wp2_with (first |
          (at_builtin; refine app_one w.heap.size rfl _ _ _ _ (.int .u32 0) 4 rfl Tryz.under_sl Tryz.info_u32 rfl (by omega) G _ _ _ (.int .u32 ((cr : Int) % 4294967296)) rfl rfl rfl hown.mine hbz (by omega) ?_; intro A' c2 w2 hm2 hg2 _))
        have e : u32s os ++ [.int .u32 ((cr : Int) % 4294967296)] = u32s (os ++ [cr]) := by
          have := pow_lt32 k
          simp [u32s]
          omega
        rw [e] at hm2
        have hown2 : Own w2 w.heap.size A' (k / 32 + i + 1) c2 (os ++ [cr]) := ⟨hm2, hown.lim.snoc (by have := pow_lt32 k; omega)⟩
        have hv2 : val (os ++ [cr]) = val xs * 2 ^ k := by
          rw [val_snoc, HL.out, Nat.mul_comm _ cr, HV.out, List.take_of_length_le (by rw [HM.out]; omega), val_limbs]
        refine (trim_any _ _ _ _ _ hown2.num).mono ?_
        rintro e w' ⟨rfl, rfl⟩
        go_wp2
        go_ret
        have h3 := hown2.trim
        rw [hv2] at h3
        exact ⟨A', rfl, h3, below_grown hb hbz hg2 (fun q hq => (hown.mine.lt q hq).1)⟩

set_option maxHeartbeats 400000 in
theorem Up_any (A : Option Addr) (n c : Nat) (xs : List Nat) (k : Nat) (w : World) (hr : Num w A n c xs) (hn : n + k / 32 < 35184372088832) (hk : k ≤ 1048576) :
    Calls Tryz.prog 158 #[.slice A n c, .int .i64 k] w fun e w' => ∃ A', e = .returned (.tuple #[.slice A' (limbs (val xs * 2 ^ k)).length (limbs (val xs * 2 ^ k)).length, .int .i64 0]) ∧
      Own w' w.heap.size A' (limbs (val xs * 2 ^ k)).length (limbs (val xs * 2 ^ k)).length (limbs (val xs * 2 ^ k)) ∧ Below w.heap.size w w' := by
  go_enter Tryz.func158, Tryz.ntmps158
  go_wp2_with (first | (go_at_call 193; refine (up_any _ _ _ _ _ _ hr hn hk).mono ?_; rintro e w' ⟨A', rfl, h1, h2⟩))
  go_ret2
  exact ⟨A', rfl, h1, h2⟩

/-! ### comparing -/
def cmpNat (a b : Nat) : Int := if a < b then -1 else if b < a then 1 else 0

theorem cmp_len {a b : Nat} (h : (limbs a).length < (limbs b).length) : a < b := by
  apply Nat.lt_of_not_le
  intro hle
  have := limbs_length_mono hle
  omega

/-- two naturals of as many limbs, alike above a place -/
theorem cmp_at {xs ys : List Nat} (hx : Lim xs) (i : Nat) (hab : xs.drop (i + 1) = ys.drop (i + 1)) (h : nth xs i < nth ys i) : val xs < val ys := by
  have h1 := val_split xs (i + 1)
  have h2 := val_split ys (i + 1)
  rw [hab] at h1
  rw [h1, h2, val_take_succ', val_take_succ']
  have h3 := val_take_lt hx i
  have h4 : 4294967296 ^ i * nth xs i + 4294967296 ^ i ≤ 4294967296 ^ i * nth ys i := by
    rw [← Nat.mul_succ]; exact Nat.mul_le_mul_left _ h
  omega

theorem drop_nth {xs : List Nat} {i : Nat} (h : i < xs.length) : xs.drop i = nth xs i :: xs.drop (i + 1) := by
  rw [List.drop_eq_getElem_cons h]
  congr 1
  unfold nth
  rw [List.getD_eq_getElem?_getD, List.getElem?_eq_getElem h]; rfl

set_option maxHeartbeats 400000 in
theorem Cmp_any (A B : Option Addr) (n c m d : Nat) (xs ys : List Nat) (w : World) (hx : Num w A n c xs) (hy : Num w B m d ys) :
    Calls Tryz.prog 196 #[.slice A n c, .slice B m d] w fun e w' => e = .returned (.int .i64 (cmpNat (val xs) (val ys))) ∧ ∃ q, w' = w.drewN q := by
  have hx' := hx.trim
  have hy' := hy.trim
  obtain ⟨p, hp⟩ : ∃ p, (limbs (val xs)).length = p := ⟨_, rfl⟩
  obtain ⟨q, hq⟩ : ∃ q, (limbs (val ys)).length = q := ⟨_, rfl⟩
  have HP := Lib.hid hp
  have HQ := Lib.hid hq
  rw [hp] at hx'
  rw [hq] at hy'
  have hpb := hx'.sl.big
  have hqb := hy'.sl.big
  clear hp hq
  by_cases hpq : p = q
  · subst hpq
    go_enter Tryz.func196, Tryz.ntmps196
    go_wp2_with fail
    refine (trim_any _ _ _ _ _ hx).mono ?_; rw [HP.out]; rintro e w' ⟨rfl, rfl⟩
    go_wp2_with fail
    refine (trim_any _ _ _ _ _ hy).mono ?_; rw [HQ.out]; rintro e w' ⟨rfl, rfl⟩
    go_wp2
    have hLX := limbs_lim (val xs)
    have hLY := limbs_lim (val ys)
    have EX := Lib.hid (val_limbs (val xs))
    have EY := Lib.hid (val_limbs (val ys))
    generalize limbs (val xs) = X at *
    generalize limbs (val ys) = Y at *
    go_loopw [5] (fun ix wr => ∃ (k q : Nat), k ≤ p ∧ ix = .int .i64 ((k : Int) - 1) ∧ wr = w.drewN q ∧ X.drop k = Y.drop k) (fun ix _ => (intOf ix + 1).toNat)
    case atStart => exact ⟨p, 0, Nat.le_refl _, rfl, rfl, by rw [List.drop_of_length_le (by rw [HP.out]; omega), List.drop_of_length_le (by rw [HQ.out]; omega)]⟩
    case round =>
      obtain ⟨k, q, hk, rfl, rfl, hd⟩ := hrel
      have HD := Lib.hid hd
      clear hd
      by_cases h0 : k = 0
      · subst h0
        go_wp2
        go_ret
        have e : cmpNat (val xs) (val ys) = 0 := by
          have h1 : X = Y := by simpa using HD.out
          have h2 : val xs = val ys := by rw [← EX.out, ← EY.out, h1]
          unfold cmpNat; rw [h2]; simp
        exact ⟨by rw [e]; rfl, q, rfl⟩
      · obtain ⟨j, rfl⟩ : ∃ j, k = j + 1 := ⟨k - 1, by omega⟩
        obtain ⟨b1, o1, rfl, hc1⟩ := hx'.cells (by omega)
        obtain ⟨b2, o2, rfl, hc2⟩ := hy'.cells (by omega)
        have hcx := hc1 j (by omega)
        have hcy := hc2 j (by omega)
        clear hc1 hc2
        have hbx := nth_lt hLX j
        have hby := nth_lt hLY j
        by_cases hxy : nth X j < nth Y j
        · have e : cmpNat (val xs) (val ys) = -1 := by
            have := cmp_at (xs := X) (ys := Y) hLX j HD.out hxy
            rw [EX.out, EY.out] at this
            unfold cmpNat; rw [if_pos this]
          have hdec : decide (nth X j < nth Y j) = true := by simpa using hxy
          have HE := Lib.hid e
          clear e
          go_wp2
          go_quiet (fail)
          go_wp2
          go_ret
          exact ⟨by rw [HE.out]; rfl, _, World.drewN_drewN ..⟩
        · have hdec : decide (nth X j < nth Y j) = false := by simpa using hxy
          by_cases hyx : nth Y j < nth X j
          · have e : cmpNat (val xs) (val ys) = 1 := by
              have := cmp_at (xs := Y) (ys := X) hLY j HD.out.symm hyx
              rw [EX.out, EY.out] at this
              unfold cmpNat; rw [if_neg (by omega), if_pos this]
            have hdec2 : decide (nth Y j < nth X j) = true := by simpa using hyx
            have HE := Lib.hid e
            clear e
            go_wp2
            go_quiet (fail)
            go_wp2
            go_quiet (fail)
            go_wp2
            go_ret
            exact ⟨by rw [HE.out]; rfl, _, by rw [World.drewN_drewN, World.drewN_drewN]⟩
          · have hdec2 : decide (nth Y j < nth X j) = false := by simpa using hyx
            have HE := Lib.hid (show nth X j = nth Y j by omega)
            go_wp2
            go_quiet (fail)
            go_wp2
            go_quiet (fail)
            go_wp2
            go_roundw
            case rel =>
              refine ⟨j, _, by omega, by go_num, by first | rfl | (simp only [World.drewN_drewN]; rfl), ?_⟩
              rw [drop_nth (by rw [HP.out]; omega), drop_nth (xs := Y) (by rw [HQ.out]; omega), HD.out, HE.out]
            case measure => simp [intOf]
  · go_enter Tryz.func196, Tryz.ntmps196
    go_wp2_with fail
    refine (trim_any _ _ _ _ _ hx).mono ?_; rw [HP.out]; rintro e w' ⟨rfl, rfl⟩
    go_wp2_with fail
    refine (trim_any _ _ _ _ _ hy).mono ?_; rw [HQ.out]; rintro e w' ⟨rfl, rfl⟩
    by_cases hlt : p < q
    · have e : cmpNat (val xs) (val ys) = -1 := by
        have := cmp_len (a := val xs) (b := val ys) (by rw [HP.out, HQ.out]; exact hlt)
        unfold cmpNat; rw [if_pos this]
      go_wp2
      go_ret
      exact ⟨by rw [e]; rfl, 0, rfl⟩
    · have e : cmpNat (val xs) (val ys) = 1 := by
        have := cmp_len (a := val ys) (b := val xs) (by rw [HP.out, HQ.out]; omega)
        unfold cmpNat; rw [if_neg (by omega), if_pos this]
      go_wp2
      go_ret
      exact ⟨by rw [e]; rfl, 0, rfl⟩

end Go.Proofs.YtekcpapkicmckaaGreatDoor
