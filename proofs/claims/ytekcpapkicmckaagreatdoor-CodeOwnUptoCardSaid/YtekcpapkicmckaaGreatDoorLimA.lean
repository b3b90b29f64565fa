/- Contracts of the small functions of package limbs: trim, low, high, From, Norm, up, Up, down, Cmp. -/
import Derived.Test.YtekcpapkicmckaaGreatDoorMem
import Derived.Deep.LoopGhost
import Derived.Deep.QuietTactic
import Derived.BigQuiet
namespace Go.Proofs.YtekcpapkicmckaaGreatDoor
open Go.RowKit

theorem Num.trim {w : World} {A : Option Addr} {n c : Nat} {xs : List Nat} (h : Num w A n c xs) : Num w A (limbs (val xs)).length (limbs (val xs)).length (limbs (val xs)) := by
  have h1 := h.pre (limbs (val xs)).length (limbs (val xs)).length (by rw [← h.len]; exact limbs_length_val h.lim) (Nat.le_refl _)
  rwa [← limbs_take h.lim] at h1
theorem Own.trim {w : World} {base : Nat} {A : Option Addr} {n c : Nat} {xs : List Nat} (h : Own w base A n c xs) : Own w base A (limbs (val xs)).length (limbs (val xs)).length (limbs (val xs)) := by
  have h1 := h.pre (limbs (val xs)).length (by rw [← h.len]; exact limbs_length_val h.lim)
  rwa [← limbs_take h.lim] at h1

theorem ret_eq {u v : Value} (h : u = v) : Ending.returned u = .returned v := by rw [h]

set_option maxHeartbeats 400000 in
theorem trim_any (A : Option Addr) (n c : Nat) (xs : List Nat) (w : World) (hr : Num w A n c xs) :
    Calls Tryz.prog 100 #[.slice A n c] w fun e w' => e = .returned (.slice A (limbs (val xs)).length (limbs (val xs)).length) ∧ w = w' := by
  have hn := hr.sl.big
  have hc := hr.sl.cap
  have ht0 : Hid (topOf xs n = (limbs (val xs)).length) := by rw [← hr.len]; exact topOf_limbs hr.lim
  go_enter Tryz.func100, Tryz.ntmps100
  go_wp2
  go_loop [3] (fun t => ∃ k : Nat, k ≤ n ∧ topOf xs k = topOf xs n ∧ t = .int .i64 k) (fun t => (intOf t).toNat)
  case atStart => exact ⟨n, Nat.le_refl _, rfl, rfl⟩
  case round =>
    obtain ⟨k, hk, ht, rfl⟩ := hrel
    by_cases h0 : 0 < k
    · obtain ⟨b, o, rfl, hcl⟩ := hr.cells (by omega)
      have hc1 := hcl (k - 1) (by omega)
      clear hcl
      obtain ⟨j, rfl⟩ : ∃ j, k = j + 1 := ⟨k - 1, by omega⟩
      have e : j + 1 - 1 = j := rfl
      rw [e] at hc1
      clear e
      have H2 := Lib.hid ht
      by_cases hz : nth xs j = 0
      · have hb : (((nth xs j : Nat) : Int) == 0) = true := by simp [hz]
        have H := Lib.hid hz
        clear hz ht
        go_wp2
        go_round
        case rel =>
          refine ⟨j, by omega, ?_, by go_num⟩
          rw [← H2.out, topOf, if_pos H.out]
        case measure => simp [intOf]
      · have hb : (((nth xs j : Nat) : Int) == 0) = false := by simp [hz]
        have H := Lib.hid hz
        clear hz ht
        go_wp2
        go_ret
        have e : (limbs (val xs)).length = j + 1 := by rw [← ht0.out, ← H2.out, topOf, if_neg H.out]
        exact ⟨by rw [e]; rfl, rfl⟩
    · obtain rfl : k = 0 := by omega
      have H2 := Lib.hid ht
      clear ht
      go_wp2
      go_ret
      have e : (limbs (val xs)).length = 0 := by rw [← ht0.out, ← H2.out]; rfl
      exact ⟨by rw [e]; rfl, rfl⟩

theorem and_low (x : Nat) (hx : x < 18446744073709551616) : Go.bits .and .u64 (x : Int) 4294967295 = ((x % 4294967296 : Nat) : Int) := by
  have h := bits_mask .u64 64 (by decide) (fun n h0 h1 => by
    have e : IntKind.u64.wrap n = n % 18446744073709551616 := by simp [IntKind.wrap, IntKind.bits, IntKind.signed]
    rw [e]; omega) 32 (by decide) (x : Int) (by omega) (by omega)
  rw [show ((2 : Int) ^ 32 - 1) = 4294967295 from rfl] at h
  rw [h]
  omega

set_option maxHeartbeats 400000 in
theorem low_any (x : Nat) (w : World) (hx : x < 18446744073709551616) :
    Calls Tryz.prog 102 #[.int .u64 x] w fun e w' => e = .returned (.int .u32 (x % 4294967296 : Nat)) ∧ w = w' := by
  have e1 := and_low x hx
  go_enter Tryz.func102, Tryz.ntmps102
  go_wp2
  go_ret
  exact ⟨ret_eq (by simp), rfl⟩

set_option maxHeartbeats 400000 in
theorem high_any (x : Nat) (w : World) :
    Calls Tryz.prog 103 #[.int .u64 x] w fun e w' => e = .returned (.int .u64 (x / 4294967296 : Nat)) ∧ w = w' := by
  go_enter Tryz.func103, Tryz.ntmps103
  go_wp2
  go_ret
  exact ⟨ret_eq (by simp), rfl⟩

theorem own_block (w : World) (base : Nat) (xs : List Nat) (h : Lim xs) (hb : base ≤ w.heap.size) (hl : xs.length ≤ 281474976710656) :
    Own (w.alloc (.cells (u32s xs).toArray 169)) base (some ⟨w.heap.size, 0, none⟩) xs.length xs.length xs :=
  ⟨⟨by rw [u32s_length], Nat.le_refl _, hl, .inr ⟨w.heap.size, [], rfl, hb, by rw [heap_alloc_new, List.append_nil], by simp⟩⟩, h⟩

theorem limbs_two (x : Nat) (hx : x < 18446744073709551616) : Lim [x % 4294967296, x / 4294967296] ∧ val [x % 4294967296, x / 4294967296] = x := by
  refine ⟨Lim.cons (Nat.mod_lt _ (by omega)) (Lim.cons (by omega) Lim.nil), ?_⟩
  simp only [val]
  omega

set_option maxHeartbeats 400000 in
theorem From_any (x : Nat) (w : World) (hx : x < 18446744073709551616) :
    Calls Tryz.prog 81 #[.int .u64 x] w fun e w' => ∃ A, e = .returned (.slice A (limbs x).length (limbs x).length) ∧ Own w' w.heap.size A (limbs x).length (limbs x).length (limbs x) ∧ Below w.heap.size w w' := by
  obtain ⟨hlim, hval⟩ := limbs_two x hx
  have hown := own_block w w.heap.size _ hlim (Nat.le_refl _) (by simp)
  have hcs : (u32s [x % 4294967296, x / 4294967296]).toArray = #[.int .u32 ((x : Int) % 4294967296), .int .u32 ((x : Int) / 4294967296)] := by simp [u32s]
  rw [hcs] at hown
  have HV := Lib.hid hval
  clear hcs hval
  go_enter Tryz.func81, Tryz.ntmps81
  go_wp2_with (first | (go_at_call 102; refine (low_any _ _ (by omega)).mono ?_; rintro e w' ⟨rfl, rfl⟩) | (go_at_call 103; refine (high_any _ _).mono ?_; rintro e w' ⟨rfl, rfl⟩) | (go_at_call 100; refine (trim_any _ _ _ _ _ hown.num).mono ?_; rintro e w' ⟨rfl, rfl⟩))
  rw [HV.out]
  go_ret
  have h1 := hown.trim
  rw [HV.out] at h1
  exact ⟨_, rfl, h1, (Below.refl _ _).alloc (Nat.le_refl _) _⟩

theorem Tryz.under_sl : Tryz.prog.underlying 132 = some (.slice 169) := Tryz.underlying132

set_option maxHeartbeats 400000 in
theorem Norm_any (A : Option Addr) (n c : Nat) (xs : List Nat) (w : World) (hr : Num w A n c xs) (hn : n ≤ 35184372088832) :
    Calls Tryz.prog 99 #[.slice A n c] w fun e w' => ∃ A' c', e = .returned (.slice A' (limbs (val xs)).length c') ∧ Own w' w.heap.size A' (limbs (val xs)).length c' (limbs (val xs)) ∧ Below w.heap.size w w' := by
  have hlen : (limbs (val xs)).length ≤ n := by rw [← hr.len]; exact limbs_length_val hr.lim
  have ht := hr.trim
  go_enter Tryz.func99, Tryz.ntmps99
  go_wp2_with (first | (go_at_call 100; refine (trim_any _ _ _ _ _ hr).mono ?_; rintro e w' ⟨rfl, rfl⟩) | (at_builtin; refine app_all w.heap.size rfl _ _ _ _ (.int .u32 0) 4 rfl Tryz.under_sl Tryz.info_u32 rfl (by omega) none 0 0 [] A _ _ _ rfl rfl (u32s_one _) (Mine.nil _ _ _) ht.sl (Nat.le_refl _) ?hb (fun _ => .inr ⟨rfl, rfl, rfl⟩) ?h0 ?h1))
  case hb => omega
  case h0 =>
    intro h0
    go_wp2
    go_ret
    rw [h0]
    exact ⟨none, 0, rfl, Own.nil _ _, Below.refl _ _⟩
  case h1 =>
    intro _ A' c' w' hm hg _
    go_wp2
    go_ret
    exact ⟨A', c', rfl, ⟨hm, limbs_lim _⟩, below_of_grownBy hg⟩

/-- what u64's and signed numbers' wraps leave alone -/
theorem wrap_u64 {n : Int} (h0 : 0 ≤ n) (h1 : n < 18446744073709551616) : IntKind.u64.wrap n = n := by
  have e : IntKind.u64.wrap n = n % 18446744073709551616 := by simp [IntKind.wrap, IntKind.bits, IntKind.signed]
  rw [e]; omega

theorem or_join64 (i : Nat) (a b : Nat) (hb : b < 2 ^ i) (hs : a * 2 ^ i + b < 18446744073709551616) :
    Go.bits .or .u64 ((a * 2 ^ i : Nat) : Int) (b : Int) = ((a * 2 ^ i + b : Nat) : Int) := by
  have hp : (b : Int) < 2 ^ i := by
    have : ((b : Nat) : Int) < ((2 ^ i : Nat) : Int) := by omega
    simpa using this
  have hs' : ((a * 2 ^ i + b : Nat) : Int) < 18446744073709551616 := by omega
  simp only [Int.natCast_add, Int.natCast_mul, Int.natCast_pow] at hs' ⊢
  have ha0 : (0 : Int) ≤ (a : Int) * (2 : Nat) ^ i := Int.mul_nonneg (by omega) (Int.pow_nonneg (by omega))
  exact bits_join .u64 64 (by decide) (fun n h0 h1 => wrap_u64 h0 (by simpa using h1)) i _ _ ha0 (Int.mul_emod_left _ _) (by simp only [show ((2 : Int) ^ 64) = 18446744073709551616 from rfl]; omega) (by omega) hp (by simp only [show ((2 : Int) ^ 64) = 18446744073709551616 from rfl]; omega)

/-! ### comparing -/
theorem drop_nth {xs : List Nat} {i : Nat} (h : i < xs.length) : xs.drop i = nth xs i :: xs.drop (i + 1) := by
  rw [List.drop_eq_getElem_cons h]
  congr 1
  unfold nth
  rw [List.getD_eq_getElem?_getD, List.getElem?_eq_getElem h]; rfl

end Go.Proofs.YtekcpapkicmckaaGreatDoor
