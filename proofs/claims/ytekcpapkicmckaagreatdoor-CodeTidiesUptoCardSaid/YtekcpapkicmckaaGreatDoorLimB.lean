/- Contracts of package limbs: down, the short division. -/
import Derived.Test.YtekcpapkicmckaaGreatDoorLimA
namespace Go.Proofs.YtekcpapkicmckaaGreatDoor
open Go.RowKit

theorem val_of_digits {os : List Nat} {m N : Nat} (hl : os.length = m) (hN : N < 4294967296 ^ m) (h : ∀ j, j < m → nth os j = N / 4294967296 ^ j % 4294967296) : val os = N := by
  have key : ∀ j, j ≤ m → val (os.take j) = N % 4294967296 ^ j := by
    intro j
    induction j with
    | zero => intro _; simp [val, Nat.mod_one]
    | succ j ih =>
      intro hj
      rw [val_take_succ', ih (by omega), h j (by omega), Nat.pow_succ, Nat.mod_mul]
  have := key m (Nat.le_refl _)
  rwa [List.take_of_length_le (by omega), Nat.mod_eq_of_lt hN] at this

theorem down_digit (X : List Nat) (hX : Lim X) (k i : Nat) (hk : k < 32) : (nth X i + nth X (i + 1) * 4294967296) / 2 ^ k % 4294967296 = val X / 2 ^ k / 4294967296 ^ i % 4294967296 := by
  have h0 := nth_of_val X hX i
  have h1 := nth_of_val X hX (i + 1)
  rw [Nat.div_div_eq_div_mul, Nat.mul_comm (2 ^ k) (4294967296 ^ i), ← Nat.div_div_eq_div_mul]
  rw [Nat.pow_succ, ← Nat.div_div_eq_div_mul] at h1
  generalize val X / 4294967296 ^ i = V at h0 h1 ⊢
  have e : V = nth X i + nth X (i + 1) * 4294967296 + 2 ^ k * (2 ^ (32 - k) * (4294967296 * (V / 4294967296 / 4294967296))) := by
    rw [← Nat.mul_assoc, ← Nat.pow_add, show k + (32 - k) = 32 by omega]
    omega
  have hp : 0 < 2 ^ k := Nat.pow_pos (by omega)
  conv => rhs; rw [e]
  rw [Nat.add_mul_div_left _ _ hp, Nat.mul_left_comm, Nat.add_mul_mod_self_left]

theorem or_shift32 (x y : Nat) (hx : x < 4294967296) (hy : y < 4294967296) : Go.bits .or .u64 (x : Int) ((y : Int) * 4294967296) = ((x + y * 4294967296 : Nat) : Int) := by
  have h := or_join64 32 y x hx (by omega)
  rw [show ((y * 2 ^ 32 : Nat) : Int) = (y : Int) * 4294967296 by rw [show (2 : Nat) ^ 32 = 4294967296 from rfl]; omega] at h
  rw [show Go.bits .or .u64 (x : Int) ((y : Int) * 4294967296) = Go.bits .or .u64 ((y : Int) * 4294967296) (x : Int) by simp only [Go.bits, BitVec.or_comm], h, Nat.add_comm]

set_option maxHeartbeats 400000 in
theorem down_any (A : Option Addr) (n c : Nat) (xs : List Nat) (k : Nat) (w : World) (hr : Num w A n c xs) (hn : n < 35184372088832) (hk : k < 32) :
    Calls Tryz.prog 224 #[.slice A n c, .int .i64 k] w fun e w' => ∃ A' , e = .returned (.slice A' (limbs (val xs / 2 ^ k)).length (limbs (val xs / 2 ^ k)).length) ∧
      Own w' w.heap.size A' (limbs (val xs / 2 ^ k)).length (limbs (val xs / 2 ^ k)).length (limbs (val xs / 2 ^ k)) ∧ Below w.heap.size w w' := by
  obtain ⟨m, hm⟩ : ∃ m, (limbs (val xs)).length = m := ⟨_, rfl⟩
  have hlen : m ≤ n := by rw [← hr.len, ← hm]; exact limbs_length_val hr.lim
  have ht := hr.trim
  rw [hm] at ht
  have HM := Lib.hid hm
  have htr := trim_any A n c xs w hr
  rw [hm] at htr
  have HT := Lib.hid htr
  clear hm htr
  have hk32 : (k : Int) / 32 = 0 := by omega
  have hk32' : (k : Int) % 32 = k := by omega
  by_cases h0 : m = 0
  · subst h0
    go_enter Tryz.func224, Tryz.ntmps224
    go_wp2_with (first | (go_at_call 100; refine HT.out.mono ?_; rintro e w' ⟨rfl, rfl⟩))
    go_ret
    have e : limbs (val xs / 2 ^ k) = [] := by
      have : val xs = 0 := limbs_length_zero.1 HM.out
      rw [this, Nat.zero_div, limbs_zero]
    rw [e]
    exact ⟨none, rfl, Own.nil _ _, Below.refl _ _⟩
  · have hmake := fun h1 h2 => make_row (P := Tryz.prog) 132 169 (.int .u32 0) 4 Tryz.under_sl Tryz.info_u32 rfl (by omega) m m h1 h2
    replace hmake := hmake (by omega) (by omega)
    have hX := limbs_lim (val xs)
    have HV := Lib.hid (val_limbs (val xs))
    generalize limbs (val xs) = X at *
    obtain ⟨b, off, rfl, hcl⟩ := ht.cells (by omega)
    go_enter Tryz.func224, Tryz.ntmps224
    go_wp2_with (first | (go_at_call 100; refine HT.out.mono ?_; rintro e w' ⟨rfl, rfl⟩))
    go_loopw [24] (fun ix wr => ∃ (i : Nat) (os : List Nat), i ≤ m ∧ ix = .int .i64 i ∧ Own wr w.heap.size (some ⟨w.heap.size, 0, none⟩) m m os ∧ Below w.heap.size w wr ∧
        ∀ j, j < i → nth os j = val X / 2 ^ k / 4294967296 ^ j % 4294967296) (fun ix _ => m - (intOf ix).toNat)
    case atStart =>
      refine ⟨0, List.replicate m 0, Nat.zero_le _, rfl, ⟨?_, Lim.replicate _⟩, (Below.refl _ _).alloc (Nat.le_refl _) _, fun j hj => absurd hj (by omega)⟩
      rw [← u32s_replicate]; exact Mine.made _ _ _ _ _ _ (Nat.le_refl _) (Nat.le_refl _) (by omega)
    case round =>
      obtain ⟨i, os, hi, rfl, hown, hb, hdig⟩ := hrel
      have HD := Lib.hid hdig
      clear hdig
      by_cases hlt : i < m
      · have hcell : wr.cell? ⟨b, off + i, none⟩ = some (.int .u32 (nth X i : Nat)) := (hb.cell (World.block_lt_of_cell? w _ (hcl i hlt))).trans (hcl i hlt)
        have hx := nth_lt hX i
        have hg0 := hown.cell i hlt
        have hg1 := hown.free i
        have HS := down_digit X hX k i hk
        have hst : ∀ (y : Nat), (nth X i + nth X (i + 1) * 4294967296) = y → y < 18446744073709551616 → Hid (∀ v : Int, v = (y : Int) / 2 ^ k % 4294967296 → Own (wr.setCell ⟨w.heap.size, i, none⟩ (.int .u32 v)) w.heap.size (some ⟨w.heap.size, 0, none⟩) m m (os.set i (y / 2 ^ k % 4294967296)) ∧
            ∀ j, j < i + 1 → nth (os.set i (y / 2 ^ k % 4294967296)) j = val X / 2 ^ k / 4294967296 ^ j % 4294967296) := by
          intro y hy hy2
          refine Lib.hid (fun v hv => ⟨hown.stored' i _ _ hlt (Nat.mod_lt _ (by omega)) (by rw [hv, Int.natCast_emod, Int.natCast_ediv, Int.natCast_pow]; rfl), fun j hj => ?_⟩)
          by_cases e : j = i
          · subst e
            rw [nth_set_eq (by rw [hown.len]; exact hlt), ← hy, HS]
          · rw [nth_set_ne (by omega)]
            exact HD.out j (by omega)
        clear HS
        have hbw := hb.setCell (p := ⟨w.heap.size, i, none⟩) (Nat.le_refl _)
        have hdiv : ∀ y : Nat, y < 18446744073709551616 → Hid (0 ≤ (y : Int) / 2 ^ k ∧ (y : Int) / 2 ^ k < 18446744073709551616) := by
          intro y hy
          have h1 : y / 2 ^ k < 18446744073709551616 := Nat.lt_of_le_of_lt (Nat.div_le_self _ _) hy
          have h2 : (y : Int) / 2 ^ k = ((y / 2 ^ k : Nat) : Int) := by rw [Int.natCast_ediv, Int.natCast_pow]; rfl
          refine Lib.hid ?_
          rw [h2]
          exact ⟨Int.natCast_nonneg _, Int.ofNat_lt.2 h1⟩
        by_cases hl1 : i + 1 < m
        · have hcell2 : wr.cell? ⟨b, off + (i + 1), none⟩ = some (.int .u32 (nth X (i + 1) : Nat)) := (hb.cell (World.block_lt_of_cell? w _ (hcl _ hl1))).trans (hcl _ hl1)
          have hx2 := nth_lt hX (i + 1)
          have hor := or_shift32 (nth X i) (nth X (i + 1)) hx hx2
          obtain ⟨y, hy⟩ : ∃ y, nth X i + nth X (i + 1) * 4294967296 = y := ⟨_, rfl⟩
          have hy2 : y < 18446744073709551616 := by omega
          have HST := hst y hy hy2
          have HDV := hdiv y hy2
          rw [hy] at hor
          clear hy hst hdiv hy2
          go_wp2_with (first | (go_at_call 102; refine (low_int _ _ HDV.out.1 HDV.out.2).mono ?_; rintro e w' ⟨rfl, rfl⟩))
          go_roundw
          case rel =>
            obtain ⟨h1, h2⟩ := HST.out _ rfl
            exact ⟨i + 1, _, by omega, by go_num, h1, hbw _, h2⟩
          case measure => simp [intOf]; omega
        · have e0 : nth X (i + 1) = 0 := nth_over (by rw [HM.out]; omega)
          have HST := hst (nth X i) (by rw [e0]; omega) (by omega)
          have HDV := hdiv (nth X i) (by omega)
          clear hst hdiv e0
          go_wp2_with (first | (go_at_call 102; refine (low_int _ _ HDV.out.1 HDV.out.2).mono ?_; rintro e w' ⟨rfl, rfl⟩))
          go_roundw
          case rel =>
            obtain ⟨h1, h2⟩ := HST.out _ rfl
            exact ⟨i + 1, _, by omega, by go_num, h1, hbw _, h2⟩
          case measure => simp [intOf]; omega
      · obtain rfl : i = m := by omega
        have hlt2 : val X / 2 ^ k < 4294967296 ^ i := Nat.lt_of_le_of_lt (Nat.div_le_self _ _) (by have := val_lt hX; rwa [HM.out] at this)
        have HE := Lib.hid (val_of_digits hown.len hlt2 HD.out)
        have htr2 := Lib.hid (trim_any _ _ _ _ _ hown.num)
        have hfin := hown.trim
        rw [HE.out] at hfin
        go_wp2_with (first | (go_at_call 100; refine htr2.out.mono ?_; rintro e w' ⟨rfl, rfl⟩))
        rw [HE.out]
        go_ret
        rw [← HV.out]
        exact ⟨_, rfl, hfin, hb⟩

end Go.Proofs.YtekcpapkicmckaaGreatDoor
