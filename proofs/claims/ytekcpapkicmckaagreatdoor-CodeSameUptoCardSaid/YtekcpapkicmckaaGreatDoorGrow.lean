/- limbs.grow: a times k and c, in place. -/
import Derived.Test.YtekcpapkicmckaaGreatDoorMul
namespace Go.Proofs.YtekcpapkicmckaaGreatDoor
open Go.RowKit

theorem grow_step {os : List Nat} {i cr k c sm V0 : Nat} (hj : i < os.length) (HV : val (os.take i) + cr * 4294967296 ^ i = V0 * k + c) (hs : cr + nth os i * k = sm) :
    val ((os.set i (sm % 4294967296)).take (i + 1)) + sm / 4294967296 * 4294967296 ^ (i + 1) = (V0 + 4294967296 ^ i * nth os i) * k + c := by
  rw [val_take_succ (by rw [List.length_set]; exact hj), nth_set_eq hj, List.take_set_of_le (Nat.le_refl _), Nat.pow_succ, Nat.add_mul]
  generalize 4294967296 ^ i = P at *
  have e3 : P * (sm % 4294967296) + sm / 4294967296 * (P * 4294967296) = P * sm := by
    have : sm = sm % 4294967296 + 4294967296 * (sm / 4294967296) := by omega
    conv => rhs; rw [this]
    rw [Nat.mul_add]
    simp only [Nat.mul_left_comm, Nat.mul_comm]
  have e4 : P * sm = cr * P + P * nth os i * k := by rw [← hs, Nat.mul_add, Nat.mul_comm P cr, Nat.mul_assoc]
  omega

/-- what grow leaves -/
def GrowPost (w : World) (base : Nat) (A : Option Addr) (n V : Nat) (e : Ending) (w' : World) : Prop :=
  ∃ A' n' c' ys, e = .returned (.slice A' n' c') ∧ Own w' base A' n' c' ys ∧ val ys = V ∧ n' ≤ n + 1 ∧ w.grownBy w' (blockOf A)

set_option maxRecDepth 100000 in
set_option maxHeartbeats 2000000 in
theorem grow_any (base : Nat) (A : Option Addr) (n c : Nat) (xs : List Nat) (k cc : Nat) (w : World) (hx : Own w base A n c xs) (hb : base ≤ w.heap.size) (hn : n < 35184372088831) (hk : k < 4294967296) (hc : cc < 4294967296) :
    Calls Tryz.prog 167 #[.slice A n c, .int .u32 k, .int .u32 cc] w (GrowPost w base A n (val xs * k + cc)) := by
  have HL := Lib.hid hx.len
  go_enter Tryz.func167, Tryz.ntmps167
  go_wp2
  have hk64 : (k : Int) < 4294967296 := by omega
  go_loopw [7, 13] (fun cy ix wr => ∃ (i cr : Nat) (os : List Nat), i ≤ n ∧ ix = .int .i64 i ∧ cy = .int .u64 cr ∧ cr < 4294967296 ∧ Own wr base A n c os ∧ w.grownBy wr (blockOf A) ∧
    Hid (val (os.take i) + cr * 4294967296 ^ i = val (xs.take i) * k + cc) ∧ Hid (∀ j, i ≤ j → nth os j = nth xs j)) (fun _ ix _ => n - (intOf ix).toNat)
  case atStart => exact ⟨0, cc, xs, Nat.zero_le _, rfl, rfl, hc, hx, Go.World.grownBy.refl _ _, Lib.hid (by simp [val]), Lib.hid (fun j _ => rfl)⟩
  case round =>
    obtain ⟨i, cr, os, hi, rfl, rfl, hcr, ho, hg, HV, HZ⟩ := hrel
    have hbz := hg.size
    clear hx
    by_cases hlt : i < n
    · obtain ⟨g, rfl, hg1, hg2⟩ := ho.some_of (by omega)
      have hcx := ho.cell i hlt
      have hfx := ho.free i
      have hxb := nth_lt ho.lim i
      obtain ⟨x, hx2⟩ : ∃ x, nth os i = x := ⟨_, rfl⟩
      obtain ⟨sm, hsm⟩ : ∃ sm, cr + x * k = sm := ⟨_, rfl⟩
      have hsb : sm < 18446744073709551616 := by
        have : x * k ≤ 4294967295 * 4294967295 := Nat.mul_le_mul (by omega) (by omega)
        omega
      obtain ⟨pr, hpr⟩ : ∃ pr, x * k = pr := ⟨_, rfl⟩
      rw [hpr] at hsm
      have u1 : IntKind.u64.wrap ((x : Int) * (k : Int)) = (pr : Int) := by rw [← Int.natCast_mul, hpr]; exact wrap_u64 (by omega) (by omega)
      have u3 : IntKind.u64.wrap ((cr : Int) + (pr : Int)) = (sm : Int) := by rw [← Int.natCast_add, hsm]; exact wrap_u64 (by omega) (by omega)
      have HS : Hid (val ((os.set i (sm % 4294967296)).take (i + 1)) + sm / 4294967296 * 4294967296 ^ (i + 1) = val (xs.take (i + 1)) * k + cc) := Lib.hid (by
        rw [grow_step (k := k) (by rw [ho.len]; exact hlt) HV.out (by rw [hx2, hpr]; exact hsm), val_take_succ', ← HZ.out i (Nat.le_refl _)])
      have HZ2 : Hid (∀ j, i + 1 ≤ j → nth (os.set i (sm % 4294967296)) j = nth xs j) := Lib.hid (fun j hj => by rw [nth_set_ne (by omega)]; exact HZ.out j (by omega))
      rw [hx2] at hcx hxb
      have hA := ho.stored i (sm % 4294967296) hlt (Nat.mod_lt _ (by omega))
      have hB := hg.trans (setCell_grownBy wr g i (.int .u32 (sm % 4294967296 : Nat)))
      have HLO := Lib.hid (fun W => low_any sm W hsb)
      have HHI := Lib.hid (fun W => high_any sm W)
      have hq : sm / 4294967296 < 4294967296 := by omega
      clear hx2 hsm hpr HV HZ
      go_wp2_with (first | (go_at_call 102; refine (HLO.out _).mono ?_; rintro e w' ⟨rfl, rfl⟩) | (go_at_call 103; refine (HHI.out _).mono ?_; rintro e w' ⟨rfl, rfl⟩))
      go_roundw
      case rel => exact ⟨i + 1, sm / 4294967296, _, hlt, by go_num, by first | rfl | simp, hq, hA, hB, HS, HZ2⟩
      case measure => simp [intOf]; omega
    · obtain rfl : i = n := by omega
      have HLN := Lib.hid ho.len
      have hv : val os + cr * 4294967296 ^ i = val xs * k + cc := by
        have := HV.out
        rwa [List.take_of_length_le (by rw [HLN.out]; omega), List.take_of_length_le (by rw [HL.out]; omega)] at this
      have HV2 := Lib.hid hv
      clear hv
      by_cases h0 : cr = 0
      · subst h0
        go_wp2
        go_ret
        exact ⟨A, i, c, os, rfl, ho, by have := HV2.out; omega, by omega, hg⟩
      · have hpos : 0 < cr := by omega
        have hpos' : (0 : Int) < (cr : Int) := by omega
        go_wp2_with (at_builtin; refine app_one base rfl _ _ _ _ (.int .u32 0) 4 rfl Tryz.under_sl Tryz.info_u32 rfl (by omega) A _ _ _ (.int .u32 (cr : Int)) rfl rfl rfl ho.mine (by omega) (by omega) ?_; intro A' c2 w2 hm2 hg2 _)
        go_ret
        rw [u32s_snoc] at hm2
        exact ⟨A', i + 1, c2, os ++ [cr], rfl, ⟨hm2, ho.lim.snoc hcr⟩, by rw [val_snoc, HLN.out, Nat.mul_comm _ cr]; exact HV2.out, by omega, hg.trans hg2⟩

end Go.Proofs.YtekcpapkicmckaaGreatDoor
