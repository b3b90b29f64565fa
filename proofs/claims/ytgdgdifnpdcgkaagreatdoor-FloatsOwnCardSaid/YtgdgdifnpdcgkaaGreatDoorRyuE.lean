/- Go's float printing: setDigits. -/
import Derived.Test.YtgdgdifnpdcgkaaGreatDoorRyuD
import Derived.Test.YtgdgdifnpdcgkaaGreatDoorShelf
import Derived.Test.YtgdgdifnpdcgkaaGreatDoorMem
namespace Go.Proofs.YtgdgdifnpdcgkaaGreatDoor
open Go.RowKit Go.Sort Go.Lib

/-- the place's digit, counted from the right -/
def dig (u j : Nat) : Nat := 48 + u / 10 ^ j % 10
theorem dg_toNat (u j : Nat) : (dg u j).toNat = dig u j := by
  unfold dg dig
  have : u / 10 ^ j % 10 < 10 := Nat.mod_lt _ (by omega)
  rw [UInt8.toNat_ofNat']
  omega

theorem dig_zero {v t j : Nat} (h : j < t) : dig (v * 10 ^ t) j = 48 := by
  unfold dig
  obtain ⟨k, rfl⟩ : ∃ k, t = j + 1 + k := ⟨t - (j + 1), by omega⟩
  rw [Nat.pow_add, Nat.pow_add, Nat.pow_one, Nat.mul_assoc (10 ^ j), Nat.mul_left_comm v, Nat.mul_div_cancel_left _ (Nat.pow_pos (by omega)), Nat.mul_left_comm v, Nat.mul_mod_right]
theorem dig_last {v t : Nat} : dig (v * 10 ^ t) t = 48 + v % 10 := by
  unfold dig
  rw [Nat.mul_div_cancel _ (Nat.pow_pos (by omega))]

/-- the row holds the digits -/
def Digs (w : World) (blk nd u : Nat) : Prop := ∀ j, j < nd → w.cell? ⟨blk, j, none⟩ = some (.int .u8 (dig u (nd - 1 - j) : Nat))

theorem putRow_grownBy (enc : UInt8 → Value) (w : World) (blk off : Nat) (d : Array UInt8) (n : Nat) : w.grownBy ((putRow enc w blk off d).drewN n) (some blk) :=
  ⟨rfl, rfl, rfl, by simp, fun i hi hne => by
    have e : blk ≠ i := fun e => hne (by rw [e])
    show (putRow enc w blk off d).heap[i]? = w.heap[i]?
    simp [putRow, mapBlock, Array.getElem?_modify, e]⟩

set_option maxHeartbeats 1000000 in
theorem setDigits_any (blk L c v t nd : Nat) (p : Int) (d : Array UInt8) (w : World) (hd : d.size = nd) (hH : Holds (fun (b : UInt8) => Value.int .u8 (b.toNat : Int)) w blk 0 d) (hL : nd ≤ L) (hLc : L ≤ c) (hL2 : L ≤ 1000000) (hv : v % 10 ≠ 0) (ht : t < nd) (hu : v * 10 ^ t < 10 ^ nd) (hu64 : v * 10 ^ t < 18446744073709551616) (hp1 : -100000 ≤ p) (hp2 : p ≤ 100000) :
    Calls Tryz.prog 148 #[.slice (some ⟨blk, 0, none⟩) L c, .int .u64 (v * 10 ^ t : Nat), .int .i64 p, .int .i64 nd] w fun e w' =>
      e = .returned (.tuple #[.int .i64 (nd + p), .int .i64 ((nd - t : Nat) : Int)]) ∧ Digs w' blk nd (v * 10 ^ t) ∧ w.grownBy w' (some blk) := by
  have HF := Lib.hid (Tryz.internal_strconv_formatBase10 blk 0 c (v * 10 ^ t) d w hH (by rw [hd]; exact hu) hu64 (by omega))
  rw [hd] at HF
  have HZ := Lib.hid (fun j (h : j < t) => dig_zero (v := v) h)
  have HN := Lib.hid (dig_last (v := v) (t := t))
  generalize v * 10 ^ t = u at *
  clear hu hu64
  go_enter Tryz.func148, Tryz.ntmps148
  go_wp2_with (first | (go_at_call 111; refine HF.out.mono ?_; rintro ex w1 ⟨rfl, n1, v', dk, rfl, hinv⟩))
  have hsz : dk.size = nd := hinv.size
  have hG := putRow_grownBy (fun (b : UInt8) => Value.int .u8 (b.toNat : Int)) w blk 0 dk n1
  have hD : Digs ((putRow (fun (b : UInt8) => Value.int .u8 (b.toNat : Int)) w blk 0 dk).drewN n1) blk nd u := fun j hj => by
    have h1 := cell?_putRow (fun (b : UInt8) => Value.int .u8 (b.toNat : Int)) w blk 0 d dk hH (by rw [hsz, hd]) j (by omega)
    rw [Nat.zero_add] at h1
    rw [hinv.done j (by omega) hj, dg_toNat] at h1
    exact h1
  generalize (putRow (fun (b : UInt8) => Value.int .u8 (b.toNat : Int)) w blk 0 dk).drewN n1 = w1 at *
  have HD := Lib.hid hD
  have HG := Lib.hid hG
  clear hD hG hinv hsz hH hd
  go_loop [3] (fun x => ∃ i : Nat, nd - t ≤ i ∧ i ≤ nd ∧ x = .int .i64 i) (fun x => (RowKit.intOf x).toNat)
  case atStart => exact ⟨nd, by omega, Nat.le_refl _, rfl⟩
  case round =>
    obtain ⟨i, hi1, hi2, rfl⟩ := hrel
    have hpos : (0 : Int) < (i : Int) := by omega
    have hpos2 : decide ((0 : Int) < (i : Int)) = true := decide_eq_true hpos
    have hpos3 : decide (0 < i) = true := decide_eq_true (by omega)
    have hc := HD.out (i - 1) (by omega)
    obtain ⟨k, rfl⟩ : ∃ k, i = k + 1 := ⟨i - 1, by omega⟩
    rw [Nat.add_sub_cancel] at hc
    by_cases hk : nd - 1 - k < t
    · rw [HZ.out _ hk] at hc
      go_wp2
      go_round
      case rel => exact ⟨k, by omega, by omega, by go_num⟩
      case measure => simp [RowKit.intOf]
    · have hk2 : nd - 1 - k = t := by omega
      rw [hk2, HN.out] at hc
      have hv2 : v % 10 < 10 := Nat.mod_lt _ (by omega)
      generalize v % 10 = z at *
      have hz1 : (((48 + z : Nat) : Int) == 48) = false := by simp; omega
      have HK := Lib.hid (show k + 1 = nd - t by omega)
      go_wp2
      go_ret2
      exact ⟨by rw [← HK.out]; rfl, HD.out, HG.out⟩


end Go.Proofs.YtgdgdifnpdcgkaaGreatDoor
