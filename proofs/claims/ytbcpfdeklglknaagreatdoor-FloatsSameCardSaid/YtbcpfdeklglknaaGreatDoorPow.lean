/- limbs.Pow: the power of a natural, as limbs. -/
import Derived.Test.YtbcpfdeklglknaaGreatDoorMul
import Derived.Laws.BitsAllLaws
namespace Go.Proofs.YtbcpfdeklglknaaGreatDoor
open Go.RowKit

theorem pow_bd (V k m L : Nat) (hL : L = 2049) (h : blen V * m ≤ 65536) (hk : k ≤ m) : (limbs (V ^ k)).length ≤ L := by
  apply limbs_length_le
  rw [pow_limC]
  have h1 : V ^ k ≤ (2 ^ blen V) ^ k := Nat.pow_le_pow_left (Nat.le_of_lt (blen_lt V)) k
  rw [← Nat.pow_mul] at h1
  have h2 : blen V * k ≤ blen V * m := Nat.mul_le_mul_left _ hk
  refine Nat.lt_of_le_of_lt h1 (Nat.pow_lt_pow_right (by omega) (by omega))

theorem i64_odd (a : Nat) (h : a < 9223372036854775808) : Go.bits .and .i64 (a : Int) 1 = ((a % 2 : Nat) : Int) := by
  have e : (BitVec.ofInt 64 (a : Int) &&& BitVec.ofInt 64 1).toNat = a % 2 := by
    rw [BitVec.toNat_and, ofInt_u64 a (by omega), show (BitVec.ofInt 64 1).toNat = 1 from rfl, nat_mask1]
  show IntKind.i64.wrap ((BitVec.ofInt 64 (a : Int) &&& BitVec.ofInt 64 1).toNat : Int) = _
  rw [e]
  exact IntWalk.i64_in _ (by omega)

theorem half_step (n g : Nat) : n / 2 ^ g = 2 * (n / 2 ^ (g + 1)) + n / 2 ^ g % 2 := by
  rw [Nat.pow_succ, ← Nat.div_div_eq_div_mul]
  omega

theorem pow_double (V q : Nat) : V ^ q * V ^ q = V ^ (2 * q) := by rw [← Nat.pow_add]; congr 1; omega

set_option maxRecDepth 100000 in
set_option maxHeartbeats 2000000 in
theorem Pow_any (A : Option Addr) (n c : Nat) (xs : List Nat) (k : Nat) (w : World) (hx : Num w A n c xs) (hn : n < 35184372000000) (hk : k ≤ 65536) (hb : blen (val xs) * k ≤ 65536) :
    Calls Tryz.prog 35 #[.slice A n c, .int .i64 k] w fun e w' => ∃ A', e = .returned (.tuple #[.slice A' (limbs (val xs ^ k)).length (limbs (val xs ^ k)).length, .int .i64 0]) ∧
      Own w' w.heap.size A' (limbs (val xs ^ k)).length (limbs (val xs ^ k)).length (limbs (val xs ^ k)) ∧ Below w.heap.size w w' := by
  have HL := Lib.hid (Len_any A n c xs w hx)
  generalize hV : val xs = V at HL hb ⊢
  have HB := Lib.hid hb
  generalize hbk : blen V * k = bk at hb
  have u1 : IntKind.i64.wrap ((blen V : Int) * k) = (bk : Int) := by rw [← Int.natCast_mul, hbk]; exact IntWalk.i64_in _ (by omega)
  have HV := Lib.hid hV
  clear hV hbk
  go_enter Tryz.func35, Tryz.ntmps35
  go_wp2_with fail
  refine HL.out.mono ?_; rintro e w' ⟨rfl, rfl⟩
  go_wp2
  have hown : Own (w.alloc (.cells #[.int .u32 1] 65)) w.heap.size (some ⟨w.heap.size, 0, none⟩) 1 1 [1] := by
    have := own_block w w.heap.size [1] (Lim.cons (by omega) Lim.nil) (by simp) (by simp)
    simpa [u32s] using this
  have hbel : Below w.heap.size w (w.alloc (.cells #[.int .u32 1] 65)) := (Below.refl _ _).alloc (Nat.le_refl _) _
  generalize w.alloc (.cells #[.int .u32 1] 65) = w1 at hown hbel ⊢
  have hbd := Lib.hid (fun j h => pow_bd V j k 2049 rfl HB.out h)
  have HK : Hid (k < 2 ^ 17) := Lib.hid (by simp; omega)
  go_loopw [6, 7] (fun o ix wr => ∃ (g L : Nat) (z : Int) (A' : Option Addr) (os : List Nat), g ≤ 17 ∧ ix = .int .i64 z ∧ Hid (z = (g : Int) - 1) ∧ o = .slice A' L L ∧ Own wr w.heap.size A' L L os ∧ Hid (os = limbs (V ^ (k / 2 ^ g))) ∧ Below w.heap.size w wr ∧ L ≤ 2049)
    (fun _ ix _ => (intOf ix + 1).toNat)
  case atStart => exact ⟨17, 1, 16, _, [1], by omega, rfl, Lib.hid (by omega), rfl, hown, Lib.hid (by rw [Nat.div_eq_of_lt HK.out, Nat.pow_zero, limbs_pos (by omega)]; simp [limbs_zero]), hbel, by omega⟩
  case round =>
    obtain ⟨g, L, z, A', os, hg, rfl, HZ, rfl, ho, HO, hb', hL⟩ := hrel
    clear hown hbel
    by_cases h0 : g = 0
    · subst h0
      obtain rfl : z = -1 := by have := HZ.out; omega
      have HV2 : Hid (os = limbs (V ^ k)) := Lib.hid (by rw [HO.out]; simp)
      have HLN := Lib.hid ho.len
      go_wp2
      go_ret2
      have e1 := HLN.out
      have e2 := HV2.out
      subst e2
      subst e1
      exact ⟨A', rfl, ho, hb'⟩
    · obtain ⟨j, rfl⟩ : ∃ j, g = j + 1 := ⟨g - 1, by omega⟩
      obtain rfl : z = (j : Int) := by have := HZ.out; omega
      have HM1 := Lib.hid (Mul_any A' A' L L L L os os wr ho.num ho.num (by omega))
      have hkb : k / 2 ^ j < 9223372036854775808 := Nat.lt_of_le_of_lt (Nat.div_le_self _ _) (by omega)
      have e0 : ((k : Int) / 2 ^ j) = ((k / 2 ^ j : Nat) : Int) := by push_cast; rfl
      have e1 := i64_odd (k / 2 ^ j) hkb
      rw [← e0] at e1
      have e2 := half_step k j
      have HX := Lib.hid (show val os * val os = V ^ (2 * (k / 2 ^ (j + 1))) by rw [HO.out, val_limbs, pow_double])
      have hle : k / 2 ^ j ≤ k := Nat.div_le_self _ _
      by_cases hb : k / 2 ^ j % 2 = 1
      · have f1 : (Go.bits .and .i64 ((k : Int) / 2 ^ j) 1 == 1) = true := by rw [e1, hb]; rfl
        have HE := Lib.hid (show V ^ (2 * (k / 2 ^ (j + 1))) * V = V ^ (k / 2 ^ j) by rw [← Nat.pow_succ]; congr 1; omega)
        have l1 := hbd.out (2 * (k / 2 ^ (j + 1))) (by omega)
        have l2 := hbd.out (k / 2 ^ j) hle
        clear e0 e1 e2 hkb hle hb HO
        rw [HX.out] at HM1
        go_wp2_with fail
        refine HM1.out.mono ?_; rintro e w2 ⟨A2, rfl, ho2, hb2⟩
        have hx2 := hx.below ((hb'.trans (hb2.mono hb'.size)))
        have HM2 := Mul_any A2 A _ _ n c _ xs w2 ho2.num hx2 (by omega)
        rw [val_limbs, HV.out, HE.out] at HM2
        replace HM2 := Lib.hid HM2
        clear ho2 hx2
        go_wp2_with fail
        refine HM2.out.mono ?_; rintro e w3 ⟨A3, rfl, ho3, hb3⟩
        have hs3 : w.heap.size ≤ w2.heap.size := Nat.le_trans hb'.size hb2.size
        have hb4 := (hb'.trans (hb2.mono hb'.size)).trans (hb3.mono hs3)
        go_wp2
        go_roundw
        case rel => exact ⟨j, _, (j : Int) - 1, A3, _, by omega, rfl, Lib.hid rfl, rfl, ho3.mono hs3, Lib.hid rfl, hb4, l2⟩
        case measure => simp [intOf]
      · have f1 : (Go.bits .and .i64 ((k : Int) / 2 ^ j) 1 == 1) = false := by rw [e1]; simp; omega
        have HE := Lib.hid (show V ^ (2 * (k / 2 ^ (j + 1))) = V ^ (k / 2 ^ j) by congr 1; omega)
        have l2 := hbd.out (k / 2 ^ j) hle
        clear e0 e1 e2 hkb hle hb HO
        rw [HX.out, HE.out] at HM1
        go_wp2_with fail
        refine HM1.out.mono ?_; rintro e w2 ⟨A2, rfl, ho2, hb2⟩
        have hb4 := hb'.trans (hb2.mono hb'.size)
        go_wp2
        go_roundw
        case rel => exact ⟨j, _, (j : Int) - 1, A2, _, by omega, rfl, Lib.hid rfl, rfl, ho2.mono hb'.size, Lib.hid rfl, hb4, l2⟩
        case measure => simp [intOf]

end Go.Proofs.YtbcpfdeklglknaaGreatDoor
