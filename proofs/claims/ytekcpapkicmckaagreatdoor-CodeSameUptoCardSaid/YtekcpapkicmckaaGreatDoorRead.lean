/- limbs.Read: decimal digits as limbs. -/
import Derived.Test.YtekcpapkicmckaaGreatDoorGrow
import Derived.Test.YtekcpapkicmckaaGreatDoorDec
namespace Go.Proofs.YtekcpapkicmckaaGreatDoor
open Go.RowKit

/-- all bytes of a text are decimal digits -/
def AllDig (l : List UInt8) : Prop := ∀ c ∈ l, 48 ≤ c.toNat ∧ c.toNat ≤ 57

theorem nonempty_of {s : ByteArray} (h : 0 < s.size) : s.toList.isEmpty = false := by
  rw [ByteArray.toList_eq, List.isEmpty_eq_false_iff]
  intro e
  have e2 : s.data.toList.length = s.size := by simp
  rw [e, List.length_nil] at e2
  omega

theorem ret_u32 {a b : Int} (h : a = b) : Value.int .u32 a = .int .u32 b := by rw [h]

set_option maxRecDepth 100000 in
set_option maxHeartbeats 2000000 in
theorem Read_any (s : ByteArray) (w : World) (hd : AllDig s.data.toList) (h0 : 0 < s.size) (hs : s.size < 35184372088831) :
    Calls Tryz.prog 129 #[.string s] w fun e w' => ∃ A', e = .returned (.tuple #[.slice A' (limbs (dv s.data.toList)).length (limbs (dv s.data.toList)).length, .int .i64 0, .int .i64 0]) ∧
      Own w' w.heap.size A' (limbs (dv s.data.toList)).length (limbs (dv s.data.toList)).length (limbs (dv s.data.toList)) ∧ Below w.heap.size w w' := by
  have HD := Lib.hid hd
  have hne := nonempty_of h0
  go_enter Tryz.func129, Tryz.ntmps129
  go_wp2
  go_loop [13] (fun ix => ∃ i : Nat, i ≤ s.size ∧ ix = .int .i64 i) (fun ix => s.size - (intOf ix).toNat)
  case atStart => exact ⟨0, Nat.zero_le _, rfl⟩
  case round =>
    obtain ⟨i, hi, rfl⟩ := hrel
    by_cases hlt : i < s.size
    · have hb := HD.out (s[i]) (by rw [show s[i] = s.data.toList[i]'(by simpa using hlt) from rfl]; exact List.getElem_mem _)
      have hb1 : (48 : Int) ≤ (s[i].toNat : Int) := by omega
      have hb2 : (s[i].toNat : Int) ≤ 57 := by omega
      clear hb
      go_wp2
      go_round
      case rel => exact ⟨i + 1, hlt, by go_num⟩
      case measure => simp [intOf]; omega
    · obtain rfl : i = s.size := by omega
      go_wp2
      clear HD
      go_loopw [0, 6] (fun sx ax wr => ∃ (t : ByteArray) (p n c : Nat) (A : Option Addr) (xs : List Nat), sx = .string t ∧ ax = .slice A n c ∧ Own wr w.heap.size A n c xs ∧ Below w.heap.size w wr ∧ t.size + p = s.size ∧ n ≤ p ∧
        Hid (t.data.toList = s.data.toList.drop p) ∧ Hid (val xs = dv (s.data.toList.take p))) (fun sx _ _ => match sx with | .string t => t.size | _ => 0)
      case atStart => exact ⟨s, 0, 0, 0, none, [], rfl, rfl, Own.nil _ _, Below.refl _ _, by omega, by omega, Lib.hid rfl, Lib.hid rfl⟩
      case round =>
        obtain ⟨t, p, n, c, A, xs, rfl, rfl, ho, hb, hp, hn, HT, HV⟩ := hrel
        by_cases hz : t.size = 0
        · have HV2 : Hid (val xs = dv s.data.toList) := Lib.hid (by rw [HV.out, List.take_of_length_le (by simp; omega)])
          have HT2 := Lib.hid (trim_any _ _ _ _ wr ho.num)
          have h3 := ho.trim
          rw [HV2.out] at HT2 h3
          go_wp2_with fail
          refine HT2.out.mono ?_; rintro e w2 ⟨rfl, rfl⟩
          go_wp2
          go_ret3
          exact ⟨_, rfl, h3, hb⟩
        · have hzp : 0 < t.size := by omega
          obtain ⟨m, hm⟩ : ∃ m, min 9 t.size = m := ⟨_, rfl⟩
          have hm9 : m ≤ 9 := by omega
          have hmt : m ≤ t.size := by omega
          have hm0 : 0 < m := by omega
          have hmin : (min 9 (t.size : Int)) = (m : Int) := by omega
          have HM := Lib.hid hm
          have HTD : Hid (AllDig t.data.toList) := Lib.hid (by rw [HT.out]; exact fun c hc => hd c (List.mem_of_mem_drop hc))
          clear hm
          go_wp2
          go_loop [8, 9, 37] (fun kx dx ix => ∃ (i k d : Nat), i ≤ m ∧ ix = .int .i64 i ∧ kx = .int .u32 k ∧ dx = .int .u32 d ∧ Hid (k = 10 ^ i) ∧ Hid (d = dv (t.data.toList.take i)) ∧ d < k) (fun _ _ ix => m - (intOf ix).toNat)
          case atStart => exact ⟨0, 1, 0, by omega, rfl, rfl, rfl, Lib.hid rfl, Lib.hid rfl, by omega⟩
          case round =>
            obtain ⟨i, k, d, hi, rfl, rfl, rfl, HK, HDV, hdk⟩ := hrel
            by_cases hlt : i < m
            · have hkb : k ≤ 100000000 := by
                rw [HK.out]
                exact Nat.le_trans (Nat.pow_le_pow_right (by omega) (show i ≤ 8 by omega)) (by omega)
              have hit : i < t.size := by omega
              have hc := HTD.out t[i] (by rw [show t[i] = t.data.toList[i]'(by simpa using hit) from rfl]; exact List.getElem_mem _)
              have hb1 : (48 : Int) ≤ (t[i].toNat : Int) := by omega
              have hb2 : (t[i].toNat : Int) ≤ 57 := by omega
              have HS := Lib.hid (show dv (t.data.toList.take (i + 1)) = 10 * d + (t[i].toNat - 48) by
                rw [List.take_succ_eq_append_getElem (by simpa using hit), dv_snoc, HDV.out]; rfl)
              have HK2 := Lib.hid (show k * 10 = 10 ^ (i + 1) by rw [HK.out, Nat.pow_succ])
              have u1 : IntKind.u32.wrap ((k : Int) * 10) = (k : Int) * 10 := by rw [IntKind.wrap_u32']; omega
              have u2 : IntKind.u32.wrap (10 * (d : Int)) = 10 * (d : Int) := by rw [IntKind.wrap_u32']; omega
              have u3 : IntKind.u8.wrap ((t[i].toNat : Int) - 48) = (t[i].toNat : Int) - 48 := by rw [IntKind.wrap_u8']; omega
              have u4 : IntKind.u32.wrap ((t[i].toNat : Int) - 48) = (t[i].toNat : Int) - 48 := by rw [IntKind.wrap_u32']; omega
              have u5 : IntKind.u32.wrap (10 * (d : Int) + ((t[i].toNat : Int) - 48)) = 10 * (d : Int) + ((t[i].toNat : Int) - 48) := by rw [IntKind.wrap_u32']; omega
              go_wp2
              go_round
              case rel => exact ⟨i + 1, k * 10, 10 * d + (t[i].toNat - 48), hlt, by go_num, by go_num, ret_u32 (by omega), HK2, Lib.hid HS.out.symm, by omega⟩
              case measure => simp [intOf]; omega
            · obtain rfl : i = m := by omega
              have hkb : k < 4294967296 := by
                rw [HK.out]
                exact Nat.lt_of_le_of_lt (Nat.pow_le_pow_right (by omega) (show i ≤ 9 by omega)) (by omega)
              have HG := Lib.hid (grow_any w.heap.size A n c xs k d wr ho (by have := hb.size; omega) (by omega) hkb (by omega))
              have hex : (t.extract i t.size).size = t.size - i := by rw [ByteArray.size_extract]; omega
              have HX := Lib.hid (show (t.extract i t.size).data.toList = s.data.toList.drop (p + i) by rw [Lib.extract_to_end, HT.out, List.drop_drop])
              go_wp2_with fail
              refine HG.out.mono ?_; rintro e w2 ⟨A', n', c', ys, rfl, ho2, hv2, hn2, hg2⟩
              have HV2 := Lib.hid (show val ys = dv (s.data.toList.take (p + i)) by
                rw [hv2, List.take_add, dv_append, ← HT.out, List.length_take, Nat.min_eq_left (by simpa using hmt), ← HDV.out, HV.out, HK.out])
              have hb2 : Below w.heap.size w w2 := below_grown hb hb.size hg2 (fun q hq => (ho.mine.lt q hq).1)
              have hnn : n' ≤ p + i := by omega
              clear hv2 hn2
              go_wp2
              go_roundw
              case rel => exact ⟨_, p + i, n', c', A', ys, rfl, rfl, ho2, hb2, by rw [hex]; omega, hnn, HX, HV2⟩
              case measure => show (t.extract i t.size).size < t.size; rw [hex]; omega

end Go.Proofs.YtekcpapkicmckaaGreatDoor
