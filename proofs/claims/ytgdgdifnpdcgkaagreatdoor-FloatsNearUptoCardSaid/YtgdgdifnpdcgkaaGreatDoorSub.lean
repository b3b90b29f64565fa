/- limbs.sub: the difference of two naturals, as limbs. -/
import Derived.Test.YtgdgdifnpdcgkaaGreatDoorMul
import Derived.Test.YtgdgdifnpdcgkaaGreatDoorCopy
import Derived.Test.YtgdgdifnpdcgkaaGreatDoorLongP
namespace Go.Proofs.YtgdgdifnpdcgkaaGreatDoor
open Go.RowKit

theorem subl_step {os xs ys : List Nat} {i cr : Nat} (hj : i < os.length) (hx : nth xs i < 4294967296) (hy : nth ys i < 4294967296) (hc : cr ≤ 1) (HV : val (os.take i) + val (ys.take i) = val (xs.take i) + cr * 4294967296 ^ i) :
    val ((os.set i (diff (nth xs i) (nth ys i) cr)).take (i + 1)) + val (ys.take (i + 1)) = val (xs.take (i + 1)) + borr (nth xs i) (nth ys i) cr * 4294967296 ^ (i + 1) := by
  obtain ⟨h1, _, _⟩ := borr_spec (nth xs i) (nth ys i) cr hx hy hc
  rw [val_take_succ (by rw [List.length_set]; exact hj), nth_set_eq hj, List.take_set_of_le (Nat.le_refl _), val_take_succ' ys, val_take_succ' xs, Nat.pow_succ]
  generalize 4294967296 ^ i = P at *
  generalize nth xs i = x at *
  generalize nth ys i = y at *
  generalize diff x y cr = d at *
  generalize borr x y cr = b at *
  have e1 : P * d + P * y + P * cr = P * x + P * (b * 4294967296) := by rw [← Nat.mul_add, ← Nat.mul_add, ← Nat.mul_add, h1]
  have e2 : b * (P * 4294967296) = P * (b * 4294967296) := Nat.mul_left_comm _ _ _
  have e3 : P * cr = cr * P := Nat.mul_comm _ _
  omega

set_option maxRecDepth 100000 in
set_option maxHeartbeats 2000000 in
theorem sub_any (A B : Option Addr) (n c m d : Nat) (xs ys : List Nat) (w : World) (hx : Num w A n c xs) (hy : Num w B m d ys) (hle : val ys ≤ val xs) (hn : n ≤ 35184372088830) :
    Calls Tryz.prog 97 #[.slice A n c, .slice B m d] w fun e w' => ∃ A', e = .returned (.slice A' (limbs (val xs - val ys)).length (limbs (val xs - val ys)).length) ∧
      Own w' w.heap.size A' (limbs (val xs - val ys)).length (limbs (val xs - val ys)).length (limbs (val xs - val ys)) ∧ Below w.heap.size w w' := by
  have HX := Lib.hid hx.len
  have HY := Lib.hid hy.len
  have HLX := Lib.hid hx.lim
  have HLY := Lib.hid hy.lim
  have HLE := Lib.hid hle
  have hxs := hx.sl
  have hmn : Mine 32 w w.heap.size none 0 0 [] := Mine.nil _ _ _
  have hbz : w.heap.size ≤ w.heap.size := Nat.le_refl _
  have hmb := hy.sl.big
  clear hle
  go_enter Tryz.func97, Tryz.ntmps97
  go_wp2_with (at_builtin; refine app_copy w.heap.size rfl _ _ _ _ (.int .u32 0) 4 rfl Tryz.under_sl Tryz.info_u32 rfl (by omega) none 0 0 [] A n c (u32s xs) rfl rfl (u32s_one _) hmn hxs hbz (by omega) ?_; intro G c1 w1 hm1 hg1)
  have ho : Own w1 w.heap.size G n c1 xs := ⟨by simpa using hm1, HLX.out⟩
  have hb1 : Below w.heap.size w w1 := below_of_grownBy hg1
  clear hm1 hg1 hmn hxs
  go_loopw [6, 13] (fun cy ix wr => ∃ (i cr : Nat) (os : List Nat), i ≤ n ∧ ix = .int .i64 i ∧ cy = .int .u32 cr ∧ cr ≤ 1 ∧ Own wr w.heap.size G n c1 os ∧ Below w.heap.size w wr ∧
    Hid (val (os.take i) + val (ys.take i) = val (xs.take i) + cr * 4294967296 ^ i) ∧ Hid (∀ j, i ≤ j → nth os j = nth xs j)) (fun _ ix _ => n - (intOf ix).toNat)
  case atStart => exact ⟨0, 0, xs, Nat.zero_le _, rfl, rfl, by omega, ho, hb1, Lib.hid (by simp [val]), Lib.hid (fun _ _ => rfl)⟩
  case round =>
    obtain ⟨i, cr, os, hi, rfl, rfl, hcr, ho2, hb2, HV, HZ⟩ := hrel
    clear ho hb1
    by_cases hlt : i < n
    · obtain ⟨g, rfl, hg1, hg2⟩ := ho2.some_of (by omega)
      have hco := ho2.cell i hlt
      have hfo := ho2.free i
      have hxb := nth_lt HLX.out i
      have hyb := nth_lt HLY.out i
      rw [HZ.out i (Nat.le_refl _)] at hco
      obtain ⟨hs1, hs2, hs3⟩ := borr_spec (nth xs i) (nth ys i) cr hxb hyb hcr
      have HS := Lib.hid (subl_step (os := os) (xs := xs) (ys := ys) (by rw [ho2.len]; exact hlt) hxb hyb hcr HV.out)
      have HZ2 : Hid (∀ j, i + 1 ≤ j → nth (os.set i (diff (nth xs i) (nth ys i) cr)) j = nth xs j) := Lib.hid (fun j hj => by rw [nth_set_ne (by omega)]; exact HZ.out j (by omega))
      have hA := ho2.stored i (diff (nth xs i) (nth ys i) cr) hlt hs3
      have hB := hb2.setCell (p := ⟨g, i, none⟩) hg1 (.int .u32 (diff (nth xs i) (nth ys i) cr : Nat))
      have HSB := Lib.hid (fun W => Sub32_any (nth xs i) (nth ys i) cr W hxb hyb hcr)
      clear hs1 HV HZ
      by_cases him : i < m
      · obtain ⟨b2, o2, rfl, hc2⟩ := hy.cells (by omega)
        have hcy := (hb2.cell (World.block_lt_of_cell? w _ (hc2 i him))).trans (hc2 i him)
        clear hc2
        generalize nth xs i = x at *
        generalize nth ys i = y at *
        generalize diff x y cr = df at *
        generalize borr x y cr = bo at *
        go_wp2_with (first | (go_at_call 118; refine (HSB.out _).mono ?_; rintro e w' ⟨rfl, rfl⟩))
        go_roundw
        case rel => exact ⟨i + 1, bo, _, hlt, by go_num, rfl, hs2, hA, hB, HS, HZ2⟩
        case measure => simp [intOf]; omega
      · have hz : nth ys i = 0 := nth_over (by rw [HY.out]; omega)
        rw [hz] at hyb hs2 hs3 HS HZ2 hA hB HSB
        clear hz
        generalize nth xs i = x at *
        generalize diff x 0 cr = df at *
        generalize borr x 0 cr = bo at *
        go_wp2_with (first | (go_at_call 118; refine (HSB.out _).mono ?_; rintro e w' ⟨rfl, rfl⟩))
        go_roundw
        case rel => exact ⟨i + 1, bo, _, hlt, by go_num, rfl, hs2, hA, hB, HS, HZ2⟩
        case measure => simp [intOf]; omega
    · obtain rfl : n = i := by omega
      have hv : val os = val xs - val ys := by
        have h1 := HV.out
        rw [List.take_of_length_le (l := os) (by rw [ho2.len]; omega), List.take_of_length_le (l := xs) (by rw [HX.out]; omega)] at h1
        have h2 := val_lt ho2.lim
        have h3 := val_lt HLX.out
        rw [ho2.len] at h2
        rw [HX.out] at h3
        have h4 := val_split ys n
        have h5 := HLE.out
        generalize 4294967296 ^ n = P at *
        have h6 : val (ys.drop n) = 0 := by
          apply Nat.eq_zero_of_not_pos
          intro hp
          have := Nat.le_mul_of_pos_right P hp
          omega
        rw [h6] at h4
        have h7 : cr = 0 := by
          apply Nat.eq_zero_of_not_pos
          intro hp
          have := Nat.le_mul_of_pos_left P hp
          omega
        subst h7
        omega
      have HT := trim_any _ _ _ _ wr ho2.num
      have h3 := ho2.trim
      rw [hv] at HT h3
      replace HT := Lib.hid HT
      clear hv
      go_wp2_with fail
      refine HT.out.mono ?_; rintro e w' ⟨rfl, rfl⟩
      go_wp2
      go_ret
      exact ⟨_, rfl, h3, hb2⟩

end Go.Proofs.YtgdgdifnpdcgkaaGreatDoor
