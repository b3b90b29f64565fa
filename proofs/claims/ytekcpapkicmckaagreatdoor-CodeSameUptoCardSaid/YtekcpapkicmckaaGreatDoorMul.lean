/- limbs.Mul: the product of two naturals, as limbs. -/
import Derived.Test.YtekcpapkicmckaaGreatDoorLimC
import Derived.Test.YtekcpapkicmckaaGreatDoorLng
namespace Go.Proofs.YtekcpapkicmckaaGreatDoor
open Go.RowKit

theorem val_set : ∀ (Q : List Nat) (j v : Nat), j < Q.length → val (Q.set j v) + 4294967296 ^ j * nth Q j = val Q + 4294967296 ^ j * v := by
  intro Q
  induction Q with
  | nil => intro j v h; cases h
  | cons x r ih =>
    intro j v h
    cases j with
    | zero => rw [List.set_cons_zero, nth_cons_zero, val_cons, val_cons, Nat.pow_zero]; omega
    | succ j =>
      have := ih j v (by simpa using h)
      rw [List.set_cons_succ, nth_cons_succ, val_cons, val_cons, Nat.pow_succ, Nat.mul_right_comm, Nat.mul_right_comm _ _ v]
      generalize 4294967296 ^ j * nth r j = p at *
      generalize 4294967296 ^ j * v = q at *
      omega

theorem mul_in {os Y : List Nat} {i k cr x V0 sm : Nat} (hk : k < Y.length) (hj : i + k < os.length) (ho : Lim os) (hY : Lim Y) (hx : x < 4294967296) (hc : cr < 4294967296)
    (HV : val os + cr * 4294967296 ^ (i + k) = V0 + x * val (Y.take k) * 4294967296 ^ i) (hs : cr + (x * nth Y k + nth os (i + k)) = sm) :
    sm < 18446744073709551616 ∧ sm / 4294967296 < 4294967296 ∧ val (os.set (i + k) (sm % 4294967296)) + sm / 4294967296 * 4294967296 ^ (i + (k + 1)) = V0 + x * val (Y.take (k + 1)) * 4294967296 ^ i := by
  have hy := nth_lt hY k
  have h1 := nth_lt ho (i + k)
  have hb : sm < 18446744073709551616 := by
    have : x * nth Y k ≤ 4294967295 * 4294967295 := Nat.mul_le_mul (by omega) (by omega)
    omega
  refine ⟨hb, by omega, ?_⟩
  have e1 := val_set os (i + k) (sm % 4294967296) hj
  rw [val_take_succ hk, Nat.mul_add, Nat.add_mul]
  generalize nth os (i + k) = o at *
  generalize nth Y k = y at *
  generalize val (os.set (i + k) (sm % 4294967296)) = vo at *
  generalize val os = v at *
  generalize x * val (Y.take k) * 4294967296 ^ i = t at *
  rw [show i + (k + 1) = i + k + 1 by omega, Nat.pow_succ]
  have e2 : x * (4294967296 ^ k * y) * 4294967296 ^ i = 4294967296 ^ (i + k) * (x * y) := by
    rw [Nat.pow_add]
    simp only [Nat.mul_left_comm, Nat.mul_comm, Nat.mul_assoc]
  rw [e2]
  generalize 4294967296 ^ (i + k) = P at *
  have e3 : P * sm = P * (sm / 4294967296 * 4294967296) + P * (sm % 4294967296) := by rw [← Nat.mul_add]; congr 1; omega
  have e4 : P * sm = P * cr + P * (x * y) + P * o := by rw [← hs, Nat.mul_add, Nat.mul_add]; omega
  have e5 : sm / 4294967296 * (P * 4294967296) = P * (sm / 4294967296 * 4294967296) := by simp only [Nat.mul_left_comm, Nat.mul_comm]
  have e6 : cr * P = P * cr := Nat.mul_comm _ _
  rw [e5]
  rw [e6] at HV
  omega

set_option maxRecDepth 100000 in
set_option maxHeartbeats 4000000 in
theorem Mul_any (A B : Option Addr) (n c m d : Nat) (xs ys : List Nat) (w : World) (hx : Num w A n c xs) (hy : Num w B m d ys) (hn : n + m < 35184372088831) :
    Calls Tryz.prog 164 #[.slice A n c, .slice B m d] w fun e w' => ∃ A', e = .returned (.slice A' (limbs (val xs * val ys)).length (limbs (val xs * val ys)).length) ∧
      Own w' w.heap.size A' (limbs (val xs * val ys)).length (limbs (val xs * val ys)).length (limbs (val xs * val ys)) ∧ Below w.heap.size w w' := by
  have t1 := Lib.hid (trim_any A n c xs w hx)
  have t2 := Lib.hid (trim_any B m d ys w hy)
  have hx' := hx.trim
  have hy' := hy.trim
  have hpn : (limbs (val xs)).length ≤ n := by have := limbs_length_val hx.lim; rw [hx.len] at this; exact this
  have hqm : (limbs (val ys)).length ≤ m := by have := limbs_length_val hy.lim; rw [hy.len] at this; exact this
  have HXV := Lib.hid (val_limbs (val xs))
  have HYV := Lib.hid (val_limbs (val ys))
  have hX := limbs_lim (val xs)
  have hY := limbs_lim (val ys)
  obtain ⟨p, hp⟩ : ∃ p, (limbs (val xs)).length = p := ⟨_, rfl⟩
  obtain ⟨q, hq⟩ : ∃ q, (limbs (val ys)).length = q := ⟨_, rfl⟩
  rw [hp] at t1 hx' hpn
  rw [hq] at t2 hy' hqm
  generalize limbs (val xs) = X at *
  generalize limbs (val ys) = Y at *
  have hmake := fun g1 g2 => make_row (P := Tryz.prog) 132 169 (.int .u32 0) 4 Tryz.under_sl Tryz.info_u32 rfl (by omega) (p + q) (p + q) g1 g2
  replace hmake := hmake (by omega) (by omega)
  push_cast at hmake
  have HP := Lib.hid hp
  have HQ := Lib.hid hq
  have HX := Lib.hid hX
  have HY := Lib.hid hY
  clear hx hy hp hq hX hY
  go_enter Tryz.func164, Tryz.ntmps164
  go_wp2_with fail
  refine t1.out.mono ?_; rintro e w' ⟨rfl, rfl⟩
  go_wp2_with fail
  refine t2.out.mono ?_; rintro e w' ⟨rfl, rfl⟩
  go_wp2
  have hown : Own (w.alloc (.cells (Array.replicate (p + q) (.int .u32 0)) 169)) w.heap.size (some ⟨w.heap.size, 0, none⟩) (p + q) (p + q) (List.replicate (p + q) 0) :=
    ⟨by rw [← u32s_replicate]; exact Mine.made _ w w.heap.size _ _ _ (Nat.le_refl _) (Nat.le_refl _) (by omega), Lim.replicate _⟩
  have hbel : Below w.heap.size w (w.alloc (.cells (Array.replicate (p + q) (.int .u32 0)) 169)) := (Below.refl _ _).alloc (Nat.le_refl _) _
  generalize w.alloc (.cells (Array.replicate (p + q) (.int .u32 0)) 169) = w1 at hown hbel ⊢
  clear hmake
  go_loopw [21] (fun ix wr => ∃ (i : Nat) (os : List Nat), i ≤ p ∧ ix = .int .i64 i ∧ Own wr w.heap.size (some ⟨w.heap.size, 0, none⟩) (p + q) (p + q) os ∧ Below w.heap.size w wr ∧
    Hid (val os = val (X.take i) * val Y) ∧ Hid (∀ j, i + q ≤ j → nth os j = 0)) (fun ix _ => p - (intOf ix).toNat)
  case atStart => exact ⟨0, _, Nat.zero_le _, rfl, hown, hbel, Lib.hid (by rw [val_replicate]; simp [val]), Lib.hid (fun j _ => nth_replicate _ _)⟩
  case round =>
    obtain ⟨i, os, hi, rfl, ho, hb, HV, HZ⟩ := hrel
    clear hown hbel
    by_cases hlt : i < p
    · have hlt' : (i : Int) < (p : Int) := by omega
      obtain ⟨ab, ao, hAe, hac⟩ := hx'.cells (by omega)
      subst hAe
      have hxb : nth X i < 4294967296 := nth_lt HX.out i
      have hcx := hac i hlt
      obtain ⟨x, hx2⟩ : ∃ x, nth X i = x := ⟨_, rfl⟩
      rw [hx2] at hcx hxb
      have HX2 := Lib.hid hx2
      clear hx2 hac
      go_wp2
      go_loopw [7, 26] (fun cy kx wi => ∃ (k cr : Nat) (os2 : List Nat), k ≤ q ∧ kx = .int .i64 k ∧ cy = .int .u64 cr ∧ cr < 4294967296 ∧ Own wi w.heap.size (some ⟨w.heap.size, 0, none⟩) (p + q) (p + q) os2 ∧ Below w.heap.size w wi ∧
        Hid (val os2 + cr * 4294967296 ^ (i + k) = val os + x * val (Y.take k) * 4294967296 ^ i) ∧ Hid (∀ j, i + q ≤ j → nth os2 j = 0)) (fun _ kx _ => q - (intOf kx).toNat)
      case atStart => exact ⟨0, 0, os, Nat.zero_le _, rfl, rfl, by omega, ho, hb, Lib.hid (by simp [val]), HZ⟩
      case round =>
        obtain ⟨k, cr, os2, hk, rfl, rfl, hcr, ho2, hb2, HV2, HZ2⟩ := hrel
        clear ho hb
        by_cases hkq : k < q
        · have hkq' : (k : Int) < (q : Int) := by omega
          obtain ⟨bb, bo, hBe, hbc⟩ := hy'.cells (by omega)
          subst hBe
          have hyb : nth Y k < 4294967296 := nth_lt HY.out k
          have hcy := hbc k hkq
          have hob : nth os2 (i + k) < 4294967296 := nth_lt ho2.lim _
          have hco := ho2.cell (i + k) (by omega)
          have hfo := ho2.free (i + k)
          obtain ⟨sm, hsm⟩ : ∃ sm, cr + (x * nth Y k + nth os2 (i + k)) = sm := ⟨_, rfl⟩
          obtain ⟨m1, m2, m3⟩ := mul_in (os := os2) (Y := Y) (i := i) (k := k) (by rw [HQ.out]; exact hkq) (by rw [ho2.len]; omega) ho2.lim HY.out hxb hcr HV2.out hsm
          have hcx2 : wr.cell? ⟨ab, ao + i, none⟩ = some (.int .u32 (x : Int)) := (hb2.cell (World.block_lt_of_cell? w _ hcx)).trans hcx
          have hcy2 : wr.cell? ⟨bb, bo + k, none⟩ = some (.int .u32 (nth Y k : Nat)) := (hb2.cell (World.block_lt_of_cell? w _ hcy)).trans hcy
          have hZ2 : Hid (∀ j, i + q ≤ j → nth (os2.set (i + k) (sm % 4294967296)) j = 0) := Lib.hid (fun j hj => by rw [nth_set_ne (by omega)]; exact HZ2.out j hj)
          have HM3 := Lib.hid m3
          clear m3
          obtain ⟨y, hy2⟩ : ∃ y, nth Y k = y := ⟨_, rfl⟩
          obtain ⟨o, ho3⟩ : ∃ o, nth os2 (i + k) = o := ⟨_, rfl⟩
          rw [hy2] at hcy2 hyb hsm
          rw [ho3] at hco hob hsm
          obtain ⟨pr, hpr⟩ : ∃ pr, x * y = pr := ⟨_, rfl⟩
          rw [hpr] at hsm
          obtain ⟨po, hpo⟩ : ∃ po, pr + o = po := ⟨_, rfl⟩
          rw [hpo] at hsm
          have u1 : IntKind.u64.wrap ((x : Int) * (y : Int)) = (pr : Int) := by rw [← Int.natCast_mul, hpr]; exact wrap_u64 (by omega) (by omega)
          have u2 : IntKind.u64.wrap ((pr : Int) + (o : Int)) = (po : Int) := by rw [← Int.natCast_add, hpo]; exact wrap_u64 (by omega) (by omega)
          have u3 : IntKind.u64.wrap ((cr : Int) + (po : Int)) = (sm : Int) := by rw [← Int.natCast_add, hsm]; exact wrap_u64 (by omega) (by omega)
          have i1 : IntKind.i64.wrap ((i : Int) + k) = (i : Int) + k := IntWalk.i64_in _ (by omega)
          have i2 : ((i : Int) + k).toNat = i + k := by omega
          have i3 : (0 : Int) ≤ (i : Int) + k := by omega
          have i4 : (i : Int) + k < (p : Int) + q := by omega
          have HPR := Lib.hid hpr
          have HPO := Lib.hid hpo
          have HY2 := Lib.hid hy2
          have HO3 := Lib.hid ho3
          have HSM := Lib.hid hsm
          have HM1 := Lib.hid m1
          have HM2 := Lib.hid m2
          have hslt : (sm : Int) < 18446744073709551616 := by omega
          have HSL := Lib.hid hslt
          clear hpr hy2 ho3 hbc hcy hpo hsm m1 m2 hslt
          go_wp2
          go_quiet (fail)
          have hb3 : Below w.heap.size w (wr.drewN nq) := hb2.trans ⟨rfl, rfl, rfl, Nat.le_refl _, fun _ _ => rfl⟩
          have ho4 := ho2.below (show Below wr.heap.size wr (wr.drewN nq) from ⟨rfl, rfl, rfl, Nat.le_refl _, fun _ _ => rfl⟩)
          generalize wr.drewN nq = w3 at hb3 ho4 ⊢
          clear ho2 hb2 hcx2 hcy2 u1 u2 u3 hco hfo hob hyb
          have hco := ho4.cell (i + k) (by omega)
          have hfo := ho4.free (i + k)
          have hA := ho4.stored (i + k) (sm % 4294967296) (by omega) (Nat.mod_lt _ (by omega))
          have hB := hb3.setCell (p := ⟨w.heap.size, i + k, none⟩) (Nat.le_refl _) (.int .u32 (sm % 4294967296 : Nat))
          have HLO := Lib.hid (fun W => low_any sm W HM1.out)
          have HHI := Lib.hid (fun W => high_any sm W)
          go_wp2_with (first | (go_at_call 102; refine (HLO.out _).mono ?_; rintro e w' ⟨rfl, rfl⟩) | (go_at_call 103; refine (HHI.out _).mono ?_; rintro e w' ⟨rfl, rfl⟩))
          go_roundw
          case rel => exact ⟨k + 1, sm / 4294967296, _, by omega, by go_num, by first | rfl | simp, HM2.out, hA, hB, HM3, hZ2⟩
          case measure => simp [intOf]; omega
        · obtain rfl : k = q := by omega
          have hco := ho2.cell (i + k) (by omega)
          have hfo := ho2.free (i + k)
          have hA := ho2.stored (i + k) cr (by omega) hcr
          have hB := hb2.setCell (p := ⟨w.heap.size, i + k, none⟩) (Nat.le_refl _) (.int .u32 (cr : Int))
          have HV3 : Hid (val (os2.set (i + k) cr) = val (X.take (i + 1)) * val Y) := Lib.hid (by
            have h2 := HV2.out
            rw [List.take_of_length_le (by rw [HQ.out]; omega)] at h2
            rw [val_set_zero (by rw [ho2.len]; omega) (HZ2.out _ (Nat.le_refl _)), val_take_succ (by rw [HP.out]; exact hlt), HX2.out, Nat.add_mul, ← HV.out, Nat.mul_comm _ cr, h2]
            simp only [Nat.mul_left_comm, Nat.mul_comm, Nat.mul_assoc])
          have HZ3 : Hid (∀ j, i + 1 + k ≤ j → nth (os2.set (i + k) cr) j = 0) := Lib.hid (fun j hj => by rw [nth_set_ne (by omega)]; exact HZ2.out j (by omega))
          have i1 : IntKind.i64.wrap ((i : Int) + k) = (i : Int) + k := IntWalk.i64_in _ (by omega)
          have i2 : ((i : Int) + k).toNat = i + k := by omega
          have i3 : (0 : Int) ≤ (i : Int) + k := by omega
          have i4 : (i : Int) + k < (p : Int) + k := by omega
          go_wp2
          go_roundw
          case rel => exact ⟨i + 1, _, hlt, by go_num, hA, hB, HV3, HZ3⟩
          case measure => simp [intOf]; omega
    · obtain rfl : i = p := by omega
      have hv : val os = val xs * val ys := by
        rw [HV.out, List.take_of_length_le (by rw [HP.out]; omega), HXV.out, HYV.out]
      have h3 := ho.trim
      have HT := trim_any _ _ _ _ _ ho.num
      rw [hv] at h3 HT
      replace HT := Lib.hid HT
      clear hv
      go_wp2_with fail
      refine HT.out.mono ?_
      rintro e w' ⟨rfl, rfl⟩
      go_wp2
      go_ret
      exact ⟨_, rfl, h3, hb⟩

end Go.Proofs.YtekcpapkicmckaaGreatDoor
