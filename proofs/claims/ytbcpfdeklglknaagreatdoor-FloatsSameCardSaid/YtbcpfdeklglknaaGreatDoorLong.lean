/- The contract of limbs.long: Knuth's long division, in place. -/
import Derived.Test.YtbcpfdeklglknaaGreatDoorLongE
import Derived.Test.YtbcpfdeklglknaaGreatDoorLongT
namespace Go.Proofs.YtbcpfdeklglknaaGreatDoor
open Go.RowKit

set_option maxHeartbeats 4000000 in
set_option maxRecDepth 100000 in
theorem long_any (gu nu cu n cv base bv ov : Nat) (U V : List Nat) (w : World) (hu : Own w base (some ⟨gu, 0, none⟩) nu cu U) (hv : Num w (some ⟨bv, ov, none⟩) n cv V) (hne : bv ≠ gu)
    (hn2 : 2 ≤ n) (hnu : n + 1 ≤ nu) (hsz : nu ≤ 35184372088832) (htop : 2147483648 ≤ nth V (n - 1)) (hst : val (U.drop (nu - n)) < val V) :
    Calls Tryz.prog 98 #[.slice (some ⟨gu, 0, none⟩) nu cu, .slice (some ⟨bv, ov, none⟩) n cv] w fun e w' =>
      ∃ (gq : Nat) (Q U' : List Nat), e = .returned (.slice (some ⟨gq, 0, none⟩) (nu - n) (nu - n)) ∧ Own w' w.heap.size (some ⟨gq, 0, none⟩) (nu - n) (nu - n) Q ∧ Own w' base (some ⟨gu, 0, none⟩) nu cu U' ∧ w.grownBy w' (some gu) ∧
        val U' + val Q * val V = val U ∧ val U' < val V := by
  have hgu : gu < w.heap.size := (hu.mine.lt gu rfl).2
  obtain ⟨J, rfl⟩ : ∃ J, nu = n + J + 1 := ⟨nu - n - 1, by omega⟩
  have eJ : n + J + 1 - n = J + 1 := by omega
  rw [eJ] at hst ⊢
  have hmake := fun h1 h2 => make_row (P := Tryz.prog) 40 65 (.int .u32 0) 4 Tryz.under_sl Tryz.info_u32 rfl (by omega) (J + 1) (J + 1) h1 h2
  replace hmake := hmake (by omega) (by omega)
  rw [show ((J + 1 : Nat) : Int) = (J : Int) + 1 by omega] at hmake
  have esub : ((n : Int) + J + 1 - n) = (J : Int) + 1 := by omega
  obtain ⟨b0, o0, e0, hvc⟩ := hv.cells (by omega)
  simp only [Option.some.injEq, Addr.mk.injEq, and_true] at e0
  obtain ⟨rfl, rfl⟩ := e0
  go_enter Tryz.func98, Tryz.ntmps98
  go_wp2
  have hq1 : Own (w.alloc (.cells (Array.replicate (J + 1) (.int .u32 0)) 65)) w.heap.size (some ⟨w.heap.size, 0, none⟩) (J + 1) (J + 1) (List.replicate (J + 1) 0) :=
    ⟨by rw [← u32s_replicate]; exact Mine.made _ _ _ _ _ _ (Nat.le_refl _) (Nat.le_refl _) (by omega), Lim.replicate _⟩
  have hg1 : w.grownBy (w.alloc (.cells (Array.replicate (J + 1) (.int .u32 0)) 65)) (some gu) := World.grownBy_alloc _ _ _
  have hu1 : Own (w.alloc (.cells (Array.replicate (J + 1) (.int .u32 0)) 65)) base (some ⟨gu, 0, none⟩) (n + J + 1) cu U := hu.kept (World.grownBy_alloc _ _ none) (by simp [blockOf])
  generalize w.alloc (.cells (Array.replicate (J + 1) (.int .u32 0)) 65) = w1 at hq1 hg1 hu1 ⊢
  have hc1 : w1.cell? ⟨bv, ov + (n - 1), none⟩ = some (.int .u32 (nth V (n - 1) : Nat)) := hg1.cell (hvc _ (by omega)) (by simpa using hne)
  have hc2 : w1.cell? ⟨bv, ov + (n - 2), none⟩ = some (.int .u32 (nth V (n - 2) : Nat)) := hg1.cell (hvc _ (by omega)) (by simpa using hne)
  have ht := nth_lt hv.lim (n - 1)
  have hx := nth_lt hv.lim (n - 2)
  clear hmake esub
  have a1 : IntKind.i64.wrap ((n : Int) - 1) = (n : Int) - 1 := IntWalk.i64_in _ (by omega)
  have a2 : ((n : Int) - 1).toNat = n - 1 := by omega
  have a3 : (0 : Int) ≤ (n : Int) - 1 := by omega
  have a4 : (1 : Int) ≤ n := by omega
  have a5 : (n : Int) - 1 < n := by omega
  have b1 : IntKind.i64.wrap ((n : Int) - 2) = (n : Int) - 2 := IntWalk.i64_in _ (by omega)
  have b2 : ((n : Int) - 2).toNat = n - 2 := by omega
  have b3 : (0 : Int) ≤ (n : Int) - 2 := by omega
  have b4 : (2 : Int) ≤ n := by omega
  have b5 : (n : Int) - 2 < n := by omega
  go_quiet (fail)
  clear a1 a2 a3 b1 b2 b3 a4 a5 b4 b5
  have hq2 := hq1.drewN nq
  have hu2 := hu1.drewN nq
  have hg2 := grownBy_drewN hg1 nq
  generalize w1.drewN nq = w2 at hq2 hu2 hg2 ⊢
  clear hq1 hu1 hg1 hc1 hc2
  go_wp2
  have hVn : val V < 4294967296 ^ n := by have := val_lt hv.lim; rwa [hv.len] at this
  have hVw : win V 0 n = val V := by rw [← hv.len]; exact win_full V
  obtain ⟨top, htp⟩ : ∃ t, nth V (n - 1) = t := ⟨_, rfl⟩
  obtain ⟨next, hnx⟩ : ∃ t, nth V (n - 2) = t := ⟨_, rfl⟩
  rw [htp] at ht htop ⊢
  rw [hnx] at hx ⊢
  have HTP := Lib.hid htp
  have HNX := Lib.hid hnx
  have HVN := Lib.hid hVn
  have HVW := Lib.hid hVw
  have HVC := Lib.hid hvc
  have HVlen := Lib.hid hv.len
  have hvlim := hv.lim
  clear htp hnx hVn hVw hvc hv
  go_loopg [9] (J + 1) (fun k jx wr => ∃ (U' Q : List Nat), k ≤ J + 1 ∧ jx = .int .i64 ((k : Int) - 1) ∧ Own wr base (some ⟨gu, 0, none⟩) (n + J + 1) cu U' ∧ Own wr w.heap.size (some ⟨w.heap.size, 0, none⟩) (J + 1) (J + 1) Q ∧ w.grownBy wr (some gu) ∧
      val U' + val Q * val V = val U ∧ val (U'.drop k) < val V ∧ ∀ i, i < k → nth Q i = 0)
  case atStart =>
    refine ⟨U, List.replicate (J + 1) 0, Nat.le_refl _, by go_num, hu2, hq2, hg2, by rw [val_replicate]; simp, hst, fun i _ => nth_replicate _ _⟩
  case round =>
    obtain ⟨U', Q, hk, rfl, hu', hq, hgr, hval, hlt, hq0⟩ := hrel
    clear hu2 hq2 hg2 hst hu
    have HVAL := Lib.hid hval
    have HLT := Lib.hid hlt
    have HQ0 := Lib.hid hq0
    clear hval hlt hq0
    by_cases h0 : gk = 0
    · subst h0
      go_wp2
      go_ret
      exact ⟨w.heap.size, Q, U', rfl, hq, hu', hgr, HVAL.out, by simpa using HLT.out⟩
    · obtain ⟨j, rfl⟩ : ∃ j, gk = j + 1 := ⟨gk - 1, by omega⟩
      rw [show ((j + 1 : Nat) : Int) - 1 = (j : Int) by omega]
      have hc1 := hu'.cell (j + n) (by omega)
      have hc2 := hu'.cell (j + n - 1) (by omega)
      have hb1 := nth_lt hu'.lim (j + n)
      have hb2 := nth_lt hu'.lim (j + n - 1)
      go_wp2
      go_step3
      go_wp2
      have i1 : IntKind.i64.wrap ((j : Int) + n) = (j : Int) + n := IntWalk.i64_in _ (by omega)
      have i2 : ((j : Int) + n).toNat = j + n := by omega
      have i3 : (0 : Int) ≤ (j : Int) + n := by omega
      have i4 : (j : Int) + n < (n : Int) + J + 1 := by omega
      have k1 : IntKind.i64.wrap ((j : Int) + n - 1) = (j : Int) + n - 1 := IntWalk.i64_in _ (by omega)
      have k2 : ((j : Int) + n - 1).toNat = j + n - 1 := by omega
      have k3 : (1 : Int) ≤ (j : Int) + n := by omega
      have k3' : (0 : Int) ≤ (j : Int) + n - 1 := by omega
      have k4 : (j : Int) + n - 1 < (n : Int) + J + 1 := by omega
      have hor := or_join32 (nth U' (j + n)) (nth U' (j + n - 1)) hb1 hb2
      obtain ⟨head, hhd⟩ : ∃ head, nth U' (j + n) * 4294967296 + nth U' (j + n - 1) = head := ⟨_, rfl⟩
      rw [hhd] at hor
      have HHD := Lib.hid hhd
      have HB := Lib.hid (show head < 18446744073709551616 by omega)
      clear hhd
      go_quiet (fail)
      have hu3 := hu'.drewN nq
      have hq3 := hq.drewN nq
      have hg3 := grownBy_drewN hgr nq
      generalize wr.drewN nq = w3 at hu3 hq3 hg3 ⊢
      clear hu' hq hgr hc1 hc2 hor i1 i2 i3 i4 k1 k2 k3 k3' k4 hb1 hb2
      go_wp2
      obtain ⟨g0, hg0⟩ : ∃ g, head / top = g := ⟨_, rfl⟩
      obtain ⟨r0, hr0⟩ : ∃ r, head % top = r := ⟨_, rfl⟩
      have hg0b : g0 ≤ 8589934592 := by
        rw [← hg0]
        exact (Nat.div_le_iff_le_mul_add_pred (by omega)).2 (by have := HB.out; omega)
      have hr0b : r0 < top := by rw [← hr0]; exact Nat.mod_lt _ (by omega)
      have e1 : IntKind.u64.wrap ((head : Int) / (top : Int)) = (g0 : Int) := by
        rw [← Int.natCast_ediv, hg0]; exact wrap_u64 (by omega) (by omega)
      have e2 : (head : Int) % (top : Int) = (r0 : Int) := by rw [← Int.natCast_emod, hr0]
      have HG0 := Lib.hid hg0
      have HR0 := Lib.hid hr0
      clear hg0 hr0
      go_quiet (fail)
      simp only [e2]
      clear e1 e2
      have hu4 := hu3.drewN nq
      have hq4 := hq3.drewN nq
      have hg4 := grownBy_drewN hg3 nq
      generalize w3.drewN nq = w4 at hu4 hq4 hg4 ⊢
      clear hu3 hq3 hg3
      go_wp2
      go_step3
      go_wp2
      change Code.wp Tryz.prog (Code.loop (Tryz.longLoop 1)) _ _ _
      refine @loop_then _ 2 ?R1 _ _ _ _ ?h1 ?k1
      case h1 => exact @long_est gu n J cu bv ov cv base top next j g0 r0 head U' V w4 _ _ _ _ _ _ _ _ _ _ _ _ _ _ _ _ _ _ _ _ _ _ _ _ _ _ _ _ _ _ _ _ _ _ _ _ _ _ _ _ _ _ _ _ _ _ _ _ _ _ _ _ _ _ _ _ _ _ _ _ _ _ _ _ _ _ _ _ _ _ _ _ _ _ _ _ _ _ _ _ _ _ _ _ _ _ _ _ _ _ _ _ _ _ _ _ _ _ _ _ _ _ _ _ _ _ _ _ _ _ _ _ _ _ _ _ _ _ _ _ _ _ _ _ _ _ _ _ _ _ _ _ _ _ _ _ _ _ _ _ _ _ _ _ _ _ _ _ _ _ _ _ _ _ _ _ _ _ _ _ _ _ _ _ _ _ _ _ _ _ _ _ _ _ _ _ _ _ _ _ _ _ _ _ _ _ hu4 hvlim HVlen.out hn2 hk hsz htop ht hx HTP HNX HLT HHD HG0 HR0 hg0b hr0b
      case k1 =>
        rintro a' w' ⟨g, q, r, _, _, _, _, _, _, _, _, _, _, _, _, _, _, _, _, _, _, _, _, _, _, _, _, _, rfl, rfl, HG⟩
        have hu5 := hu4.drewN q
        have hq5 := hq4.drewN q
        have hg5 := grownBy_drewN hg4 q
        generalize w4.drewN q = w5 at hu5 hq5 hg5 ⊢
        clear hu4 hq4 hg4 HG0 HR0 hg0b hr0b
        have HWB := Lib.hid (long_data hn2 hu5.lim hvlim HVlen.out HLT.out).1
        have hgb : g < 4294967296 := HG.out.1
        have HUlim := Lib.hid hu5.lim
        have HUlen := Lib.hid hu5.len
        go_wp2
        change Code.wp Tryz.prog (Code.loop (Tryz.longLoop 2)) _ _ _
        refine @loop_then _ 5 ?R2 _ _ _ _ ?h2 ?k2
        case h2 => exact @long_mulsub gu n J cu bv ov cv base j g U' V Q w w5 _ _ _ _ _ _ _ _ _ _ _ _ _ _ _ _ _ _ _ _ _ _ _ _ _ _ _ _ _ _ _ _ _ _ _ _ _ _ _ _ _ _ _ _ _ _ _ _ _ _ _ _ _ _ _ _ _ _ _ _ _ _ _ _ _ _ _ _ _ _ _ _ _ _ _ _ _ _ _ _ _ _ _ _ _ _ _ _ _ _ _ _ _ _ _ _ _ _ _ _ _ _ _ _ _ _ _ _ _ _ _ _ _ _ _ _ _ _ _ _ _ _ _ _ _ _ _ _ _ _ _ _ _ _ _ _ _ _ _ _ _ _ _ _ _ _ _ _ _ _ _ _ _ _ _ _ _ _ _ _ _ _ _ _ _ _ _ _ _ _ _ _ _ _ _ _ _ _ _ _ _ _ _ _ hu5 hq5 hg5 hgu hvlim HVC.out hne hn2 hk hsz hgb
        case k2 =>
          rintro a' wr ⟨cr, bo, U2, _, _, _, _, _, _, _, _, _, _, _, _, _, _, _, _, _, _, _, _, _, _, _, _, _, _, _, _, _, _, _, _, _, rfl, hcr, hbo, hu6, hq6, hg6, HI⟩
          clear hu5 hq5 hg5
          go_step
          go_step
          change Code.wp Tryz.prog (Tryz.longAt [1,1,1,1,0,1,0,0,1,0,0,0,1,1,1,1,1,1,1]) _ _ _
          refine @both_then _ ?R3 _ _ _ _ ?h3 ?k3
          case h3 => exact @long_tail gu n J cu bv ov cv base j g cr bo U' U2 V Q w wr _ _ _ _ _ _ _ _ _ _ _ _ _ _ _ _ _ _ _ _ _ _ _ _ _ _ _ _ _ _ _ _ _ _ _ _ _ _ _ _ _ _ _ _ _ _ _ _ _ _ _ _ _ _ _ _ _ _ _ _ _ _ _ _ _ _ _ _ _ _ _ _ _ _ _ _ _ _ _ _ _ _ _ _ _ _ _ _ _ _ _ _ _ _ _ _ _ _ _ _ _ _ _ _ _ _ _ _ _ _ _ _ _ _ _ _ _ _ _ _ _ _ _ _ _ _ _ _ _ _ _ _ _ _ _ _ _ _ _ _ _ _ _ _ _ _ _ _ _ _ _ _ _ _ _ _ _ _ _ _ _ _ _ _ _ _ _ _ _ _ _ _ _ _ _ _ _ _ _ _ _ _ _ _ _ _ hu6 hq6 hg6 hgu HUlim.out HUlen.out HVN HVW hvlim HVlen.out HVC hne hn2 hk hsz hgb hcr hbo HLT HQ0 HG HI
          case k3 =>
            rintro e a' w' he ⟨U5, Q5, _, _, _, _, _, _, _, _, _, _, _, _, _, _, _, _, _, _, _, _, _, _, _, _, _, _, _, _, _, _, _, _, _, _, _, _, _, _, _, _, _, _, _, _, _, _, _, _, _, _, _, _, _, _, _, _, _, _, _, _, _, _, _, _, _, _, _, _, rfl, h1, h2, h3, h4⟩
            rcases he with rfl | rfl
            all_goals
              simp only [Exit.noGoto_normal, Exit.noGoto_exit]
              go_wp2
              go_roundg j
              case measure => omega
              case rel => exact ⟨U5, Q5, by omega, by go_num, h1, h2, h3, by rw [h4.out.1]; exact HVAL.out, h4.out.2.1, h4.out.2.2⟩

end Go.Proofs.YtbcpfdeklglknaaGreatDoor
