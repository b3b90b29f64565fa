/- The contract of thicketref19.Tidy. -/
import Derived.Test.YtekcpapkicmckaaGreatDoorRtl
import Derived.Test.YtekcpapkicmckaaGreatDoorRtr
import Derived.Test.YtekcpapkicmckaaGreatDoorRtp
import Derived.Test.YtekcpapkicmckaaGreatDoorRto
namespace Go.Proofs.YtekcpapkicmckaaGreatDoor
open Go.RowKit

set_option maxHeartbeats 4000000 in
set_option maxRecDepth 100000 in
theorem rTidy_any (F O : Int) (A : Option Addr) (n c : Nat) (ops : List OpV) (w : World) (hp : OpsAt w A n c ops) (hn : n ≤ 100000000000) (hcb : ∀ v ∈ ops, v.cats.length ≤ 1000000000000) :
    Calls Tryz.prog 20 #[.agg #[.int .i64 F, .int .i64 O, .slice A n c]] w (CompilePost F O (tidyV F O ops) w) := by
  have hlen := hp.len
  have HCB := Lib.hid hcb
  have HP := Lib.hid hp
  obtain ⟨K, hK⟩ : ∃ K, checkV F O ops = K := ⟨_, rfl⟩
  obtain ⟨R, hR⟩ : ∃ R, tidyV F O ops = R := ⟨_, rfl⟩
  have HR := Lib.hid hR
  rw [hR]
  have hC := fun W (h : Below w.heap.size w W) => rCheck_any F O A n c ops W (hp.below h)
  rw [hK] at hC
  have HC := Lib.hid hC
  have HK := Lib.hid hK
  have HLEN := Lib.hid hlen
  clear hp hcb hK hR hC hlen
  go_enter Tryz.func20, Tryz.ntmps20
  go_upto_region 1 with (fail)
  have hh : ∀ a b : Obj, ((w.alloc a).alloc b).heap[w.heap.size]? = some a ∧ ((w.alloc a).alloc b).heap[w.heap.size + 1]? = some b ∧ Below w.heap.size w ((w.alloc a).alloc b) := fun a b => by
    refine ⟨?_, ?_, ((Below.refl _ _).alloc (Nat.le_refl _) _).alloc (by simp) _⟩
    all_goals
      show ((w.heap.push a).push b)[_]? = _
      simp only [Array.getElem?_push, Array.size_push]
      repeat (first | rw [if_pos trivial] | rw [if_neg (by omega)] | rw [if_pos (by omega)])
  obtain ⟨k1, k2, b2⟩ := hh (.cells #[.int .i64 F, .int .i64 O, .slice A n c] 30) (.cells #[.int .i64 0, .int .i64 0, .slice none 0 0] 30)
  clear hh
  generalize (w.alloc (.cells #[.int .i64 F, .int .i64 O, .slice A n c] 30)).alloc (.cells #[.int .i64 0, .int .i64 0, .slice none 0 0] 30) = w2 at k1 k2 b2 ⊢
  have p0 : w2.cell? ⟨w.heap.size, 0, none⟩ = some (.int .i64 F) := cell_of_block k1 rfl
  have p1 : w2.cell? ⟨w.heap.size, 1, none⟩ = some (.int .i64 O) := cell_of_block k1 rfl
  have p2 : w2.cell? ⟨w.heap.size, 2, none⟩ = some (.slice A n c) := cell_of_block k1 rfl
  have hC2 := Lib.hid (HC.out w2 b2)
  obtain ⟨K1, K2⟩ := K
  unfold chkOf at hC2
  go_wp2_with fail
  refine hC2.out.mono ?_; rintro e w3 ⟨rfl, b3⟩
  have q1 := (b3.block _ (lt_of_block k1)).trans k1
  have q2 := (b3.block _ (lt_of_block k2)).trans k2
  have B3 := below_then b2 b2.size b3
  have hs3 := Nat.lt_of_lt_of_le (lt_of_block k2) b3.size
  clear p0 p1 p2 k1 k2 b2 b3 hC2 HC
  by_cases hk : K1 = 0
  · subst hk
    have hK0 := wrong_first (F := F) (O := O) (ops := ops) (by rw [HK.out])
    have hP := rightP_of hK0
    have HRR := Lib.hid (show R = (tidyOps ops, 0) by rw [← HR.out]; unfold tidyV; rw [hK0, if_neg (by simp)])
    have hn0 : 0 < n := by have := hP.some; have := HLEN.out; omega
    have HMK := make_row (P := Tryz.prog) 44 3 (.int .i64 0) 8 Tryz.underlying44 Tryz.info_int rfl (by omega) n n (Nat.le_refl _) (by omega)
    have p2 : w3.cell? ⟨w.heap.size, 2, none⟩ = some (.slice A n c) := cell_of_block q1 rfl
    clear hK0 HK HR
    go_upto_region 5 with (fail)
    have b4 := (Below.refl w3.heap.size w3).alloc (Nat.le_refl _) (.cells (Array.replicate n (.int .i64 0)) 3)
    have hm4 : Mine 3 (w3.alloc (.cells (Array.replicate n (.int .i64 0)) 3)) w3.heap.size (some ⟨w3.heap.size, 0, none⟩) n n (nats (List.replicate n 0)) := by
      have hm1 := Mine.made 3 w3 w3.heap.size (.int .i64 0) n n (Nat.le_refl _) (Nat.le_refl _) (by omega)
      rw [show nats (List.replicate n 0) = List.replicate n (.int .i64 0) by simp [nats, i64s]]
      exact hm1
    generalize w3.alloc (.cells (Array.replicate n (.int .i64 0)) 3) = w4 at b4 hm4 ⊢
    have q1' := (b4.block _ (lt_of_block q1)).trans q1
    have q2' := (b4.block _ (lt_of_block q2)).trans q2
    have B4 := below_then B3 B3.size b4
    have p2' : w4.cell? ⟨w.heap.size, 2, none⟩ = some (.slice A n c) := cell_of_block q1' rfl
    have hn1 : (0 : Int) < (n : Int) := by omega
    obtain ⟨g, hg⟩ : ∃ g, w3.heap.size = g := ⟨_, rfl⟩
    have hgw : w.heap.size + 1 < g := by omega
    rw [hg] at hm4
    have HGG := Lib.hid hg
    clear p2 q1 q2 B3 b4 HMK hs3
    go_wp2
    rw [HGG.out]
    refine @loop_then _ 0 ?R _ _ _ _ ?h ?k
    case h =>
      change Code.wp Tryz.prog (Code.loop (Tryz.rtidyLoop 0)) _ _ _
      exact @rtd_land F O A n c ops g w.heap.size w w4 _ _ _ _ _ _ _ _ _ _ _ _ _ _ _ _ _ _ _ _ _ _ _ _ _ _ _ _ _ _ _ _ _ _ _ _ _ _ _ _ _ _ _ _ _ _ _ _ _ _ _ _ _ _ _ _ _ _ _ _ _ _ _ _ _ _ _ _ _ _ _ _ _ _ _ _ _ _ _ _ _ _ _ _ _ _ _ _ _ _ _ _ _ _ _ _ _ _ _ _ _ _ _ _ _ _ _ _ _ _ _ _ _ _ _ _ _ _ _ _ _ _ _ _ _ _ _ _ _ _ _ _ _ _ _ _ _ _ _ _ _ _ _ _ _ _ _ _ _ _ _ _ _ _ _ _ _ _ _ _ _ _ _ _ _ _ _ _ _ _ _ _ _ _ _ _ _ _ _ _ _ _ _ _ _ _ _ _ _ _ _ _ _ _ _ _ _ _ _ _ _ _ _ _ _ _ _ _ _ _ _ _ _ _ _ _ _ _ _ _ _ _ _ _ _ _ _ _ _ _ _ _ _ _ _ _ _ _ _ _ _ _ _ _ _ _ _ hP HP.out (by omega) B4 (by omega) q1' (by omega) hm4
    case k =>
      rintro a' w5 ⟨_, _, _, _, _, _, _, _, _, _, _, _, _, _, _, _, _, _, _, _, _, _, _, _, _, _, _, _, _, _, _, _, _, _, _, _, _, _, _, _, _, _, rfl, hm5, hg5⟩
      have q1 := (hg5.block _ (lt_of_block q1') (by simp; omega)).trans q1'
      have q2 := (hg5.block _ (lt_of_block q2') (by simp; omega)).trans q2'
      have B5 := below_grown (A := some ⟨g, 0, none⟩) B4 B4.size hg5 (fun q hq => by simp [blockOf] at hq; omega)
      have p2 : w5.cell? ⟨w.heap.size, 2, none⟩ = some (.slice A n c) := cell_of_block q1 rfl
      have HMR := make_row (P := Tryz.prog) 83 4 (.bool false) 1 Tryz.underlying83 Tryz.info_bool rfl (by omega) n n (Nat.le_refl _) (by omega)
      have HS5 := Lib.hid (show g < w5.heap.size from (hm5.lt g rfl).2)
      clear p2' q1' q2' B4 hm4 hg5
      go_upto_region 15 with (fail)
      have b6 := (Below.refl w5.heap.size w5).alloc (Nat.le_refl _) (.cells (Array.replicate n (.bool false)) 4)
      have hR6 : Mine 4 (w5.alloc (.cells (Array.replicate n (.bool false)) 4)) w5.heap.size (some ⟨w5.heap.size, 0, none⟩) n n (bools (List.replicate n false)) := by
        have hm1 := Mine.made 4 w5 w5.heap.size (.bool false) n n (Nat.le_refl _) (Nat.le_refl _) (by omega)
        rw [show bools (List.replicate n false) = List.replicate n (.bool false) by simp [bools]]
        exact hm1
      generalize w5.alloc (.cells (Array.replicate n (.bool false)) 4) = w6 at b6 hR6 ⊢
      have hl6 := hm5.below b6
      have q1' := (b6.block _ (lt_of_block q1)).trans q1
      have q2' := (b6.block _ (lt_of_block q2)).trans q2
      have B6 := below_then B5 B5.size b6
      obtain ⟨gr, hgr⟩ : ∃ gr, w5.heap.size = gr := ⟨_, rfl⟩
      have hggr : g < gr := by have := HS5.out; omega
      rw [hgr] at hR6 b6
      rw [hgr]
      obtain ⟨x0, hx0⟩ : ∃ x, (lands ops).getD 0 0 = x := ⟨_, rfl⟩
      have hxn : x0 < n := by have := lands_lt ops hP.some 0; have := HLEN.out; omega
      have cl0 := hl6.cell 0 hn0
      rw [nats_getD (by rw [lands_length, HLEN.out]; exact hn0), hx0] at cl0
      have cr0 := hR6.cell x0 hxn
      have fr0 := hR6.free x0
      have hxi : (x0 : Int) < (n : Int) := by omega
      have HX0 := Lib.hid hx0
      have HGR := Lib.hid hgr
      clear hgr hx0 p2 q1 q2 B5 hm5 HMR
      go_upto_region 16 with (fail)
      have hR7 := hR6.stored x0 hxn (.bool true)
      have hb7 := (Below.refl gr w6).setCell (p := ⟨gr, x0, none⟩) (Nat.le_refl _) (.bool true)
      rw [bools_set, show (List.replicate n false).set x0 true = (realT ops (lands ops) 0).1 by simp only [realT]; rw [HX0.out, HLEN.out]] at hR7
      have hgs7 : gr < (w6.setCell ⟨gr, x0, none⟩ (.bool true)).heap.size := (hR7.lt gr rfl).2
      generalize w6.setCell ⟨gr, x0, none⟩ (.bool true) = w7 at hR7 hb7 hgs7 ⊢
      have hl7 := hl6.low hb7 hggr
      have q1 := (hb7.block _ (by omega)).trans q1'
      have q2 := (hb7.block _ (by omega)).trans q2'
      have B7 := B6.trans (hb7.mono (show w.heap.size ≤ gr by omega))
      have p2 : w7.cell? ⟨w.heap.size, 2, none⟩ = some (.slice A n c) := cell_of_block q1 rfl
      clear hR6 hl6 q1' q2' B6 b6 cl0 cr0 fr0
      go_wp2
      refine @loop_then _ 2 ?R2 _ _ _ _ ?h2 ?k2
      case h2 =>
        change Code.wp Tryz.prog (Code.loop (Tryz.rtidyLoop 1)) _ _ _
        exact @rtd_real F O A n c ops g w.heap.size gr w w7 _ _ _ _ _ _ _ _ _ _ _ _ _ _ _ _ _ _ _ _ _ _ _ _ _ _ _ _ _ _ _ _ _ _ _ _ _ _ _ _ _ _ _ _ _ _ _ _ _ _ _ _ _ _ _ _ _ _ _ _ _ _ _ _ _ _ _ _ _ _ _ _ _ _ _ _ _ _ _ _ _ _ _ _ _ _ _ _ _ _ _ _ _ _ _ _ _ _ _ _ _ _ _ _ _ _ _ _ _ _ _ _ _ _ _ _ _ _ _ _ _ _ _ _ _ _ _ _ _ _ _ _ _ _ _ _ _ _ _ _ _ _ _ _ _ _ _ _ _ _ _ _ _ _ _ _ _ _ _ _ _ _ _ _ _ _ _ _ _ _ _ _ _ _ _ _ _ _ _ _ _ _ _ _ _ _ _ _ _ _ _ _ _ _ _ _ _ _ _ _ _ _ _ _ _ _ _ _ _ _ _ _ _ _ _ _ _ _ _ _ _ _ _ _ _ _ _ _ _ _ _ _ _ _ _ _ _ _ _ _ _ _ _ hP HP.out hn B7 (by omega) hggr hgs7 hl7 hR7
      case k2 =>
        rintro a' w8 ⟨LA, ln, lc, _, _, _, _, _, _, _, _, _, _, _, _, _, _, _, _, _, _, _, _, _, _, _, _, _, _, _, _, _, _, _, _, _, _, _, _, rfl, hs8, hb8⟩
        have hsl : (stays ops).length = ln := by have := hs8.len; rwa [nats_length] at this
        have hln0 : 0 < ln := by have := stays_some hP; omega
        obtain ⟨g2, rfl, _, hg2⟩ := hs8.some_at hln0
        have q1' := (hb8.block _ (by omega)).trans q1
        have q2' := (hb8.block _ (by omega)).trans q2
        have B8 := B7.trans (hb8.mono (show w.heap.size ≤ gr by omega))
        have hl8 := hl7.low hb8 hggr
        have p2 : w8.cell? ⟨w.heap.size, 2, none⟩ = some (.slice A n c) := cell_of_block q1' rfl
        have hgr8 : gr < w8.heap.size := Nat.lt_of_lt_of_le hgs7 hb8.size
        have HMP := make_row (P := Tryz.prog) 44 3 (.int .i64 0) 8 Tryz.underlying44 Tryz.info_int rfl (by omega) n n (Nat.le_refl _) (by omega)
        clear q1 q2 B7 hl7 hR7 hb7 hb8
        go_upto_region 28 with (fail)
        have b9 := (Below.refl w8.heap.size w8).alloc (Nat.le_refl _) (.cells (Array.replicate n (.int .i64 0)) 3)
        have hm9 : Mine 3 (w8.alloc (.cells (Array.replicate n (.int .i64 0)) 3)) w8.heap.size (some ⟨w8.heap.size, 0, none⟩) n n (nats (List.replicate n 0)) := by
          have hm1 := Mine.made 3 w8 w8.heap.size (.int .i64 0) n n (Nat.le_refl _) (Nat.le_refl _) (by omega)
          rw [show nats (List.replicate n 0) = List.replicate n (.int .i64 0) by simp [nats, i64s]]
          exact hm1
        generalize w8.alloc (.cells (Array.replicate n (.int .i64 0)) 3) = w9 at b9 hm9 ⊢
        obtain ⟨gp, hgp⟩ : ∃ gp, w8.heap.size = gp := ⟨_, rfl⟩
        rw [hgp] at hm9 b9
        rw [hgp]
        have q1 := (b9.block _ (by omega)).trans q1'
        have q2 := (b9.block _ (by omega)).trans q2'
        have B9 := B8.trans (b9.mono (show w.heap.size ≤ gp by omega))
        have hggp : g < gp := by omega
        have hg2gp : g2 < gp := by omega
        have hpgp : w.heap.size + 1 < gp := by omega
        have hl9 := hl8.low b9 hggp
        have hs9 := hs8.low b9 hg2gp
        have hgp9 : gp < w9.heap.size := (hm9.lt gp rfl).2
        have HGP := Lib.hid hgp
        clear q1' q2' p2 B8 hl8 hs8 b9 HMP hgp
        go_wp2
        refine @loop_then _ 4 ?R3 _ _ _ _ ?h3 ?k3
        case h3 =>
          change Code.wp Tryz.prog (Code.loop (Tryz.rtidyLoop 2)) _ _ _
          exact @rtd_place F O A n c ops g w.heap.size g2 gr ln lc gp w w9 _ _ _ _ _ _ _ _ _ _ _ _ _ _ _ _ _ _ _ _ _ _ _ _ _ _ _ _ _ _ _ _ _ _ _ _ _ _ _ _ _ _ _ _ _ _ _ _ _ _ _ _ _ _ _ _ _ _ _ _ _ _ _ _ _ _ _ _ _ _ _ _ _ _ _ _ _ _ _ _ _ _ _ _ _ _ _ _ _ _ _ _ _ _ _ _ _ _ _ _ _ _ _ _ _ _ _ _ _ _ _ _ _ _ _ _ _ _ _ _ _ _ _ _ _ _ _ _ _ _ _ _ _ _ _ _ _ _ _ _ _ _ _ _ _ _ _ _ _ _ _ _ _ _ _ _ _ _ _ _ _ _ _ _ _ _ _ _ _ _ _ _ _ _ _ _ _ _ _ _ _ _ _ _ _ _ _ _ _ _ _ _ _ _ _ _ _ _ _ _ _ _ _ _ _ _ _ _ _ _ _ _ _ _ _ _ _ _ _ _ _ _ _ _ _ _ _ _ _ _ _ _ _ _ _ _ _ _ _ _ _ _ hP HP.out hn B9 (by omega) q1 (by omega) hl9 hggp hs9 hg2gp hm9
        case k3 =>
          rintro a' w10 ⟨nx, _, _, _, _, _, _, _, _, _, _, _, _, _, _, _, _, _, _, _, _, _, _, _, _, _, _, _, _, _, _, _, _, _, _, _, _, _, _, _, _, _, _, _, rfl, hm10, hb10⟩
          have hpl10 : Mine 3 w10 gp (some ⟨gp, 0, none⟩) n n (nats (places ops)) := by unfold places; rw [hsl]; exact hm10
          have q1' := (hb10.block _ (by omega)).trans q1
          have q2' := (hb10.block _ (by omega)).trans q2
          have B10 := B9.trans (hb10.mono (show w.heap.size ≤ gp by omega))
          have hl10 := hl9.low hb10 hggp
          have hs10 := hs9.low hb10 hg2gp
          have hgp10 : gp < w10.heap.size := Nat.lt_of_lt_of_le hgp9 hb10.size
          have p0 : w10.cell? ⟨w.heap.size, 0, none⟩ = some (.int .i64 F) := cell_of_block q1' rfl
          have p1 : w10.cell? ⟨w.heap.size, 1, none⟩ = some (.int .i64 O) := cell_of_block q1' rfl
          clear q1 q2 B9 hl9 hs9 hm9 hb10 hm10
          go_upto_region 38 with (fail)
          have b11 := (Below.refl w10.heap.size w10).alloc (Nat.le_refl _) (.cells #[.int .i64 F, .int .i64 O, .slice none 0 0] 30)
          have hO11 := heap_alloc_new w10 (.cells #[.int .i64 F, .int .i64 O, .slice none 0 0] 30)
          generalize w10.alloc (.cells #[.int .i64 F, .int .i64 O, .slice none 0 0] 30) = w11 at b11 hO11 ⊢
          obtain ⟨B, hB⟩ : ∃ B, w10.heap.size = B := ⟨_, rfl⟩
          rw [hB] at hO11 b11
          rw [hB]
          have hs11 : B ≤ w11.heap.size := Nat.le_trans (Nat.le_of_eq hB.symm) b11.size
          have hT11 : TdSt w11 B B F O none 0 0 [] none 0 0 [] :=
            ⟨hO11, Mine.nil _ _ _, ⟨[], ⟨rfl, MineK.nil _ _ _ _, fun j h => by simp at h, fun h hh => by simp at hh, List.Pairwise.nil⟩, fun h hh => by simp at hh⟩, fun v hv => by simp at hv, ⟨Nat.le_refl _, hs11⟩⟩
          have hgB : g < B := by omega
          have hg2B : g2 < B := by have := (hs10.lt g2 rfl).2; omega
          have hgpB : gp < B := by omega
          have hpB : w.heap.size + 1 < B := by omega
          have q1 := (b11.block _ (by omega)).trans q1'
          have q2 := (b11.block _ (by omega)).trans q2'
          have B11 := B10.trans (b11.mono (show w.heap.size ≤ B by omega))
          have hl11 := hl10.low b11 hgB
          have hs11' := hs10.low b11 hg2B
          have hpl11 := hpl10.low b11 hgpB
          have HBB := Lib.hid hB
          clear q1' q2' p0 p1 B10 hl10 hs10 hpl10 b11 hO11 hB
          go_wp2
          refine @loop_then _ 6 ?R4 _ _ _ _ ?h4 ?k4
          case h4 =>
            change Code.wp Tryz.prog (Code.loop (Tryz.rtidyLoop 3)) _ _ _
            exact @rtd_out F O A n c ops g w.heap.size g2 gr ln lc gp gp B B w w11 _ _ _ _ _ _ _ _ _ _ _ _ _ _ _ _ _ _ _ _ _ _ _ _ _ _ _ _ _ _ _ _ _ _ _ _ _ _ _ _ _ _ _ _ _ _ _ _ _ _ _ _ _ _ _ _ _ _ _ _ _ _ _ _ _ _ _ _ _ _ _ _ _ _ _ _ _ _ _ _ _ _ _ _ _ _ _ _ _ _ _ _ _ _ _ _ _ _ _ _ _ _ _ _ _ _ _ _ _ _ _ _ _ _ _ _ _ _ _ _ _ _ _ _ _ _ _ _ _ _ _ _ _ _ _ _ _ _ _ _ _ _ _ _ _ _ _ _ _ _ _ _ _ _ _ _ _ _ _ _ _ _ _ _ _ _ _ _ _ _ _ _ _ _ _ _ _ _ _ _ _ _ _ _ _ _ _ _ _ _ _ _ _ _ _ _ _ _ _ _ _ _ _ _ _ _ _ _ _ _ _ _ _ _ _ _ _ _ _ _ _ _ _ _ _ _ _ _ _ _ _ _ _ _ _ _ _ _ _ _ _ _ hP HP.out hn HCB.out B11 (by omega) q1 (by omega) hl11 hgB hs11' hg2B hpl11 hgpB hT11
          case k4 =>
            rintro a' w13 ⟨OA, on, oc, _, _, _, _, _, _, _, _, _, _, _, _, _, _, _, _, _, _, _, _, _, _, _, _, _, _, _, _, _, _, _, _, _, _, _, _, _, _, _, _, _, _, _, _, _, _, _, _, _, _, _, _, _, _, _, _, _, _, _, _, _, _, _, _, _, _, _, _, _, _, _, _, _, _, rfl, hT13, hb13⟩
            have hTO : outT ops (lands ops) (stays ops) (places ops) ln = tidyOps ops := by rw [← hsl]; rfl
            rw [hTO] at hT13
            have q2' := (hb13.block _ (by omega)).trans q2
            have q2 := q2'
            obtain ⟨s0, s1, s2, z0, z1, z2⟩ := zero_box q2
            have v0 : w13.cell? ⟨B, 0, none⟩ = some (.int .i64 F) := cell_of_block hT13.prog rfl
            have v1 : w13.cell? ⟨B, 1, none⟩ = some (.int .i64 O) := cell_of_block hT13.prog rfl
            have v2 : w13.cell? ⟨B, 2, none⟩ = some (.slice OA on oc) := cell_of_block hT13.prog rfl
            have B13 := B11.trans (hb13.mono (show w.heap.size ≤ B by omega))
            have HFB := Lib.hid (((B13.setCell (p := ⟨w.heap.size + 1, 0, none⟩) (by simp) (.int .i64 F)).setCell (p := ⟨w.heap.size + 1, 1, none⟩) (by simp) (.int .i64 O)).setCell (p := ⟨w.heap.size + 1, 2, none⟩) (by simp) (.slice OA on oc))
            have hgg := World.grownBy.trans (World.grownBy.trans (setCell_grownBy w13 (w.heap.size + 1) 0 (.int .i64 F)) (setCell_grownBy _ (w.heap.size + 1) 1 (.int .i64 O))) (setCell_grownBy _ (w.heap.size + 1) 2 (.slice OA on oc))
            have HFO := Lib.hid ((hT13.own.kept_ty q2 (by decide) (by decide) hgg).mono (show w.heap.size ≤ B by omega))
            clear hgg q2 q2' q1 B11 B13 hT11 hT13 hb13 hl11 hs11' hpl11 hTO
            go_wp2_with fail
            refine bodyPost_ret (v := .tuple #[.agg #[.int .i64 F, .int .i64 O, .slice OA on oc], .int .i64 0]) (by simp [results, Tryz.results20, go_sem, *]) rfl ?_
            rw [HRR.out]
            exact ⟨OA, on, oc, rfl, HFO.out, HFB.out⟩
  · have HRR := Lib.hid (show R = ([], K1) by rw [← HR.out]; unfold tidyV; rw [HK.out, if_pos hk])
    obtain ⟨s0, s1, s2, z0, z1, z2⟩ := zero_box q2
    have f1 : (K1 != 0) = true := by simpa using hk
    have f2 : decide (K1 = 0) = false := by simpa using hk
    have HBB := Lib.hid (((B3.setCell (p := ⟨w.heap.size + 1, 0, none⟩) (by simp) (.int .i64 0)).setCell (p := ⟨w.heap.size + 1, 1, none⟩) (by simp) (.int .i64 0)).setCell (p := ⟨w.heap.size + 1, 2, none⟩) (by simp) (.slice none 0 0))
    have HNK := Lib.hid hk
    clear q1 q2 B3 hk HR HK
    go_wp2
    refine bodyPost_ret (v := .tuple #[.agg #[.int .i64 0, .int .i64 0, .slice none 0 0], .int .i64 K1]) (by simp [results, Tryz.results20, go_sem, *]) rfl ?_
    rw [HRR.out]
    exact ⟨none, 0, 0, by rw [if_neg HNK.out, if_neg HNK.out], OwnOps.nil _ _, HBB.out⟩

end Go.Proofs.YtekcpapkicmckaaGreatDoor
