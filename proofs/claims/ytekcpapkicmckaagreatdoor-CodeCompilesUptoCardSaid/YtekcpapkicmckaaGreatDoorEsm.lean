/- thicketref07.Alike and Same, of trees and ensembles of the same contents. -/
import Derived.Test.YtekcpapkicmckaaGreatDoorEns
import Derived.Test.YtekcpapkicmckaaGreatDoorRfc
namespace Go.Proofs.YtekcpapkicmckaaGreatDoor
open Go.RowKit

theorem two_boxes (w : World) (a b : Obj) : ((w.alloc a).alloc b).heap[w.heap.size]? = some a ∧ ((w.alloc a).alloc b).heap[w.heap.size + 1]? = some b ∧ Below w.heap.size w ((w.alloc a).alloc b) := by
  refine ⟨?_, ?_, ((Below.refl _ _).alloc (Nat.le_refl _) _).alloc (by simp) _⟩
  all_goals
    show ((w.heap.push a).push b)[_]? = _
    simp only [Array.getElem?_push, Array.size_push]
    repeat (first | rw [if_pos trivial] | rw [if_neg (by omega)] | rw [if_pos (by omega)])

set_option maxRecDepth 100000 in
set_option maxHeartbeats 8000000 in
theorem Alike_true (out : Int) (A A' : Option Addr) (n c n' c' : Nat) (nds : List NdV) (w : World) (hx : NdsAt w A n c nds) (hy : NdsAt w A' n' c' nds) :
    Calls Tryz.prog 41 #[.agg #[.int .i64 out, .slice A n c], .agg #[.int .i64 out, .slice A' n' c']] w fun e w' => e = .returned (.bool true) ∧ Below w.heap.size w w' := by
  obtain rfl : n = n' := by have := hx.len; have := hy.len; omega
  obtain ⟨hP, hQ, B2⟩ := two_boxes w (.cells #[.int .i64 out, .slice A n c] 65) (.cells #[.int .i64 out, .slice A' n c'] 65)
  have HX := Lib.hid (hx.below B2)
  have HY := Lib.hid (hy.below B2)
  have HL := Lib.hid hx.len
  have hnb := hx.big
  have f64 := Tryz.f64bits
  clear hx hy
  go_enter Tryz.func41, Tryz.ntmps41
  go_upto_region 1 with (fail)
  generalize (w.alloc (.cells #[.int .i64 out, .slice A n c] 65)).alloc (.cells #[.int .i64 out, .slice A' n c'] 65) = W at hP hQ B2 HX HY ⊢
  have p0 : W.cell? ⟨w.heap.size, 0, none⟩ = some (.int .i64 out) := cell_of_block hP rfl
  have p1 : W.cell? ⟨w.heap.size, 1, none⟩ = some (.slice A n c) := cell_of_block hP rfl
  have q0 : W.cell? ⟨w.heap.size + 1, 0, none⟩ = some (.int .i64 out) := cell_of_block hQ rfl
  have q1 : W.cell? ⟨w.heap.size + 1, 1, none⟩ = some (.slice A' n c') := cell_of_block hQ rfl
  have HP := Lib.hid hP
  have HQ := Lib.hid hQ
  have HB2 := Lib.hid B2
  have hws := lt_of_block hQ
  clear hP hQ B2
  go_upto_region 4 with (fail)
  clear p0 p1 q0 q1
  go_loopw [25] (fun ix wr => ∃ (i : Nat), ix = .int .i64 (i : Int) ∧ i ≤ n ∧ Below W.heap.size W wr) (fun ix _ => n - (intOf ix).toNat)
  case atStart => exact ⟨0, rfl, Nat.zero_le _, Below.refl _ _⟩
  case round =>
    obtain ⟨i, rfl, hi, hbr⟩ := hrel
    by_cases hlt : i < n
    · have hPr := (hbr.block _ (lt_of_block HP.out)).trans HP.out
      have hQr := (hbr.block _ (lt_of_block HQ.out)).trans HQ.out
      have hxr := HX.out.below hbr
      have hyr := HY.out.below hbr
      have hl := HL.out
      obtain ⟨b, o, rfl, hc⟩ := hxr.cells (by omega)
      obtain ⟨b', o', rfl, hc'⟩ := hyr.cells (by omega)
      obtain ⟨D1, m1, d1, hr1, hi1, -, -⟩ := hc i (by omega)
      obtain ⟨D2, m2, d2, hr2, hi2, -, -⟩ := hc' i (by omega)
      generalize nds[i]'(by omega) = v at hr1 hr2 hi1 hi2
      have q1 : wr.cell? ⟨w.heap.size + 1, 1, none⟩ = some (.slice (some ⟨b', o', none⟩) n c') := cell_of_block hQr rfl
      have r0 : _ = some _ := range_cell (o := o + i * 8) hr1 0 rfl
      rw [Nat.add_zero] at r0
      have s0 : _ = some _ := range_cell (o := o' + i * 8) hr2 0 rfl
      rw [Nat.add_zero] at s0
      have r1 := range_cell hr1 1 rfl
      have r2 := range_cell hr1 2 rfl
      have r3 := range_cell hr1 3 rfl
      have r4 := range_cell hr1 4 rfl
      have r5 := range_cell hr1 5 rfl
      have r6 := range_cell hr1 6 rfl
      have r7 := range_cell hr1 7 rfl
      have s1 := range_cell hr2 1 rfl
      have s2 := range_cell hr2 2 rfl
      have s3 := range_cell hr2 3 rfl
      have s4 := range_cell hr2 4 rfl
      have s5 := range_cell hr2 5 rfl
      have s6 := range_cell hr2 6 rfl
      have s7 := range_cell hr2 7 rfl
      have hlb := World.block_lt_of_cell? _ _ s0
      have hlq := World.block_lt_of_cell? _ _ q1
      have hsf : ∀ (W : World) (a : Addr) (b : Nat), (store a (.float .f64 b)).run Tryz.prog W = stored Tryz.prog W a (.float .f64 b) .plain := fun W a b => run_store _ W a _ _ rfl
      have i1 : (i : Int) < (n : Int) := by omega
      have i2 : decide ((i : Int) < (n : Int)) = true := by simpa using i1
      clear hc hc' hxr hyr hPr hQr hl hr1 hr2
      go_upto_region 7 with (fail)
      obtain ⟨hO, hN, b5⟩ := two_boxes wr (.cells (ndCells D1 m1 d1 v).toArray 72) (.cells (ndCells D2 m2 d2 v).toArray 72)
      unfold ndCells at hO hN b5
      generalize (wr.alloc (.cells #[.int .u8 (v.kind : Int), .int .i64 v.value, .int .i64 v.feature, .float .f64 v.thr, .slice D1 m1 d1, .int .u8 (v.missing : Int), .int .i64 v.left, .int .i64 v.right] 72)).alloc (.cells #[.int .u8 (v.kind : Int), .int .i64 v.value, .int .i64 v.feature, .float .f64 v.thr, .slice D2 m2 d2, .int .u8 (v.missing : Int), .int .i64 v.left, .int .i64 v.right] 72) = w5 at hO hN b5 ⊢
      have HII := Lib.hid (fun q => (ints_any D1 D2 m1 d1 m2 d2 v.cats v.cats (w5.drewN q) (hi1.below (below_drawn b5 q)) (hi2.below (below_drawn b5 q))).mono (fun e w' h => (show e = .returned (.bool true) ∧ ∃ q2, w' = (w5.drewN q).drewN q2 from ⟨by rw [h.1, decide_eq_true rfl], h.2⟩)))
      obtain ⟨n0, n1, n2, n3, n4, n5, n6, n7⟩ := nd_box (v := v) hO
      obtain ⟨m0, m1', m2', m3, m4, m5, m6, m7⟩ := nd_box (v := v) hN
      have hb5 := below_then hbr hbr.size b5
      have HB5 := Lib.hid hb5
      clear r0 r1 r2 r3 r4 r5 r6 r7 s0 s1 s2 s3 s4 s5 s6 s7 q1 hO hN b5 hbr hi1 hi2 hb5
      go_quiet (first | (go_at_call 25; with_reducible refine Calls.quiet_of (HII.out _)))
      go_wp2
      go_roundw
      case rel => exact ⟨i + 1, by go_num, hlt, below_drawn HB5.out _⟩
      case measure => simp [intOf]; omega
    · obtain rfl : i = n := by omega
      have i2 : decide ((i : Int) < (i : Int)) = false := by simp
      have BF := Lib.hid (below_then HB2.out HB2.out.size hbr)
      clear hbr
      go_wp2
      go_ret
      exact ⟨rfl, BF.out⟩

set_option maxRecDepth 100000 in
set_option maxHeartbeats 8000000 in
theorem rEnsSame_true (name : ByteArray) (FA : Option Addr) (fn fc : Nat) (O : Int) (BA : Option Addr) (bn bc : Nat) (TA : Option Addr) (tn tc : Nat) (FA' : Option Addr) (fc' : Nat) (BA' : Option Addr) (bc' : Nat) (TA' : Option Addr) (tc' : Nat)
    (feats : List ByteArray) (bs : List Int) (ts : List TrV) (w : World) (hf : Sl w FA fn fc (strs feats)) (hf' : Sl w FA' fn fc' (strs feats)) (hb : Ints w BA bn bc bs) (hb' : Ints w BA' bn bc' bs) (ht : TrsAt w TA tn tc ts) (ht' : TrsAt w TA' tn tc' ts) :
    Calls Tryz.prog 17 #[.agg #[.string name, .slice FA fn fc, .int .i64 O, .slice BA bn bc, .slice TA tn tc], .agg #[.string name, .slice FA' fn fc', .int .i64 O, .slice BA' bn bc', .slice TA' tn tc']] w fun e w' => e = .returned (.bool true) ∧ Below w.heap.size w w' := by
  obtain ⟨hP, hQ, B2⟩ := two_boxes w (.cells #[.string name, .slice FA fn fc, .int .i64 O, .slice BA bn bc, .slice TA tn tc] 26) (.cells #[.string name, .slice FA' fn fc', .int .i64 O, .slice BA' bn bc', .slice TA' tn tc'] 26)
  have HF := Lib.hid (hf.below B2)
  have HF' := Lib.hid (hf'.below B2)
  have HB := Lib.hid (hb.below B2)
  have HB' := Lib.hid (hb'.below B2)
  have HT := Lib.hid (ht.below B2)
  have HT' := Lib.hid (ht'.below B2)
  have HFL := Lib.hid (show feats.length = fn by have := hf.len; rwa [strs_length] at this)
  have HBL := Lib.hid hb.len
  have HTL := Lib.hid ht.len
  have hfb := hf.big
  have hbb := hb.sl.big
  have htb := ht.big
  clear hf hf' hb hb' ht ht'
  go_enter Tryz.func17, Tryz.ntmps17
  go_upto_region 1 with (fail)
  generalize (w.alloc (.cells #[.string name, .slice FA fn fc, .int .i64 O, .slice BA bn bc, .slice TA tn tc] 26)).alloc (.cells #[.string name, .slice FA' fn fc', .int .i64 O, .slice BA' bn bc', .slice TA' tn tc'] 26) = W at hP hQ B2 HF HF' HB HB' HT HT' ⊢
  have KP := Lib.hid (fun (X : World) (hX : Below W.heap.size W X) => (hX.block _ (lt_of_block hP)).trans hP)
  have KQ := Lib.hid (fun (X : World) (hX : Below W.heap.size W X) => (hX.block _ (lt_of_block hQ)).trans hQ)
  have p0 : W.cell? ⟨w.heap.size, 0, none⟩ = some (.string name) := cell_of_block hP rfl
  have p1 : W.cell? ⟨w.heap.size, 1, none⟩ = some (.slice FA fn fc) := cell_of_block hP rfl
  have p2 : W.cell? ⟨w.heap.size, 2, none⟩ = some (.int .i64 O) := cell_of_block hP rfl
  have p3 : W.cell? ⟨w.heap.size, 3, none⟩ = some (.slice BA bn bc) := cell_of_block hP rfl
  have p4 : W.cell? ⟨w.heap.size, 4, none⟩ = some (.slice TA tn tc) := cell_of_block hP rfl
  have q0 : W.cell? ⟨w.heap.size + 1, 0, none⟩ = some (.string name) := cell_of_block hQ rfl
  have q1 : W.cell? ⟨w.heap.size + 1, 1, none⟩ = some (.slice FA' fn fc') := cell_of_block hQ rfl
  have q2 : W.cell? ⟨w.heap.size + 1, 2, none⟩ = some (.int .i64 O) := cell_of_block hQ rfl
  have q3 : W.cell? ⟨w.heap.size + 1, 3, none⟩ = some (.slice BA' bn bc') := cell_of_block hQ rfl
  have q4 : W.cell? ⟨w.heap.size + 1, 4, none⟩ = some (.slice TA' tn tc') := cell_of_block hQ rfl
  have HB2 := Lib.hid B2
  clear hP hQ B2
  go_upto_region 4 with (fail)
  clear p0 p1 p2 p3 p4 q0 q1 q2 q3 q4
  go_loopw [50] (fun ix wr => ∃ (i q : Nat), ix = .int .i64 (i : Int) ∧ i ≤ fn ∧ wr = W.drewN q) (fun ix _ => fn - (intOf ix).toNat)
  case atStart => exact ⟨0, 0, rfl, Nat.zero_le _, rfl⟩
  case round =>
    obtain ⟨i, q, rfl, hi, rfl⟩ := hrel
    have p1 : W.cell? ⟨w.heap.size, 1, none⟩ = some (.slice FA fn fc) := cell_of_block (KP.out _ (Below.refl _ _)) rfl
    have q1 : W.cell? ⟨w.heap.size + 1, 1, none⟩ = some (.slice FA' fn fc') := cell_of_block (KQ.out _ (Below.refl _ _)) rfl
    by_cases hlt : i < fn
    · obtain ⟨b, o, rfl, hc⟩ := HF.out.cells (by omega)
      obtain ⟨b', o', rfl, hc'⟩ := HF'.out.cells (by omega)
      have hl := HFL.out
      have e1 := hc i hlt
      have e2 := hc' i hlt
      rw [strs_getD (by omega)] at e1 e2
      generalize feats[i]'(by omega) = s at e1 e2
      have i1 : (i : Int) < (fn : Int) := by omega
      have i2 : decide ((i : Int) < (fn : Int)) = true := by simpa using i1
      clear hc hc' hl
      go_wp2
      go_quiet (fail)
      go_wp2
      go_roundw
      case rel => exact ⟨i + 1, q + nq, by go_num, hlt, by first | rfl | exact World.drewN_drewN ..⟩
      case measure => simp [intOf]; omega
    · obtain rfl : i = fn := by omega
      have i2 : decide ((i : Int) < (i : Int)) = false := by simp
      have p3 : W.cell? ⟨w.heap.size, 3, none⟩ = some (.slice BA bn bc) := cell_of_block (KP.out _ (Below.refl _ _)) rfl
      go_upto_region 10 with (fail)
      clear p1 q1 p3
      go_loopw [68] (fun ix wr => ∃ (j q : Nat), ix = .int .i64 (j : Int) ∧ j ≤ bn ∧ wr = W.drewN q) (fun ix _ => bn - (intOf ix).toNat)
      case atStart => exact ⟨0, q, rfl, Nat.zero_le _, rfl⟩
      case round =>
        obtain ⟨j, r, rfl, hj, rfl⟩ := hrel
        have p3 : W.cell? ⟨w.heap.size, 3, none⟩ = some (.slice BA bn bc) := cell_of_block (KP.out _ (Below.refl _ _)) rfl
        have q3 : W.cell? ⟨w.heap.size + 1, 3, none⟩ = some (.slice BA' bn bc') := cell_of_block (KQ.out _ (Below.refl _ _)) rfl
        by_cases hjt : j < bn
        · obtain ⟨b, o, rfl, hc⟩ := HB.out.cells (by omega)
          obtain ⟨b', o', rfl, hc'⟩ := HB'.out.cells (by omega)
          have e1 := hc j hjt
          have e2 := hc' j hjt
          generalize bs.getD j 0 = z at e1 e2
          have i1 : (j : Int) < (bn : Int) := by omega
          have i2' : decide ((j : Int) < (bn : Int)) = true := by simpa using i1
          clear hc hc'
          go_wp2
          go_quiet (fail)
          go_wp2
          go_roundw
          case rel => exact ⟨j + 1, r + nq, by go_num, hjt, by first | rfl | exact World.drewN_drewN ..⟩
          case measure => simp [intOf]; omega
        · obtain rfl : j = bn := by omega
          have i2' : decide ((j : Int) < (j : Int)) = false := by simp
          have p4 : W.cell? ⟨w.heap.size, 4, none⟩ = some (.slice TA tn tc) := cell_of_block (KP.out _ (Below.refl _ _)) rfl
          go_upto_region 16 with (fail)
          clear p3 q3 p4
          go_loopw [86] (fun ix wr => ∃ (k : Nat), ix = .int .i64 (k : Int) ∧ k ≤ tn ∧ Below W.heap.size W wr) (fun ix _ => tn - (intOf ix).toNat)
          case atStart => exact ⟨0, rfl, Nat.zero_le _, below_drawn (Below.refl _ _) r⟩
          case round =>
            obtain ⟨k, rfl, hk, hbr⟩ := hrel
            by_cases hkt : k < tn
            · have p4 : wr.cell? ⟨w.heap.size, 4, none⟩ = some (.slice TA tn tc) := cell_of_block (KP.out _ hbr) rfl
              have q4 : wr.cell? ⟨w.heap.size + 1, 4, none⟩ = some (.slice TA' tn tc') := cell_of_block (KQ.out _ hbr) rfl
              obtain ⟨b, o, rfl, hc⟩ := HT.out.cells (by omega)
              obtain ⟨b', o', rfl, hc'⟩ := HT'.out.cells (by omega)
              have hl := HTL.out
              obtain ⟨D1, m1, d1, hr1, hn1, -⟩ := hc k (by omega)
              obtain ⟨D2, m2, d2, hr2, hn2, -⟩ := hc' k (by omega)
              generalize ts[k]'(by omega) = t at hr1 hr2 hn1 hn2
              have hr1' := rangeAt_below hr1 hbr
              have hr2' := rangeAt_below hr2 hbr
              have r0 : _ = some _ := range_cell (o := o + k * 2) hr1' 0 rfl
              rw [Nat.add_zero] at r0
              have s0 : _ = some _ := range_cell (o := o' + k * 2) hr2' 0 rfl
              rw [Nat.add_zero] at s0
              have r1 := range_cell hr1' 1 rfl
              have s1 := range_cell hr2' 1 rfl
              have HA := Lib.hid (Alike_true t.out D1 D2 m1 d1 m2 d2 t.nds wr.drew ((hn1.below hbr).below (Below.refl _ _).drew) ((hn2.below hbr).below (Below.refl _ _).drew))
              have i1 : (k : Int) < (tn : Int) := by omega
              have k2' : decide ((k : Int) < (tn : Int)) = true := by simpa using i1
              clear hc hc' hl hr1 hr2 hr1' hr2' hn1 hn2
              go_upto_region 18 with (fail)
              go_region_with (go_at_call 41; refine HA.out.mono ?_; rintro e w3 ⟨rfl, b3⟩)
              all_goals
                have hbd : Below W.heap.size W wr.drew := hbr.drew
                have hb3 := below_then hbd hbd.size b3
                clear hbd b3 r0 r1 s0 s1 p4 q4 HA
                go_wp2
                go_roundw
                case rel => exact ⟨k + 1, by go_num, hkt, hb3⟩
                case measure => simp [intOf]; omega
            · obtain rfl : k = tn := by omega
              have k2' : decide ((k : Int) < (k : Int)) = false := by simp
              have BF := Lib.hid (below_then HB2.out HB2.out.size hbr)
              clear hbr
              go_wp2
              go_ret
              exact ⟨rfl, BF.out⟩

end Go.Proofs.YtekcpapkicmckaaGreatDoor
