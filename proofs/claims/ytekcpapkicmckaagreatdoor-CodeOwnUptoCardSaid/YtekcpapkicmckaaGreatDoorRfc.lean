/- The contracts of thicketref07.Ints and Cats. The contract of thicketref19.alike. The contract of thicketref19.used. The contract of thicketref19.right: what it calls. The contract of thicketref19.right. The contract of thicketref19.Check. The contract of thicketref19.Same. The contracts of slices.Equal at whole numbers and of code.Same's comparison. The contracts of slices.EqualFunc at operations and of code.Same. -/
import Derived.Test.YtekcpapkicmckaaGreatDoorOpn
import Derived.BigQuiet
import Derived.Test.YtekcpapkicmckaaGreatDoorCck
import Derived.Deep.RegionWith
namespace Go.Proofs.YtekcpapkicmckaaGreatDoor
open Go.RowKit

theorem ext_getD {xs ys : List Int} (hl : xs.length = ys.length) (h : ∀ j, j < xs.length → xs.getD j 0 = ys.getD j 0) : xs = ys := by
  apply List.ext_getElem hl
  intro j h1 h2
  have := h j h1
  rwa [List.getD_eq_getElem?_getD, List.getD_eq_getElem?_getD, List.getElem?_eq_getElem h1, List.getElem?_eq_getElem h2] at this

set_option maxRecDepth 100000 in
set_option maxHeartbeats 1000000 in
theorem ints_any (A B : Option Addr) (n c m d : Nat) (xs ys : List Int) (w : World) (hx : Ints w A n c xs) (hy : Ints w B m d ys) :
    Calls Tryz.prog 25 #[.slice A n c, .slice B m d] w fun e w' => e = .returned (.bool (decide (xs = ys))) ∧ ∃ q, w' = w.drewN q := by
  by_cases hnm : n = m
  · subst hnm
    have hnb := hx.sl.big
    have HX := Lib.hid hx.len
    have HY := Lib.hid hy.len
    have HC := Lib.hid (fun (h : 0 < n) => hx.cells h)
    have HD := Lib.hid (fun (h : 0 < n) => hy.cells h)
    clear hx hy
    go_enter Tryz.func25, Tryz.ntmps25
    go_wp2
    go_loopw [13] (fun ix wr => ∃ (k q : Nat), k ≤ n ∧ ix = .int .i64 k ∧ wr = w.drewN q ∧ Hid (∀ j, j < k → xs.getD j 0 = ys.getD j 0)) (fun ix _ => n - (intOf ix).toNat)
    case atStart => exact ⟨0, 0, Nat.zero_le _, rfl, rfl, Lib.hid (fun j hj => absurd hj (Nat.not_lt_zero j))⟩
    case round =>
      obtain ⟨k, q, hk, rfl, rfl, HE⟩ := hrel
      by_cases hlt : k < n
      · obtain ⟨b1, o1, rfl, h1⟩ := HC.out (by omega)
        obtain ⟨b2, o2, rfl, h2⟩ := HD.out (by omega)
        have e1 : w.cell? ⟨b1, o1 + k, none⟩ = some (.int .i64 (xs.getD k 0)) := h1 k hlt
        have e2 : w.cell? ⟨b2, o2 + k, none⟩ = some (.int .i64 (ys.getD k 0)) := h2 k hlt
        clear h1 h2
        obtain ⟨x, hxx⟩ : ∃ x, xs.getD k 0 = x := ⟨_, rfl⟩
        obtain ⟨y, hyy⟩ : ∃ y, ys.getD k 0 = y := ⟨_, rfl⟩
        rw [hxx] at e1
        rw [hyy] at e2
        have HXX := Lib.hid hxx
        have HYY := Lib.hid hyy
        clear hxx hyy
        by_cases hxy : x = y
        · subst hxy
          have HE2 : Hid (∀ j, j < k + 1 → xs.getD j 0 = ys.getD j 0) := Lib.hid (fun j hj => by
            by_cases h : j = k
            · rw [h, HXX.out, HYY.out]
            · exact HE.out j (by omega))
          go_wp2
          go_quiet (fail)
          go_wp2
          go_roundw
          case rel => exact ⟨k + 1, q + nq, hlt, by go_num, by first | rfl | exact World.drewN_drewN .., HE2⟩
          case measure => simp [intOf]; omega
        · have f1 : (x != y) = true := by simpa using hxy
          have f2 : decide (x = y) = false := by simpa using hxy
          have e : xs ≠ ys := fun h => hxy (by rw [← HXX.out, ← HYY.out, h])
          have HNE := Lib.hid e
          clear e hxy
          go_wp2
          go_quiet (fail)
          go_wp2
          go_ret
          exact ⟨by rw [decide_eq_false HNE.out]; rfl, _, World.drewN_drewN ..⟩
      · obtain rfl : k = n := by omega
        go_wp2
        go_ret
        have e : xs = ys := ext_getD (by rw [HX.out, HY.out]) (fun j hj => HE.out j (by rw [HX.out] at hj; exact hj))
        exact ⟨by rw [decide_eq_true e]; rfl, q, rfl⟩
  · have hne : ((n : Int) != (m : Int)) = true := by simp; omega
    have e : xs ≠ ys := fun h => hnm (by rw [← hx.len, ← hy.len, h])
    rw [decide_eq_false e]
    have HN := Lib.hid hnm
    clear hnm
    go_enter Tryz.func25, Tryz.ntmps25
    go_wp2
    go_ret
    exact ⟨rfl, 0, rfl⟩

set_option maxRecDepth 100000 in
set_option maxHeartbeats 1000000 in
theorem cats_any (A : Option Addr) (n c : Nat) (zs : List Int) (w : World) (hx : Ints w A n c zs) :
    Calls Tryz.prog 79 #[.slice A n c] w fun e w' => e = .returned (.bool (rising zs)) ∧ ∃ q, w' = w.drewN q := by
  have hn := hx.sl.big
  have HC := Lib.hid (fun (h : 0 < n) => hx.cells h)
  have HZ := Lib.hid hx.len
  clear hx
  go_enter Tryz.func79, Tryz.ntmps79
  go_wp2
  go_loopw [7] (fun ix wr => ∃ (i q : Nat) (last : Int), ix = .int .i64 (i : Int) ∧ i ≤ n ∧ Hid (risingF (-1) (zs.take i) = some last) ∧ ((i = 0 ∧ last = -1) ∨ (0 < i ∧ 0 ≤ last ∧ Hid (zs.getD (i - 1) 0 = last))) ∧ wr = w.drewN q) (fun ix _ => n - (intOf ix).toNat)
  case atStart => exact ⟨0, 0, -1, rfl, Nat.zero_le _, Lib.hid rfl, .inl ⟨rfl, rfl⟩, rfl⟩
  case round =>
    obtain ⟨i, q, last, rfl, hi, HR, hl, rfl⟩ := hrel
    by_cases hlt : i < n
    · obtain ⟨b, o, rfl, hc⟩ := HC.out (by omega)
      have h0 : (w.drewN q).cell? ⟨b, o + i, none⟩ = some (.int .i64 (zs.getD i 0)) := hc i hlt
      have h9 : 0 < i → (w.drewN q).cell? ⟨b, o + (i - 1), none⟩ = some (.int .i64 (zs.getD (i - 1) 0)) := fun _ => hc (i - 1) (by omega)
      have hs := take_snocD (zs := zs) (i := i) (by rw [HZ.out]; exact hlt)
      obtain ⟨z, hz⟩ : ∃ z, zs.getD i 0 = z := ⟨_, rfl⟩
      rw [hz] at h0 hs
      have hst : risingF (-1) (zs.take (i + 1)) = if z ≤ last ∨ 1024 ≤ z then none else some z := by rw [hs, risingF_snoc, HR.out]; rfl
      have hng : ∀ l m : List Int, risingF (-1) l = none → rising (l ++ m) = false := by
        intro l m h
        have : risingF (-1) (l ++ m) = none := by
          have key : ∀ (m l : List Int) (k : Int), risingF k l = none → risingF k (l ++ m) = none := by
            intro m l
            induction l with
            | nil => intro k h; simp [risingF] at h
            | cons d l ih => intro k h; simp only [List.cons_append, risingF] at h ⊢; split at h <;> simp_all
          exact key m l _ h
        unfold rising; rw [this]
      have hbad : (z ≤ last ∨ 1024 ≤ z) → rising zs = false := by
        intro h
        have := hng (zs.take (i + 1)) (zs.drop (i + 1)) (by rw [hst, if_pos h])
        rwa [List.take_append_drop] at this
      have HBD := Lib.hid hbad
      have HST := Lib.hid hst
      have HZZ := Lib.hid hz
      clear hs hng hbad hst hz hc
      have m1 : decide ((i : Int) < (n : Int)) = true := by simp; omega
      have m2 : (i : Int) < (n : Int) := by omega
      rcases hl with ⟨rfl, rfl⟩ | ⟨hi0, hl0, HL⟩
      · have h0' : (w.drewN q).cell? ⟨b, o, none⟩ = some (.int .i64 z) := h0
        clear h9 h0
        by_cases hzb : z < 0 ∨ 1024 ≤ z
        · have HB := Lib.hid (HBD.out (by omega))
          go_wp2
          all_goals first
          | (go_ret; exact ⟨by rw [HB.out]; rfl, q, rfl⟩)
          | (exfalso; omega)
        · have HR2 : Hid (risingF (-1) (zs.take (0 + 1)) = some z) := Lib.hid (by rw [HST.out, if_neg (by omega)])
          have z1 : ¬ z < 0 := by omega
          have z2 : ¬ 1024 ≤ z := by omega
          go_wp2
          go_roundw
          case rel => exact ⟨1, q, z, by go_num, hlt, HR2, .inr ⟨by omega, by omega, HZZ⟩, rfl⟩
          case measure => simp [intOf]; omega
      · have h8 := h9 hi0
        rw [HL.out] at h8
        have hw : (i : Int) - 1 = ((i - 1 : Nat) : Int) := by omega
        clear h9
        have i1 : (0 : Int) < (i : Int) := by omega
        obtain ⟨i', rfl⟩ : ∃ i', i = i' + 1 := ⟨i - 1, by omega⟩
        simp only [Nat.add_sub_cancel] at h8 hw
        by_cases hzb : z ≤ last ∨ 1024 ≤ z
        · have HB := Lib.hid (HBD.out hzb)
          clear hw
          go_wp2
          all_goals first
          | (go_ret; exact ⟨by rw [HB.out]; rfl, q, rfl⟩)
          | (exfalso; omega)
        · have HR2 : Hid (risingF (-1) (zs.take (i' + 1 + 1)) = some z) := Lib.hid (by rw [HST.out, if_neg hzb])
          have z1 : ¬ z < 0 := by omega
          have z2 : ¬ 1024 ≤ z := by omega
          have z3 : ¬ z ≤ last := by omega
          clear hw
          go_wp2
          go_roundw
          case rel => exact ⟨i' + 1 + 1, q, z, by go_num, hlt, HR2, .inr ⟨by omega, by omega, HZZ⟩, rfl⟩
          case measure => simp [intOf]; omega
    · obtain rfl : i = n := by omega
      have m1 : decide ((i : Int) < (i : Int)) = false := by simp
      have hrz : rising zs = decide (0 ≤ last) := by
        have := HR.out
        rw [List.take_of_length_le (by rw [HZ.out]; exact Nat.le_refl _)] at this
        unfold rising; rw [this]
      have HB := Lib.hid hrz
      clear hrz
      by_cases h1 : 0 < i
      · have p1 : decide (0 ≤ last) = true := by simp; omega
        have p2 : (0 : Int) < (i : Int) := by omega
        go_wp2
        go_ret
        exact ⟨by rw [HB.out, p1]; rfl, q, rfl⟩
      · obtain rfl : i = 0 := by omega
        have p1 : decide (0 ≤ last) = false := by simp; omega
        go_wp2
        go_ret
        exact ⟨by rw [HB.out, p1]; rfl, q, rfl⟩

end Go.Proofs.YtekcpapkicmckaaGreatDoor

namespace Go.Proofs.YtekcpapkicmckaaGreatDoor
open Go.RowKit

/-- are two operations alike? -/
def alikeV (a b : OpV) : Bool := decide (a.kind = b.kind) && decide (a.feature = b.feature) && decide (a.thr = b.thr) && decide (a.cats = b.cats) && decide (a.missing = b.missing) && decide (a.output = b.output) && decide (a.value = b.value) && decide (a.dest = b.dest)

/-- an operation as a value -/
def opAgg (A : Option Addr) (n c : Nat) (v : OpV) : Value := .agg (opCells A n c v).toArray

set_option maxRecDepth 100000 in
set_option maxHeartbeats 8000000 in
theorem alike_any (A B : Option Addr) (n c m d : Nat) (a b : OpV) (w : World) (ha : Ints w A n c a.cats) (hb : Ints w B m d b.cats) :
    Calls Tryz.prog 40 #[opAgg A n c a, opAgg B m d b] w fun e w' => e = .returned (.bool (alikeV a b)) ∧ Below w.heap.size w w' := by
  have B1 := (Below.refl w.heap.size w).alloc (Nat.le_refl _) (.cells (opCells A n c a).toArray 75)
  have B2 := B1.alloc (by simp) (.cells (opCells B m d b).toArray 75)
  have hP : ((w.alloc (.cells (opCells A n c a).toArray 75)).alloc (.cells (opCells B m d b).toArray 75)).heap[w.heap.size]? = some (.cells (opCells A n c a).toArray 75 (0, 0)) := by
    show ((w.heap.push _).push _)[w.heap.size]? = _
    simp only [Array.getElem?_push, Array.size_push]
    rw [if_neg (by omega), if_pos trivial]
  have hQ : ((w.alloc (.cells (opCells A n c a).toArray 75)).alloc (.cells (opCells B m d b).toArray 75)).heap[w.heap.size + 1]? = some (.cells (opCells B m d b).toArray 75 (0, 0)) := by
    show ((w.heap.push _).push _)[w.heap.size + 1]? = _
    simp only [Array.getElem?_push, Array.size_push]
    rw [if_pos trivial]
  have ha2 := ha.below B2
  have hb2 := hb.below B2
  have f64 := Tryz.f64bits
  obtain ⟨R, hR⟩ : ∃ R, alikeV a b = R := ⟨_, rfl⟩
  have HR := Lib.hid hR
  rw [hR]
  clear hR
  unfold opAgg
  unfold opCells at hP hQ B2 ha2 hb2 ⊢
  clear ha hb B1
  go_enter Tryz.func40, Tryz.ntmps40
  go_upto_region 1 with (fail)
  generalize (w.alloc (.cells #[.int .u8 (a.kind : Int), .int .i64 a.feature, .float .f64 a.thr, .slice A n c, .int .u8 (a.missing : Int), .int .i64 a.output, .int .i64 a.value, .int .i64 a.dest] 75)).alloc (.cells #[.int .u8 (b.kind : Int), .int .i64 b.feature, .float .f64 b.thr, .slice B m d, .int .u8 (b.missing : Int), .int .i64 b.output, .int .i64 b.value, .int .i64 b.dest] 75) = W at hP hQ B2 ha2 hb2 ⊢
  have p0 : W.cell? ⟨w.heap.size, 0, none⟩ = some (.int .u8 (a.kind : Int)) := cell_of_block hP rfl
  have q0 : W.cell? ⟨w.heap.size + 1, 0, none⟩ = some (.int .u8 (b.kind : Int)) := cell_of_block hQ rfl
  have p1 : W.cell? ⟨w.heap.size, 1, none⟩ = some (.int .i64 a.feature) := cell_of_block hP rfl
  have q1 : W.cell? ⟨w.heap.size + 1, 1, none⟩ = some (.int .i64 b.feature) := cell_of_block hQ rfl
  have p2 : W.cell? ⟨w.heap.size, 2, none⟩ = some (.float .f64 a.thr) := cell_of_block hP rfl
  have q2 : W.cell? ⟨w.heap.size + 1, 2, none⟩ = some (.float .f64 b.thr) := cell_of_block hQ rfl
  have p3 : W.cell? ⟨w.heap.size, 3, none⟩ = some (.slice A n c) := cell_of_block hP rfl
  have q3 : W.cell? ⟨w.heap.size + 1, 3, none⟩ = some (.slice B m d) := cell_of_block hQ rfl
  have p4 : W.cell? ⟨w.heap.size, 4, none⟩ = some (.int .u8 (a.missing : Int)) := cell_of_block hP rfl
  have q4 : W.cell? ⟨w.heap.size + 1, 4, none⟩ = some (.int .u8 (b.missing : Int)) := cell_of_block hQ rfl
  have p5 : W.cell? ⟨w.heap.size, 5, none⟩ = some (.int .i64 a.output) := cell_of_block hP rfl
  have q5 : W.cell? ⟨w.heap.size + 1, 5, none⟩ = some (.int .i64 b.output) := cell_of_block hQ rfl
  have p6 : W.cell? ⟨w.heap.size, 6, none⟩ = some (.int .i64 a.value) := cell_of_block hP rfl
  have q6 : W.cell? ⟨w.heap.size + 1, 6, none⟩ = some (.int .i64 b.value) := cell_of_block hQ rfl
  have p7 : W.cell? ⟨w.heap.size, 7, none⟩ = some (.int .i64 a.dest) := cell_of_block hP rfl
  have q7 : W.cell? ⟨w.heap.size + 1, 7, none⟩ = some (.int .i64 b.dest) := cell_of_block hQ rfl
  clear hP hQ
  have HI : ∀ r, decide (a.cats = b.cats) = r → Hid (∀ q, Calls Tryz.prog 25 #[.slice A n c, .slice B m d] (W.drewN q) fun e w' => e = .returned (.bool r) ∧ ∃ q2, w' = (W.drewN q).drewN q2) := fun r hr => Lib.hid (fun q => (ints_any A B n c m d a.cats b.cats (W.drewN q) (ha2.below ⟨rfl, rfl, rfl, Nat.le_refl _, fun _ _ => rfl⟩) (hb2.below ⟨rfl, rfl, rfl, Nat.le_refl _, fun _ _ => rfl⟩)).mono (by rintro e w2 ⟨rfl, q2, rfl⟩; exact ⟨by rw [hr], q2, rfl⟩))
  clear ha2 hb2
  by_cases h0 : a.kind = b.kind
  · rw [← h0] at q0
    by_cases h1 : a.feature = b.feature
    · rw [← h1] at q1
      by_cases h2 : a.thr = b.thr
      · rw [← h2] at q2
        by_cases h3 : a.cats = b.cats
        · have HII := HI true (by simpa using h3)
          by_cases h4 : a.missing = b.missing
          · rw [← h4] at q4
            by_cases h5 : a.output = b.output
            · rw [← h5] at q5
              by_cases h6 : a.value = b.value
              · rw [← h6] at q6
                by_cases h7 : a.dest = b.dest
                · rw [← h7] at q7
                  have HRR : Hid (R = true) := Lib.hid (by rw [← HR.out]; unfold alikeV; simp [h0, h1, h2, h3, h4, h5, h6, h7])
                  clear h0 h1 h2 h3 h4 h5 h6 h7
                  go_quiet (first | (go_at_call 25; with_reducible refine Calls.quiet_of (HII.out _)))
                  go_wp2
                  go_ret
                  exact ⟨by rw [HRR.out]; rfl, B2.trans ⟨rfl, rfl, rfl, Nat.le_refl _, fun _ _ => rfl⟩⟩
                · have HRR : Hid (R = false) := Lib.hid (by rw [← HR.out]; unfold alikeV; simp [h7])
                  have n1 : decide (a.dest = b.dest) = false := by simp; omega
                  have n2 : (a.dest == b.dest) = false := by simp; omega
                  clear h0 h1 h2 h3 h4 h5 h6 h7
                  go_quiet (first | (go_at_call 25; with_reducible refine Calls.quiet_of (HII.out _)))
                  go_wp2
                  go_ret
                  exact ⟨by rw [HRR.out]; rfl, B2.trans ⟨rfl, rfl, rfl, Nat.le_refl _, fun _ _ => rfl⟩⟩
              · have HRR : Hid (R = false) := Lib.hid (by rw [← HR.out]; unfold alikeV; simp [h6])
                have n1 : decide (a.value = b.value) = false := by simp; omega
                have n2 : (a.value == b.value) = false := by simp; omega
                clear h0 h1 h2 h3 h4 h5 h6
                go_quiet (first | (go_at_call 25; with_reducible refine Calls.quiet_of (HII.out _)))
                go_wp2
                go_ret
                exact ⟨by rw [HRR.out]; rfl, B2.trans ⟨rfl, rfl, rfl, Nat.le_refl _, fun _ _ => rfl⟩⟩
            · have HRR : Hid (R = false) := Lib.hid (by rw [← HR.out]; unfold alikeV; simp [h5])
              have n1 : decide (a.output = b.output) = false := by simp; omega
              have n2 : (a.output == b.output) = false := by simp; omega
              clear h0 h1 h2 h3 h4 h5
              go_quiet (first | (go_at_call 25; with_reducible refine Calls.quiet_of (HII.out _)))
              go_wp2
              go_ret
              exact ⟨by rw [HRR.out]; rfl, B2.trans ⟨rfl, rfl, rfl, Nat.le_refl _, fun _ _ => rfl⟩⟩
          · have HRR : Hid (R = false) := Lib.hid (by rw [← HR.out]; unfold alikeV; simp [h4])
            have n1 : decide ((a.missing : Int) = (b.missing : Int)) = false := by simp; omega
            have n2 : ((a.missing : Int) == (b.missing : Int)) = false := by simp; omega
            clear h0 h1 h2 h3 h4
            go_quiet (first | (go_at_call 25; with_reducible refine Calls.quiet_of (HII.out _)))
            go_wp2
            go_ret
            exact ⟨by rw [HRR.out]; rfl, B2.trans ⟨rfl, rfl, rfl, Nat.le_refl _, fun _ _ => rfl⟩⟩
        · have HRR : Hid (R = false) := Lib.hid (by rw [← HR.out]; unfold alikeV; simp [h3])
          have HII := HI false (by simpa using h3)
          clear h0 h1 h2 h3
          go_quiet (first | (go_at_call 25; with_reducible refine Calls.quiet_of (HII.out _)))
          go_wp2
          go_ret
          exact ⟨by rw [HRR.out]; rfl, B2.trans ⟨rfl, rfl, rfl, Nat.le_refl _, fun _ _ => rfl⟩⟩
      · have HRR : Hid (R = false) := Lib.hid (by rw [← HR.out]; unfold alikeV; simp [h2])
        have n1 : decide ((a.thr : Int) = (b.thr : Int)) = false := by simp; omega
        have n2 : ((a.thr : Int) == (b.thr : Int)) = false := by simp; omega
        have HII := HI _ rfl
        clear h0 h1 h2
        go_quiet (first | (go_at_call 25; with_reducible refine Calls.quiet_of (HII.out _)))
        go_wp2
        go_ret
        exact ⟨by rw [HRR.out]; rfl, B2.trans ⟨rfl, rfl, rfl, Nat.le_refl _, fun _ _ => rfl⟩⟩
    · have HRR : Hid (R = false) := Lib.hid (by rw [← HR.out]; unfold alikeV; simp [h1])
      have n1 : decide (a.feature = b.feature) = false := by simp; omega
      have n2 : (a.feature == b.feature) = false := by simp; omega
      have HII := HI _ rfl
      clear h0 h1
      go_quiet (first | (go_at_call 25; with_reducible refine Calls.quiet_of (HII.out _)))
      go_wp2
      go_ret
      exact ⟨by rw [HRR.out]; rfl, B2.trans ⟨rfl, rfl, rfl, Nat.le_refl _, fun _ _ => rfl⟩⟩
  · have HRR : Hid (R = false) := Lib.hid (by rw [← HR.out]; unfold alikeV; simp [h0])
    have n1 : decide ((a.kind : Int) = (b.kind : Int)) = false := by simp; omega
    have n2 : ((a.kind : Int) == (b.kind : Int)) = false := by simp; omega
    have HII := HI _ rfl
    clear h0
    go_quiet (first | (go_at_call 25; with_reducible refine Calls.quiet_of (HII.out _)))
    go_wp2
    go_ret
    exact ⟨by rw [HRR.out]; rfl, B2.trans ⟨rfl, rfl, rfl, Nat.le_refl _, fun _ _ => rfl⟩⟩

end Go.Proofs.YtekcpapkicmckaaGreatDoor

namespace Go.Proofs.YtekcpapkicmckaaGreatDoor
open Go.RowKit

/-- the fields that a kind uses, all others wiped out -/
def usedV (v : OpV) : OpV :=
  match v.kind with
  | 1 => ⟨1, v.feature, v.thr, [], v.missing, 0, 0, v.dest⟩
  | 2 => ⟨2, v.feature, 0, v.cats, v.missing, 0, 0, v.dest⟩
  | 3 => ⟨3, 0, 0, [], 0, v.output, v.value, 0⟩
  | 4 => ⟨4, 0, 0, [], 0, 0, 0, v.dest⟩
  | k => ⟨k, 0, 0, [], 0, 0, 0, 0⟩

/-- used, with the slice of its categories -/
def UsedPost (A : Option Addr) (n c : Nat) (v : OpV) (w : World) (e : Ending) (w' : World) : Prop :=
  Below w.heap.size w w' ∧ ((v.kind = 2 ∧ e = .returned (.agg (opCells A n c (usedV v)).toArray)) ∨ (v.kind ≠ 2 ∧ e = .returned (.agg (opCells none 0 0 (usedV v)).toArray)))

theorem heap_mid (w : World) (a c : Obj) (cs : Array Value) (t : TypeId) : (((w.alloc a).alloc (.cells cs t)).alloc c).heap[w.heap.size + 1]? = some (.cells cs t (0, 0)) := by
  show (((w.heap.push _).push _).push _)[w.heap.size + 1]? = _
  simp only [Array.getElem?_push, Array.size_push]
  rw [if_neg (by omega), if_pos trivial]
theorem below_three (w : World) (a b c : Obj) : Below w.heap.size w (((w.alloc a).alloc b).alloc c) := (((Below.refl _ _).alloc (Nat.le_refl _) _).alloc (by simp) _).alloc (by simp; omega) _

set_option maxRecDepth 100000 in
set_option maxHeartbeats 8000000 in
theorem used_any (A : Option Addr) (n c : Nat) (v : OpV) (w : World) :
    Calls Tryz.prog 78 #[.agg (opCells A n c v).toArray] w (UsedPost A n c v w) := by
  have hsf : ∀ (W : World) (a : Addr) (b : Nat), (store a (.float .f64 b)).run Tryz.prog W = stored Tryz.prog W a (.float .f64 b) .plain := fun W a b => run_store _ W a _ _ rfl
  unfold opCells
  go_enter Tryz.func78, Tryz.ntmps78
  obtain ⟨kd, hkd⟩ : ∃ kd, v.kind = kd := ⟨_, rfl⟩
  have HKD := Lib.hid hkd
  rw [hkd]
  clear hkd
  by_cases h1 : kd = 1
  · subst h1
    go_wp2
    exact bodyPost_ret (v := .agg #[.int .u8 1, .int .i64 v.feature, .float .f64 v.thr, .slice none 0 0, .int .u8 (v.missing : Int), .int .i64 0, .int .i64 0, .int .i64 v.dest]) (results_cell_row (fn := Tryz.f78) (p := 2) (ty := 75) rfl _ _ (w.heap.size + 1) 75 #[.int .u8 1, .int .i64 v.feature, .float .f64 v.thr, .slice none 0 0, .int .u8 (v.missing : Int), .int .i64 0, .int .i64 0, .int .i64 v.dest] (0, 0) _ rfl (heap_mid w _ _ _ _) Tryz.underlying75 rfl (by kernel_rfl)) rfl ⟨below_three w _ _ _, .inr ⟨by rw [HKD.out]; decide, by unfold usedV opCells; rw [HKD.out]; rfl⟩⟩
  by_cases h2 : kd = 2
  · subst h2
    go_wp2
    exact bodyPost_ret (v := .agg #[.int .u8 2, .int .i64 v.feature, .float .f64 0, .slice A n c, .int .u8 (v.missing : Int), .int .i64 0, .int .i64 0, .int .i64 v.dest]) (results_cell_row (fn := Tryz.f78) (p := 2) (ty := 75) rfl _ _ (w.heap.size + 1) 75 #[.int .u8 2, .int .i64 v.feature, .float .f64 0, .slice A n c, .int .u8 (v.missing : Int), .int .i64 0, .int .i64 0, .int .i64 v.dest] (0, 0) _ rfl (heap_mid w _ _ _ _) Tryz.underlying75 rfl (by kernel_rfl)) rfl ⟨below_three w _ _ _, .inl ⟨HKD.out, by unfold usedV opCells; rw [HKD.out]; rfl⟩⟩
  by_cases h3 : kd = 3
  · subst h3
    go_wp2
    exact bodyPost_ret (v := .agg #[.int .u8 3, .int .i64 0, .float .f64 0, .slice none 0 0, .int .u8 0, .int .i64 v.output, .int .i64 v.value, .int .i64 0]) (results_cell_row (fn := Tryz.f78) (p := 2) (ty := 75) rfl _ _ (w.heap.size + 1) 75 #[.int .u8 3, .int .i64 0, .float .f64 0, .slice none 0 0, .int .u8 0, .int .i64 v.output, .int .i64 v.value, .int .i64 0] (0, 0) _ rfl (heap_mid w _ _ _ _) Tryz.underlying75 rfl (by kernel_rfl)) rfl ⟨below_three w _ _ _, .inr ⟨by rw [HKD.out]; decide, by unfold usedV opCells; rw [HKD.out]; rfl⟩⟩
  by_cases h4 : kd = 4
  · subst h4
    go_wp2
    exact bodyPost_ret (v := .agg #[.int .u8 4, .int .i64 0, .float .f64 0, .slice none 0 0, .int .u8 0, .int .i64 0, .int .i64 0, .int .i64 v.dest]) (results_cell_row (fn := Tryz.f78) (p := 2) (ty := 75) rfl _ _ (w.heap.size + 1) 75 #[.int .u8 4, .int .i64 0, .float .f64 0, .slice none 0 0, .int .u8 0, .int .i64 0, .int .i64 0, .int .i64 v.dest] (0, 0) _ rfl (heap_mid w _ _ _ _) Tryz.underlying75 rfl (by kernel_rfl)) rfl ⟨below_three w _ _ _, .inr ⟨by rw [HKD.out]; decide, by unfold usedV opCells; rw [HKD.out]; rfl⟩⟩
  have HUS : Hid (usedV v = ⟨kd, 0, 0, [], 0, 0, 0, 0⟩) := Lib.hid (by
    have hk := HKD.out
    unfold usedV
    split <;> simp_all)
  have HNE := Lib.hid (And.intro h1 (And.intro h2 (And.intro h3 h4)))
  have n1 : ((kd : Int) == 1) = false := by simp; omega
  have n2 : ((kd : Int) == 2) = false := by simp; omega
  have n3 : ((kd : Int) == 3) = false := by simp; omega
  have n4 : ((kd : Int) == 4) = false := by simp; omega
  have m1 : decide ((kd : Int) = 1) = false := by simp; omega
  have m2 : decide ((kd : Int) = 2) = false := by simp; omega
  have m3 : decide ((kd : Int) = 3) = false := by simp; omega
  have m4 : decide ((kd : Int) = 4) = false := by simp; omega
  go_wp2
  exact bodyPost_ret (v := .agg #[.int .u8 (kd : Int), .int .i64 0, .float .f64 0, .slice none 0 0, .int .u8 0, .int .i64 0, .int .i64 0, .int .i64 0]) (results_cell_row (fn := Tryz.f78) (p := 2) (ty := 75) rfl _ _ (w.heap.size + 1) 75 #[.int .u8 (kd : Int), .int .i64 0, .float .f64 0, .slice none 0 0, .int .u8 0, .int .i64 0, .int .i64 0, .int .i64 0] (0, 0) _ rfl (heap_mid w _ _ _ _) Tryz.underlying75 rfl (by kernel_rfl)) rfl ⟨below_three w _ _ _, .inr ⟨by rw [HKD.out]; exact HNE.out.2.1, by rw [HUS.out]; rfl⟩⟩

end Go.Proofs.YtekcpapkicmckaaGreatDoor

namespace Go.Proofs.YtekcpapkicmckaaGreatDoor
open Go.RowKit

set_option maxRecDepth 100000 in
set_option maxHeartbeats 1000000 in
theorem test_any (A : Option Addr) (n c : Nat) (v : OpV) (w : World) :
    Calls Tryz.prog 43 #[.agg (opCells A n c v).toArray] w fun e w' => e = .returned (.bool (decide (v.kind = 1 ∨ v.kind = 2))) ∧ Below w.heap.size w w' := by
  unfold opCells
  have B1 := (Below.refl w.heap.size w).alloc (Nat.le_refl _) (.cells #[.int .u8 (v.kind : Int), .int .i64 v.feature, .float .f64 v.thr, .slice A n c, .int .u8 (v.missing : Int), .int .i64 v.output, .int .i64 v.value, .int .i64 v.dest] 75)
  by_cases h1 : v.kind = 1
  · have HD : Hid (decide (v.kind = 1 ∨ v.kind = 2) = true) := Lib.hid (by simp [h1])
    rw [HD.out]
    have n1 : ((v.kind : Int) == 1) = true := by simp; omega
    have n2 : decide ((v.kind : Int) = 1) = true := by simp; omega
    clear h1 HD
    go_enter Tryz.func43, Tryz.ntmps43
    go_wp2
    go_ret
    exact ⟨rfl, B1⟩
  · have n1 : ((v.kind : Int) == 1) = false := by simp; omega
    have n2 : decide ((v.kind : Int) = 1) = false := by simp; omega
    by_cases h2 : v.kind = 2
    · have HD : Hid (decide (v.kind = 1 ∨ v.kind = 2) = true) := Lib.hid (by simp [h2])
      rw [HD.out]
      have n3 : ((v.kind : Int) == 2) = true := by simp; omega
      have n4 : decide ((v.kind : Int) = 2) = true := by simp; omega
      clear h2 HD
      go_enter Tryz.func43, Tryz.ntmps43
      go_wp2
      go_ret
      exact ⟨rfl, B1⟩
    · have HD : Hid (decide (v.kind = 1 ∨ v.kind = 2) = false) := Lib.hid (by simp [h1, h2])
      rw [HD.out]
      have n3 : ((v.kind : Int) == 2) = false := by simp; omega
      have n4 : decide ((v.kind : Int) = 2) = false := by simp; omega
      go_enter Tryz.func43, Tryz.ntmps43
      go_wp2
      go_ret
      exact ⟨rfl, B1⟩

/-- the block of right's operation and that of its program -/
structure RV (W : World) (P Q : Nat) (F O : Int) (b o n c : Nat) (B : Option Addr) (m d : Nat) (v : OpV) : Prop where
  p : W.heap[P]? = some (.cells #[.int .i64 F, .int .i64 O, .slice (some ⟨b, o, none⟩) n c] 30 (0, 0))
  q : W.heap[Q]? = some (.cells #[.int .u8 (v.kind : Int), .int .i64 v.feature, .float .f64 v.thr, .slice B m d, .int .u8 (v.missing : Int), .int .i64 v.output, .int .i64 v.value, .int .i64 v.dest] 75 (0, 0))
theorem RV.below {W W' : World} {P Q : Nat} {F O : Int} {b o n c : Nat} {B : Option Addr} {m d : Nat} {v : OpV} (h : RV W P Q F O b o n c B m d v) (hb : Below W.heap.size W W') : RV W' P Q F O b o n c B m d v :=
  ⟨(hb.block _ (lt_of_block h.p)).trans h.p, (hb.block _ (lt_of_block h.q)).trans h.q⟩

/-- an operation with fields that its kind does not use is not right -/
theorem not_alike {F O n i : Int} {v : OpV} (h : alikeV v (usedV v) = false) (h1 : 1 ≤ v.kind) (h2 : v.kind ≤ 5) : rightV F O n i v = false := by
  obtain ⟨kd, f, t, cs, ms, ou, va, de⟩ := v
  simp only at h1 h2
  have hk : kd = 1 ∨ kd = 2 ∨ kd = 3 ∨ kd = 4 ∨ kd = 5 := by omega
  rcases hk with rfl | rfl | rfl | rfl | rfl <;> simp [alikeV, usedV, rightV] at h ⊢ <;> simp_all

end Go.Proofs.YtekcpapkicmckaaGreatDoor

namespace Go.Proofs.YtekcpapkicmckaaGreatDoor
open Go.RowKit

theorem int_ne (k c : Nat) : ((k : Int) != (c : Int)) = decide (k ≠ c) := by
  by_cases h : k = c
  · simp [h]
  · have : (k : Int) ≠ (c : Int) := by omega
    simp [h, this]
theorem int_eq (k c : Nat) : ((k : Int) == (c : Int)) = decide (k = c) := by
  by_cases h : k = c
  · simp [h]
  · have : (k : Int) ≠ (c : Int) := by omega
    simp [h, this]

theorem bad6 {F O n i : Int} {v : OpV} (h : (v.kind = 1 ∨ v.kind = 2) ∧ (v.feature < 0 ∨ F ≤ v.feature ∨ (v.missing ≠ 1 ∧ v.missing ≠ 2))) : rightV F O n i v = false := by
  have h2 : v.kind ≤ 2 := by omega
  have h3 : decide (0 ≤ v.feature ∧ v.feature < F ∧ (v.missing = 1 ∨ v.missing = 2)) = false := by simp; omega
  unfold rightV
  rw [if_pos h2, h3]
  simp
theorem bad8 {F O n i : Int} {v : OpV} (h : (v.kind = 1 ∧ ¬ FloatKind.f64.format.order v.thr v.thr = some Ordering.eq) ∨ (v.kind = 2 ∧ rising v.cats = false)) : rightV F O n i v = false := by
  unfold rightV
  rcases h with ⟨h1, h2⟩ | ⟨h1, h2⟩ <;> simp [h1, h2]
theorem bad10 {F O n i : Int} {v : OpV} (h : v.kind = 3 ∧ (v.output < 0 ∨ O ≤ v.output)) : rightV F O n i v = false := by
  have h3 : decide (0 ≤ v.output ∧ v.output < O) = false := by simp; omega
  unfold rightV
  rw [if_pos h.1, h3]
  simp
theorem good12 {F O n i : Int} {v : OpV} (ha : alikeV v (usedV v) = true) (hk : 1 ≤ v.kind ∧ v.kind ≤ 5) (h4 : ¬ (i = n - 1 ∧ v.kind ≠ 5)) (h6 : ¬ ((v.kind = 1 ∨ v.kind = 2) ∧ (v.feature < 0 ∨ F ≤ v.feature ∨ (v.missing ≠ 1 ∧ v.missing ≠ 2))))
    (h8 : ¬ ((v.kind = 1 ∧ ¬ FloatKind.f64.format.order v.thr v.thr = some Ordering.eq) ∨ (v.kind = 2 ∧ rising v.cats = false))) (h10 : ¬ (v.kind = 3 ∧ (v.output < 0 ∨ O ≤ v.output))) :
    rightV F O n i v = decide (v.kind = 3 ∨ v.kind = 5 ∨ (i < v.dest ∧ v.dest < n)) := by
  obtain ⟨kd, f, t, cs, ms, ou, va, de⟩ := v
  simp only at hk h4 h6 h8 h10
  have hk : kd = 1 ∨ kd = 2 ∨ kd = 3 ∨ kd = 4 ∨ kd = 5 := by omega
  rcases hk with rfl | rfl | rfl | rfl | rfl <;> simp [alikeV, usedV, rightV] at ha h4 h6 h8 h10 ⊢ <;> simp_all <;> omega

set_option maxRecDepth 100000 in
set_option maxHeartbeats 8000000 in
theorem rright_good (F O : Int) (b o n c i : Nat) (v : OpV) (w : World) (hn : n ≤ 281474976710656) (hv : OpIn w b (o + i * 8) v) (hi : i < n) (hk1 : 1 ≤ v.kind) (hk5 : v.kind ≤ 5) :
    Calls Tryz.prog 48 #[.agg #[.int .i64 F, .int .i64 O, .slice (some ⟨b, o, none⟩) n c], .int .i64 (i : Int)] w fun e w' => e = .returned (.bool (rightV F O n i v)) ∧ Below w.heap.size w w' := by
  have HK1 := Lib.hid (And.intro hk1 hk5)
  clear hk1 hk5
  obtain ⟨B, m, d, hr, hcat, hrg⟩ := hv
  have B1 := (Below.refl w.heap.size w).alloc (Nat.le_refl _) (.cells #[.int .i64 F, .int .i64 O, .slice (some ⟨b, o, none⟩) n c] 30)
  have hr1 := rangeAt_below hr B1
  have r0 : _ = some _ := range_cell (o := o + i * 8) hr1 0 rfl
  rw [Nat.add_zero] at r0
  have r1 := range_cell hr1 1 rfl
  have r2 := range_cell hr1 2 rfl
  have r3 := range_cell hr1 3 rfl
  have r4 := range_cell hr1 4 rfl
  have r5 := range_cell hr1 5 rfl
  have r6 := range_cell hr1 6 rfl
  have r7 := range_cell hr1 7 rfl
  have hsf : ∀ (W : World) (a : Addr) (b : Nat), (store a (.float .f64 b)).run Tryz.prog W = stored Tryz.prog W a (.float .f64 b) .plain := fun W a b => run_store _ W a _ _ rfl
  have B2 := B1.alloc (by simp) (.cells (opCells B m d v).toArray 75)
  have hP : ((w.alloc (.cells #[.int .i64 F, .int .i64 O, .slice (some ⟨b, o, none⟩) n c] 30)).alloc (.cells (opCells B m d v).toArray 75)).heap[w.heap.size]? = some (.cells #[.int .i64 F, .int .i64 O, .slice (some ⟨b, o, none⟩) n c] 30 (0, 0)) := by
    show ((w.heap.push _).push _)[w.heap.size]? = _
    simp only [Array.getElem?_push, Array.size_push]
    rw [if_neg (by omega), if_pos trivial]
  have hQ : ((w.alloc (.cells #[.int .i64 F, .int .i64 O, .slice (some ⟨b, o, none⟩) n c] 30)).alloc (.cells (opCells B m d v).toArray 75)).heap[w.heap.size + 1]? = some (.cells (opCells B m d v).toArray 75 (0, 0)) := by
    show ((w.heap.push _).push _)[w.heap.size + 1]? = _
    simp only [Array.getElem?_push, Array.size_push]
    rw [if_pos trivial]
  have hcat2 := hcat.below B2
  go_enter Tryz.func48, Tryz.ntmps48
  go_upto_region 2 with (fail)
  unfold opCells at hP hQ B2 hcat2
  clear r0 r1 r2 r3 r4 r5 r6 r7 hr1 B1 hcat hr
  generalize (w.alloc (.cells #[.int .i64 F, .int .i64 O, .slice (some ⟨b, o, none⟩) n c] 30)).alloc (.cells #[.int .u8 (v.kind : Int), .int .i64 v.feature, .float .f64 v.thr, .slice B m d, .int .u8 (v.missing : Int), .int .i64 v.output, .int .i64 v.value, .int .i64 v.dest] 75) = W at hP hQ B2 hcat2 ⊢
  have hRV : RV W w.heap.size (w.heap.size + 1) F O b o n c B m d v := ⟨hP, hQ⟩
  have hlt : w.heap.size + 1 < W.heap.size := lt_of_block hQ
  have q0 : W.cell? ⟨w.heap.size + 1, 0, none⟩ = some (.int .u8 (v.kind : Int)) := cell_of_block hQ rfl
  have q1 : W.cell? ⟨w.heap.size + 1, 1, none⟩ = some (.int .i64 v.feature) := cell_of_block hQ rfl
  have q2 : W.cell? ⟨w.heap.size + 1, 2, none⟩ = some (.float .f64 v.thr) := cell_of_block hQ rfl
  have q3 : W.cell? ⟨w.heap.size + 1, 3, none⟩ = some (.slice B m d) := cell_of_block hQ rfl
  have q4 : W.cell? ⟨w.heap.size + 1, 4, none⟩ = some (.int .u8 (v.missing : Int)) := cell_of_block hQ rfl
  have q5 : W.cell? ⟨w.heap.size + 1, 5, none⟩ = some (.int .i64 v.output) := cell_of_block hQ rfl
  have q6 : W.cell? ⟨w.heap.size + 1, 6, none⟩ = some (.int .i64 v.value) := cell_of_block hQ rfl
  have q7 : W.cell? ⟨w.heap.size + 1, 7, none⟩ = some (.int .i64 v.dest) := cell_of_block hQ rfl
  have HCL : Hid (v.cats = [] ↔ m = 0) := Lib.hid (by rw [← hcat2.len]; exact List.length_eq_zero_iff.symm)
  obtain ⟨UA, un, uc, HU0, HA0⟩ : ∃ UA un uc, (∀ W1, Calls Tryz.prog 78 #[.agg (opCells B m d v).toArray] W1 fun e w' => e = .returned (.agg (opCells UA un uc (usedV v)).toArray) ∧ Below W1.heap.size W1 w') ∧
      (∀ W1, Below W.heap.size W W1 → Calls Tryz.prog 40 #[opAgg B m d v, opAgg UA un uc (usedV v)] W1 fun e w' => e = .returned (.bool (alikeV v (usedV v))) ∧ Below W1.heap.size W1 w') := by
    by_cases hk2 : v.kind = 2
    · refine ⟨B, m, d, fun W1 => (used_any B m d v W1).mono (fun e w' h => ?_), fun W1 hb => alike_any B B m d m d v (usedV v) W1 (hcat2.below hb) ?_⟩
      · rcases h with ⟨hb, ⟨_, he⟩ | ⟨hk, _⟩⟩
        · exact ⟨he, hb⟩
        · exact absurd hk2 hk
      · rw [show (usedV v).cats = v.cats by unfold usedV; rw [hk2]; rfl]; exact hcat2.below hb
    · have hz : (usedV v).cats = [] := by unfold usedV; split <;> simp_all
      refine ⟨none, 0, 0, fun W1 => (used_any B m d v W1).mono (fun e w' h => ?_), fun W1 hb => alike_any B none m d 0 0 v (usedV v) W1 (hcat2.below hb) ⟨by rw [hz]; exact Sl.nil _ _, by rw [hz]; intro z hz; simp at hz⟩⟩
      rcases h with ⟨hb, ⟨hk, _⟩ | ⟨_, he⟩⟩
      · exact absurd hk hk2
      · exact ⟨he, hb⟩
  obtain ⟨al, hal⟩ : ∃ al, alikeV v (usedV v) = al := ⟨_, rfl⟩
  simp only [hal] at HA0
  obtain ⟨u, hu⟩ : ∃ u, usedV v = u := ⟨_, rfl⟩
  rw [hu] at HU0 HA0 hal
  have HUU := Lib.hid hu
  clear hu
  have HAL := Lib.hid hal
  unfold opAgg at HA0
  unfold opCells at HU0 HA0
  have HDR : Below W.heap.size W W.drew := ⟨rfl, rfl, rfl, Nat.le_refl _, fun _ _ => rfl⟩
  have HU := Lib.hid HU0
  have HA := Lib.hid HA0
  clear HU0 HA0 hal hP hQ
  have k1 : ¬ (v.kind : Int) < 1 := by have := HK1.out; omega
  have k2 : ¬ (5 : Int) < (v.kind : Int) := by have := HK1.out; omega
  go_cut [25] from 11 to 25 (fun tv wx => tv = .bool (!al) ∧ Below W.heap.size W wx)
  case first =>
    go_region_with (first
      | (go_at_call 78; refine (HU.out _).mono ?_; rintro ex w1 ⟨rfl, hb1⟩; have f0 := (hb1.cell (p := ⟨w.heap.size + 1, 0, none⟩) hlt).trans q0; have f1 := (hb1.cell (p := ⟨w.heap.size + 1, 1, none⟩) hlt).trans q1; have f2 := (hb1.cell (p := ⟨w.heap.size + 1, 2, none⟩) hlt).trans q2; have f3 := (hb1.cell (p := ⟨w.heap.size + 1, 3, none⟩) hlt).trans q3; have f4 := (hb1.cell (p := ⟨w.heap.size + 1, 4, none⟩) hlt).trans q4; have f5 := (hb1.cell (p := ⟨w.heap.size + 1, 5, none⟩) hlt).trans q5; have f6 := (hb1.cell (p := ⟨w.heap.size + 1, 6, none⟩) hlt).trans q6; have f7 := (hb1.cell (p := ⟨w.heap.size + 1, 7, none⟩) hlt).trans q7)
      | (go_at_call 40; refine (HA.out _ (HDR.trans hb1)).mono ?_; rintro ex w2 ⟨rfl, hb2⟩))
    all_goals
      go_wp2_with fail
      go_meet
      exact ⟨rfl, below_then (HDR.trans hb1) (HDR.trans hb1).size hb2⟩
  case rest =>
    obtain ⟨rfl, hbc⟩ := hcut
    have B3 := below_then B2 (by omega) hbc
    have hRV2 := hRV.below hbc
    have hcat3 := hcat2.below hbc
    clear q0 q1 q2 q3 q4 q5 q6 q7 hRV HU HA HDR B2 hcat2 k1 k2 hbc hlt
    cases al
    · have hb := not_alike (F := F) (O := O) (n := n) (i := i) (v := v) (by rw [HUU.out]; exact HAL.out) HK1.out.1 HK1.out.2
      have HBB := Lib.hid hb
      clear hb
      go_wp2
      go_ret
      exact ⟨congrArg (fun x => Ending.returned (Value.bool x)) HBB.out.symm, B3⟩
    · have HT := Lib.hid (fun W1 => test_any B m d v W1)
      obtain ⟨b4, hb4⟩ : ∃ b4, decide ((i : Int) = (n : Int) - 1 ∧ v.kind ≠ 5) = b4 := ⟨_, rfl⟩
      have HB4 := Lib.hid hb4
      clear hb4
      have ap0 : wc.cell? ⟨w.heap.size, 0, none⟩ = some (.int .i64 F) := cell_of_block hRV2.p rfl
      have ap1 : wc.cell? ⟨w.heap.size, 1, none⟩ = some (.int .i64 O) := cell_of_block hRV2.p rfl
      have ap2 : wc.cell? ⟨w.heap.size, 2, none⟩ = some (.slice (some ⟨b, o, none⟩) n c) := cell_of_block hRV2.p rfl
      have aq0 : wc.cell? ⟨w.heap.size + 1, 0, none⟩ = some (.int .u8 (v.kind : Int)) := cell_of_block hRV2.q rfl
      have aq1 : wc.cell? ⟨w.heap.size + 1, 1, none⟩ = some (.int .i64 v.feature) := cell_of_block hRV2.q rfl
      have aq2 : wc.cell? ⟨w.heap.size + 1, 2, none⟩ = some (.float .f64 v.thr) := cell_of_block hRV2.q rfl
      have aq3 : wc.cell? ⟨w.heap.size + 1, 3, none⟩ = some (.slice B m d) := cell_of_block hRV2.q rfl
      have aq4 : wc.cell? ⟨w.heap.size + 1, 4, none⟩ = some (.int .u8 (v.missing : Int)) := cell_of_block hRV2.q rfl
      have aq5 : wc.cell? ⟨w.heap.size + 1, 5, none⟩ = some (.int .i64 v.output) := cell_of_block hRV2.q rfl
      have aq6 : wc.cell? ⟨w.heap.size + 1, 6, none⟩ = some (.int .i64 v.value) := cell_of_block hRV2.q rfl
      have aq7 : wc.cell? ⟨w.heap.size + 1, 7, none⟩ = some (.int .i64 v.dest) := cell_of_block hRV2.q rfl
      go_upto_region 4 with (fail)
      go_cut [36] from 26 to 36 (fun tv wx => tv = .bool b4 ∧ wx = wc)
      case first =>
        by_cases hlast : (i : Int) = (n : Int) - 1
        · have e2 : ((i : Int) == (n : Int) - 1) = true := by simpa using hlast
          have HLA := Lib.hid hlast
          clear hlast
          go_wp2_with fail
          all_goals
            go_meet
            refine ⟨congrArg Value.bool ?_, rfl⟩
            have hh := HLA.out
            rw [← HB4.out]
            clear HB4 hRV2 hcat3 HT e2
            clear ap0 ap1 ap2 aq0 aq1 aq2 aq3 aq4 aq5 aq6 aq7
            go_light
            have h5 : ((v.kind : Int) != 5) = decide (v.kind ≠ 5) := int_ne v.kind 5
            first | (simp [*]; done) | (simp_all; done) | (simp_all; omega)
        · have e2 : ((i : Int) == (n : Int) - 1) = false := by simpa using hlast
          have HLA := Lib.hid hlast
          clear hlast
          go_wp2_with fail
          all_goals
            go_meet
            refine ⟨congrArg Value.bool ?_, rfl⟩
            have hh := HLA.out
            rw [← HB4.out]
            clear HB4 hRV2 hcat3 HT e2
            clear ap0 ap1 ap2 aq0 aq1 aq2 aq3 aq4 aq5 aq6 aq7
            go_light
            first | (simp [*]; done) | (simp_all; done) | (simp_all; omega)
      case rest =>
        obtain ⟨rfl, rfl⟩ := hcut
        cases b4
        rotate_left
        · have hb : rightV F O n i v = false := by
            have h4 : (i : Int) = (n : Int) - 1 ∧ v.kind ≠ 5 := by simpa using HB4.out
            exact rightV_last F O n i v h4.2 h4.1
          have HBB := Lib.hid hb
          clear hb
          go_wp2
          go_ret
          exact ⟨congrArg (fun x => Ending.returned (Value.bool x)) HBB.out.symm, B3⟩
        · obtain ⟨ts, hts⟩ : ∃ ts, decide (v.kind = 1 ∨ v.kind = 2) = ts := ⟨_, rfl⟩
          have hT1 := fun W1 => test_any B m d v W1
          simp only [hts] at hT1
          unfold opCells at hT1
          have HT1 := Lib.hid hT1
          have HTS := Lib.hid hts
          clear hT1 hts HT
          obtain ⟨b6, hb6⟩ : ∃ b6, decide ((v.kind = 1 ∨ v.kind = 2) ∧ (v.feature < 0 ∨ F ≤ v.feature ∨ (v.missing ≠ 1 ∧ v.missing ≠ 2))) = b6 := ⟨_, rfl⟩
          have HB6 := Lib.hid hb6
          clear hb6
          have hltQ : w.heap.size + 1 < wc.heap.size := lt_of_block hRV2.q
          have hltP : w.heap.size < wc.heap.size := lt_of_block hRV2.p
          go_upto_region 6 with (fail)
          go_cut [60] from 37 to 60 (fun tv wx => tv = .bool b6 ∧ Below wc.heap.size wc wx)
          case first =>
            obtain ⟨y1, hy1⟩ : ∃ y, ((v.missing : Int) != 1) = y := ⟨_, rfl⟩
            obtain ⟨y2, hy2⟩ : ∃ y, ((v.missing : Int) != 2) = y := ⟨_, rfl⟩
            cases ts
            all_goals cases y1
            all_goals cases y2
            all_goals go_wp2_with (go_at_call 43; refine (HT1.out _).mono ?_; rintro e w3 ⟨rfl, b3⟩; have e1 := (b3.cell (p := ⟨w.heap.size + 1, 1, none⟩) hltQ).trans aq1; have e4 := (b3.cell (p := ⟨w.heap.size + 1, 4, none⟩) hltQ).trans aq4; have e0 := (b3.cell (p := ⟨w.heap.size, 0, none⟩) hltP).trans ap0)
            all_goals
              go_meet
              refine ⟨congrArg Value.bool ?_, b3⟩
              have hh := HTS.out
              rw [← HB6.out]
              clear HB4 HB6 hRV2 hcat3 HT1 e0 e1 e4 b3
              clear ap0 ap1 ap2 aq0 aq1 aq2 aq3 aq4 aq5 aq6 aq7
              go_light
              have h1 : ((v.missing : Int) != 1) = decide (v.missing ≠ 1) := int_ne v.missing 1
              have h2 : ((v.missing : Int) != 2) = decide (v.missing ≠ 2) := int_ne v.missing 2
              rw [h1] at hy1
              rw [h2] at hy2
              first | (simp [*]; done) | (simp_all; done) | (simp_all; omega)
          case rest =>
            obtain ⟨rfl, hbc6⟩ := hcut
            have B4 := below_then B3 B3.size hbc6
            have hRV3 := hRV2.below hbc6
            have hcat4 := hcat3.below hbc6
            clear ap0 ap1 ap2 aq0 aq1 aq2 aq3 aq4 aq5 aq6 aq7 hRV2 hcat3 B3 hbc6 hltQ hltP
            cases b6
            rotate_left
            · have HBB := Lib.hid (bad6 (F := F) (O := O) (n := n) (i := i) (v := v) (of_decide_eq_true HB6.out))
              go_wp2
              go_ret
              exact ⟨congrArg (fun x => Ending.returned (Value.bool x)) HBB.out.symm, B4⟩
            · obtain ⟨b8, hb8⟩ : ∃ b8, decide ((v.kind = 1 ∧ ¬ FloatKind.f64.format.order v.thr v.thr = some Ordering.eq) ∨ (v.kind = 2 ∧ rising v.cats = false)) = b8 := ⟨_, rfl⟩
              have HB8 := Lib.hid hb8
              clear hb8
              have HCA0 := cats_any B m d v.cats wc hcat4
              obtain ⟨ri, hri⟩ : ∃ ri, rising v.cats = ri := ⟨_, rfl⟩
              rw [hri] at HCA0
              have HRI := Lib.hid hri
              have HCA := Lib.hid HCA0
              clear HCA0 hri
              have cp0 : wc.cell? ⟨w.heap.size, 0, none⟩ = some (.int .i64 F) := cell_of_block hRV3.p rfl
              have cp1 : wc.cell? ⟨w.heap.size, 1, none⟩ = some (.int .i64 O) := cell_of_block hRV3.p rfl
              have cp2 : wc.cell? ⟨w.heap.size, 2, none⟩ = some (.slice (some ⟨b, o, none⟩) n c) := cell_of_block hRV3.p rfl
              have cq0 : wc.cell? ⟨w.heap.size + 1, 0, none⟩ = some (.int .u8 (v.kind : Int)) := cell_of_block hRV3.q rfl
              have cq1 : wc.cell? ⟨w.heap.size + 1, 1, none⟩ = some (.int .i64 v.feature) := cell_of_block hRV3.q rfl
              have cq2 : wc.cell? ⟨w.heap.size + 1, 2, none⟩ = some (.float .f64 v.thr) := cell_of_block hRV3.q rfl
              have cq3 : wc.cell? ⟨w.heap.size + 1, 3, none⟩ = some (.slice B m d) := cell_of_block hRV3.q rfl
              have cq4 : wc.cell? ⟨w.heap.size + 1, 4, none⟩ = some (.int .u8 (v.missing : Int)) := cell_of_block hRV3.q rfl
              have cq5 : wc.cell? ⟨w.heap.size + 1, 5, none⟩ = some (.int .i64 v.output) := cell_of_block hRV3.q rfl
              have cq6 : wc.cell? ⟨w.heap.size + 1, 6, none⟩ = some (.int .i64 v.value) := cell_of_block hRV3.q rfl
              have cq7 : wc.cell? ⟨w.heap.size + 1, 7, none⟩ = some (.int .i64 v.dest) := cell_of_block hRV3.q rfl
              have hltQ : w.heap.size + 1 < wc.heap.size := lt_of_block hRV3.q
              have hltP : w.heap.size < wc.heap.size := lt_of_block hRV3.p
              go_upto_region 8 with (fail)
              go_cut [81] from 61 to 81 (fun tv wx => tv = .bool b8 ∧ Below wc.heap.size wc wx)
              case first =>
                obtain ⟨y1, hy1⟩ : ∃ y, ((v.kind : Int) == 1) = y := ⟨_, rfl⟩
                obtain ⟨y2, hy2⟩ : ∃ y, ((v.kind : Int) == 2) = y := ⟨_, rfl⟩
                cases y1
                all_goals cases y2
                all_goals cases ri
                all_goals go_wp2_with (go_at_call 79; with_reducible refine HCA.out.mono ?_; rintro e W3 ⟨rfl, qq, rfl⟩)
                all_goals
                  go_meet
                  refine ⟨congrArg Value.bool ?_, by first | exact Below.refl _ _ | exact ⟨rfl, rfl, rfl, Nat.le_refl _, fun _ _ => rfl⟩⟩
                  have hh := HRI.out
                  rw [← HB8.out]
                  clear HB4 HB6 HB8 hRV3 hcat4 HT1 HCA HRI B4
                  clear cp0 cp1 cp2 cq0 cq1 cq2 cq3 cq4 cq5 cq6 cq7
                  go_light
                  have h1 : ((v.kind : Int) == 1) = decide (v.kind = 1) := int_eq v.kind 1
                  have h2 : ((v.kind : Int) == 2) = decide (v.kind = 2) := int_eq v.kind 2
                  rw [h1] at hy1
                  rw [h2] at hy2
                  first | (simp [*]; done) | (simp_all; done) | (simp_all; omega)
              case rest =>
                obtain ⟨rfl, hbc8⟩ := hcut
                have B5 := below_then B4 B4.size hbc8
                have hRV4 := hRV3.below hbc8
                clear cp0 cp1 cp2 cq0 cq1 cq2 cq3 cq4 cq5 cq6 cq7 hRV3 hcat4 B4 hbc8 hltQ hltP HCA
                cases b8
                rotate_left
                · have HBB := Lib.hid (bad8 (F := F) (O := O) (n := n) (i := i) (v := v) (of_decide_eq_true HB8.out))
                  go_wp2
                  go_ret
                  exact ⟨congrArg (fun x => Ending.returned (Value.bool x)) HBB.out.symm, B5⟩
                · obtain ⟨b10, hb10⟩ : ∃ b10, decide (v.kind = 3 ∧ (v.output < 0 ∨ O ≤ v.output)) = b10 := ⟨_, rfl⟩
                  have HB10 := Lib.hid hb10
                  clear hb10
                  have dp0 : wc.cell? ⟨w.heap.size, 0, none⟩ = some (.int .i64 F) := cell_of_block hRV4.p rfl
                  have dp1 : wc.cell? ⟨w.heap.size, 1, none⟩ = some (.int .i64 O) := cell_of_block hRV4.p rfl
                  have dp2 : wc.cell? ⟨w.heap.size, 2, none⟩ = some (.slice (some ⟨b, o, none⟩) n c) := cell_of_block hRV4.p rfl
                  have dq0 : wc.cell? ⟨w.heap.size + 1, 0, none⟩ = some (.int .u8 (v.kind : Int)) := cell_of_block hRV4.q rfl
                  have dq1 : wc.cell? ⟨w.heap.size + 1, 1, none⟩ = some (.int .i64 v.feature) := cell_of_block hRV4.q rfl
                  have dq2 : wc.cell? ⟨w.heap.size + 1, 2, none⟩ = some (.float .f64 v.thr) := cell_of_block hRV4.q rfl
                  have dq3 : wc.cell? ⟨w.heap.size + 1, 3, none⟩ = some (.slice B m d) := cell_of_block hRV4.q rfl
                  have dq4 : wc.cell? ⟨w.heap.size + 1, 4, none⟩ = some (.int .u8 (v.missing : Int)) := cell_of_block hRV4.q rfl
                  have dq5 : wc.cell? ⟨w.heap.size + 1, 5, none⟩ = some (.int .i64 v.output) := cell_of_block hRV4.q rfl
                  have dq6 : wc.cell? ⟨w.heap.size + 1, 6, none⟩ = some (.int .i64 v.value) := cell_of_block hRV4.q rfl
                  have dq7 : wc.cell? ⟨w.heap.size + 1, 7, none⟩ = some (.int .i64 v.dest) := cell_of_block hRV4.q rfl
                  have hltQ : w.heap.size + 1 < wc.heap.size := lt_of_block hRV4.q
                  have hltP : w.heap.size < wc.heap.size := lt_of_block hRV4.p
                  go_upto_region 10 with (fail)
                  go_cut [96] from 82 to 96 (fun tv wx => tv = .bool b10 ∧ wx = wc)
                  case first =>
                    obtain ⟨y1, hy1⟩ : ∃ y, ((v.kind : Int) == 3) = y := ⟨_, rfl⟩
                    cases y1
                    all_goals go_wp2_with fail
                    all_goals
                      go_meet
                      refine ⟨congrArg Value.bool ?_, rfl⟩
                      rw [← HB10.out]
                      clear HB4 HB6 HB8 HB10 hRV4 HT1 B5
                      clear dp0 dp1 dp2 dq0 dq1 dq2 dq3 dq4 dq5 dq6 dq7
                      go_light
                      have h1 : ((v.kind : Int) == 3) = decide (v.kind = 3) := int_eq v.kind 3
                      rw [h1] at hy1
                      first | (simp [*]; done) | (simp_all; done) | (simp_all; omega)
                  case rest =>
                    obtain ⟨rfl, rfl⟩ := hcut
                    cases b10
                    rotate_left
                    · have HBB := Lib.hid (bad10 (F := F) (O := O) (n := n) (i := i) (v := v) (of_decide_eq_true HB10.out))
                      go_wp2
                      go_ret
                      exact ⟨congrArg (fun x => Ending.returned (Value.bool x)) HBB.out.symm, B5⟩
                    · have hgood := good12 (F := F) (O := O) (n := n) (i := i) (v := v) (by rw [HUU.out]; exact HAL.out) HK1.out (of_decide_eq_false HB4.out) (of_decide_eq_false HB6.out) (of_decide_eq_false HB8.out) (of_decide_eq_false HB10.out)
                      have HG := Lib.hid hgood
                      clear hgood
                      obtain ⟨y1, hy1⟩ : ∃ y, ((v.kind : Int) != 4) = y := ⟨_, rfl⟩
                      cases ts
                      all_goals cases y1
                      all_goals go_wp2_with (go_at_call 43; refine (HT1.out _).mono ?_; rintro e w3 ⟨rfl, b3⟩; have e0 := (b3.cell (p := ⟨w.heap.size + 1, 0, none⟩) hltQ).trans dq0; have e7 := (b3.cell (p := ⟨w.heap.size + 1, 7, none⟩) hltQ).trans dq7; have e2 := (b3.cell (p := ⟨w.heap.size, 2, none⟩) hltP).trans dp2)
                      all_goals
                        go_ret
                        refine ⟨congrArg (fun x => Ending.returned (Value.bool x)) ?_, below_then B5 B5.size b3⟩
                        rw [HG.out]
                        have hh := HTS.out
                        have hk := HK1.out
                        clear HB4 HB6 HB8 HB10 hRV4 HT1 B5 HG e0 e7 e2 b3
                        clear dp0 dp1 dp2 dq0 dq1 dq2 dq3 dq4 dq5 dq6 dq7
                        go_light
                        have h1 : ((v.kind : Int) != 4) = decide (v.kind ≠ 4) := int_ne v.kind 4
                        rw [h1] at hy1
                        first | (simp [*]; done) | (simp_all; done) | (rcases of_decide_eq_true hh with h9 | h9 <;> simp_all; done) | (simp_all; omega)

set_option maxRecDepth 100000 in
set_option maxHeartbeats 8000000 in
theorem rright_bad (F O : Int) (b o n c i : Nat) (v : OpV) (w : World) (_hn : n ≤ 281474976710656) (hv : OpIn w b (o + i * 8) v) (hi : i < n) (hbad : v.kind = 0 ∨ 6 ≤ v.kind) :
    Calls Tryz.prog 48 #[.agg #[.int .i64 F, .int .i64 O, .slice (some ⟨b, o, none⟩) n c], .int .i64 (i : Int)] w fun e w' => e = .returned (.bool (rightV F O n i v)) ∧ Below w.heap.size w w' := by
  have HKD := Lib.hid hbad
  clear hbad
  obtain ⟨B, m, d, hr, hcat, hrg⟩ := hv
  have B1 := (Below.refl w.heap.size w).alloc (Nat.le_refl _) (.cells #[.int .i64 F, .int .i64 O, .slice (some ⟨b, o, none⟩) n c] 30)
  have hr1 := rangeAt_below hr B1
  have r0 : _ = some _ := range_cell (o := o + i * 8) hr1 0 rfl
  rw [Nat.add_zero] at r0
  have r1 := range_cell hr1 1 rfl
  have r2 := range_cell hr1 2 rfl
  have r3 := range_cell hr1 3 rfl
  have r4 := range_cell hr1 4 rfl
  have r5 := range_cell hr1 5 rfl
  have r6 := range_cell hr1 6 rfl
  have r7 := range_cell hr1 7 rfl
  have hsf : ∀ (W : World) (a : Addr) (b : Nat), (store a (.float .f64 b)).run Tryz.prog W = stored Tryz.prog W a (.float .f64 b) .plain := fun W a b => run_store _ W a _ _ rfl
  have B2 := B1.alloc (by simp) (.cells (opCells B m d v).toArray 75)
  have hP : ((w.alloc (.cells #[.int .i64 F, .int .i64 O, .slice (some ⟨b, o, none⟩) n c] 30)).alloc (.cells (opCells B m d v).toArray 75)).heap[w.heap.size]? = some (.cells #[.int .i64 F, .int .i64 O, .slice (some ⟨b, o, none⟩) n c] 30 (0, 0)) := by
    show ((w.heap.push _).push _)[w.heap.size]? = _
    simp only [Array.getElem?_push, Array.size_push]
    rw [if_neg (by omega), if_pos trivial]
  have hQ : ((w.alloc (.cells #[.int .i64 F, .int .i64 O, .slice (some ⟨b, o, none⟩) n c] 30)).alloc (.cells (opCells B m d v).toArray 75)).heap[w.heap.size + 1]? = some (.cells (opCells B m d v).toArray 75 (0, 0)) := by
    show ((w.heap.push _).push _)[w.heap.size + 1]? = _
    simp only [Array.getElem?_push, Array.size_push]
    rw [if_pos trivial]
  have hcat2 := hcat.below B2
  go_enter Tryz.func48, Tryz.ntmps48
  go_upto_region 2 with (fail)
  unfold opCells at hP hQ B2 hcat2
  clear r0 r1 r2 r3 r4 r5 r6 r7 hr1 B1 hcat hr
  generalize (w.alloc (.cells #[.int .i64 F, .int .i64 O, .slice (some ⟨b, o, none⟩) n c] 30)).alloc (.cells #[.int .u8 (v.kind : Int), .int .i64 v.feature, .float .f64 v.thr, .slice B m d, .int .u8 (v.missing : Int), .int .i64 v.output, .int .i64 v.value, .int .i64 v.dest] 75) = W at hP hQ B2 hcat2 ⊢
  have hRV : RV W w.heap.size (w.heap.size + 1) F O b o n c B m d v := ⟨hP, hQ⟩
  have hlt : w.heap.size + 1 < W.heap.size := lt_of_block hQ
  have q0 : W.cell? ⟨w.heap.size + 1, 0, none⟩ = some (.int .u8 (v.kind : Int)) := cell_of_block hQ rfl
  have q1 : W.cell? ⟨w.heap.size + 1, 1, none⟩ = some (.int .i64 v.feature) := cell_of_block hQ rfl
  have q2 : W.cell? ⟨w.heap.size + 1, 2, none⟩ = some (.float .f64 v.thr) := cell_of_block hQ rfl
  have q3 : W.cell? ⟨w.heap.size + 1, 3, none⟩ = some (.slice B m d) := cell_of_block hQ rfl
  have q4 : W.cell? ⟨w.heap.size + 1, 4, none⟩ = some (.int .u8 (v.missing : Int)) := cell_of_block hQ rfl
  have q5 : W.cell? ⟨w.heap.size + 1, 5, none⟩ = some (.int .i64 v.output) := cell_of_block hQ rfl
  have q6 : W.cell? ⟨w.heap.size + 1, 6, none⟩ = some (.int .i64 v.value) := cell_of_block hQ rfl
  have q7 : W.cell? ⟨w.heap.size + 1, 7, none⟩ = some (.int .i64 v.dest) := cell_of_block hQ rfl
  have hb : rightV F O n i v = false := by
    unfold rightV
    have : decide (1 ≤ v.kind ∧ v.kind ≤ 5) = false := by have := HKD.out; simp; omega
    simp [this]
  have HBB := Lib.hid hb
  clear hb
  have hz : (v.kind : Int) < 1 ∨ (5 : Int) < (v.kind : Int) := by have := HKD.out; omega
  by_cases h1 : (v.kind : Int) < 1
  · go_quiet (fail)
    go_wp2
    go_ret
    exact ⟨congrArg (fun x => Ending.returned (Value.bool x)) HBB.out.symm, B2.trans ⟨rfl, rfl, rfl, Nat.le_refl _, fun _ _ => rfl⟩⟩
  · have h2 : (5 : Int) < (v.kind : Int) := by omega
    clear hz
    go_quiet (fail)
    go_wp2
    go_ret
    exact ⟨congrArg (fun x => Ending.returned (Value.bool x)) HBB.out.symm, B2.trans ⟨rfl, rfl, rfl, Nat.le_refl _, fun _ _ => rfl⟩⟩

theorem rright_any (F O : Int) (b o n c i : Nat) (v : OpV) (w : World) (hn : n ≤ 281474976710656) (hv : OpIn w b (o + i * 8) v) (hi : i < n) :
    Calls Tryz.prog 48 #[.agg #[.int .i64 F, .int .i64 O, .slice (some ⟨b, o, none⟩) n c], .int .i64 (i : Int)] w fun e w' => e = .returned (.bool (rightV F O n i v)) ∧ Below w.heap.size w w' := by
  by_cases h : v.kind = 0 ∨ 6 ≤ v.kind
  · exact rright_bad F O b o n c i v w hn hv hi h
  · exact rright_good F O b o n c i v w hn hv hi (by omega) (by omega)

end Go.Proofs.YtekcpapkicmckaaGreatDoor

namespace Go.Proofs.YtekcpapkicmckaaGreatDoor
open Go.RowKit

set_option maxRecDepth 100000 in
set_option maxHeartbeats 2000000 in
theorem rCheck_any (F O : Int) (A : Option Addr) (n c : Nat) (ops : List OpV) (w : World) (hx : OpsAt w A n c ops) :
    Calls Tryz.prog 28 #[.agg #[.int .i64 F, .int .i64 O, .slice A n c]] w fun e w' => e = chkOf (checkV F O ops) ∧ Below w.heap.size w w' := by
  have B1 := (Below.refl w.heap.size w).alloc (Nat.le_refl _) (.cells #[.int .i64 F, .int .i64 O, .slice A n c] 30)
  have hP := heap_alloc_new w (.cells #[.int .i64 F, .int .i64 O, .slice A n c] 30)
  have hx1 := hx.below ((Below.refl w.heap.size w).alloc (Nat.le_refl _) (.cells #[.int .i64 F, .int .i64 O, .slice A n c] 30))
  have hlen := hx.len
  have hnb := hx.big
  clear hx
  obtain ⟨R, hR⟩ : ∃ R, checkV F O ops = R := ⟨_, rfl⟩
  have HR := Lib.hid hR
  rw [hR]
  clear hR
  go_enter Tryz.func28, Tryz.ntmps28
  go_upto_region 1 with (fail)
  generalize w.alloc (.cells #[.int .i64 F, .int .i64 O, .slice A n c] 30) = W at B1 hP hx1 ⊢
  have p0 : W.cell? ⟨w.heap.size, 0, none⟩ = some (.int .i64 F) := cell_of_block hP rfl
  have p1 : W.cell? ⟨w.heap.size, 1, none⟩ = some (.int .i64 O) := cell_of_block hP rfl
  have p2 : W.cell? ⟨w.heap.size, 2, none⟩ = some (.slice A n c) := cell_of_block hP rfl
  by_cases hbad : F < 0 ∨ 65536 < F ∨ O < 1 ∨ 64 < O
  · have hRR : R = (6, 0) := by rw [← HR.out]; unfold checkV; rw [if_pos hbad]
    subst hRR
    have HBD := Lib.hid hbad
    go_wp2_with fail
    all_goals first
    | (go_ret2; exact ⟨rfl, B1⟩)
    | (exfalso; have := HBD.out; omega)
  · have f1 : ¬ F < 0 := by omega
    have f2 : ¬ 65536 < F := by omega
    have f3 : ¬ O < 1 := by omega
    have f4 : ¬ 64 < O := by omega
    have hRR : R = chkEnd n (faultF F O n 0 ops) := by rw [← HR.out]; unfold checkV; rw [if_neg hbad, hlen]
    have HRR := Lib.hid hRR
    clear hbad hRR HR
    have HRI := Lib.hid rright_any
    by_cases hn0 : n = 0
    · have hRf : R = (190, 0) := by
        have h0 : ops = [] := List.length_eq_zero_iff.1 (by omega)
        rw [HRR.out, h0, hn0]; rfl
      have HRf := Lib.hid hRf
      subst hn0
      clear hRf
      go_wp2
      go_ret2
      exact ⟨by rw [HRf.out]; rfl, B1⟩
    have n1 : ((n : Int) == 0) = false := by simp; omega
    have n2 : decide ((n : Int) = 0) = false := by simp; omega
    have hP1 := hP
    have hx2 := hx1
    have B2 := B1
    clear hP hx1 B1
    go_wp2_with fail
    go_loopw [4, 30] (fun _ ix wr => ∃ (i : Nat), ix = .int .i64 (i : Int) ∧ i ≤ n ∧ Hid (faultF F O n 0 ops = faultF F O n i (ops.drop i)) ∧ Below W.heap.size W wr) (fun _ ix _ => n - (intOf ix).toNat)
    case atStart => exact ⟨0, rfl, Nat.zero_le _, Lib.hid rfl, Below.refl _ _⟩
    case round =>
      obtain ⟨i, rfl, hi, HF, hbr⟩ := hrel
      have hPr := (hbr.block w.heap.size (lt_of_block hP1)).trans hP1
      have hxr := hx2.below hbr
      have B3 := below_then B2 B2.size hbr
      have p0 : wr.cell? ⟨w.heap.size, 0, none⟩ = some (.int .i64 F) := cell_of_block hPr rfl
      have p1 : wr.cell? ⟨w.heap.size, 1, none⟩ = some (.int .i64 O) := cell_of_block hPr rfl
      have p2 : wr.cell? ⟨w.heap.size, 2, none⟩ = some (.slice A n c) := cell_of_block hPr rfl
      by_cases hlt : i < n
      · obtain ⟨b, o, rfl, hc⟩ := hxr.cells (by omega)
        have hop := hc i (by omega)
        have hfd := faultF_drop F O n ops i (by omega)
        rw [← HF.out] at hfd
        have HC := Lib.hid (HRI.out F O b o n c i _ wr hnb hop hlt)
        generalize ops[i]'(by omega) = v at HC hfd
        have m1 : decide ((i : Int) < (n : Int)) = true := by simp; omega
        have m2 : (i : Int) < (n : Int) := by omega
        have HFD := Lib.hid hfd
        clear hc hop hxr hfd
        cases hrv : rightV F O n i v
        · rw [hrv] at HC
          go_wp2_with fail
          refine HC.out.mono ?_; rintro e w2 ⟨rfl, b2⟩
          have B4 := below_then B3 B3.size b2
          have hRf : R = (190, (i : Int)) := by
            rw [HRR.out]
            have := HFD.out
            rw [hrv] at this
            rw [this]; rfl
          have HRf := Lib.hid hRf
          clear hRf
          go_wp2
          go_ret2
          exact ⟨by rw [HRf.out]; rfl, B4⟩
        · rw [hrv] at HC
          go_wp2_with fail
          refine HC.out.mono ?_; rintro e w2 ⟨rfl, b2⟩
          have hbr2 := below_then hbr hbr.size b2
          have HF2 : Hid (faultF F O n 0 ops = faultF F O n (i + 1) (ops.drop (i + 1))) := Lib.hid (by
            have := HFD.out
            rw [hrv] at this
            exact this)
          go_wp2
          go_roundw
          case rel => exact ⟨i + 1, by go_num, hlt, HF2, hbr2⟩
          case measure => simp [intOf]; omega
      · obtain rfl : i = n := by omega
        have m1 : decide ((i : Int) < (i : Int)) = false := by simp
        have hF0 : faultF F O i 0 ops = none := by
          rw [HF.out, List.drop_of_length_le (by omega)]; rfl
        have hRf : R = if i = 0 then (190, 0) else (0, 0) := by rw [HRR.out, hF0]; rfl
        have HRf := Lib.hid hRf
        clear hRf hF0
        rw [if_neg hn0] at HRf
        go_wp2
        go_ret2
        exact ⟨by rw [HRf.out]; rfl, B3⟩

end Go.Proofs.YtekcpapkicmckaaGreatDoor

namespace Go.Proofs.YtekcpapkicmckaaGreatDoor
open Go.RowKit

/-- are two lists of operations alike? -/
def alikeL : List OpV → List OpV → Bool
  | [], [] => true
  | a :: l, b :: m => alikeV a b && alikeL l m
  | _, _ => false
def sameV (F O F' O' : Int) (xs ys : List OpV) : Bool := decide (F = F') && decide (O = O') && alikeL xs ys

theorem alikeL_len {xs ys : List OpV} (h : alikeL xs ys = true) : xs.length = ys.length := by
  induction xs generalizing ys with
  | nil => cases ys <;> simp [alikeL] at h ⊢
  | cons a l ih =>
    cases ys with
    | nil => simp [alikeL] at h
    | cons b m =>
      simp only [alikeL, Bool.and_eq_true] at h
      simp [ih h.2]
theorem alikeL_drop (xs ys : List OpV) (i : Nat) (h1 : i < xs.length) (h2 : i < ys.length) : alikeL (xs.drop i) (ys.drop i) = (alikeV xs[i] ys[i] && alikeL (xs.drop (i + 1)) (ys.drop (i + 1))) := by
  rw [List.drop_eq_getElem_cons h1, List.drop_eq_getElem_cons h2]; rfl

set_option maxRecDepth 100000 in
set_option maxHeartbeats 4000000 in
theorem rSame_any (F O F' O' : Int) (A A' : Option Addr) (n c n' c' : Nat) (xs ys : List OpV) (w : World) (hx : OpsAt w A n c xs) (hy : OpsAt w A' n' c' ys) :
    Calls Tryz.prog 16 #[.agg #[.int .i64 F, .int .i64 O, .slice A n c], .agg #[.int .i64 F', .int .i64 O', .slice A' n' c']] w fun e w' => e = .returned (.bool (sameV F O F' O' xs ys)) ∧ Below w.heap.size w w' := by
  have B1 := (Below.refl w.heap.size w).alloc (Nat.le_refl _) (.cells #[.int .i64 F, .int .i64 O, .slice A n c] 30)
  have B2 := B1.alloc (by simp) (.cells #[.int .i64 F', .int .i64 O', .slice A' n' c'] 30)
  have hP : ((w.alloc (.cells #[.int .i64 F, .int .i64 O, .slice A n c] 30)).alloc (.cells #[.int .i64 F', .int .i64 O', .slice A' n' c'] 30)).heap[w.heap.size]? = some (.cells #[.int .i64 F, .int .i64 O, .slice A n c] 30 (0, 0)) := by
    show ((w.heap.push _).push _)[w.heap.size]? = _
    simp only [Array.getElem?_push, Array.size_push]
    rw [if_neg (by omega), if_pos trivial]
  have hQ : ((w.alloc (.cells #[.int .i64 F, .int .i64 O, .slice A n c] 30)).alloc (.cells #[.int .i64 F', .int .i64 O', .slice A' n' c'] 30)).heap[w.heap.size + 1]? = some (.cells #[.int .i64 F', .int .i64 O', .slice A' n' c'] 30 (0, 0)) := by
    show ((w.heap.push _).push _)[w.heap.size + 1]? = _
    simp only [Array.getElem?_push, Array.size_push]
    rw [if_pos trivial]
  have hx2 := hx.below B2
  have hy2 := hy.below B2
  have hlx := hx.len
  have hly := hy.len
  have hnb := hx.big
  have hmb := hy.big
  obtain ⟨R, hR⟩ : ∃ R, sameV F O F' O' xs ys = R := ⟨_, rfl⟩
  have HR := Lib.hid hR
  rw [hR]
  clear hR hx hy B1
  go_enter Tryz.func16, Tryz.ntmps16
  go_upto_region 1 with (fail)
  generalize (w.alloc (.cells #[.int .i64 F, .int .i64 O, .slice A n c] 30)).alloc (.cells #[.int .i64 F', .int .i64 O', .slice A' n' c'] 30) = W at hP hQ B2 hx2 hy2 ⊢
  have p0 : W.cell? ⟨w.heap.size, 0, none⟩ = some (.int .i64 F) := cell_of_block hP rfl
  have p1 : W.cell? ⟨w.heap.size, 1, none⟩ = some (.int .i64 O) := cell_of_block hP rfl
  have p2 : W.cell? ⟨w.heap.size, 2, none⟩ = some (.slice A n c) := cell_of_block hP rfl
  have q0 : W.cell? ⟨w.heap.size + 1, 0, none⟩ = some (.int .i64 F') := cell_of_block hQ rfl
  have q1 : W.cell? ⟨w.heap.size + 1, 1, none⟩ = some (.int .i64 O') := cell_of_block hQ rfl
  have q2 : W.cell? ⟨w.heap.size + 1, 2, none⟩ = some (.slice A' n' c') := cell_of_block hQ rfl
  by_cases hbad : F ≠ F' ∨ O ≠ O' ∨ n ≠ n'
  · have hRf : R = false := by
      rw [← HR.out]
      cases hs : sameV F O F' O' xs ys
      · rfl
      · exfalso
        unfold sameV at hs
        simp only [Bool.and_eq_true, decide_eq_true_eq] at hs
        have := alikeL_len hs.2
        omega
    have HRf := Lib.hid hRf
    have HBD := Lib.hid hbad
    clear hRf hbad
    go_wp2_with fail
    all_goals first
    | (go_ret; exact ⟨congrArg (fun x => Ending.returned (Value.bool x)) HRf.out.symm, B2⟩)
    | (exfalso; have := HBD.out; omega)
    | (exfalso; have := HBD.out; simp_all; omega)
  · obtain ⟨rfl, rfl, rfl⟩ : F = F' ∧ O = O' ∧ n = n' := ⟨by omega, by omega, by omega⟩
    have hRR : R = alikeL xs ys := by rw [← HR.out]; unfold sameV; simp
    have HRR := Lib.hid hRR
    clear hbad hRR HR
    go_wp2_with fail
    clear p0 p1 q0 q1
    go_loopw [5, 30] (fun _ ix wr => ∃ (i : Nat), ix = .int .i64 (i : Int) ∧ i ≤ n ∧ Hid (alikeL xs ys = alikeL (xs.drop i) (ys.drop i)) ∧ Below W.heap.size W wr) (fun _ ix _ => n - (intOf ix).toNat)
    case atStart => exact ⟨0, rfl, Nat.zero_le _, Lib.hid rfl, Below.refl _ _⟩
    case round =>
      obtain ⟨i, rfl, hi, HF, hbr⟩ := hrel
      have hPr := (hbr.block w.heap.size (lt_of_block hP)).trans hP
      have hQr := (hbr.block (w.heap.size + 1) (lt_of_block hQ)).trans hQ
      have hxr := hx2.below hbr
      have hyr := hy2.below hbr
      have B3 := below_then B2 B2.size hbr
      have p2 : wr.cell? ⟨w.heap.size, 2, none⟩ = some (.slice A n c) := cell_of_block hPr rfl
      have q2 : wr.cell? ⟨w.heap.size + 1, 2, none⟩ = some (.slice A' n c') := cell_of_block hQr rfl
      by_cases hlt : i < n
      · obtain ⟨b, o, rfl, hc⟩ := hxr.cells (by omega)
        obtain ⟨b', o', rfl, hc'⟩ := hyr.cells (by omega)
        obtain ⟨D1, m1, d1, hr1, hi1, hg1⟩ := hc i (by omega)
        obtain ⟨D2, m2, d2, hr2, hi2, hg2⟩ := hc' i (by omega)
        have hd := alikeL_drop xs ys i (by omega) (by omega)
        rw [← HF.out] at hd
        have HA := alike_any D1 D2 m1 d1 m2 d2 _ _ wr.drew (hi1.below ⟨rfl, rfl, rfl, Nat.le_refl _, fun _ _ => rfl⟩) (hi2.below ⟨rfl, rfl, rfl, Nat.le_refl _, fun _ _ => rfl⟩)
        generalize xs[i]'(by omega) = v at hr1 HA hd
        generalize ys[i]'(by omega) = u at hr2 HA hd
        obtain ⟨al, hal⟩ : ∃ al, alikeV v u = al := ⟨_, rfl⟩
        rw [hal] at HA hd
        unfold opAgg opCells at HA
        replace HA := Lib.hid HA
        have HD := Lib.hid hd
        have r0 : _ = some _ := range_cell (o := o + i * 8) hr1 0 rfl
        rw [Nat.add_zero] at r0
        have s0 : _ = some _ := range_cell (o := o' + i * 8) hr2 0 rfl
        rw [Nat.add_zero] at s0
        have r1 := range_cell hr1 1 rfl
        have r2 := range_cell hr1 2 rfl
        have r3 := range_cell hr1 3 rfl
        have r4 := range_cell hr1 4 rfl
        have r5 := range_cell hr1 5 rfl
        have r6 := range_cell hr1 6 rfl
        have r7 := range_cell hr1 7 rfl
        have s1 := range_cell hr2 1 rfl
        have s2 := range_cell hr2 2 rfl
        have s3 := range_cell hr2 3 rfl
        have s4 := range_cell hr2 4 rfl
        have s5 := range_cell hr2 5 rfl
        have s6 := range_cell hr2 6 rfl
        have s7 := range_cell hr2 7 rfl
        clear hd hal hr1 hr2 hi1 hi2 hg1 hg2 hc hc' hxr hyr hPr hQr
        have k1 : decide ((i : Int) < (n : Int)) = true := by simp; omega
        go_upto_region 6 with (fail)
        go_region_with (go_at_call 40; refine HA.out.mono ?_; rintro e w3 ⟨rfl, b3⟩)
        all_goals
          have hbd : Below W.heap.size W wr.drew := hbr.trans ⟨rfl, rfl, rfl, Nat.le_refl _, fun _ _ => rfl⟩
          have hb3 := below_then hbd hbd.size b3
          have B4 := below_then B2 B2.size hb3
          clear hbd b3 r0 r1 r2 r3 r4 r5 r6 r7 s0 s1 s2 s3 s4 s5 s6 s7 p2 q2 HA
          cases al
          · have HRT := Lib.hid (show R = false by rw [HRR.out, HD.out]; rfl)
            go_wp2
            go_ret
            exact ⟨congrArg (fun x => Ending.returned (Value.bool x)) HRT.out.symm, B4⟩
          · have HF2 : Hid (alikeL xs ys = alikeL (xs.drop (i + 1)) (ys.drop (i + 1))) := Lib.hid (by rw [HD.out]; rfl)
            go_wp2
            go_roundw
            case rel => exact ⟨i + 1, by go_num, hlt, HF2, hb3⟩
            case measure => simp [intOf]; omega
      · obtain rfl : i = n := by omega
        have k1 : decide ((i : Int) < (i : Int)) = false := by simp
        have HRT := Lib.hid (show R = true by rw [HRR.out, HF.out, List.drop_of_length_le (by omega), List.drop_of_length_le (by omega)]; rfl)
        go_wp2
        go_ret
        exact ⟨congrArg (fun x => Ending.returned (Value.bool x)) HRT.out.symm, B3⟩

end Go.Proofs.YtekcpapkicmckaaGreatDoor

namespace Go.Proofs.YtekcpapkicmckaaGreatDoor
open Go.RowKit

end Go.Proofs.YtekcpapkicmckaaGreatDoor

namespace Go.Proofs.YtekcpapkicmckaaGreatDoor
open Go.RowKit

end Go.Proofs.YtekcpapkicmckaaGreatDoor
