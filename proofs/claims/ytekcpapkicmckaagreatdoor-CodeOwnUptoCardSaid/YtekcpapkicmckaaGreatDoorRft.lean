/- The contracts of thicketref07.Fits and thicketref07.Order. -/
import Derived.Test.YtekcpapkicmckaaGreatDoorRsh
import Derived.Test.YtekcpapkicmckaaGreatDoorRpl
import Derived.Test.YtekcpapkicmckaaGreatDoorCpt
namespace Go.Proofs.YtekcpapkicmckaaGreatDoor
open Go.RowKit

set_option maxRecDepth 100000 in
set_option maxHeartbeats 4000000 in
theorem Fits_any (out : Int) (A : Option Addr) (n c d : Nat) (nds : List NdV) (w : World) (hp : NdsAt w A n c nds) :
    Calls Tryz.prog 37 #[.agg #[.int .i64 out, .slice A n c], .int .i64 (d : Int)] w fun e w' => e = .returned (.bool (!featF (d : Int) nds)) ∧ Below w.heap.size w w' := by
  have B1 := (Below.refl w.heap.size w).alloc (Nat.le_refl _) (.cells #[.int .i64 out, .slice A n c] 65)
  have hT := heap_alloc_new w (.cells #[.int .i64 out, .slice A n c] 65)
  have HP := Lib.hid (hp.below B1)
  have HLEN := Lib.hid hp.len
  have hnb := hp.big
  obtain ⟨R, hR⟩ : ∃ R, featF (d : Int) nds = R := ⟨_, rfl⟩
  rw [hR]
  have HR := Lib.hid hR
  clear hp hR
  go_enter Tryz.func37, Tryz.ntmps37
  go_upto_region 1 with (fail)
  generalize w.alloc (.cells #[.int .i64 out, .slice A n c] 65) = w1 at *
  have t1 : w1.cell? ⟨w.heap.size, 1, none⟩ = some (.slice A n c) := cell_of_block hT rfl
  have HB1 := Lib.hid B1
  clear hT B1
  go_upto_region 2 with (fail)
  clear t1
  go_loopw [10] (fun ix wr => ∃ (k : Nat), ix = .int .i64 (k : Int) ∧ k ≤ n ∧ Hid (featF (d : Int) nds = featF (d : Int) (nds.drop k)) ∧ Below w1.heap.size w1 wr) (fun ix _ => n - (intOf ix).toNat)
  case atStart => exact ⟨0, rfl, Nat.zero_le _, Lib.hid rfl, Below.refl _ _⟩
  case round =>
    obtain ⟨k, rfl, hk, HFF, hbr⟩ := hrel
    by_cases hkt : k < n
    · have hnq := HP.out.below hbr
      obtain ⟨bb, oo, rfl, hcc⟩ := hnq.cells (by omega)
      have hml := HLEN.out
      obtain ⟨V1, V2, V3, hrr, hic, hv1, hv2⟩ := hcc k (by omega)
      have hat := ndAt_get (nds := nds) (i := k) (by omega)
      have hfd := featF_drop (d : Int) nds k (by omega)
      rw [← HFF.out, hat] at hfd
      generalize nds[k]'(by omega) = v at hrr hic hv1 hv2 hat hfd
      have HFD := Lib.hid hfd
      have r0 : _ = some _ := range_cell (o := oo + k * 8) hrr 0 rfl
      rw [Nat.add_zero] at r0
      have r1 := range_cell hrr 1 rfl
      have r2 := range_cell hrr 2 rfl
      have r3 := range_cell hrr 3 rfl
      have r4 := range_cell hrr 4 rfl
      have r5 := range_cell hrr 5 rfl
      have r6 := range_cell hrr 6 rfl
      have r7 := range_cell hrr 7 rfl
      have hsf : ∀ (W : World) (a : Addr) (b : Nat), (store a (.float .f64 b)).run Tryz.prog W = stored Tryz.prog W a (.float .f64 b) .plain := fun W a b => run_store _ W a _ _ rfl
      have i1' : (k : Int) < (n : Int) := by omega
      have i2' : decide ((k : Int) < (n : Int)) = true := by simpa using i1'
      clear hcc hrr hml hat hfd hnq hic
      go_upto_region 4 with (fail)
      have b7 := (Below.refl wr.heap.size wr).alloc (Nat.le_refl _) (.cells (ndCells V1 V2 V3 v).toArray 72)
      have hO7 : (wr.alloc (.cells (ndCells V1 V2 V3 v).toArray 72)).heap[wr.heap.size]? = some (.cells (ndCells V1 V2 V3 v).toArray 72 (0, 0)) := heap_alloc_new wr _
      unfold ndCells at b7 hO7
      generalize (wr.alloc (.cells #[.int .u8 (v.kind : Int), .int .i64 v.value, .int .i64 v.feature, .float .f64 v.thr, .slice V1 V2 V3, .int .u8 (v.missing : Int), .int .i64 v.left, .int .i64 v.right] 72)) = w7 at b7 hO7 ⊢
      obtain ⟨n0, n1, n2, n3, n4, n5, n6, n7⟩ := nd_box (v := v) hO7
      have hb7 := below_then hbr hbr.size b7
      have BF := Lib.hid (below_then HB1.out HB1.out.size hb7)
      clear r0 r1 r2 r3 r4 r5 r6 r7 hO7 b7 hbr n1 n3 n4 n5 n6 n7
      by_cases hk1 : v.kind = 1
      · have q1 : ((v.kind : Int) != 1) = false := by simp; omega
        have q2 : decide ((v.kind : Int) = 1) = true := by simp; omega
        have HF2 := Lib.hid (show featF (d : Int) nds = featF (d : Int) (nds.drop (k + 1)) by rw [HFD.out]; simp [hk1])
        clear hk1
        go_wp2
        go_roundw
        case rel => exact ⟨k + 1, by go_num, hkt, HF2, hb7⟩
        case measure => simp [intOf]; omega
      · have q1 : ((v.kind : Int) != 1) = true := by simp; omega
        have q2 : decide ((v.kind : Int) = 1) = false := by simp; omega
        by_cases hf1 : (d : Int) ≤ v.feature
        · have q3 : decide ((d : Int) ≤ v.feature) = true := by simpa using hf1
          have HRR := Lib.hid (show R = true by rw [← HR.out, HFD.out]; simp [hk1, hf1])
          clear hk1 hb7
          go_wp2
          go_ret
          exact ⟨congrArg (fun x => Ending.returned (Value.bool x)) (by rw [HRR.out]; rfl), BF.out⟩
        · have q3 : decide ((d : Int) ≤ v.feature) = false := by simpa using hf1
          have HF2 := Lib.hid (show featF (d : Int) nds = featF (d : Int) (nds.drop (k + 1)) by rw [HFD.out]; simp [hf1])
          clear hk1
          go_wp2
          go_roundw
          case rel => exact ⟨k + 1, by go_num, hkt, HF2, hb7⟩
          case measure => simp [intOf]; omega
    · obtain rfl : k = n := by omega
      have i2' : decide ((k : Int) < (k : Int)) = false := by simp
      have HRR := Lib.hid (show R = false by rw [← HR.out, HFF.out, List.drop_of_length_le (by rw [HLEN.out]; exact Nat.le_refl _)]; rfl)
      have BF := Lib.hid (below_then HB1.out HB1.out.size hbr)
      clear hbr
      go_wp2
      go_ret
      exact ⟨congrArg (fun x => Ending.returned (Value.bool x)) (by rw [HRR.out]; rfl), BF.out⟩

/-- what lies on the stack: trees, the top's first -/
def Reps (nds : List NdV) : List BT → List Nat → Prop
  | [], [] => True
  | T :: Ts, i :: st => Rep nds T i ∧ Reps nds Ts st
  | _, _ => False
def allOf : List BT → List Nat
  | [] => []
  | T :: Ts => T.all ++ allOf Ts
theorem allOf_len : ∀ (Ts : List BT), Ts.length ≤ (allOf Ts).length
  | [] => Nat.le_refl _
  | T :: Ts => by
    have := allOf_len Ts
    have := T.all_pos
    simp only [allOf, List.length_append, List.length_cons]
    omega
theorem Reps.len {nds : List NdV} : ∀ {Ts : List BT} {st : List Nat}, Reps nds Ts st → Ts.length = st.length
  | [], [], _ => rfl
  | _ :: _, _ :: _, h => by simp [Reps.len h.2]
  | [], _ :: _, h => h.elim
  | _ :: _, [], h => h.elim
theorem i64s_snocN (l : List Nat) (i : Nat) : i64s (l.map fun (x : Nat) => (x : Int)) ++ [.int .i64 (i : Int)] = i64s ((l ++ [i]).map fun (x : Nat) => (x : Int)) := by simp [i64s]

set_option maxRecDepth 100000 in
set_option maxHeartbeats 4000000 in
/-- the places of a right tree, each ahead of those below it -/
theorem Order_any (out : Int) (A : Option Addr) (n c : Nat) (nds : List NdV) (w : World) (hp : NdsAt w A n c nds) (hR : RightT nds) (hn : n ≤ 1000000000000) :
    Calls Tryz.prog 70 #[.agg #[.int .i64 out, .slice A n c]] w fun e w' => ∃ B d, e = .returned (.slice B (treeOf nds).all.length d) ∧ OwnInts 3 w' w.heap.size B (treeOf nds).all.length d ((treeOf nds).all.map fun (x : Nat) => (x : Int)) ∧ Below w.heap.size w w' := by
  have B1 := (Below.refl w.heap.size w).alloc (Nat.le_refl _) (.cells #[.int .i64 out, .slice A n c] 65)
  have hT := heap_alloc_new w (.cells #[.int .i64 out, .slice A n c] 65)
  have HP := Lib.hid (hp.below B1)
  have HLEN := Lib.hid hp.len
  have hrep := treeOf_rep hR
  have hmany := Rep.many hR hrep
  have HLT := Lib.hid (hrep.below)
  obtain ⟨Z, hZ⟩ : ∃ Z, (treeOf nds).all = Z := ⟨_, rfl⟩
  rw [hZ] at hmany HLT ⊢
  have HZ := Lib.hid hZ
  have HRT := Lib.hid hR
  have HREP := Lib.hid hrep
  have hzn : Z.length ≤ n := by have := HLEN.out; omega
  clear hp hR hrep hmany hZ
  go_enter Tryz.func70, Tryz.ntmps70
  go_upto_region 1 with (fail)
  generalize w.alloc (.cells #[.int .i64 out, .slice A n c] 65) = w1 at *
  have HT1 := Lib.hid hT
  have HB1 := Lib.hid B1
  clear hT B1
  go_upto_region 3 with (fail)
  have b3 := (Below.refl w1.heap.size w1).alloc (Nat.le_refl _) (.cells #[.int .i64 0] 3)
  have hst3 : MineK 1 3 (w1.alloc (.cells #[.int .i64 0] 3)) w1.heap.size (some ⟨w1.heap.size, 0, none⟩) 1 1 (stv [0]) :=
    ⟨rfl, Nat.le_refl _, by omega, .inr ⟨w1.heap.size, [], rfl, Nat.le_refl _, by
      have := heap_alloc_new w1 (.cells #[.int .i64 0] 3)
      simpa [stv, i64s] using this, by simp⟩⟩
  generalize w1.alloc (.cells #[.int .i64 0] 3) = w3 at b3 hst3 ⊢
  go_loopg [3, 4] Z.length (fun k ox sx wq => ∃ (l st : List Nat) (Ts : List BT) (OA SA : Option Addr) (on oc sn sc : Nat), ox = .slice OA on oc ∧ sx = .slice SA sn sc ∧ Hid (l ++ allOf Ts = Z) ∧ Hid (Reps nds Ts st) ∧ Hid ((allOf Ts).length = k) ∧
    Mine 3 wq w1.heap.size OA on oc (i64s (l.map fun (x : Nat) => (x : Int))) ∧ MineK 1 3 wq w1.heap.size SA sn sc (stv st) ∧ (blockOf OA = none ∨ blockOf OA ≠ blockOf SA) ∧ Below w1.heap.size w1 wq)
  case atStart => exact ⟨[], [0], [treeOf nds], none, _, 0, 0, 1, 1, rfl, rfl, Lib.hid (by simp [allOf, HZ.out]), Lib.hid ⟨HREP.out, trivial⟩, Lib.hid (by simp [allOf, HZ.out]), Mine.nil _ _ _, hst3, .inl rfl, b3⟩
  case round =>
    clear hst3 b3
    obtain ⟨l, st, Ts, OA, SA, on, oc, sn, sc, rfl, rfl, HLA, HRS, HGK, hmo, hst, hap, hbq⟩ := hrel
    have hsl := hst.len
    rw [stv_length] at hsl
    have hol := hmo.len
    simp only [i64s_length, List.length_map] at hol
    have hLZ : l.length + (allOf Ts).length = Z.length := by rw [← HLA.out, List.length_append]
    have hTl := HRS.out.len
    have hTa := allOf_len Ts
    cases st with
    | nil =>
      obtain rfl : sn = 0 := by simp at hsl; omega
      have hTs : Ts = [] := List.eq_nil_of_length_eq_zero (by rw [hTl]; rfl)
      have HL := Lib.hid (show l = Z by have := HLA.out; rw [hTs] at this; simpa [allOf] using this)
      have HBF := Lib.hid (below_then HB1.out HB1.out.size hbq)
      have HMO := Lib.hid hmo
      have HOL := Lib.hid (show on = Z.length by rw [← HL.out]; exact hol.symm)
      clear hsl hst hol hLZ hTl hTa hTs hmo hbq hap
      go_wp2
      go_ret
      have hm := HMO.out
      rw [HL.out, HOL.out] at hm
      exact ⟨OA, oc, by rw [HOL.out]; rfl, ⟨hm.mono HB1.out.size, fun z hz => by
        obtain ⟨x, hx, rfl⟩ := List.mem_map.1 hz
        have := HLT.out x hx
        have := HLEN.out
        omega⟩, HBF.out⟩
    | cons p st =>
      cases Ts with
      | nil => exact absurd HRS.out (by simp [Reps])
      | cons T Ts =>
      obtain ⟨hTp, hTs⟩ := HRS.out
      simp at hsl
      obtain ⟨m, hm⟩ : ∃ m, sn = m + 1 := ⟨st.length, by omega⟩
      subst hm
      have hml : m = st.length := by omega
      have hpi : p < nds.length := by rw [hTp.root]; exact hTp.below _ T.root_mem
      obtain ⟨gs, rfl, hgs1, hgs2⟩ := hst.some_of (by omega)
      have s0 := hst.cell m (by omega)
      rw [hml, stv_top] at s0
      rw [← hml] at s0
      have hst1 := hst.pre m (by omega)
      rw [hml, stv_pop] at hst1
      rw [← hml] at hst1
      have hsc := hst.cap
      have hm9 : m ≤ 9000000000000 := by simp only [List.length_cons] at hTl hTa; have := hmo.len; omega
      have ho9 : on ≤ 1000000000000 := by omega
      have e2 : (0 : Int) < ((m + 1 : Nat) : Int) := by omega
      have e3 : (m : Int) < ((m + 1 : Nat) : Int) := by omega
      have e4 : (m : Int) ≤ (sc : Int) := by omega
      have HTP := Lib.hid hTp
      have HTS := Lib.hid hTs
      have HML := Lib.hid hml
      have HPI := Lib.hid hpi
      have HRR := Lib.hid (show ∀ j ∈ (T :: Ts), True from fun _ _ => trivial)
      have HOLL := Lib.hid hol
      clear hsl hol hLZ hTl hTa hml hTp hTs hst hpi
      go_upto_region 6 with (fail)
      clear s0
      have hz := hbq.size
      have HB := Lib.hid hbq
      have HMB := Lib.hid (fun q hq => (hmo.lt q hq).1)
      go_upto_region 7 with (at_builtin; refine app_one w1.heap.size rfl _ _ _ _ (.int .i64 0) 8 rfl Tryz.underlying44 Tryz.info_int rfl (by omega) OA on oc (i64s (l.map fun (x : Nat) => (x : Int))) (.int .i64 (p : Int)) rfl rfl rfl hmo hz (by omega) ?_; rintro A' c' w5 hm5 hg5 hA5)
      have hb5 := below_grown HB.out hz hg5 HMB.out
      rw [i64s_snocN] at hm5
      have hs5 : MineK 1 3 w5 w1.heap.size (some ⟨gs, 0, none⟩) m sc (stv st) := hst1.kept hg5 (hap.elim (fun e => .inr (by rw [e]; simp [blockOf])) (fun e => .inr (fun h => e h.symm)))
      have hap5 : blockOf A' = none ∨ blockOf A' ≠ blockOf (some (⟨gs, 0, none⟩ : Addr)) := by
        rcases hA5 with e | ⟨k, e, hk⟩
        · rw [e]; exact hap
        · right; rw [e]; simp [blockOf]; omega
      clear hst1 hg5 hA5 hap hz hmo hbq
      have hT5 := (hb5.block _ (lt_of_block HT1.out)).trans HT1.out
      have t1 : w5.cell? ⟨w.heap.size, 1, none⟩ = some (.slice A n c) := cell_of_block hT5 rfl
      have hp5 := HP.out.below hb5
      have hpi := HPI.out
      have hlen := HLEN.out
      obtain ⟨b, o, rfl, hc⟩ := hp5.cells (by omega)
      obtain ⟨V1, V2, V3, hr, hic, hk1, hk2⟩ := hc p hpi
      have hat := ndAt_get (nds := nds) (i := p) hpi
      generalize nds[p]'hpi = v at hr hic hk1 hk2 hat
      have hnv : nodeV (n : Int) v = true := by rw [← hat, ← hlen]; exact HRT.out.node p hpi
      obtain ⟨q1, q2⟩ := kind_inner hnv
      have HAT := Lib.hid hat
      have HNV := Lib.hid hnv
      have r0 : _ = some _ := range_cell (o := o + p * 8) hr 0 rfl
      rw [Nat.add_zero] at r0
      have r1 := range_cell hr 1 rfl
      have r2 := range_cell hr 2 rfl
      have r3 := range_cell hr 3 rfl
      have r4 := range_cell hr 4 rfl
      have r5 := range_cell hr 5 rfl
      have r6 := range_cell hr 6 rfl
      have r7 := range_cell hr 7 rfl
      have hsf : ∀ (W : World) (a : Addr) (b : Nat), (store a (.float .f64 b)).run Tryz.prog W = stored Tryz.prog W a (.float .f64 b) .plain := fun W a b => run_store _ W a _ _ rfl
      have l0 : (p : Int) < (n : Int) := by omega
      clear hc hr hlen hat hp5 hnv hT5 hpi hic
      go_upto_region 8 with (fail)
      have b6 := (Below.refl w5.heap.size w5).alloc (Nat.le_refl _) (.cells (ndCells V1 V2 V3 v).toArray 72)
      have hO6 : (w5.alloc (.cells (ndCells V1 V2 V3 v).toArray 72)).heap[w5.heap.size]? = some (.cells (ndCells V1 V2 V3 v).toArray 72 (0, 0)) := heap_alloc_new w5 _
      unfold ndCells at b6 hO6
      generalize (w5.alloc (.cells #[.int .u8 (v.kind : Int), .int .i64 v.value, .int .i64 v.feature, .float .f64 v.thr, .slice V1 V2 V3, .int .u8 (v.missing : Int), .int .i64 v.left, .int .i64 v.right] 72)) = w6 at b6 hO6 ⊢
      obtain ⟨n0, n1, n2, n3, n4, n5, n6, n7⟩ := nd_box (v := v) hO6
      have hb6 := below_then hb5 hb5.size b6
      have hm6 := hm5.below b6
      have hs6 := hs5.below b6
      clear r0 r1 r2 r3 r4 r5 r6 r7 t1 b6 hb5 hm5 hs5 n1 n2 n3 n4 n5
      have hlz := congrArg List.length HLA.out
      simp only [List.length_append, allOf] at hlz
      have HLZ := Lib.hid hlz
      clear hlz
      cases T with
      | leaf j =>
        obtain ⟨rfl, _, hiv⟩ := HTP.out
        rw [HAT.out] at hiv
        rw [hiv] at q1 q2
        clear n6 n7 hO6 hiv
        go_wp2
        go_roundg (allOf Ts).length
        case measure => rw [← HGK.out]; simp [allOf, BT.all]
        case rel => exact ⟨l ++ [p], st, Ts, A', _, on + 1, c', m, sc, rfl, rfl, Lib.hid (by have := HLA.out; simpa [allOf, BT.all] using this), HTS, Lib.hid rfl, hm6, hs6, hap5, hb6⟩
      | node j a d =>
        obtain ⟨rfl, _, hiv, ha, hd⟩ := HTP.out
        rw [HAT.out] at hiv ha hd
        rw [hiv] at q1 q2
        have hnv := nodeV_inner HNV.out hiv
        obtain ⟨le, hle⟩ : ∃ le : Nat, v.left = (le : Int) := ⟨v.left.toNat, by omega⟩
        obtain ⟨ri, hri⟩ : ∃ ri : Nat, v.right = (ri : Int) := ⟨v.right.toNat, by omega⟩
        rw [hle] at ha n6
        rw [hri] at hd n7
        have HRS2 : Hid (Reps nds (a :: d :: Ts) (le :: ri :: st)) := Lib.hid ⟨ha, hd, HTS.out⟩
        have b7 := (Below.refl w6.heap.size w6).alloc (Nat.le_refl _) (.cells #[.int .i64 (ri : Int), .int .i64 (le : Int)] 3)
        have hs7 := hs6.below b7
        have hm7 := hm6.below b7
        have HN7 := Lib.hid (heap_alloc_new w6 (.cells #[.int .i64 (ri : Int), .int .i64 (le : Int)] 3))
        have hb7 := below_then hb6 hb6.size b7
        have hz7 := hb7.size
        clear hiv ha hd hnv hle hri b7 hb6 hs6 hm6 hO6
        go_wp2_with (at_builtin; refine app_boxK w1.heap.size rfl _ _ _ _ (.int .i64 0) 1 8 rfl Tryz.underlying44 Tryz.info_int rfl (by omega) (some ⟨gs, 0, none⟩) m sc (stv st) w6.heap.size 2 2 _ _ HN7.out rfl rfl rfl (by intro u hu; simp at hu; rcases hu with rfl | rfl <;> rfl) hs7 hz7 (by omega) (by omega) ?_; rintro A9 c9 w8 hs8 hg8 hA8)
        have hb8 := below_grown hb7 hz7 hg8 (fun k hk => by simp [blockOf] at hk; omega)
        have hm8 : Mine 3 w8 w1.heap.size A' (on + 1) c' (i64s ((l ++ [p]).map fun (x : Nat) => (x : Int))) := hm7.kept hg8 hap5
        have hap8 : blockOf A' = none ∨ blockOf A' ≠ blockOf A9 := by
          rcases hA8 with e | ⟨k, e, hk⟩
          · rw [e]; exact hap5
          · cases hbo : blockOf A' with
            | none => exact .inl rfl
            | some z =>
              have := (hm7.lt z hbo).2
              right
              rw [e]
              intro e2
              injection e2 with e2
              omega
        rw [show stv st ++ (#[Value.int .i64 (ri : Int), .int .i64 (le : Int)] : Array Value).toList = stv (le :: ri :: st) from stv_push st ri le] at hs8
        clear n6 n7 hs7 hm7 hb7 hg8 hA8
        go_roundg (allOf (a :: d :: Ts)).length
        case measure => rw [← HGK.out]; simp [allOf, BT.all]
        case rel => exact ⟨l ++ [p], le :: ri :: st, a :: d :: Ts, A', A9, on + 1, c', m + 2, c9, rfl, rfl, Lib.hid (by have := HLA.out; simpa [allOf, BT.all] using this), HRS2, Lib.hid rfl, hm8, hs8, hap8, hb8⟩

end Go.Proofs.YtekcpapkicmckaaGreatDoor
