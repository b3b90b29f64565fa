/- The contract of thicketref07.Nodes: copies of nodes, their categories too. -/
import Derived.Test.YtekcpapkicmckaaGreatDoorRcy
import Derived.Test.YtekcpapkicmckaaGreatDoorCpt
namespace Go.Proofs.YtekcpapkicmckaaGreatDoor
open Go.RowKit

def ndRow (h : Hd) (v : NdV) : List Value := ndCells h.1 h.2.1 h.2.2 v
def flatNds : List Hd → List NdV → List Value
  | h :: hs, v :: vs => ndRow h v ++ flatNds hs vs
  | _, _ => []
theorem ndRow_length (h : Hd) (v : NdV) : (ndRow h v).length = 8 := rfl
theorem flatNds_length : ∀ (hs : List Hd) (nds : List NdV), hs.length = nds.length → (flatNds hs nds).length = nds.length * 8
  | [], [], _ => rfl
  | h :: hs, v :: vs, e => by
    simp only [List.length_cons, Nat.add_right_cancel_iff] at e
    simp only [flatNds, List.length_append, ndRow_length, List.length_cons, flatNds_length hs vs e]
    omega
theorem flatNds_snoc : ∀ (hs : List Hd) (nds : List NdV) (h : Hd) (v : NdV), hs.length = nds.length → flatNds (hs ++ [h]) (nds ++ [v]) = flatNds hs nds ++ ndRow h v
  | [], [], h, v, _ => by simp [flatNds]
  | h1 :: hs, v1 :: vs, h, v, e => by
    simp only [List.length_cons, Nat.add_right_cancel_iff] at e
    simp only [List.cons_append, flatNds, flatNds_snoc hs vs h v e, List.append_assoc]
theorem flatNds_get : ∀ (hs : List Hd) (nds : List NdV) (e : hs.length = nds.length) (j : Nat) (hj : j < nds.length) (k : Nat), k < 8 → (flatNds hs nds)[j * 8 + k]? = (ndRow (hs[j]'(by omega)) nds[j])[k]?
  | [], [], _, j, hj, k, _ => by simp at hj
  | h1 :: hs, v1 :: vs, e, 0, hj, k, hk => by
    simp only [flatNds]
    rw [List.getElem?_append_left (by rw [ndRow_length]; omega)]
    simp
  | h1 :: hs, v1 :: vs, e, j + 1, hj, k, hk => by
    simp only [List.length_cons, Nat.add_right_cancel_iff] at e
    simp only [flatNds]
    rw [List.getElem?_append_right (by rw [ndRow_length]; omega), ndRow_length, show (j + 1) * 8 + k - 8 = j * 8 + k by omega, flatNds_get hs vs e j (by simpa using hj) k hk]
    simp
theorem ndRow_one (h : Hd) (v : NdV) : ∀ u ∈ ndRow h v, u.oneCell' = true := by
  intro u hu
  simp only [ndRow, ndCells, List.mem_cons, List.not_mem_nil, or_false] at hu
  rcases hu with rfl | rfl | rfl | rfl | rfl | rfl | rfl | rfl <;> rfl
theorem Tryz.info_node : (Tryz.prog.info? 72).map (fun i => (i.zero, i.size, i.bytes)) = some (some (.agg #[.int .u8 0, .int .i64 0, .int .i64 0, .float .f64 0, .slice none 0 0, .int .u8 0, .int .i64 0, .int .i64 0]), 8, 80) := by kernel_rfl

/-- the heads of the nodes' categories -/
def NdHeads (w : World) (base : Nat) (A : Option Addr) (n c : Nat) (nds : List NdV) (hs : List Hd) : Prop :=
  hs.length = nds.length ∧ MineK 8 72 w base A n c (flatNds hs nds) ∧ (∀ j (h1 : j < hs.length) (h2 : j < nds.length), CatOwn w base hs[j] nds[j].cats)
/-- nodes in memory of the call's own -/
structure OwnNds (w : World) (base : Nat) (A : Option Addr) (n c : Nat) (nds : List NdV) : Prop where
  hds : ∃ hs : List Hd, NdHeads w base A n c nds hs
  rng : ∀ v ∈ nds, (v.kind < 256 ∧ v.missing < 256) ∧ ∀ z ∈ v.cats, -9223372036854775808 ≤ z ∧ z ≤ 9223372036854775807

section
variable {w w' : World} {base : Nat} {A : Option Addr} {n c : Nat} {nds : List NdV}
theorem OwnNds.len (h : OwnNds w base A n c nds) : nds.length = n := by
  obtain ⟨hs, e, hm, _⟩ := h.hds
  have := hm.len
  rw [flatNds_length hs nds e] at this
  omega
theorem OwnNds.nil (w : World) (base : Nat) : OwnNds w base none 0 0 [] := ⟨⟨[], rfl, MineK.nil _ _ _ _, fun j h => by simp at h⟩, fun v hv => by simp at hv⟩
theorem OwnNds.below (h : OwnNds w base A n c nds) (hb : Below w.heap.size w w') : OwnNds w' base A n c nds := by
  obtain ⟨hs, e, hm, hc⟩ := h.hds
  exact ⟨⟨hs, e, hm.below hb, fun j a b => (hc j a b).below hb⟩, h.rng⟩
theorem OwnNds.mono {base' : Nat} (h : OwnNds w base A n c nds) (hb : base' ≤ base) : OwnNds w base' A n c nds := by
  obtain ⟨hs, e, hm, hc⟩ := h.hds
  exact ⟨⟨hs, e, hm.mono hb, fun j a b => (hc j a b).mono hb⟩, h.rng⟩
theorem OwnNds.ndsAt (h : OwnNds w base A n c nds) : NdsAt w A n c nds := by
  have hlen := h.len
  obtain ⟨hs, e, hm, hc⟩ := h.hds
  refine ⟨hlen, hm.cap, hm.big, fun hn => ?_⟩
  obtain ⟨g, rfl, hbg, hgl⟩ := hm.some_of hn
  refine ⟨g, 0, rfl, fun j hj => ?_⟩
  refine ⟨(hs[j]'(by omega)).1, (hs[j]'(by omega)).2.1, (hs[j]'(by omega)).2.2, fun k v hv => ?_, ⟨(hc j (by omega) hj).sl, (h.rng _ (List.getElem_mem hj)).2⟩, (h.rng _ (List.getElem_mem hj)).1.1, (h.rng _ (List.getElem_mem hj)).1.2⟩
  have hk : k < 8 := (List.getElem?_eq_some_iff.1 hv).1
  have hf := flatNds_get hs nds e j hj k hk
  rw [show ndRow (hs[j]'(by omega)) nds[j] = ndCells (hs[j]'(by omega)).1 (hs[j]'(by omega)).2.1 (hs[j]'(by omega)).2.2 nds[j] from rfl, hv] at hf
  have hcl := hm.cell (j * 8 + k) (by omega)
  rw [List.getD_eq_getElem?_getD, hf] at hcl
  rw [Nat.zero_add]
  exact hcl
/-- one node more; its categories were laid since a world w0 -/
theorem OwnNds.snoc {w0 : World} {hs : List Hd} (hh : NdHeads w0 base A n c nds hs) (hrg : ∀ v ∈ nds, (v.kind < 256 ∧ v.missing < 256) ∧ ∀ z ∈ v.cats, -9223372036854775808 ≤ z ∧ z ≤ 9223372036854775807) (hb : Below w0.heap.size w0 w) {hd : Hd} {v : NdV} {A' : Option Addr} {c' : Nat} (hcat : CatOwn w base hd v.cats) (hv : v.kind < 256 ∧ v.missing < 256) (hz : ∀ z ∈ v.cats, -9223372036854775808 ≤ z ∧ z ≤ 9223372036854775807)
    (hm : MineK 8 72 w' base A' (n + 1) c' (flatNds hs nds ++ ndRow hd v)) (hg : w.grownBy w' (blockOf A)) : OwnNds w' base A' (n + 1) c' (nds ++ [v]) := by
  obtain ⟨e, hmk, hc⟩ := hh
  have hcw : ∀ j (h1 : j < (hs ++ [hd]).length) (h2 : j < (nds ++ [v]).length), CatOwn w base (hs ++ [hd])[j] (nds ++ [v])[j].cats := by
    intro j a b
    by_cases hj : j < nds.length
    · rw [List.getElem_append_left (by omega), List.getElem_append_left hj]
      exact (hc j (by omega) hj).below hb
    · have hj' : j = nds.length := by simp at b; omega
      subst hj'
      rw [List.getElem_append_right (by omega), List.getElem_append_right (by omega)]
      simpa using hcat
  have hmk2 := hmk.below hb
  refine ⟨⟨hs ++ [hd], by simp [e], by rw [flatNds_snoc hs nds hd v e]; exact hm, fun j a b => (hcw j a b).kept hg ?_⟩, fun u hu => ?_⟩
  · cases hk : hdBlock (hs ++ [hd])[j] with
    | none => exact .inl rfl
    | some k =>
      refine .inr fun e2 => ?_
      obtain ⟨c1, h1⟩ := (hcw j a b).ty hk
      obtain ⟨c2, h2⟩ := hmk2.ty e2.symm
      exact ty_ne h1 h2 (by decide) rfl
  · rcases List.mem_append.1 hu with hu | hu
    · exact hrg u hu
    · obtain rfl := List.mem_singleton.1 hu
      exact ⟨hv, hz⟩
end

set_option maxRecDepth 100000 in
set_option maxHeartbeats 4000000 in
theorem Nodes_any (A : Option Addr) (n c : Nat) (nds : List NdV) (w : World) (hp : NdsAt w A n c nds) (hn : n ≤ 1000000000000) (hcb : ∀ v ∈ nds, v.cats.length ≤ 1000000000000) :
    Calls Tryz.prog 33 #[.slice A n c] w fun e w' => ∃ B d, e = .returned (.slice B n d) ∧ OwnNds w' w.heap.size B n d nds ∧ Below w.heap.size w w' := by
  have HCB := Lib.hid hcb
  have HLEN := Lib.hid hp.len
  have hnb := hp.big
  have HP := Lib.hid hp
  have hsf : ∀ (W : World) (a : Addr) (b : Nat), (store a (.float .f64 b)).run Tryz.prog W = stored Tryz.prog W a (.float .f64 b) .plain := fun W a b => run_store _ W a _ _ rfl
  clear hcb hp
  go_enter Tryz.func33, Tryz.ntmps33
  go_upto_region 3 with (fail)
  go_loopw [3, 9] (fun ox ix wr => ∃ (i : Nat) (A1 : Option Addr) (c1 : Nat), ox = .slice A1 i c1 ∧ ix = .int .i64 (i : Int) ∧ i ≤ n ∧ OwnNds wr w.heap.size A1 i c1 (nds.take i) ∧ Below w.heap.size w wr) (fun _ ix _ => n - (intOf ix).toNat)
  case atStart => exact ⟨0, none, 0, rfl, rfl, Nat.zero_le _, OwnNds.nil _ _, Below.refl _ _⟩
  case round =>
    obtain ⟨i, A1, c1, rfl, rfl, hi, hown, hbr⟩ := hrel
    by_cases hlt : i < n
    · obtain ⟨b, o, rfl, hc⟩ := HP.out.cells (by omega)
      have hlen := HLEN.out
      obtain ⟨V1, V2, V3, hr', hic', hk1, hk2⟩ := hc i (by omega)
      have hr := rangeAt_below hr' hbr
      have hic := hic'.below hbr
      have hts : nds.take (i + 1) = nds.take i ++ [nds[i]'(by omega)] := by rw [List.take_succ_eq_append_getElem (by omega)]
      have hcl := HCB.out _ (List.getElem_mem (show i < nds.length by omega))
      generalize nds[i]'(by omega) = v at hr hic hts hcl hr' hic' hk1 hk2
      have HTS := Lib.hid hts
      have r0 : _ = some _ := range_cell (o := o + i * 8) hr 0 rfl
      rw [Nat.add_zero] at r0
      have r1 := range_cell hr 1 rfl
      have r2 := range_cell hr 2 rfl
      have r3 := range_cell hr 3 rfl
      have r4 := range_cell hr 4 rfl
      have r5 := range_cell hr 5 rfl
      have r6 := range_cell hr 6 rfl
      have r7 := range_cell hr 7 rfl
      have i1 : (i : Int) < (n : Int) := by omega
      have i2 : decide ((i : Int) < (n : Int)) = true := by simpa using i1
      clear hc hr hr' hic' hlen hts
      go_upto_region 6 with (fail)
      have b5 := (Below.refl wr.heap.size wr).alloc (Nat.le_refl _) (.cells (ndCells V1 V2 V3 v).toArray 72)
      have hO5 : (wr.alloc (.cells (ndCells V1 V2 V3 v).toArray 72)).heap[wr.heap.size]? = some (.cells (ndCells V1 V2 V3 v).toArray 72 (0, 0)) := heap_alloc_new wr _
      unfold ndCells at b5 hO5
      have hz5 : (wr.alloc (.cells #[.int .u8 (v.kind : Int), .int .i64 v.value, .int .i64 v.feature, .float .f64 v.thr, .slice V1 V2 V3, .int .u8 (v.missing : Int), .int .i64 v.left, .int .i64 v.right] 72)).heap.size = wr.heap.size + 1 := by simp
      generalize (wr.alloc (.cells #[.int .u8 (v.kind : Int), .int .i64 v.value, .int .i64 v.feature, .float .f64 v.thr, .slice V1 V2 V3, .int .u8 (v.missing : Int), .int .i64 v.left, .int .i64 v.right] 72)) = w5 at b5 hO5 hz5 ⊢
      have hic5 := hic.below b5
      have c4 : w5.cell? ⟨wr.heap.size, 4, none⟩ = some (.slice V1 V2 V3) := cell_of_block hO5 rfl
      have HIC := Lib.hid hic5.sl
      have HCR := Lib.hid hic5.rng
      have hml : V2 ≤ 1000000000000 := by have := hic5.len; omega
      have hwz := hbr.size
      have hb5z : w.heap.size ≤ w5.heap.size := by omega
      have HO5 := Lib.hid hO5
      have HZ5 := Lib.hid hz5
      have HB5 := Lib.hid b5
      clear r0 r1 r2 r3 r4 r5 r6 r7 hic hic5 hO5 hz5 b5
      go_upto_region 7 with (at_builtin; refine app_nil_all w.heap.size rfl _ _ _ _ (.int .i64 0) 8 rfl Tryz.underlying44 Tryz.info_int rfl (by omega) V1 V2 V3 (i64s v.cats) rfl rfl (i64s_one _) HIC.out hb5z (by omega) ?_; rintro B' d' w6 hm6 hg6 hb6; have hO6 := (hg6.block _ (by have := HZ5.out; omega) (by simp)).trans HO5.out; have c4' : w6.cell? ⟨wr.heap.size, 4, none⟩ = some (.slice V1 V2 V3) := cell_of_block hO6 rfl; have z4 : w6.frozen? ⟨wr.heap.size, 4, none⟩ = false := frozen_row (vs := [.int .u8 (v.kind : Int), .int .i64 v.value, .int .i64 v.feature, .float .f64 v.thr, .slice V1 V2 V3, .int .u8 (v.missing : Int), .int .i64 v.left, .int .i64 v.right]) hO6 4)
      have b5 := HB5.out
      have hz5 := HZ5.out
      have b6 := below_then b5 b5.size (below_of_grownBy hg6)
      have b7 := b6.setCell (p := ⟨wr.heap.size, 4, none⟩) (Nat.le_refl _) (.slice B' V2 d')
      have hO7 : (w6.setCell ⟨wr.heap.size, 4, none⟩ (.slice B' V2 d')).heap[wr.heap.size]? = some (.cells (ndRow (B', V2, d') v).toArray 72 (0, 0)) :=
        setCell_row (vs := [.int .u8 (v.kind : Int), .int .i64 v.value, .int .i64 v.feature, .float .f64 v.thr, .slice V1 V2 V3, .int .u8 (v.missing : Int), .int .i64 v.left, .int .i64 v.right]) ((hg6.block _ (by omega) (by simp)).trans HO5.out) 4 _
      have hm7 : Mine 3 (w6.setCell ⟨wr.heap.size, 4, none⟩ (.slice B' V2 d')) w.heap.size B' V2 d' (i64s v.cats) := hm6.kept (setCell_grownBy w6 wr.heap.size 4 _) (by
        cases hB : blockOf B' with
        | none => exact .inl rfl
        | some k => have := hb6 k hB; exact .inr (by intro e; injection e with e; omega))
      generalize w6.setCell ⟨wr.heap.size, 4, none⟩ (.slice B' V2 d') = w7 at b7 hO7 hm7 ⊢
      unfold ndRow ndCells at hO7
      have q0 : w7.cell? ⟨wr.heap.size, 0, none⟩ = some (.int .u8 (v.kind : Int)) := cell_of_block hO7 rfl
      have q1 : w7.cell? ⟨wr.heap.size, 1, none⟩ = some (.int .i64 v.value) := cell_of_block hO7 rfl
      have q2 : w7.cell? ⟨wr.heap.size, 2, none⟩ = some (.int .i64 v.feature) := cell_of_block hO7 rfl
      have q3 : w7.cell? ⟨wr.heap.size, 3, none⟩ = some (.float .f64 v.thr) := cell_of_block hO7 rfl
      have q4 : w7.cell? ⟨wr.heap.size, 4, none⟩ = some (.slice B' V2 d') := cell_of_block hO7 rfl
      have q5 : w7.cell? ⟨wr.heap.size, 5, none⟩ = some (.int .u8 (v.missing : Int)) := cell_of_block hO7 rfl
      have q6 : w7.cell? ⟨wr.heap.size, 6, none⟩ = some (.int .i64 v.left) := cell_of_block hO7 rfl
      have q7 : w7.cell? ⟨wr.heap.size, 7, none⟩ = some (.int .i64 v.right) := cell_of_block hO7 rfl
      have hn8 := heap_alloc_new w7 (.cells #[.int .u8 (v.kind : Int), .int .i64 v.value, .int .i64 v.feature, .float .f64 v.thr, .slice B' V2 d', .int .u8 (v.missing : Int), .int .i64 v.left, .int .i64 v.right] 72)
      have b8 := b7.alloc b7.size (.cells #[.int .u8 (v.kind : Int), .int .i64 v.value, .int .i64 v.feature, .float .f64 v.thr, .slice B' V2 d', .int .u8 (v.missing : Int), .int .i64 v.left, .int .i64 v.right] 72)
      have hm8 := hm7.below ((Below.refl w7.heap.size w7).alloc (Nat.le_refl _) (.cells #[.int .u8 (v.kind : Int), .int .i64 v.value, .int .i64 v.feature, .float .f64 v.thr, .slice B' V2 d', .int .u8 (v.missing : Int), .int .i64 v.left, .int .i64 v.right] 72))
      obtain ⟨hs, hh⟩ := hown.hds
      have hmk8 := hh.2.1.below b8
      have HB8 := Lib.hid b8
      have HM8 := Lib.hid hm8
      have HN8 := Lib.hid hn8
      have HWB := Lib.hid (below_then hbr hwz b8)
      have hb8z := HWB.out.size
      have HLT := Lib.hid (fun k hk => (hmk8.lt k hk).1)
      clear b5 b6 b7 b8 hm7 hm8 hO7 hn8 hz5 c4 hbr
      go_upto_region 8 with (at_builtin; refine app_boxK w.heap.size rfl _ _ _ _ _ 8 80 rfl Tryz.underlying63 Tryz.info_node rfl (by omega) A1 i c1 (flatNds hs (nds.take i)) w7.heap.size 1 1 _ _ HN8.out rfl rfl rfl (ndRow_one (B', V2, d') v) hmk8 hb8z (by omega) (by omega) ?_; rintro A' c' w9 hm9 hg9 hA9)
      have hownC : CatOwn (w7.alloc (.cells #[.int .u8 (v.kind : Int), .int .i64 v.value, .int .i64 v.feature, .float .f64 v.thr, .slice B' V2 d', .int .u8 (v.missing : Int), .int .i64 v.left, .int .i64 v.right] 72)) w.heap.size (B', V2, d') v.cats := .inr HM8.out
      have hown9 := OwnNds.snoc hh hown.rng HB8.out hownC ⟨hk1, hk2⟩ HCR.out hm9 hg9
      rw [← HTS.out] at hown9
      have hb9 := below_grown HWB.out hb8z hg9 HLT.out
      clear q0 q1 q2 q3 q4 q5 q6 q7 hm9 hg9 hA9 hmk8
      go_wp2
      go_roundw
      case rel => exact ⟨i + 1, A', c', rfl, by go_num, hlt, hown9, hb9⟩
      case measure => simp [intOf]; omega
    · obtain rfl : i = n := by omega
      have m1 : decide ((i : Int) < (i : Int)) = false := by simp
      rw [List.take_of_length_le (by rw [HLEN.out]; exact Nat.le_refl _)] at hown
      have HO := Lib.hid hown
      have HB := Lib.hid hbr
      clear hown hbr
      go_wp2
      go_ret
      exact ⟨A1, c1, rfl, HO.out, HB.out⟩

end Go.Proofs.YtekcpapkicmckaaGreatDoor
