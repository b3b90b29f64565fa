/- Programs among a row's arguments: from the reading to the walk's words; sizes out of the bulk. -/
import Derived.Test.YtekcpapkicmckaaGreatDoorLad
import Derived.Test.YtekcpapkicmckaaGreatDoorRnn
import Derived.Deep.Slices
import Derived.Deep.Fields
import Derived.ChangeSame
import Derived.ChangeSlices
import Derived.Lib.SmallJoins
import Derived.Laws.Cover2
namespace Go.Proofs.YtekcpapkicmckaaGreatDoor
open Go.ChangeShapes Go.WideShapes Go.Deep Go.Joins Go.RowKit

/-! ### bulk -/
theorem bulk_pos {H : Type} (d : DataW H) : 1 ≤ Rows.uptoBulk d := by
  cases d with
  | lit l => cases l <;> simp [Rows.uptoBulk]
  | _ => simp [Rows.uptoBulk]
theorem bulk_len {H : Type} : ∀ l : List (DataW H), l.length ≤ Rows.uptoBulkAll l
  | [] => Nat.zero_le _
  | x :: r => by
    have h1 := bulk_pos x
    have h2 := bulk_len r
    simp only [Rows.uptoBulkAll, List.length_cons]
    omega
theorem bulk_mem {H : Type} {d : DataW H} : ∀ {l : List (DataW H)}, d ∈ l → Rows.uptoBulk d ≤ Rows.uptoBulkAll l
  | x :: r, h => by
    simp only [Rows.uptoBulkAll]
    rcases List.mem_cons.1 h with rfl | h
    · omega
    · have := bulk_mem h
      omega
theorem bulk_small {H : Type} {l : List (DataW H)} (hk : Rows.uptoSmall H l = true) {d : DataW H} (hd : d ∈ l) : Rows.uptoBulk d ≤ 1048576 := by
  have h1 : Rows.uptoBulkAll l ≤ 1048576 := of_decide_eq_true hk
  have h2 := bulk_mem hd
  omega

/-- a list of what is there at each place -/
theorem list_of {α : Type} {R : Nat → α → Prop} : ∀ n, (∀ i, i < n → ∃ v, R i v) → ∃ l : List α, l.length = n ∧ ∀ i (h : i < l.length), R i l[i]
  | 0, _ => ⟨[], rfl, fun i h => absurd h (Nat.not_lt_zero i)⟩
  | n + 1, h => by
    obtain ⟨l, hl, hr⟩ := list_of n (fun i hi => h i (by omega))
    obtain ⟨v, hv⟩ := h n (Nat.lt_succ_self n)
    refine ⟨l ++ [v], by simp [hl], fun i hi => ?_⟩
    by_cases hin : i < l.length
    · rw [List.getElem_append_left hin]; exact hr i hin
    · have : i = n := by simp at hi; omega
      subst this
      rw [List.getElem_append_right (by omega)]
      simpa [hl] using hv

/-- an address with a cell is a row's place -/
theorem addr_row {w : World} {a : Addr} {i : Nat} {v : Value} (hi : i = 0) (h : w.cell? (a.add i) = some v) : ∃ b o, a = ⟨b, o, none⟩ := by
  subst hi
  obtain ⟨b, o, s⟩ := a
  cases s with
  | none => exact ⟨b, o, rfl⟩
  | some k =>
    exfalso
    simp [Addr.add, World.cell?] at h
    split at h <;> simp at h

section
variable {H : Type} {enc : TypeId × Value → H} {P : Program} {w : World} {base : Nat} {spare : Nat → Bool} {held : Bool}
theorem trod_float {t : TypeId} {fuel : Nat} {cs : List Value} {x : DataW H × List MemPlace} {k : FloatKind} (ht : P.underlying t = some (.float k)) (h : DataW.trod enc P w base spare held fuel t cs = some x) : ∃ b, cs = [.float k b] ∧ x = (.lit (.float k b), []) ∧ (Lit.float k b).wf = true := by
  cases fuel with
  | zero => simp [DataW.trod] at h
  | succ n =>
    unfold DataW.trod at h
    rw [ht] at h
    split at h <;> simp_all
theorem open_slice_fields {t e : TypeId} {fs : Array Field} {fuel : Nat} {cs : List Value} {x : DataW H × List MemPlace} (ht : P.underlying t = some (.slice e)) (he : P.underlying e = some (.struct fs))
    (hone : oneCellFields P fs = true) (hC : P.cellsOf e = fs.size) (h : DataW.trod enc P w base spare held fuel t cs = some x) :
    (cs = [.slice none 0 0] ∧ x = (.nil, [])) ∨
    ∃ (a : Addr) (len cap m : Nat) (D : Nat → DataW H) (Pl : Nat → List MemPlace), cs = [.slice (some a) len cap] ∧ base ≤ a.block ∧ len ≤ cap ∧ cap ≤ maxLen ∧ m = (if spare a.block then cap else len) ∧
      x = (.slice ((List.range len).map D) ((List.range (m - len)).map fun j => D (len + j)), MemPlace.row a (m * fs.size) ++ (List.range m).flatMap Pl) ∧
      ∀ i, i < m → ∃ (ys : List (DataW H × List MemPlace)) (n : Nat), D i = .agg (ys.map (·.1)) ∧ Pl i = ys.flatMap (·.2) ∧ ys.length = fs.size ∧
        ∀ (j : Nat) (f : Field), fs[j]? = some f → ∃ (v : Value) (y : DataW H × List MemPlace), w.cell? (a.add (i * fs.size + j)) = some v ∧ ys[j]? = some y ∧ DataW.trod enc P w base spare held n f.type [v] = some y := by
  rcases open_slice ht h with h0 | ⟨a, len, cap, m, n, D, Pl, hcs, hb, hl, hm, hmm, hx, hi⟩
  · exact .inl h0
  · refine .inr ⟨a, len, cap, m, D, Pl, hcs, hb, hl, hm, hmm, by rw [hC] at hx; exact hx, fun i him => ?_⟩
    obtain ⟨cs', hc, ht'⟩ := hi i him
    rw [hC] at hc
    obtain ⟨ys, n', hn', hy, hlen, hyl, hf⟩ := DataW.trod_struct he ht'
    obtain ⟨_, hcl, hat⟩ := World.cells?_some hc
    simp only [Prod.mk.injEq] at hy
    refine ⟨ys, n', hy.1, hy.2, hyl, fun j f hj => ?_⟩
    obtain ⟨ho, hk⟩ := hone_of hone j f hj
    have hjl : j < fs.size := (Array.getElem?_eq_some_iff.1 hj).1
    have hcell := hat j hjl
    have hv : cs'[j]? = some (cs'[j]'(by omega)) := List.getElem?_eq_getElem (by omega)
    have h1 := hf j f hj
    rw [ho, hk] at h1
    have hone' : (cs'.drop j).take 1 = [cs'[j]'(by omega)] := by
      rw [List.drop_eq_getElem_cons (by omega)]
      rfl
    rw [hone'] at h1
    have hys : ys[j]? = some (ys[j]'(by omega)) := List.getElem?_eq_getElem (by omega)
    refine ⟨_, _, ?_, hys, h1.trans hys⟩
    rw [← Go.Deep.add_add, hcell, hv]
end

theorem wf_i64 {z : Int} (h : (Lit.int .i64 z).wf = true) : -9223372036854775808 ≤ z ∧ z ≤ 9223372036854775807 := by
  simp [Lit.wf] at h
  have e1 : IntKind.i64.min = -9223372036854775808 := by decide
  have e2 : IntKind.i64.max = 9223372036854775807 := by decide
  omega
theorem wf_u8 {z : Int} (h : (Lit.int .u8 z).wf = true) : 0 ≤ z ∧ z < 256 := by
  simp [Lit.wf] at h
  have e1 : IntKind.u8.min = 0 := by decide
  have e2 : IntKind.u8.max = 255 := by decide
  omega
theorem wf_f64 {b : Nat} (h : (Lit.float .f64 b).wf = true) : b < 18446744073709551616 := by
  simpa [Lit.wf] using h

section
variable {H : Type} {enc : TypeId × Value → H} {W : World} {b0 : Nat} {held : Bool}
/-- a slice of whole numbers that came in -/
theorem open_list {t e : TypeId} {fuel : Nat} {v : Value} {y : DataW H × List MemPlace} (ht : Tryz.prog.underlying t = some (.slice e)) (he : Tryz.prog.underlying e = some (.int .i64)) (hc1 : Tryz.prog.cellsOf e = 1) (h : DataW.trod enc Tryz.prog W b0 (fun _ => true) held fuel t [v] = some y) (hb : Rows.uptoBulk y.1 ≤ 1048576) :
    ∃ B m d zs, v = .slice B m d ∧ Ints W B m d zs ∧ zs.length ≤ Rows.uptoBulk y.1 := by
  rcases open_ints ht he hc1 h with ⟨hcs, hy⟩ | ⟨a, l, c, zs, hcs, _, hl, hm, hz, hy, hcell, hwz⟩
  · simp only [List.cons.injEq, and_true] at hcs
    exact ⟨none, 0, 0, [], hcs, ⟨Sl.nil W 0, by simp⟩, by simp⟩
  · simp only [List.cons.injEq, and_true] at hcs
    simp only [if_true] at hz
    have hlen : (zs.take l).length = l := by simp; omega
    have hbl : l ≤ Rows.uptoBulk y.1 := by
      rw [hy]
      simp only [Rows.uptoBulk]
      have h1 := bulk_len (lits (H := H) .i64 (zs.take l))
      have h2 : (lits (H := H) .i64 (zs.take l)).length = l := by simp [lits]; omega
      omega
    refine ⟨some a, l, c, zs.take l, hcs, ⟨⟨by rw [i64s_length, hlen], hl, by omega, fun h0 => ?_⟩, fun z hz' => wf_i64 (hwz z (List.mem_of_mem_take hz'))⟩, by omega⟩
    obtain ⟨b, o, rfl⟩ := addr_row rfl (hcell 0 (by omega))
    refine ⟨b, o, rfl, fun j hj => ?_⟩
    rw [i64s_getD (by omega)]
    have h2 := hcell j (by omega)
    rw [add_row] at h2
    rw [h2, List.getD_eq_getElem?_getD, List.getD_eq_getElem?_getD, List.getElem?_take, if_pos hj]

set_option maxRecDepth 100000 in
/-- a slice of floats that came in -/
theorem open_floats {r : Reach} {b1 : Nat} {v : Value} {d : DataW H} {p : List MemPlace} (hv : Value.okWide Tryz.prog W r b1 41 v) (h : DataW.Trod enc Tryz.prog W b0 (fun _ => true) held 41 v d p) (hb : Rows.uptoBulk d ≤ 1048576) :
    ∃ A n c xs, v = .slice A n c ∧ Sl W A n c (fls xs) := by
  obtain ⟨a0, len0, cap0, rfl⟩ := okWide_slice Tryz.underlying41 hv
  obtain ⟨fuel, hf⟩ := h
  rcases open_slice Tryz.underlying41 hf with ⟨hcs, _⟩ | ⟨a, len, cap, m, n, D, Pl, hcs, _, hl, hm, hmm, hy, hi⟩
  · simp [Value.cells] at hcs
    obtain ⟨rfl, rfl, rfl⟩ := hcs
    exact ⟨none, 0, 0, [], rfl, Sl.nil W 0⟩
  · simp [Value.cells] at hcs
    obtain ⟨rfl, rfl, rfl⟩ := hcs
    simp only [if_true] at hmm
    subst hmm
    have hlb : len0 ≤ 1048576 := by
      have e := (Prod.mk.inj hy).1
      rw [e] at hb
      simp only [Rows.uptoBulk] at hb
      have h3 := bulk_len ((List.range len0).map D)
      simp only [List.length_map, List.length_range] at h3
      omega
    have key : ∀ i, i < len0 → ∃ x : Nat, W.cell? (a.add i) = some (.float .f64 x) := by
      intro i hil
      obtain ⟨cs', hc, ht'⟩ := hi i (by omega)
      rw [show Tryz.prog.cellsOf 69 = 1 by kernel_rfl, Nat.mul_one] at hc
      obtain ⟨x, rfl, _, _⟩ := trod_float Tryz.underlying69 ht'
      have h1 := (World.cells?_some hc).2.2 0 (by omega)
      exact ⟨x, by simpa [Addr.add] using h1⟩
    obtain ⟨xs, hxl, hxc⟩ := list_of len0 key
    refine ⟨some a, len0, _, xs, rfl, ⟨by rw [fls_length]; exact hxl, hl, by omega, fun h0 => ?_⟩⟩
    obtain ⟨b, o, rfl⟩ := addr_row rfl (hxc 0 (by omega))
    refine ⟨b, o, rfl, fun j hj => ?_⟩
    have h2 := hxc j (by omega)
    rw [add_row] at h2
    rw [h2, fls_getD (by omega), List.getD_eq_getElem?_getD, List.getElem?_eq_getElem (show j < xs.length by omega)]
    rfl
set_option maxRecDepth 100000 in
/-- a program that came in -/
theorem open_program {r : Reach} {b1 : Nat} {v : Value} {d : DataW H} {p : List MemPlace} (hv : Value.okWide Tryz.prog W r b1 30 v) (h : DataW.Trod enc Tryz.prog W b0 (fun _ => true) held 30 v d p) (hb : Rows.uptoBulk d ≤ 1048576) :
    ∃ F O A n c ops, v = .agg #[.int .i64 F, .int .i64 O, .slice A n c] ∧ OpsAt W A n c ops ∧ n ≤ 1048576 ∧ ∀ u ∈ ops, u.cats.length ≤ 1048576 := by
  obtain ⟨v0, v1, v2, y0, y1, y2, f, rfl, rfl, _, h0, h1, h2⟩ := open_agg3 Tryz.underlying30 (by kernel_rfl) (by kernel_rfl) hv h
  obtain ⟨F, hF, _, _⟩ := DataW.trod_int Tryz.underlying3 h0
  obtain ⟨O, hO, _, _⟩ := DataW.trod_int Tryz.underlying3 h1
  simp only [List.cons.injEq, and_true] at hF hO
  subst hF hO
  have hb2 : Rows.uptoBulk y2.1 ≤ 1048576 := by
    have := bulk_mem (d := y2.1) (l := [y0.1, y1.1, y2.1]) (by simp)
    simp only [Rows.uptoBulk] at hb
    omega
  rcases open_slice_fields Tryz.underlying28 Tryz.underlying75 (by kernel_rfl) (by kernel_rfl) h2 with ⟨hcs, _⟩ | ⟨a, len, cap, m, D, Pl, hcs, _, hl, hm, hmm, hy2, hel⟩
  · simp only [List.cons.injEq, and_true] at hcs
    exact ⟨F, O, none, 0, 0, [], by rw [hcs], ⟨rfl, Nat.le_refl _, by omega, fun h => absurd h (by omega)⟩, by omega, by simp⟩
  · simp only [List.cons.injEq, and_true] at hcs
    simp only [if_true] at hmm
    subst hmm
    rw [hy2] at hb2
    simp only [Rows.uptoBulk] at hb2
    have hlb : len ≤ 1048576 := by
      have h3 := bulk_len ((List.range len).map D)
      simp only [List.length_map, List.length_range] at h3
      omega
    have key : ∀ i, i < len → ∃ u : OpV, (∀ b o, a = ⟨b, o, none⟩ → OpIn W b (o + i * 8) u) ∧ u.cats.length ≤ 1048576 := by
      intro i hi
      obtain ⟨ys, n', hD, _, hyl, hf⟩ := hel i (by omega)
      obtain ⟨x0, z0, c0, g0, t0⟩ := hf 0 _ rfl
      obtain ⟨x1, z1, c1, g1, t1⟩ := hf 1 _ rfl
      obtain ⟨x2, z2, c2, g2, t2⟩ := hf 2 _ rfl
      obtain ⟨x3, z3, c3, g3, t3⟩ := hf 3 _ rfl
      obtain ⟨x4, z4, c4, g4, t4⟩ := hf 4 _ rfl
      obtain ⟨x5, z5, c5, g5, t5⟩ := hf 5 _ rfl
      obtain ⟨x6, z6, c6, g6, t6⟩ := hf 6 _ rfl
      obtain ⟨x7, z7, c7, g7, t7⟩ := hf 7 _ rfl
      obtain ⟨k0, e0, _, w0⟩ := DataW.trod_int Tryz.underlying73 t0
      obtain ⟨k1, e1, _, w1⟩ := DataW.trod_int Tryz.underlying3 t1
      obtain ⟨k2, e2, _, w2⟩ := trod_float Tryz.underlying69 t2
      obtain ⟨k4, e4, _, w4⟩ := DataW.trod_int Tryz.underlying70 t4
      obtain ⟨k5, e5, _, w5⟩ := DataW.trod_int Tryz.underlying3 t5
      obtain ⟨k6, e6, _, w6⟩ := DataW.trod_int Tryz.underlying2 t6
      obtain ⟨k7, e7, _, w7⟩ := DataW.trod_int Tryz.underlying3 t7
      have hb3 : Rows.uptoBulk z3.1 ≤ 1048576 := by
        have h3 := bulk_mem (d := z3.1) (l := ys.map (·.1)) (List.mem_map.2 ⟨z3, List.mem_of_getElem? g3, rfl⟩)
        have h4 : Rows.uptoBulk (D i) ≤ Rows.uptoBulkAll ((List.range len).map D) := bulk_mem (List.mem_map.2 ⟨i, List.mem_range.2 hi, rfl⟩)
        rw [hD] at h4
        simp only [Rows.uptoBulk] at h4
        omega
      obtain ⟨B, mm, d, zs, e3, hints, hzs⟩ := open_list Tryz.underlying44 Tryz.underlying3 (by kernel_rfl) t3 hb3
      simp only [List.cons.injEq, and_true] at e0 e1 e2 e4 e5 e6 e7
      subst e0 e1 e2 e3 e4 e5 e6 e7
      have u0 := wf_u8 w0
      have u4 := wf_u8 w4
      refine ⟨⟨k0.toNat, k1, k2, zs, k4.toNat, k5, k6, k7⟩, fun b o ha => ?_, Nat.le_trans hzs hb3⟩
      subst ha
      rw [add_row] at c0 c1 c2 c3 c4 c5 c6 c7
      refine ⟨B, mm, d, ?_, hints, ⟨by simp only; omega, wf_i64 w1, wf_f64 w2, by simp only; omega, wf_i64 w5, wf_i64 w6, wf_i64 w7⟩⟩
      intro k v hk
      have hk8 : k < 8 := (List.getElem?_eq_some_iff.1 hk).1
      have i0 : ((k0.toNat : Nat) : Int) = k0 := by omega
      have i4 : ((k4.toNat : Nat) : Int) = k4 := by omega
      simp only [opCells, i0, i4] at hk
      rw [Nat.add_assoc]
      rcases (show k = 0 ∨ k = 1 ∨ k = 2 ∨ k = 3 ∨ k = 4 ∨ k = 5 ∨ k = 6 ∨ k = 7 by omega) with rfl | rfl | rfl | rfl | rfl | rfl | rfl | rfl
      all_goals
        simp at hk
        subst hk
        assumption
    obtain ⟨ops, hol, hop⟩ := list_of len key
    refine ⟨F, O, some a, len, _, ops, by rw [hcs], ⟨hol, hl, by omega, fun h => ?_⟩, hlb, fun u hu => ?_⟩
    · obtain ⟨ys, n', _, _, _, hf⟩ := hel 0 (by omega)
      obtain ⟨x0, z0, c0, _⟩ := hf 0 _ rfl
      obtain ⟨b, o, rfl⟩ := addr_row (by simp) c0
      exact ⟨b, o, rfl, fun j hj => (hop j hj).1 b o rfl⟩
    · obtain ⟨j, hj, rfl⟩ := List.mem_iff_getElem.1 hu
      exact (hop j hj).2
end

end Go.Proofs.YtekcpapkicmckaaGreatDoor
