/- An ensemble among a row's arguments: from the reading to the walk's words. -/
import Derived.Test.YtekcpapkicmckaaGreatDoorArg
import Derived.Test.YtekcpapkicmckaaGreatDoorCpt
namespace Go.Proofs.YtekcpapkicmckaaGreatDoor
open Go.ChangeShapes Go.WideShapes Go.Deep Go.Joins Go.RowKit

section
variable {H : Type} {enc : TypeId × Value → H} {P : Program} {w : World} {base : Nat} {spare : Nat → Bool} {held : Bool}
theorem open_agg5 {r : Reach} {b0 : Nat} {t : TypeId} {f0 f1 f2 f3 f4 : Field} {v : Value} {d : DataW H} {p : List MemPlace} (hs : P.underlying t = some (.struct #[f0, f1, f2, f3, f4])) (hone : oneCellFields P #[f0, f1, f2, f3, f4] = true) (hC : P.cellsOf t = 5)
    (hv : Value.okWide P w r b0 t v) (h : DataW.Trod enc P w base spare held t v d p) :
    ∃ (v0 v1 v2 v3 v4 : Value) (y0 y1 y2 y3 y4 : DataW H × List MemPlace) (n : Nat), v = .agg #[v0, v1, v2, v3, v4] ∧ d = .agg [y0.1, y1.1, y2.1, y3.1, y4.1] ∧
      DataW.trod enc P w base spare held n f0.type [v0] = some y0 ∧ DataW.trod enc P w base spare held n f1.type [v1] = some y1 ∧ DataW.trod enc P w base spare held n f2.type [v2] = some y2 ∧ DataW.trod enc P w base spare held n f3.type [v3] = some y3 ∧ DataW.trod enc P w base spare held n f4.type [v4] = some y4 := by
  obtain ⟨cs, rfl, hsz⟩ := okWide_struct hs hv
  obtain ⟨fuel, hf⟩ := h
  have h5 : cs.size = 5 := hsz.trans hC
  obtain ⟨l⟩ := cs
  obtain ⟨c0, c1, c2, c3, c4, rfl⟩ : ∃ c0 c1 c2 c3 c4, l = [c0, c1, c2, c3, c4] := by
    match l, h5 with
    | [c0, c1, c2, c3, c4], _ => exact ⟨c0, c1, c2, c3, c4, rfl⟩
  obtain ⟨ys, n, hn, hy, hlen, hyl, hff⟩ := DataW.trod_struct hs hf
  obtain ⟨y0, y1, y2, y3, y4, rfl⟩ : ∃ c0 c1 c2 c3 c4, ys = [c0, c1, c2, c3, c4] := by
    match ys, (show ys.length = 5 from hyl) with
    | [c0, c1, c2, c3, c4], _ => exact ⟨c0, c1, c2, c3, c4, rfl⟩
  obtain ⟨o0, k0⟩ := hone_of hone 0 f0 rfl
  obtain ⟨o1, k1⟩ := hone_of hone 1 f1 rfl
  obtain ⟨o2, k2⟩ := hone_of hone 2 f2 rfl
  obtain ⟨o3, k3⟩ := hone_of hone 3 f3 rfl
  obtain ⟨o4, k4⟩ := hone_of hone 4 f4 rfl
  have g0 := hff 0 f0 rfl
  have g1 := hff 1 f1 rfl
  have g2 := hff 2 f2 rfl
  have g3 := hff 3 f3 rfl
  have g4 := hff 4 f4 rfl
  simp only [Prod.mk.injEq] at hy
  exact ⟨c0, c1, c2, c3, c4, y0, y1, y2, y3, y4, n, rfl, hy.1, by simpa [Value.cells, o0, k0] using g0, by simpa [Value.cells, o1, k1] using g1, by simpa [Value.cells, o2, k2] using g2, by simpa [Value.cells, o3, k3] using g3, by simpa [Value.cells, o4, k4] using g4⟩
end

/-- texts among values -/
def strs (bs : List ByteArray) : List Value := bs.map fun s => .string s
theorem strs_length (bs : List ByteArray) : (strs bs).length = bs.length := by simp [strs]
theorem strs_getD {bs : List ByteArray} {j : Nat} (h : j < bs.length) : (strs bs).getD j undef = .string bs[j] := by
  simp [strs, List.getD_eq_getElem?_getD, List.getElem?_eq_getElem h]

/-- sums of bulks -/
theorem bulk_sum {H : Type} {D : Nat → DataW H} {f : Nat → Nat} : ∀ n, (∀ i, i < n → f i ≤ Rows.uptoBulk (D i)) → ((List.range n).map f).sum ≤ Rows.uptoBulkAll ((List.range n).map D) := by
  have key : ∀ (l : List Nat), (∀ i ∈ l, f i ≤ Rows.uptoBulk (D i)) → (l.map f).sum ≤ Rows.uptoBulkAll (l.map D) := by
    intro l
    induction l with
    | nil => intro _; simp
    | cons i l ih =>
      intro h
      have h1 := h i (List.mem_cons_self ..)
      have h2 := ih (fun j hj => h j (List.mem_cons_of_mem _ hj))
      simp only [List.map_cons, List.sum_cons, Rows.uptoBulkAll]
      omega
  exact fun n h => key _ (fun i hi => h i (List.mem_range.1 hi))

section
variable {H : Type} {enc : TypeId × Value → H} {W : World} {b0 : Nat} {held : Bool}
/-- a slice of texts that came in -/
theorem open_strings {fuel : Nat} {v : Value} {y : DataW H × List MemPlace} (h : DataW.trod enc Tryz.prog W b0 (fun _ => true) held fuel 22 [v] = some y) (hb : Rows.uptoBulk y.1 ≤ 1048576) :
    ∃ A n c bs, v = .slice A n c ∧ Sl W A n c (strs bs) ∧ n ≤ 1048576 ∧ ∀ s ∈ bs, s.size ≤ 1048576 := by
  rcases open_slice Tryz.underlying22 h with ⟨hcs, _⟩ | ⟨a, len, cap, m, n, D, Pl, hcs, _, hl, hm, hmm, hy, hi⟩
  · simp only [List.cons.injEq, and_true] at hcs
    exact ⟨none, 0, 0, [], hcs, Sl.nil W 0, by omega, by simp⟩
  · simp only [List.cons.injEq, and_true] at hcs
    simp only [if_true] at hmm
    subst hmm
    have e := (Prod.mk.inj hy).1
    rw [e] at hb
    simp only [Rows.uptoBulk] at hb
    have hlb : len ≤ 1048576 := by
      have h3 := bulk_len ((List.range len).map D)
      simp only [List.length_map, List.length_range] at h3
      omega
    have key : ∀ i, i < len → ∃ s : ByteArray, W.cell? (a.add i) = some (.string s) ∧ s.size ≤ 1048576 := by
      intro i hil
      obtain ⟨cs', hc, ht'⟩ := hi i (by omega)
      rw [show Tryz.prog.cellsOf 9 = 1 by kernel_rfl, Nat.mul_one] at hc
      obtain ⟨s, rfl, hs2, hs3⟩ := DataW.trod_string Tryz.underlying9 ht'
      have h1 := (World.cells?_some hc).2.2 0 (by omega)
      have h4 : Rows.uptoBulk (D i) ≤ Rows.uptoBulkAll ((List.range len).map D) := bulk_mem (List.mem_map.2 ⟨i, List.mem_range.2 hil, rfl⟩)
      have h5 := (Prod.mk.inj hs2).1
      rw [h5] at h4
      simp only [Rows.uptoBulk] at h4
      have h6 : s.data.toList.length = s.size := Array.length_toList
      exact ⟨s, by simpa [Addr.add] using h1, by omega⟩
    obtain ⟨bs, hxl, hxc⟩ := list_of len key
    refine ⟨some a, len, _, bs, hcs, ⟨by rw [strs_length]; exact hxl, hl, by omega, fun h0 => ?_⟩, hlb, fun s hs => ?_⟩
    · obtain ⟨b, o, rfl⟩ := addr_row rfl (hxc 0 (by omega)).1
      refine ⟨b, o, rfl, fun j hj => ?_⟩
      have h2 := (hxc j (by omega)).1
      rw [add_row] at h2
      rw [h2, strs_getD (by omega)]
    · obtain ⟨j, hj, rfl⟩ := List.mem_iff_getElem.1 hs
      exact (hxc j hj).2

set_option maxRecDepth 100000 in
/-- a slice of nodes that came in -/
theorem open_nodes {fuel : Nat} {v : Value} {y : DataW H × List MemPlace} (h : DataW.trod enc Tryz.prog W b0 (fun _ => true) held fuel 63 [v] = some y) (hb : Rows.uptoBulk y.1 ≤ 1048576) :
    ∃ A n c nds, v = .slice A n c ∧ NdsAt W A n c nds ∧ n ≤ Rows.uptoBulk y.1 ∧ (∀ i, i < n → NdRng (ndAt nds i)) ∧ ∀ u ∈ nds, u.cats.length ≤ 1048576 := by
  rcases open_slice_fields Tryz.underlying63 Tryz.underlying72 (by kernel_rfl) (by kernel_rfl) h with ⟨hcs, _⟩ | ⟨a, len, cap, m, D, Pl, hcs, _, hl, hm, hmm, hy2, hel⟩
  · simp only [List.cons.injEq, and_true] at hcs
    exact ⟨none, 0, 0, [], hcs, ⟨rfl, Nat.le_refl _, by omega, fun h => absurd h (by omega)⟩, by omega, fun i hi => absurd hi (Nat.not_lt_zero i), by simp⟩
  · simp only [List.cons.injEq, and_true] at hcs
    simp only [if_true] at hmm
    subst hmm
    have hyb : Rows.uptoBulk y.1 = Rows.uptoBulk (DataW.slice ((List.range len).map D) ((List.range (m - len)).map fun j => D (len + j))) := by rw [hy2]
    rw [hyb] at hb ⊢
    simp only [Rows.uptoBulk] at hb
    have hlb : len ≤ Rows.uptoBulk (DataW.slice ((List.range len).map D) ((List.range (m - len)).map fun j => D (len + j))) := by
      have h3 := bulk_len ((List.range len).map D)
      simp only [List.length_map, List.length_range] at h3
      simp only [Rows.uptoBulk]
      omega
    have hlb2 : len ≤ 1048576 := by
      have h3 := bulk_len ((List.range len).map D)
      simp only [List.length_map, List.length_range] at h3
      omega
    have key : ∀ i, i < len → ∃ u : NdV, (∀ b o, a = ⟨b, o, none⟩ → NdIn W b (o + i * 8) u) ∧ u.cats.length ≤ 1048576 ∧ NdRng u := by
      intro i hi
      obtain ⟨ys, n', hD, _, hyl, hf⟩ := hel i (by omega)
      obtain ⟨x0, z0, c0, g0, t0⟩ := hf 0 _ rfl
      obtain ⟨x1, z1, c1, g1, t1⟩ := hf 1 _ rfl
      obtain ⟨x2, z2, c2, g2, t2⟩ := hf 2 _ rfl
      obtain ⟨x3, z3, c3, g3, t3⟩ := hf 3 _ rfl
      obtain ⟨x4, z4, c4, g4, t4⟩ := hf 4 _ rfl
      obtain ⟨x5, z5, c5, g5, t5⟩ := hf 5 _ rfl
      obtain ⟨x6, z6, c6, g6, t6⟩ := hf 6 _ rfl
      obtain ⟨x7, z7, c7, g7, t7⟩ := hf 7 _ rfl
      obtain ⟨k0, e0, _, w0⟩ := DataW.trod_int Tryz.underlying68 t0
      obtain ⟨k1, e1, _, w1⟩ := DataW.trod_int Tryz.underlying2 t1
      obtain ⟨k2, e2, _, w2⟩ := DataW.trod_int Tryz.underlying3 t2
      obtain ⟨k3, e3, _, w3⟩ := trod_float Tryz.underlying69 t3
      obtain ⟨k5, e5, _, w5⟩ := DataW.trod_int Tryz.underlying70 t5
      obtain ⟨k6, e6, _, w6⟩ := DataW.trod_int Tryz.underlying3 t6
      obtain ⟨k7, e7, _, w7⟩ := DataW.trod_int Tryz.underlying3 t7
      have hb3 : Rows.uptoBulk z4.1 ≤ 1048576 := by
        have h3 := bulk_mem (d := z4.1) (l := ys.map (·.1)) (List.mem_map.2 ⟨z4, List.mem_of_getElem? g4, rfl⟩)
        have h4 : Rows.uptoBulk (D i) ≤ Rows.uptoBulkAll ((List.range len).map D) := bulk_mem (List.mem_map.2 ⟨i, List.mem_range.2 hi, rfl⟩)
        rw [hD] at h4
        simp only [Rows.uptoBulk] at h4
        omega
      obtain ⟨B, mm, d, zs, e4, hints, hzs⟩ := open_list Tryz.underlying44 Tryz.underlying3 (by kernel_rfl) t4 hb3
      simp only [List.cons.injEq, and_true] at e0 e1 e2 e3 e5 e6 e7
      subst e0 e1 e2 e3 e4 e5 e6 e7
      have u0 := wf_u8 w0
      have u5 := wf_u8 w5
      refine ⟨⟨k0.toNat, k1, k2, k3, zs, k5.toNat, k6, k7⟩, fun b o ha => ?_, Nat.le_trans hzs hb3, ⟨wf_i64 w1, wf_f64 w3, by have := Nat.le_trans hzs hb3; simp only; omega⟩⟩
      subst ha
      rw [add_row] at c0 c1 c2 c3 c4 c5 c6 c7
      refine ⟨B, mm, d, ?_, hints, by simp only; omega, by simp only; omega⟩
      intro k v hk
      have hk8 : k < 8 := (List.getElem?_eq_some_iff.1 hk).1
      have i0 : ((k0.toNat : Nat) : Int) = k0 := by omega
      have i5 : ((k5.toNat : Nat) : Int) = k5 := by omega
      simp only [ndCells, i0, i5] at hk
      rw [Nat.add_assoc]
      rcases (show k = 0 ∨ k = 1 ∨ k = 2 ∨ k = 3 ∨ k = 4 ∨ k = 5 ∨ k = 6 ∨ k = 7 by omega) with rfl | rfl | rfl | rfl | rfl | rfl | rfl | rfl
      all_goals
        simp at hk
        subst hk
        assumption
    obtain ⟨nds, hol, hop⟩ := list_of len key
    refine ⟨some a, len, _, nds, hcs, ⟨hol, hl, by omega, fun h => ?_⟩, hlb, fun i hi => ?_, fun u hu => ?_⟩
    · obtain ⟨ys, n', _, _, _, hf⟩ := hel 0 (by omega)
      obtain ⟨x0, z0, c0, _⟩ := hf 0 _ rfl
      obtain ⟨b, o, rfl⟩ := addr_row (by simp) c0
      exact ⟨b, o, rfl, fun j hj => (hop j hj).1 b o rfl⟩
    · rw [ndAt_get (by omega)]
      exact (hop i (by omega)).2.2
    · obtain ⟨j, hj, rfl⟩ := List.mem_iff_getElem.1 hu
      exact (hop j hj).2.1

/-- an ensemble in memory: what its fields hold -/
structure EnsAt (W : World) (name : ByteArray) (FA : Option Addr) (fn fc : Nat) (BA : Option Addr) (bn bc : Nat) (TA : Option Addr) (tn tc : Nat) (feats : List ByteArray) (bs : List Int) (ts : List TrV) : Prop where
  nsize : name.size ≤ 1048576
  ftexts : Sl W FA fn fc (strs feats)
  fmany : fn ≤ 1048576
  fsize : ∀ s ∈ feats, s.size ≤ 1048576
  base : Ints W BA bn bc bs
  bmany : bn ≤ 1048576
  trees : TrsAt W TA tn tc ts
  tmany : tn ≤ 1048576
  nodes : manyNodes ts ≤ 1048576
  cats : ∀ t ∈ ts, ∀ u ∈ t.nds, u.cats.length ≤ 1048576

theorem manyNodes_sum : ∀ ts : List TrV, manyNodes ts = (ts.map fun t => t.nds.length).sum
  | [] => rfl
  | t :: l => by simp only [manyNodes, List.map_cons, List.sum_cons, manyNodes_sum l]

set_option maxRecDepth 100000 in
/-- an ensemble that came in -/
theorem open_ensemble {r : Reach} {b1 : Nat} {v : Value} {d : DataW H} {p : List MemPlace} (hv : Value.okWide Tryz.prog W r b1 26 v) (h : DataW.Trod enc Tryz.prog W b0 (fun _ => true) held 26 v d p) (hb : Rows.uptoBulk d ≤ 1048576) :
    ∃ name FA fn fc O BA bn bc TA tn tc feats bs ts, v = .agg #[.string name, .slice FA fn fc, .int .i64 O, .slice BA bn bc, .slice TA tn tc] ∧ EnsAt W name FA fn fc BA bn bc TA tn tc feats bs ts := by
  obtain ⟨v0, v1, v2, v3, v4, y0, y1, y2, y3, y4, f, rfl, rfl, h0, h1, h2, h3, h4⟩ := open_agg5 Tryz.underlying26 (by kernel_rfl) (by kernel_rfl) hv h
  obtain ⟨name, hN, hN2, _⟩ := DataW.trod_string Tryz.underlying9 h0
  obtain ⟨O, hO, _, _⟩ := DataW.trod_int Tryz.underlying3 h2
  simp only [List.cons.injEq, and_true] at hN hO
  subst hN hO
  have hbm : ∀ z ∈ [y0.1, y1.1, y2.1, y3.1, y4.1], Rows.uptoBulk z ≤ 1048576 := fun z hz => by
    have := bulk_mem (d := z) (l := [y0.1, y1.1, y2.1, y3.1, y4.1]) hz
    simp only [Rows.uptoBulk] at hb
    omega
  have hn0 : name.size ≤ 1048576 := by
    have h5 := hbm y0.1 (by simp)
    rw [(Prod.mk.inj hN2).1] at h5
    simp only [Rows.uptoBulk] at h5
    have h6 : name.data.toList.length = name.size := Array.length_toList
    omega
  obtain ⟨FA, fn, fc, feats, rfl, hf1, hf2, hf3⟩ := open_strings h1 (hbm y1.1 (by simp))
  obtain ⟨BA, bn, bc, bs, rfl, hb1, hb2⟩ := open_list Tryz.underlying23 Tryz.underlying2 (by kernel_rfl) h3 (hbm y3.1 (by simp))
  have hb4 := hbm y4.1 (by simp)
  have hbn : bn ≤ 1048576 := by
    have := hb1.len
    have := hbm y3.1 (by simp)
    omega
  rcases open_slice_fields Tryz.underlying24 Tryz.underlying65 (by kernel_rfl) (by kernel_rfl) h4 with ⟨hcs, _⟩ | ⟨a, len, cap, m, D, Pl, hcs, _, hl, hm, hmm, hy2, hel⟩
  · simp only [List.cons.injEq, and_true] at hcs
    exact ⟨name, FA, fn, fc, O, BA, bn, bc, none, 0, 0, feats, bs, [], by rw [hcs], ⟨hn0, hf1, hf2, hf3, hb1, hbn, ⟨rfl, Nat.le_refl _, by omega, fun h => absurd h (by omega)⟩, by omega, by simp [manyNodes], by simp⟩⟩
  · simp only [List.cons.injEq, and_true] at hcs
    simp only [if_true] at hmm
    subst hmm
    rw [hy2] at hb4
    simp only [Rows.uptoBulk] at hb4
    have hlb : len ≤ 1048576 := by
      have h3 := bulk_len ((List.range len).map D)
      simp only [List.length_map, List.length_range] at h3
      omega
    have key : ∀ i, i < len → ∃ t : TrV, (∀ b o, a = ⟨b, o, none⟩ → TrIn W b (o + i * 2) t) ∧ t.nds.length ≤ Rows.uptoBulk (D i) ∧ ∀ u ∈ t.nds, u.cats.length ≤ 1048576 := by
      intro i hi
      obtain ⟨ys, n', hD, _, hyl, hf⟩ := hel i (by omega)
      obtain ⟨x0, z0, c0, g0, t0⟩ := hf 0 _ rfl
      obtain ⟨x1, z1, c1, g1, t1⟩ := hf 1 _ rfl
      obtain ⟨k0, e0, _, w0⟩ := DataW.trod_int Tryz.underlying3 t0
      have hbi : Rows.uptoBulk (D i) ≤ Rows.uptoBulkAll ((List.range len).map D) := bulk_mem (List.mem_map.2 ⟨i, List.mem_range.2 hi, rfl⟩)
      have hbz : Rows.uptoBulk z1.1 ≤ Rows.uptoBulk (D i) := by
        have h3 := bulk_mem (d := z1.1) (l := ys.map (·.1)) (List.mem_map.2 ⟨z1, List.mem_of_getElem? g1, rfl⟩)
        rw [hD]
        simp only [Rows.uptoBulk]
        omega
      obtain ⟨B, mm, d, nds, e1, hn1, hn2, hn3, hn4⟩ := open_nodes t1 (by omega)
      simp only [List.cons.injEq, and_true] at e0
      subst e0 e1
      refine ⟨⟨k0, nds⟩, fun b o ha => ?_, by have := hn1.len; simp only; omega, hn4⟩
      subst ha
      rw [add_row] at c0 c1
      refine ⟨B, mm, d, ?_, hn1, by omega, wf_i64 w0, hn3⟩
      intro k v hk
      have hk2 : k < 2 := (List.getElem?_eq_some_iff.1 hk).1
      rw [Nat.add_assoc]
      rcases (show k = 0 ∨ k = 1 by omega) with rfl | rfl
      all_goals
        simp at hk
        subst hk
        assumption
    obtain ⟨ts, hol, hop⟩ := list_of len key
    refine ⟨name, FA, fn, fc, O, BA, bn, bc, some a, len, _, feats, bs, ts, by rw [hcs], ⟨hn0, hf1, hf2, hf3, hb1, hbn, ⟨hol, hl, by omega, fun h => ?_⟩, hlb, ?_, fun t ht => ?_⟩⟩
    · obtain ⟨ys, n', _, _, _, hf⟩ := hel 0 (by omega)
      obtain ⟨x0, z0, c0, _⟩ := hf 0 _ rfl
      obtain ⟨b, o, rfl⟩ := addr_row (by simp) c0
      exact ⟨b, o, rfl, fun j hj => (hop j hj).1 b o rfl⟩
    · rw [manyNodes_sum]
      have h7 := bulk_sum (D := D) (f := fun i => (ts.getD i ⟨0, []⟩).nds.length) len (fun i hi => by
        rw [List.getD_eq_getElem?_getD, List.getElem?_eq_getElem (by omega)]
        exact (hop i (by omega)).2.1)
      have h8 : (List.range len).map (fun i => (ts.getD i ⟨0, []⟩).nds.length) = ts.map fun t => t.nds.length := by
        apply List.ext_getElem (by simp [hol])
        intro i h1 h2
        simp only [List.getElem_map, List.getElem_range]
        rw [List.getD_eq_getElem?_getD, List.getElem?_eq_getElem (by simpa using h2)]
        rfl
      rw [h8] at h7
      omega
    · obtain ⟨j, hj, rfl⟩ := List.mem_iff_getElem.1 ht
      exact (hop j hj).2.2
end

end Go.Proofs.YtekcpapkicmckaaGreatDoor
