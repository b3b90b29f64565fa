/- thicketref07.Copy: an ensemble of its own memory. -/
import Derived.Test.YtekcpapkicmckaaGreatDoorNdc
import Derived.Test.YtekcpapkicmckaaGreatDoorEsm
import Derived.Test.YtekcpapkicmckaaGreatDoorLvs
import Derived.Test.YtekcpapkicmckaaGreatDoorRcd
namespace Go.Proofs.YtekcpapkicmckaaGreatDoor
open Go.RowKit

section
variable {w w' : World} {base : Nat} {A : Option Addr} {n c : Nat} {nds : List NdV}
/-- nodes of the call's own, where another block is written -/
theorem OwnNds.kept_row (h : OwnNds w base A n c nds) {row : Option Nat} (hg : w.grownBy w' row) (hne : ∀ k, base ≤ k → some k ≠ row) : OwnNds w' base A n c nds := by
  obtain ⟨hs, e, hm, hc⟩ := h.hds
  refine ⟨⟨hs, e, hm.kept hg ?_, fun j a b => (hc j a b).kept hg ?_⟩, h.rng⟩
  · cases hA : blockOf A with
    | none => exact .inl rfl
    | some k => exact .inr (hne k (hm.lt k hA).1)
  · cases hA : hdBlock hs[j] with
    | none => exact .inl rfl
    | some k => exact .inr (hne k ((hc j a b).lt k hA).1)
/-- nodes of the call's own, where a block of another type is written -/
theorem OwnNds.kept_ty (h : OwnNds w base A n c nds) {row : Option Nat} {T2 : TypeId} (hg : w.grownBy w' row) (hrow : ∀ r, row = some r → ∃ c2, w.heap[r]? = some (.cells c2 T2 (0, 0))) (h1 : 72 ≠ T2) (h2 : 3 ≠ T2) : OwnNds w' base A n c nds := by
  obtain ⟨hs, e, hm, hc⟩ := h.hds
  refine ⟨⟨hs, e, hm.kept hg ?_, fun j a b => (hc j a b).kept hg ?_⟩, h.rng⟩
  · cases hA : blockOf A with
    | none => exact .inl rfl
    | some k =>
      refine .inr (fun e2 => ?_)
      obtain ⟨c1, k1⟩ := hm.ty hA
      obtain ⟨c2, k2⟩ := hrow k e2.symm
      exact ty_ne k1 k2 h1 rfl
  · cases hA : hdBlock hs[j] with
    | none => exact .inl rfl
    | some k =>
      refine .inr (fun e2 => ?_)
      obtain ⟨c1, k1⟩ := (hc j a b).ty hA
      obtain ⟨c2, k2⟩ := hrow k e2.symm
      exact ty_ne k1 k2 h2 rfl
end

def trRow (h : Hd) (t : TrV) : List Value := [.int .i64 t.out, .slice h.1 h.2.1 h.2.2]
def flatTrs : List Hd → List TrV → List Value
  | h :: hs, v :: vs => trRow h v ++ flatTrs hs vs
  | _, _ => []
theorem trRow_length (h : Hd) (v : TrV) : (trRow h v).length = 2 := rfl
theorem flatTrs_length : ∀ (hs : List Hd) (ts : List TrV), hs.length = ts.length → (flatTrs hs ts).length = ts.length * 2
  | [], [], _ => rfl
  | h :: hs, v :: vs, e => by
    simp only [List.length_cons, Nat.add_right_cancel_iff] at e
    simp only [flatTrs, List.length_append, trRow_length, List.length_cons, flatTrs_length hs vs e]
    omega
theorem flatTrs_snoc : ∀ (hs : List Hd) (ts : List TrV) (h : Hd) (v : TrV), hs.length = ts.length → flatTrs (hs ++ [h]) (ts ++ [v]) = flatTrs hs ts ++ trRow h v
  | [], [], h, v, _ => by simp [flatTrs]
  | h1 :: hs, v1 :: vs, h, v, e => by
    simp only [List.length_cons, Nat.add_right_cancel_iff] at e
    simp only [List.cons_append, flatTrs, flatTrs_snoc hs vs h v e, List.append_assoc]
theorem flatTrs_get : ∀ (hs : List Hd) (ts : List TrV) (e : hs.length = ts.length) (j : Nat) (hj : j < ts.length) (k : Nat), k < 2 → (flatTrs hs ts)[j * 2 + k]? = (trRow (hs[j]'(by omega)) ts[j])[k]?
  | [], [], _, j, hj, k, _ => by simp at hj
  | h1 :: hs, v1 :: vs, e, 0, hj, k, hk => by
    simp only [flatTrs]
    rw [List.getElem?_append_left (by rw [trRow_length]; omega)]
    simp
  | h1 :: hs, v1 :: vs, e, j + 1, hj, k, hk => by
    simp only [List.length_cons, Nat.add_right_cancel_iff] at e
    simp only [flatTrs]
    rw [List.getElem?_append_right (by rw [trRow_length]; omega), trRow_length, show (j + 1) * 2 + k - 2 = j * 2 + k by omega, flatTrs_get hs vs e j (by simpa using hj) k hk]
    simp
theorem Tryz.info_tree : (Tryz.prog.info? 65).map (fun i => (i.zero, i.size, i.bytes)) = some (some (.agg #[.int .i64 0, .slice none 0 0]), 2, 32) := by kernel_rfl
theorem strs_one (bs : List ByteArray) : ∀ u ∈ strs bs, u.oneCell' = true := by
  intro u hu
  obtain ⟨x, _, rfl⟩ := List.mem_map.1 hu
  rfl

def TrHeads (w : World) (base : Nat) (A : Option Addr) (n c : Nat) (ts : List TrV) (hs : List Hd) : Prop :=
  hs.length = ts.length ∧ MineK 2 65 w base A n c (flatTrs hs ts) ∧ (∀ j (h1 : j < hs.length) (h2 : j < ts.length), OwnNds w base hs[j].1 hs[j].2.1 hs[j].2.2 ts[j].nds)
/-- a tree's numbers are such as its fields hold -/
structure TrRng (t : TrV) : Prop where
  many : t.nds.length ≤ 1000000000
  out : -9223372036854775808 ≤ t.out ∧ t.out ≤ 9223372036854775807
  nds : ∀ i, i < t.nds.length → NdRng (ndAt t.nds i)
/-- trees in memory of the call's own -/
structure OwnTrs (w : World) (base : Nat) (A : Option Addr) (n c : Nat) (ts : List TrV) : Prop where
  hds : ∃ hs : List Hd, TrHeads w base A n c ts hs
  rng : ∀ t ∈ ts, TrRng t

section
variable {w w' : World} {base : Nat} {A : Option Addr} {n c : Nat} {ts : List TrV}
theorem OwnTrs.nil (w : World) (base : Nat) : OwnTrs w base none 0 0 [] := ⟨⟨[], rfl, MineK.nil _ _ _ _, fun j h => by simp at h⟩, fun v hv => by simp at hv⟩
theorem OwnTrs.below (h : OwnTrs w base A n c ts) (hb : Below w.heap.size w w') : OwnTrs w' base A n c ts := by
  obtain ⟨hs, e, hm, hc⟩ := h.hds
  exact ⟨⟨hs, e, hm.below hb, fun j a b => (hc j a b).below hb⟩, h.rng⟩
theorem OwnTrs.kept_row (h : OwnTrs w base A n c ts) {row : Option Nat} (hg : w.grownBy w' row) (hne : ∀ k, base ≤ k → some k ≠ row) : OwnTrs w' base A n c ts := by
  obtain ⟨hs, e, hm, hc⟩ := h.hds
  refine ⟨⟨hs, e, hm.kept hg ?_, fun j a b => (hc j a b).kept_row hg hne⟩, h.rng⟩
  cases hA : blockOf A with
  | none => exact .inl rfl
  | some k => exact .inr (hne k (hm.lt k hA).1)
theorem OwnTrs.trsAt (h : OwnTrs w base A n c ts) : TrsAt w A n c ts := by
  obtain ⟨hs, e, hm, hc⟩ := h.hds
  have hlen : ts.length = n := by
    have := hm.len
    rw [flatTrs_length hs ts e] at this
    omega
  refine ⟨hlen, hm.cap, hm.big, fun hn => ?_⟩
  obtain ⟨g, rfl, hbg, hgl⟩ := hm.some_of hn
  refine ⟨g, 0, rfl, fun j hj => ?_⟩
  have hr := h.rng _ (List.getElem_mem hj)
  have hj2 := hc j (by omega) hj
  refine ⟨(hs[j]'(by omega)).1, (hs[j]'(by omega)).2.1, (hs[j]'(by omega)).2.2, fun k v hv => ?_, hj2.ndsAt, by rw [← hj2.len]; exact hr.many, hr.out, by rw [← hj2.len]; exact hr.nds⟩
  have hk : k < 2 := (List.getElem?_eq_some_iff.1 hv).1
  have hf := flatTrs_get hs ts e j hj k hk
  rw [show trRow (hs[j]'(by omega)) ts[j] = [.int .i64 ts[j].out, .slice (hs[j]'(by omega)).1 (hs[j]'(by omega)).2.1 (hs[j]'(by omega)).2.2] from rfl, hv] at hf
  have hcl := hm.cell (j * 2 + k) (by omega)
  rw [List.getD_eq_getElem?_getD, hf] at hcl
  rw [Nat.zero_add]
  exact hcl
theorem OwnTrs.snoc {w0 : World} {hs : List Hd} (hh : TrHeads w0 base A n c ts hs) (hrg : ∀ t ∈ ts, TrRng t) (hb : Below w0.heap.size w0 w) {hd : Hd} {t : TrV} {A' : Option Addr} {c' : Nat} (hnd : OwnNds w base hd.1 hd.2.1 hd.2.2 t.nds) (ht : TrRng t)
    (hm : MineK 2 65 w' base A' (n + 1) c' (flatTrs hs ts ++ trRow hd t)) (hg : w.grownBy w' (blockOf A)) : OwnTrs w' base A' (n + 1) c' (ts ++ [t]) := by
  obtain ⟨e, hmk, hc⟩ := hh
  have hmk2 := hmk.below hb
  have hcw : ∀ j (h1 : j < (hs ++ [hd]).length) (h2 : j < (ts ++ [t]).length), OwnNds w base (hs ++ [hd])[j].1 (hs ++ [hd])[j].2.1 (hs ++ [hd])[j].2.2 (ts ++ [t])[j].nds := by
    intro j a b
    by_cases hj : j < ts.length
    · have h1 : (hs ++ [hd])[j] = hs[j]'(by omega) := List.getElem_append_left (by omega)
      have h2 : (ts ++ [t])[j] = ts[j] := List.getElem_append_left hj
      rw [h1, h2]
      exact (hc j (by omega) hj).below hb
    · have hj' : j = ts.length := by simp at b; omega
      subst hj'
      have h1 : (hs ++ [hd])[ts.length] = hd := by simp [← e]
      have h2 : (ts ++ [t])[ts.length] = t := by simp
      rw [h1, h2]
      exact hnd
  refine ⟨⟨hs ++ [hd], by simp [e], by rw [flatTrs_snoc hs ts hd t e]; exact hm, fun j a b => (hcw j a b).kept_ty hg (fun r hr => hmk2.ty hr) (by decide) (by decide)⟩, fun u hu => ?_⟩
  rcases List.mem_append.1 hu with hu | hu
  · exact hrg u hu
  · obtain rfl := List.mem_singleton.1 hu
    exact ht
end

/-- what Copy leaves -/
def ECopyPost (name : ByteArray) (fn : Nat) (O : Int) (bn tn : Nat) (feats : List ByteArray) (bs : List Int) (ts : List TrV) (w : World) (e : Ending) (w' : World) : Prop :=
  ∃ FA fc BA bc TA tc, e = .returned (.agg #[.string name, .slice FA fn fc, .int .i64 O, .slice BA bn bc, .slice TA tn tc]) ∧ Sl w' FA fn fc (strs feats) ∧ Ints w' BA bn bc bs ∧ TrsAt w' TA tn tc ts ∧ Below w.heap.size w w'

set_option maxRecDepth 100000 in
set_option maxHeartbeats 8000000 in
theorem ECopy_any (name : ByteArray) (FA : Option Addr) (fn fc : Nat) (O : Int) (BA : Option Addr) (bn bc : Nat) (TA : Option Addr) (tn tc : Nat) (feats : List ByteArray) (bs : List Int) (ts : List TrV) (w : World)
    (he : EnsAt w name FA fn fc BA bn bc TA tn tc feats bs ts) :
    Calls Tryz.prog 12 #[.agg #[.string name, .slice FA fn fc, .int .i64 O, .slice BA bn bc, .slice TA tn tc]] w (ECopyPost name fn O bn tn feats bs ts w) := by
  have hh : ∀ a b d : Obj, (((w.alloc a).alloc b).alloc d).heap[w.heap.size]? = some a ∧ (((w.alloc a).alloc b).alloc d).heap[w.heap.size + 1]? = some b ∧ (((w.alloc a).alloc b).alloc d).heap[w.heap.size + 1 + 1]? = some d ∧ (((w.alloc a).alloc b).alloc d).heap.size = w.heap.size + 3 ∧ Below w.heap.size w (((w.alloc a).alloc b).alloc d) := fun a b d => by
    refine ⟨?_, ?_, ?_, by simp, (((Below.refl w.heap.size w).alloc (Nat.le_refl _) _).alloc (by simp) _).alloc (by simp; omega) _⟩
    · show (((w.heap.push a).push b).push d)[w.heap.size]? = _
      simp only [Array.getElem?_push, Array.size_push]
      rw [if_neg (by omega), if_neg (by omega), if_pos trivial]
    · show (((w.heap.push a).push b).push d)[w.heap.size + 1]? = _
      simp only [Array.getElem?_push, Array.size_push]
      rw [if_neg (by omega), if_pos trivial]
    · show (((w.heap.push a).push b).push d)[w.heap.size + 1 + 1]? = _
      simp only [Array.getElem?_push, Array.size_push]
      rw [if_pos trivial]
  have hfb := he.fmany
  have hbb := he.bmany
  have htb := he.tmany
  have HRG := Lib.hid he.base.rng
  have HCT := Lib.hid he.cats
  have HTL := Lib.hid he.trees.len
  have HEF := Lib.hid (fun W (h : Below w.heap.size w W) => he.ftexts.below h)
  have HEB := Lib.hid (fun W (h : Below w.heap.size w W) => he.base.sl.below h)
  have HET := Lib.hid (fun W (h : Below w.heap.size w W) => he.trees.below h)
  clear he
  go_enter Tryz.func12, Tryz.ntmps12
  go_upto_region 5 with (fail)
  obtain ⟨hE3, hR3, hU3, hz3, B3⟩ := hh (.cells #[.string name, .slice FA fn fc, .int .i64 O, .slice BA bn bc, .slice TA tn tc] 26) (.cells #[.string ⟨#[]⟩, .slice none 0 0, .int .i64 0, .slice none 0 0, .slice none 0 0] 26) (.cells #[.string name, .slice FA fn fc, .int .i64 O, .slice BA bn bc, .slice TA tn tc] 26)
  clear hh
  generalize ((w.alloc (.cells #[.string name, .slice FA fn fc, .int .i64 O, .slice BA bn bc, .slice TA tn tc] 26)).alloc (.cells #[.string ⟨#[]⟩, .slice none 0 0, .int .i64 0, .slice none 0 0, .slice none 0 0] 26)).alloc (.cells #[.string name, .slice FA fn fc, .int .i64 O, .slice BA bn bc, .slice TA tn tc] 26) = w3 at *
  have c1 : w3.cell? ⟨w.heap.size, 1, none⟩ = some (.slice FA fn fc) := cell_of_block hE3 rfl
  have hf3 := HEF.out _ B3
  have HE3 := Lib.hid hE3
  have HR3 := Lib.hid hR3
  have HU3 := Lib.hid hU3
  have HZ3 := Lib.hid hz3
  have HB3 := Lib.hid B3
  clear hE3 hR3 hU3 hz3 B3
  go_upto_region 6 with (at_builtin; refine app_nil_all w3.heap.size rfl _ _ _ _ (.string ⟨#[]⟩) 16 rfl Tryz.under_ss Tryz.info_str rfl (by omega) FA fn fc (strs feats) rfl rfl (strs_one _) hf3 (Nat.le_refl _) (by omega) ?_; rintro F4 f4 w4 hm4 hg4 hn4; have hU4 := (hg4.block _ (lt_of_block HU3.out) (by simp)).trans HU3.out; have u1 : w4.cell? ⟨w.heap.size + 1 + 1, 1, none⟩ = some (.slice FA fn fc) := cell_of_block hU4 rfl; have z1 : w4.frozen? ⟨w.heap.size + 1 + 1, 1, none⟩ = false := frozen_row (vs := [.string name, .slice FA fn fc, .int .i64 O, .slice BA bn bc, .slice TA tn tc]) hU4 1)
  have b4 := below_of_grownBy hg4
  have hE4 := (b4.block _ (lt_of_block HE3.out)).trans HE3.out
  have hR4 := (b4.block _ (lt_of_block HR3.out)).trans HR3.out
  have hU5 := setCell_row (vs := [.string name, .slice FA fn fc, .int .i64 O, .slice BA bn bc, .slice TA tn tc]) ((b4.block _ (lt_of_block HU3.out)).trans HU3.out) 1 (.slice F4 fn f4)
  have hE5 := (setCell_other (show w.heap.size ≠ w.heap.size + 1 + 1 by omega) 1 (.slice F4 fn f4)).trans hE4
  have hR5 := (setCell_other (show w.heap.size + 1 ≠ w.heap.size + 1 + 1 by omega) 1 (.slice F4 fn f4)).trans hR4
  have hz3 := HZ3.out
  have hm5 : Mine 9 (w4.setCell ⟨w.heap.size + 1 + 1, 1, none⟩ (.slice F4 fn f4)) w3.heap.size F4 fn f4 (strs feats) := hm4.kept (setCell_grownBy w4 (w.heap.size + 1 + 1) 1 (.slice F4 fn f4)) (by
    cases hB : blockOf F4 with
    | none => exact .inl rfl
    | some k => have := hn4 k hB; exact .inr (by intro e; injection e with e; omega))
  have B5 := (below_then HB3.out HB3.out.size b4).setCell (p := ⟨w.heap.size + 1 + 1, 1, none⟩) (by simp; omega) (.slice F4 fn f4)
  have hz5 : w3.heap.size ≤ (w4.setCell ⟨w.heap.size + 1 + 1, 1, none⟩ (.slice F4 fn f4)).heap.size := by have := b4.size; have := (setCell_grownBy w4 (w.heap.size + 1 + 1) 1 (.slice F4 fn f4)).size; omega
  generalize w4.setCell ⟨w.heap.size + 1 + 1, 1, none⟩ (.slice F4 fn f4) = w5 at hU5 hE5 hR5 hm5 B5 hz5 ⊢
  clear c1 hf3 hm4 hg4 hn4 b4 hE4 hR4 HE3 HR3 HU3 HB3
  have c3 : w5.cell? ⟨w.heap.size, 3, none⟩ = some (.slice BA bn bc) := cell_of_block hE5 rfl
  have hb5 := HEB.out _ B5
  have HE5 := Lib.hid hE5
  have HR5 := Lib.hid hR5
  have HU5 := Lib.hid hU5
  have HB5 := Lib.hid B5
  clear hE5 hR5 hU5 B5 hz3
  go_upto_region 7 with (at_builtin; refine app_nil_all w3.heap.size rfl _ _ _ _ (.int .i64 0) 8 rfl Tryz.underlying23 Tryz.info_i64 rfl (by omega) BA bn bc (i64s bs) rfl rfl (i64s_one _) hb5 hz5 (by omega) ?_; rintro B6 b6 w6 hm6 hg6 hn6; have hU6 := (hg6.block _ (lt_of_block HU5.out) (by simp)).trans HU5.out; have u3 : w6.cell? ⟨w.heap.size + 1 + 1, 3, none⟩ = some (.slice BA bn bc) := cell_of_block hU6 rfl; have z3 : w6.frozen? ⟨w.heap.size + 1 + 1, 3, none⟩ = false := frozen_row (vs := [.string name, .slice F4 fn f4, .int .i64 O, .slice BA bn bc, .slice TA tn tc]) hU6 3)
  have b6' := below_of_grownBy hg6
  have hz3 := HZ3.out
  have hE6 := (b6'.block _ (lt_of_block HE5.out)).trans HE5.out
  have hR6 := (b6'.block _ (lt_of_block HR5.out)).trans HR5.out
  have hU7 := setCell_row (vs := [.string name, .slice F4 fn f4, .int .i64 O, .slice BA bn bc, .slice TA tn tc]) ((b6'.block _ (lt_of_block HU5.out)).trans HU5.out) 3 (.slice B6 bn b6)
  have hE7 := (setCell_other (show w.heap.size ≠ w.heap.size + 1 + 1 by omega) 3 (.slice B6 bn b6)).trans hE6
  have hR7 := (setCell_other (show w.heap.size + 1 ≠ w.heap.size + 1 + 1 by omega) 3 (.slice B6 bn b6)).trans hR6
  have hsg := setCell_grownBy w6 (w.heap.size + 1 + 1) 3 (.slice B6 bn b6)
  have hmB : Mine 2 (w6.setCell ⟨w.heap.size + 1 + 1, 3, none⟩ (.slice B6 bn b6)) w3.heap.size B6 bn b6 (i64s bs) := hm6.kept hsg (by
    cases hB : blockOf B6 with
    | none => exact .inl rfl
    | some k => have := hn6 k hB; exact .inr (by intro e; injection e with e; omega))
  have hmF : Mine 9 (w6.setCell ⟨w.heap.size + 1 + 1, 3, none⟩ (.slice B6 bn b6)) w3.heap.size F4 fn f4 (strs feats) := (hm5.below b6').kept hsg (by
    cases hB : blockOf F4 with
    | none => exact .inl rfl
    | some k => have := (hm5.lt k hB).1; exact .inr (by intro e; injection e with e; omega))
  have B7 := (below_then HB5.out HB5.out.size b6').setCell (p := ⟨w.heap.size + 1 + 1, 3, none⟩) (by simp; omega) (.slice B6 bn b6)
  have hz7 : w3.heap.size ≤ (w6.setCell ⟨w.heap.size + 1 + 1, 3, none⟩ (.slice B6 bn b6)).heap.size := by have := b6'.size; have := hsg.size; omega
  generalize w6.setCell ⟨w.heap.size + 1 + 1, 3, none⟩ (.slice B6 bn b6) = w7 at hU7 hE7 hR7 hmB hmF B7 hz7 ⊢
  clear c3 hb5 hm6 hg6 hn6 b6' hE6 hR6 HE5 HR5 HU5 HB5 hm5 hsg hz5
  have c4 : w7.cell? ⟨w.heap.size, 4, none⟩ = some (.slice TA tn tc) := cell_of_block hE7 rfl
  have HR7 := Lib.hid hR7
  have HU7 := Lib.hid hU7
  have HB7 := Lib.hid B7
  have HMB := Lib.hid hmB
  have HMF := Lib.hid hmF
  clear hE7 hR7 hU7 B7 hmB hmF hz3
  go_upto_region 8 with (fail)
  clear c4
  go_loopw [5, 23] (fun lx ix wr => ∃ (k : Nat) (T1 : Option Addr) (c1 : Nat), lx = .slice T1 k c1 ∧ ix = .int .i64 (k : Int) ∧ k ≤ tn ∧ OwnTrs wr w7.heap.size T1 k c1 (ts.take k) ∧ Below w7.heap.size w7 wr) (fun _ ix _ => tn - (intOf ix).toNat)
  case atStart => exact ⟨0, none, 0, rfl, rfl, Nat.zero_le _, OwnTrs.nil _ _, Below.refl _ _⟩
  case round =>
    obtain ⟨k, T1, c1, rfl, rfl, hk, hown, hbr⟩ := hrel
    by_cases hkt : k < tn
    · have hbw := below_then HB7.out HB7.out.size hbr
      obtain ⟨b, o, rfl, hc⟩ := (HET.out _ hbw).cells (by omega)
      have hl := HTL.out
      obtain ⟨B, m, d, hr, hnd, hmb, hor, hnr⟩ := hc k (by omega)
      have htk : ts.take (k + 1) = ts.take k ++ [ts[k]'(by omega)] := by rw [List.take_succ_eq_append_getElem (by omega)]
      have hcat := HCT.out _ (List.getElem_mem (show k < ts.length by omega))
      generalize ts[k]'(by omega) = t at hr hnd hor hnr htk hcat
      have r0 : _ = some _ := range_cell (o := o + k * 2) hr 0 rfl
      rw [Nat.add_zero] at r0
      have r1 := range_cell hr 1 rfl
      have HTK := Lib.hid htk
      have hnl := hnd.len
      have HTR := Lib.hid (show TrRng t from ⟨by omega, hor, by rw [hnl]; exact hnr⟩)
      have i1 : (k : Int) < (tn : Int) := by omega
      have i2 : decide ((k : Int) < (tn : Int)) = true := by simpa using i1
      clear hc hr hl htk hor hnr hnl
      go_upto_region 10 with (fail)
      have b8 := (Below.refl wr.heap.size wr).alloc (Nat.le_refl _) (.cells #[.int .i64 t.out, .slice B m d] 65)
      have hO8 := heap_alloc_new wr (.cells #[.int .i64 t.out, .slice B m d] 65)
      generalize wr.alloc (.cells #[.int .i64 t.out, .slice B m d] 65) = w8 at b8 hO8 ⊢
      have hown8 := hown.below b8
      obtain ⟨hs, hh⟩ := hown8.hds
      have hb8 := below_then hbr hbr.size b8
      have hb8z := hb8.size
      have HB8 := Lib.hid hb8
      have HHH := Lib.hid hh
      have HOWN := Lib.hid hown8
      have hlt0 : ∀ q, blockOf T1 = some q → w7.heap.size ≤ q ∧ q < wr.heap.size := by
        obtain ⟨hs0, hh0⟩ := hown.hds
        exact hh0.2.1.lt
      have HLTA := Lib.hid (fun q hq => (hlt0 q hq).1)
      have ne1 : some wr.heap.size ≠ blockOf T1 := fun e => by have := (hlt0 _ e.symm).2; omega
      have HNC := Lib.hid (fun (W : World) (hW : Below w8.heap.size w8 W) => Nodes_any B m d t.nds W ((hnd.below b8).below hW) (by omega) (fun u hu => Nat.le_trans (hcat u hu) (show 1048576 ≤ 1000000000000 by omega)))
      have HO8 := Lib.hid hO8
      have KSx := Lib.hid (fun (W : World) (hW : Below w8.heap.size w8 W) => show W.cell? ⟨wr.heap.size, 0, none⟩ = some (.int .i64 t.out) ∧ W.cell? ⟨wr.heap.size, 1, none⟩ = some (.slice B m d) from
        ⟨cell_of_block ((hW.block _ (lt_of_block HO8.out)).trans HO8.out) rfl, cell_of_block ((hW.block _ (lt_of_block HO8.out)).trans HO8.out) rfl⟩)
      have HKP := Lib.hid (fun (W8 W9 : World) (h : Below w8.heap.size w8 W8) (g : W8.grownBy W9 (blockOf T1)) => show W9.cell? ⟨wr.heap.size, 0, none⟩ = some (.int .i64 t.out) ∧ W9.cell? ⟨wr.heap.size, 1, none⟩ = some (.slice B m d) by
        have z1 : wr.heap.size < W8.heap.size := Nat.lt_of_lt_of_le (lt_of_block HO8.out) h.size
        have hx := (g.block _ z1 ne1).trans ((h.block _ (lt_of_block HO8.out)).trans HO8.out)
        exact ⟨cell_of_block hx rfl, cell_of_block hx rfl⟩)
      have HMK := Lib.hid (fun (W : World) (hW : Below w8.heap.size w8 W) => hh.2.1.below hW)
      have t0 : w8.cell? ⟨wr.heap.size, 0, none⟩ = some (.int .i64 t.out) := cell_of_block hO8 rfl
      have t1 : w8.cell? ⟨wr.heap.size, 1, none⟩ = some (.slice B m d) := cell_of_block hO8 rfl
      have hdr : Below w8.heap.size w8 w8.drew := (Below.refl _ _).drew
      clear r0 r1 hO8 hnd b8 hbr hown hown8 hh hb8 hcat hlt0 ne1 hbw
      go_region_held3 (fun W => W.cell? ⟨wr.heap.size, 0, none⟩ = some (.int .i64 t.out) ∧ W.cell? ⟨wr.heap.size, 1, none⟩ = some (.slice B m d))
        (first | exact KSx.out _ (by assumption) | exact KSx.out _ (chainA (by assumption) _) | exact KSx.out _ (Below.refl _ _) | exact hQ8)
        (first | (go_at_call 33; (with_reducible refine (HNC.out _ (by assumption)).mono ?_); rintro e w9 ⟨B9, d9, rfl, hn9, bS⟩; have bS' := chainB (w3 := w8) (by assumption) bS) | (refine step_appK w7.heap.size (by rfl) _ _ _ _ _ 2 32 (by rfl) Tryz.underlying24 Tryz.info_tree rfl (by omega) T1 k c1 (flatTrs hs (ts.take k)) _ 1 1 _ 65 (heap_alloc_new _ _) rfl (by rfl) (by rfl) (by intro u hu; simp at hu; rcases hu with rfl | rfl <;> rfl) (HMK.out _ (chainA (by assumption) _)) (Nat.le_trans hb8z (Below.size (w := w8) (chainA (by assumption) _))) (by omega) (by omega) ?_; intro A' c' w10 hm10 hg10 hA10; have hQ8 := HKP.out _ _ (chainA (w3 := w8) (by assumption) _) hg10))
      all_goals
        have b10 := chainA (w3 := w8) bS' (.cells #[.int .i64 t.out, .slice B9 m d9] 65)
        have hnd10 := (hn9.mono hb8z).below ((Below.refl w9.heap.size w9).alloc (Nat.le_refl _) (.cells #[.int .i64 t.out, .slice B9 m d9] 65))
        have hown10 := OwnTrs.snoc (hd := (B9, m, d9)) (t := t) HHH.out HOWN.out.rng b10 hnd10 HTR.out hm10 hg10
        have hb10 := below_grown (below_then HB8.out HB8.out.size b10) (Nat.le_trans hb8z b10.size) hg10 HLTA.out
        rw [← HTK.out] at hown10
        clear hm10 hg10 hA10 b10 hnd10 hn9 hQ8 bS bS' hdr t0 t1
        go_wp2
        go_roundw
        case rel => exact ⟨k + 1, A', c', rfl, by go_num, hkt, hown10, hb10⟩
        case measure => simp [intOf]; omega
    · obtain rfl : k = tn := by omega
      have i2 : decide ((k : Int) < (k : Int)) = false := by simp
      rw [List.take_of_length_le (by rw [HTL.out]; exact Nat.le_refl _)] at hown
      have hz3 := HZ3.out
      have hUr := (hbr.block _ (lt_of_block HU7.out)).trans HU7.out
      have hRr := (hbr.block _ (lt_of_block HR7.out)).trans HR7.out
      have u4 : wr.cell? ⟨w.heap.size + 1 + 1, 4, none⟩ = some (.slice TA k tc) := cell_of_block hUr rfl
      have z4 : wr.frozen? ⟨w.heap.size + 1 + 1, 4, none⟩ = false := frozen_row (vs := [.string name, .slice F4 fn f4, .int .i64 O, .slice B6 bn b6, .slice TA k tc]) hUr 4
      have hsg := setCell_grownBy wr (w.heap.size + 1 + 1) 4 (.slice T1 k c1)
      have hUx := setCell_row (vs := [.string name, .slice F4 fn f4, .int .i64 O, .slice B6 bn b6, .slice TA k tc]) hUr 4 (.slice T1 k c1)
      have hRx := (setCell_other (show w.heap.size + 1 ≠ w.heap.size + 1 + 1 by omega) 4 (.slice T1 k c1)).trans hRr
      have hownx := hown.kept_row hsg (fun q hq => by intro e; injection e with e; omega)
      have hmFx : Mine 9 (wr.setCell ⟨w.heap.size + 1 + 1, 4, none⟩ (.slice T1 k c1)) w3.heap.size F4 fn f4 (strs feats) := (HMF.out.below hbr).kept hsg (by
        cases hB : blockOf F4 with
        | none => exact .inl rfl
        | some q => have := (HMF.out.lt q hB).1; exact .inr (by intro e; injection e with e; omega))
      have hmBx : Mine 2 (wr.setCell ⟨w.heap.size + 1 + 1, 4, none⟩ (.slice T1 k c1)) w3.heap.size B6 bn b6 (i64s bs) := (HMB.out.below hbr).kept hsg (by
        cases hB : blockOf B6 with
        | none => exact .inl rfl
        | some q => have := (HMB.out.lt q hB).1; exact .inr (by intro e; injection e with e; omega))
      have Bx := (below_then HB7.out HB7.out.size hbr).setCell (p := ⟨w.heap.size + 1 + 1, 4, none⟩) (by simp; omega) (.slice T1 k c1)
      clear hown hUr hRr hbr hsg
      go_upto_region 13 with (fail)
      generalize wr.setCell ⟨w.heap.size + 1 + 1, 4, none⟩ (.slice T1 k c1) = wx at hUx hRx hownx hmFx hmBx Bx ⊢
      clear u4 z4
      have v0 : wx.cell? ⟨w.heap.size + 1 + 1, 0, none⟩ = some (.string name) := cell_of_block hUx rfl
      have v1 : wx.cell? ⟨w.heap.size + 1 + 1, 1, none⟩ = some (.slice F4 fn f4) := cell_of_block hUx rfl
      have v2 : wx.cell? ⟨w.heap.size + 1 + 1, 2, none⟩ = some (.int .i64 O) := cell_of_block hUx rfl
      have v3 : wx.cell? ⟨w.heap.size + 1 + 1, 3, none⟩ = some (.slice B6 bn b6) := cell_of_block hUx rfl
      have v4 : wx.cell? ⟨w.heap.size + 1 + 1, 4, none⟩ = some (.slice T1 k c1) := cell_of_block hUx rfl
      have s0 : wx.cell? ⟨w.heap.size + 1, 0, none⟩ = some (.string ⟨#[]⟩) := cell_of_block hRx rfl
      have z0 : wx.frozen? ⟨w.heap.size + 1, 0, none⟩ = false := frozen_row (vs := [.string ⟨#[]⟩, .slice none 0 0, .int .i64 0, .slice none 0 0, .slice none 0 0]) hRx 0
      have s1 : wx.cell? ⟨w.heap.size + 1, 1, none⟩ = some (.slice none 0 0) := cell_of_block hRx rfl
      have z1 : wx.frozen? ⟨w.heap.size + 1, 1, none⟩ = false := frozen_row (vs := [.string ⟨#[]⟩, .slice none 0 0, .int .i64 0, .slice none 0 0, .slice none 0 0]) hRx 1
      have s2 : wx.cell? ⟨w.heap.size + 1, 2, none⟩ = some (.int .i64 0) := cell_of_block hRx rfl
      have z2 : wx.frozen? ⟨w.heap.size + 1, 2, none⟩ = false := frozen_row (vs := [.string ⟨#[]⟩, .slice none 0 0, .int .i64 0, .slice none 0 0, .slice none 0 0]) hRx 2
      have s3 : wx.cell? ⟨w.heap.size + 1, 3, none⟩ = some (.slice none 0 0) := cell_of_block hRx rfl
      have z3 : wx.frozen? ⟨w.heap.size + 1, 3, none⟩ = false := frozen_row (vs := [.string ⟨#[]⟩, .slice none 0 0, .int .i64 0, .slice none 0 0, .slice none 0 0]) hRx 3
      have s4 : wx.cell? ⟨w.heap.size + 1, 4, none⟩ = some (.slice none 0 0) := cell_of_block hRx rfl
      have z4 : wx.frozen? ⟨w.heap.size + 1, 4, none⟩ = false := frozen_row (vs := [.string ⟨#[]⟩, .slice none 0 0, .int .i64 0, .slice none 0 0, .slice none 0 0]) hRx 4
      have hR0' := setCell_row (vs := [.string ⟨#[]⟩, .slice none 0 0, .int .i64 0, .slice none 0 0, .slice none 0 0]) hRx 0 (.string name)
      have hR1' := setCell_row hR0' 1 (.slice F4 fn f4)
      have hR2' := setCell_row hR1' 2 (.int .i64 O)
      have hR3' := setCell_row hR2' 3 (.slice B6 bn b6)
      have hR4' := setCell_row hR3' 4 (.slice T1 k c1)
      have HGG := Lib.hid (World.grownBy.trans (World.grownBy.trans (World.grownBy.trans (World.grownBy.trans (setCell_grownBy wx (w.heap.size + 1) 0 (.string name)) (setCell_grownBy _ (w.heap.size + 1) 1 (.slice F4 fn f4))) (setCell_grownBy _ (w.heap.size + 1) 2 (.int .i64 O))) (setCell_grownBy _ (w.heap.size + 1) 3 (.slice B6 bn b6))) (setCell_grownBy _ (w.heap.size + 1) 4 (.slice T1 k c1)))
      have HBF := Lib.hid ((((((((((Bx).setCell (p := ⟨w.heap.size + 1, 0, none⟩) (by simp) (.string name))).setCell (p := ⟨w.heap.size + 1, 1, none⟩) (by simp) (.slice F4 fn f4))).setCell (p := ⟨w.heap.size + 1, 2, none⟩) (by simp) (.int .i64 O))).setCell (p := ⟨w.heap.size + 1, 3, none⟩) (by simp) (.slice B6 bn b6))).setCell (p := ⟨w.heap.size + 1, 4, none⟩) (by simp) (.slice T1 k c1))
      have HRF := Lib.hid hR4'
      have HOX := Lib.hid hownx
      have HFX := Lib.hid hmFx
      have HBX := Lib.hid hmBx
      have hlw : w.heap.size + 1 < w7.heap.size := by omega
      clear hUx hRx hownx hmFx hmBx Bx hR0' hR1' hR2' hR3' hR4'
      go_wp2_with fail
      refine bodyPost_ret (v := .agg #[.string name, .slice F4 fn f4, .int .i64 O, .slice B6 bn b6, .slice T1 k c1]) (results_cell_row (fn := Tryz.f12) (p := 2) (ty := 26) rfl _ _ (w.heap.size + 1) 26 #[.string name, .slice F4 fn f4, .int .i64 O, .slice B6 bn b6, .slice T1 k c1] (0, 0) _ rfl HRF.out Tryz.underlying26 rfl (by kernel_rfl)) rfl ?_
      refine ⟨F4, f4, B6, b6, T1, c1, rfl, (HFX.out.kept HGG.out ?_).sl, ⟨(HBX.out.kept HGG.out ?_).sl, HRG.out⟩, (HOX.out.kept_row HGG.out (fun q hq => by intro e; injection e with e; omega)).trsAt, HBF.out⟩
      · cases hB : blockOf F4 with
        | none => exact .inl rfl
        | some q => have := (HFX.out.lt q hB).1; exact .inr (by intro e; injection e with e; omega)
      · cases hB : blockOf B6 with
        | none => exact .inl rfl
        | some q => have := (HBX.out.lt q hB).1; exact .inr (by intro e; injection e with e; omega)

end Go.Proofs.YtekcpapkicmckaaGreatDoor
