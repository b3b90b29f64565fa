/- Slices of one-cell elements in memory: what reads as a list (Sl), what is the call's own (Mine); what stores and appends do to them. -/
import Derived.Test.YtekcpapkicmckaaGreatDoorProg
import Derived.Test.YtekcpapkicmckaaGreatDoorNat
import Derived.WalkKit
import Derived.WalkSpells
import Derived.WalkLawsBesides
import Derived.Laws.CopyOwn
import Derived.Laws.MakeOwn
import Derived.Deep.AppendLies
import Derived.Lib.Hide
namespace Go.Proofs.YtekcpapkicmckaaGreatDoor
open Go.RowKit

theorem add_row (g o j : Nat) : (⟨g, o, none⟩ : Addr).add j = ⟨g, o + j, none⟩ := by unfold Addr.add; split <;> simp_all
theorem add_row0 (g j : Nat) : (⟨g, 0, none⟩ : Addr).add j = ⟨g, j, none⟩ := by rw [add_row, Nat.zero_add]

/-- a slice of one-cell elements that reads as a list -/
structure Sl (w : World) (A : Option Addr) (n c : Nat) (vs : List Value) : Prop where
  len : vs.length = n
  cap : n ≤ c
  big : n ≤ 281474976710656
  cells : 0 < n → ∃ b o, A = some ⟨b, o, none⟩ ∧ ∀ j, j < n → w.cell? ⟨b, o + j, none⟩ = some (vs.getD j undef)

/-- a slice at the head of a block that the call made: the block holds the elements and some rest -/
structure Mine (T : TypeId) (w : World) (base : Nat) (A : Option Addr) (n c : Nat) (vs : List Value) : Prop where
  len : vs.length = n
  cap : n ≤ c
  big : n ≤ 281474976710656
  row : (A = none ∧ n = 0 ∧ c = 0) ∨ ∃ g rest, A = some ⟨g, 0, none⟩ ∧ base ≤ g ∧ w.heap[g]? = some (.cells (vs ++ rest).toArray T (0, 0)) ∧ c ≤ n + rest.length

def blockOf : Option Addr → Option Nat
  | some a => some a.block
  | none => none

theorem Sl.below {w w' : World} {A : Option Addr} {n c : Nat} {vs : List Value} (h : Sl w A n c vs) (hb : Below w.heap.size w w') : Sl w' A n c vs :=
  ⟨h.len, h.cap, h.big, fun hn => by
    obtain ⟨b, o, e, hc⟩ := h.cells hn
    refine ⟨b, o, e, fun j hj => ?_⟩
    exact (hb.cell (p := ⟨b, o + j, none⟩) (World.block_lt_of_cell? w _ (hc j hj))).trans (hc j hj)⟩

theorem Sl.pre {w : World} {A : Option Addr} {n c : Nat} {vs : List Value} (h : Sl w A n c vs) (k c' : Nat) (hk : k ≤ n) (hc : k ≤ c') : Sl w A k c' (vs.take k) :=
  ⟨by rw [List.length_take, h.len]; omega, hc, Nat.le_trans hk h.big, fun hn => by
    obtain ⟨b, o, e, hcl⟩ := h.cells (by omega)
    refine ⟨b, o, e, fun j hj => ?_⟩
    rw [hcl j (by omega), List.getD_eq_getElem?_getD, List.getD_eq_getElem?_getD, List.getElem?_take, if_pos hj]⟩

theorem Sl.nil (w : World) (c : Nat) : Sl w none 0 c [] := ⟨rfl, Nat.zero_le _, by omega, fun h => absurd h (by omega)⟩

/-- a slice of a slice -/
theorem Sl.drop {w : World} {b o n c : Nat} {vs : List Value} (h : Sl w (some ⟨b, o, none⟩) n c vs) (k : Nat) (hk : k ≤ n) : Sl w (some ⟨b, o + k, none⟩) (n - k) (c - k) (vs.drop k) :=
  ⟨by rw [List.length_drop, h.len], by have := h.cap; omega, by have := h.big; omega, fun hn => by
    obtain ⟨b', o', e, hcl⟩ := h.cells (by omega)
    injection e with e
    injection e with e1 e2
    subst e1; subst e2
    refine ⟨b, o + k, rfl, fun j hj => ?_⟩
    rw [show o + k + j = o + (k + j) by omega, hcl (k + j) (by omega), List.getD_eq_getElem?_getD, List.getD_eq_getElem?_getD, List.getElem?_drop]⟩

theorem Mine.sl {T : TypeId} {w : World} {base : Nat} {A : Option Addr} {n c : Nat} {vs : List Value} (h : Mine T w base A n c vs) : Sl w A n c vs :=
  ⟨h.len, h.cap, h.big, fun hn => by
    rcases h.row with ⟨_, h0, _⟩ | ⟨g, rest, e, _, hg, _⟩
    · omega
    · refine ⟨g, 0, e, fun j hj => ?_⟩
      have hl := h.len
      simp only [World.cell?, hg, Option.isSome_none, Nat.zero_add]
      simp [List.getElem?_append_left (show j < vs.length by omega), List.getElem?_eq_getElem (show j < vs.length by omega)]⟩

theorem Mine.nil (T : TypeId) (w : World) (base : Nat) : Mine T w base none 0 0 [] := ⟨rfl, Nat.le_refl _, by omega, .inl ⟨rfl, rfl, rfl⟩⟩

theorem Mine.mono {T : TypeId} {w : World} {base base' : Nat} {A : Option Addr} {n c : Nat} {vs : List Value} (h : Mine T w base A n c vs) (hb : base' ≤ base) : Mine T w base' A n c vs :=
  ⟨h.len, h.cap, h.big, h.row.imp id fun ⟨g, rest, e, h1, h2⟩ => ⟨g, rest, e, Nat.le_trans hb h1, h2⟩⟩

theorem Mine.pre {T : TypeId} {w : World} {base : Nat} {A : Option Addr} {n c : Nat} {vs : List Value} (h : Mine T w base A n c vs) (k : Nat) (hk : k ≤ n) : Mine T w base A k k (vs.take k) :=
  ⟨by rw [List.length_take, h.len]; omega, Nat.le_refl _, Nat.le_trans hk h.big, h.row.imp (fun ⟨a, b, _⟩ => ⟨a, by omega, by omega⟩) fun ⟨g, rest, e, h1, h2, h3⟩ =>
    ⟨g, vs.drop k ++ rest, e, h1, by rw [← List.append_assoc, List.take_append_drop]; exact h2, by simp only [List.length_append]; omega⟩⟩

/-- a block that is there lies below the heap's end -/
theorem lt_of_block {w : World} {g : Nat} {o : Obj} (h : w.heap[g]? = some o) : g < w.heap.size := (Array.getElem?_eq_some_iff.1 h).1

theorem Mine.lt {T : TypeId} {w : World} {base : Nat} {A : Option Addr} {n c : Nat} {vs : List Value} (h : Mine T w base A n c vs) : ∀ k, blockOf A = some k → base ≤ k ∧ k < w.heap.size := by
  intro k hk
  rcases h.row with ⟨rfl, _, _⟩ | ⟨g, rest, rfl, hb, hg, _⟩
  · cases hk
  · simp only [blockOf, Option.some.injEq] at hk
    subst hk
    exact ⟨hb, lt_of_block hg⟩

theorem Mine.kept {T : TypeId} {w w' : World} {base : Nat} {A : Option Addr} {n c : Nat} {vs : List Value} (h : Mine T w base A n c vs) {row : Option Nat} (hg : w.grownBy w' row) (hne : blockOf A = none ∨ blockOf A ≠ row) : Mine T w' base A n c vs :=
  ⟨h.len, h.cap, h.big, h.row.imp id fun ⟨g, rest, e, h1, h2, h3⟩ => ⟨g, rest, e, h1, (hg.block g (lt_of_block h2) (by subst e; simpa [blockOf] using hne)).trans h2, h3⟩⟩

theorem Mine.below {T : TypeId} {w w' : World} {base : Nat} {A : Option Addr} {n c : Nat} {vs : List Value} (h : Mine T w base A n c vs) (hb : Below w.heap.size w w') : Mine T w' base A n c vs :=
  ⟨h.len, h.cap, h.big, h.row.imp id fun ⟨g, rest, e, h1, h2, h3⟩ => ⟨g, rest, e, h1, (hb.block g (lt_of_block h2)).trans h2, h3⟩⟩

theorem Sl.kept {w w' : World} {A : Option Addr} {n c : Nat} {vs : List Value} (h : Sl w A n c vs) {row : Option Nat} (hg : w.grownBy w' row) (hne : n = 0 ∨ blockOf A ≠ row) : Sl w' A n c vs :=
  ⟨h.len, h.cap, h.big, fun hn => by
    obtain ⟨b, o, e, hc⟩ := h.cells hn
    refine ⟨b, o, e, fun j hj => ?_⟩
    refine hg.cell (hc j hj) ?_
    subst e
    rcases hne with h0 | h0
    · omega
    · simpa [blockOf] using h0⟩

theorem Sl.lt {w : World} {A : Option Addr} {n c : Nat} {vs : List Value} (h : Sl w A n c vs) (hn : 0 < n) : ∃ k, blockOf A = some k ∧ k < w.heap.size := by
  obtain ⟨b, o, e, hc⟩ := h.cells hn
  subst e
  exact ⟨b, rfl, World.block_lt_of_cell? w _ (hc 0 hn)⟩

theorem grownBy_of_below {w w1 : World} (h : Below w.heap.size w w1) (row : Option Nat) : w.grownBy w1 row := ⟨h.os, h.tape, h.output, h.size, fun i hi _ => h.block i hi⟩
theorem below_of_grownBy {w w1 : World} (h : w.grownBy w1 none) : Below w.heap.size w w1 := ⟨h.os, h.tape, h.output, h.size, fun i hi => h.block i hi (by simp)⟩
theorem below_then {B : Nat} {w w1 w2 : World} (h : Below B w w1) (hB : B ≤ w1.heap.size) (k : Below w1.heap.size w1 w2) : Below B w w2 := h.trans (k.mono hB)
/-- what is written lies at or above the base: it is below as before -/
theorem below_grown {B : Nat} {w w1 w2 : World} {A : Option Addr} (h : Below B w w1) (hB : B ≤ w1.heap.size) (hg : w1.grownBy w2 (blockOf A)) (hA : ∀ k, blockOf A = some k → B ≤ k) : Below B w w2 := h.grown hg hB hA

/-! ### stores into a block of the call's own -/
theorem setCell_row {T : TypeId} {w : World} {g : Nat} {vs : List Value} (h : w.heap[g]? = some (.cells vs.toArray T (0, 0))) (j : Nat) (v : Value) :
    (w.setCell ⟨g, j, none⟩ v).heap[g]? = some (.cells (vs.set j v).toArray T (0, 0)) := by
  rw [setCell_eq_setRow w g j vs.toArray T (0, 0) v h, setRow_heap w g vs.toArray _ T (0, 0) h]
  simp
theorem setCell_other {w : World} {g k : Nat} (h : k ≠ g) (j : Nat) (v : Value) : (w.setCell ⟨g, j, none⟩ v).heap[k]? = w.heap[k]? := Below.heap_setCell w ⟨g, j, none⟩ v k h
theorem setCell_size (w : World) (a : Addr) (v : Value) : (w.setCell a v).heap.size = w.heap.size := by simp [World.setCell]
theorem setCell_grownBy (w : World) (g j : Nat) (v : Value) : w.grownBy (w.setCell ⟨g, j, none⟩ v) (some g) :=
  ⟨rfl, rfl, rfl, by rw [setCell_size]; exact Nat.le_refl _, fun k _ hne => setCell_other (fun e => hne (by rw [e])) j v⟩
theorem cell_row {T : TypeId} {w : World} {g : Nat} {vs : List Value} (h : w.heap[g]? = some (.cells vs.toArray T (0, 0))) {j : Nat} (hj : j < vs.length) : w.cell? ⟨g, j, none⟩ = some (vs.getD j undef) := by
  simp only [World.cell?, h, Option.isSome_none]
  simp [List.getElem?_eq_getElem hj]
theorem frozen_row {T : TypeId} {w : World} {g : Nat} {vs : List Value} (h : w.heap[g]? = some (.cells vs.toArray T (0, 0))) (j : Nat) : w.frozen? ⟨g, j, none⟩ = false := by
  simp only [World.frozen?, h]
  simp

theorem Mine.stored {T : TypeId} {w : World} {base g c n : Nat} {vs : List Value} (h : Mine T w base (some ⟨g, 0, none⟩) n c vs) (j : Nat) (hj : j < n) (v : Value) :
    Mine T (w.setCell ⟨g, j, none⟩ v) base (some ⟨g, 0, none⟩) n c (vs.set j v) := by
  refine ⟨by rw [List.length_set]; exact h.len, h.cap, h.big, .inr ?_⟩
  rcases h.row with ⟨e, _⟩ | ⟨g', rest, e, h1, h2, h3⟩
  · cases e
  · simp only [Option.some.injEq, Addr.mk.injEq, and_true] at e
    subst e
    refine ⟨g, rest, rfl, h1, ?_, h3⟩
    have := setCell_row h2 j v
    rwa [List.set_append_left _ _ (by rw [h.len]; exact hj)] at this

theorem Mine.cell {T : TypeId} {w : World} {base g c n : Nat} {vs : List Value} (h : Mine T w base (some ⟨g, 0, none⟩) n c vs) (j : Nat) (hj : j < n) : w.cell? ⟨g, j, none⟩ = some (vs.getD j undef) := by
  obtain ⟨b, o, e, hc⟩ := h.sl.cells (by omega)
  simp only [Option.some.injEq, Addr.mk.injEq, and_true] at e
  obtain ⟨rfl, rfl⟩ := e
  have := hc j hj
  rwa [Nat.zero_add] at this
theorem Mine.free {T : TypeId} {w : World} {base g c n : Nat} {vs : List Value} (h : Mine T w base (some ⟨g, 0, none⟩) n c vs) (j : Nat) : w.frozen? ⟨g, j, none⟩ = false := by
  rcases h.row with ⟨e, _⟩ | ⟨g', rest, e, h1, h2, h3⟩
  · cases e
  · simp only [Option.some.injEq, Addr.mk.injEq, and_true] at e
    subst e
    exact frozen_row h2 j

/-! ### append of some elements that lie elsewhere -/
section
variable {P : Program}
theorem run_append_mine (W : World) (base : Nat) (t ty e : TypeId) (z : Value) (bytes : Nat) (ht : P.underlying t = some (.slice e))
    (hinfo : (P.info? e).map (fun i => (i.zero, i.size, i.bytes)) = some (some z, 1, bytes)) (hz : z.cells.size = 1) (hb0 : 0 < bytes)
    (A : Option Addr) (n c : Nat) (vs : List Value) (hm : Mine e W base A n c vs)
    (a : Addr) (m c' : Nat) (news : List Value) (hl : news.length = m) (hnews : ∀ j u, news[j]? = some u → W.cell? (a.add j) = some u) (h1 : ∀ u ∈ news, u.oneCell' = true)
    (hbytes : (n + m) * bytes ≤ 140737488355328) (hbase : base ≤ W.heap.size) (hpos : 0 < m) :
    ∃ A' c2 w', (Builtin.append_ #[t, t] ty #[.slice A n c, .slice (some a) m c']).run P W = .ok (.slice A' (n + m) c2) w' ∧ Mine e w' base A' (n + m) c2 (vs ++ news) ∧ W.grownBy w' (blockOf A) ∧
      (blockOf A' = blockOf A ∨ ∃ k, blockOf A' = some k ∧ W.heap.size ≤ k) := by
  obtain ⟨i, hi, hzz⟩ := Option.map_eq_some_iff.1 hinfo
  simp only [Prod.mk.injEq] at hzz
  obtain ⟨hz0, hz1, hz2⟩ := hzz
  have hnm : n + m ≤ 140737488355328 := Nat.le_trans (Nat.le_mul_of_pos_right _ hb0) hbytes
  have hlen : (vs ++ news).length = n + m := by rw [List.length_append, hm.len, hl]
  have hzc : ∀ k, (Builtin.zeroCells z.cells k).size = k := fun k => by simp [Builtin.zeroCells, hz]
  rcases hm.row with ⟨rfl, rfl, rfl⟩ | ⟨g, rest, rfl, hbg, hg, hcr⟩
  · have hv : vs = [] := List.eq_nil_of_length_eq_zero hm.len
    subst hv
    have hr := run_append_nil (P := P) W t ty e i z ht hi hz0 a m c' news (by rw [hl, hz1, Nat.mul_one]) hnews hpos (by omega) (by
      rw [hz2]
      have : m * bytes ≤ (0 + m) * bytes := by rw [Nat.zero_add]; exact Nat.le_refl _
      omega)
    rw [Nat.zero_add]
    refine ⟨_, _, _, hr, ⟨by simpa using hl, grownCap_ge W m 0 e, by omega, .inr ⟨W.heap.size, (Builtin.zeroCells z.cells (grownCap W m 0 e - m)).toList, rfl, hbase, ?_, ?_⟩⟩, ⟨rfl, rfl, rfl, by simp, fun k hk _ => Below.heap_alloc W.drew _ k hk⟩, .inr ⟨_, rfl, Nat.le_refl _⟩⟩
    · rw [show W.heap.size = W.drew.heap.size from rfl, heap_alloc_new W.drew]
      simp
    · rw [Array.length_toList, hzc]
      have := grownCap_ge W m 0 e
      omega
  · by_cases hroom : n + m ≤ c
    · have hr := run_append_room (P := P) W t ty e i ht hi g n c (vs ++ rest).toArray hg a m c' news (by rw [hl, hz1, Nat.mul_one]) hnews h1 hroom (by
        rw [hz1, hl, Nat.mul_one, List.size_toArray, List.length_append, hm.len]; omega)
      refine ⟨_, _, _, hr, ⟨hlen, hroom, by omega, .inr ⟨g, rest.drop m, rfl, hbg, ?_, ?_⟩⟩, ⟨rfl, rfl, rfl, by simp, fun k _ hk => setRow_other W g k _ (fun e => hk (by simp [blockOf, e]))⟩, .inl rfl⟩
      · rw [setRow_heap W g _ _ e _ hg]
        congr 2
        have e1 : n * i.size = vs.length := by rw [hz1, Nat.mul_one, hm.len]
        have e2 : vs.length + m - vs.length = m := by omega
        rw [e1, hl]
        simp [List.drop_append, List.drop_of_length_le (show vs.length ≤ vs.length + m by omega), e2]
      · rw [List.length_drop]; omega
    · have holds : ∀ j u, vs[j]? = some u → W.cell? ((⟨g, 0, none⟩ : Addr).add j) = some u := by
        intro j u hu
        have hj : j < vs.length := (List.getElem?_eq_some_iff.1 hu).1
        rw [add_row0, hm.cell j (by rw [← hm.len]; exact hj), List.getD_eq_getElem?_getD, hu]
        rfl
      have hr := run_append_grow (P := P) W t ty e i z ht hi hz0 ⟨g, 0, none⟩ n c vs (by rw [hz1, Nat.mul_one]; exact hm.len) holds a m c' news (by rw [hl, hz1, Nat.mul_one]) hnews (by omega) (by omega)
        (growslice_fits (by omega) (by rw [hz2]; exact hbytes))
      refine ⟨_, _, _, hr, ⟨hlen, grownCap_ge W (n + m) c e, by omega, .inr ⟨W.heap.size, (Builtin.zeroCells z.cells (grownCap W (n + m) c e - (n + m))).toList, rfl, hbase, ?_, ?_⟩⟩, ⟨rfl, rfl, rfl, by simp, fun k hk _ => Below.heap_alloc W.drew _ k hk⟩, .inr ⟨_, rfl, Nat.le_refl _⟩⟩
      · rw [show W.heap.size = W.drew.heap.size from rfl, heap_alloc_new W.drew]
        simp
      · rw [Array.length_toList, hzc]
        have := grownCap_ge W (n + m) c e
        omega

/-- append(s, x): behind 'at_builtin'; the goal's world is 'W.alloc' of x's box -/
theorem app_one {ops : Array Oper} {rest : List Oper} {o : Oper} {a : Act} {Q : Exit → Act → World → Prop} {W : World} (base : Nat) (hgd : o.guard = none) (s x : Operand) (t e : TypeId) (z : Value) (bytes : Nat)
    (ho : o.op = .call { callee := .builtin .append, args := #[s, x], argTypes := #[t, t] })
    (ht : P.underlying t = some (.slice e)) (hinfo : (P.info? e).map (fun i => (i.zero, i.size, i.bytes)) = some (some z, 1, bytes)) (hz : z.cells.size = 1) (hb0 : 0 < bytes)
    (A : Option Addr) (n c : Nat) (vs : List Value) (y : Value) (hs : a.eval s = .slice A n c) (hx : a.eval x = .slice (some ⟨W.heap.size, 0, none⟩) 1 1) (h1 : y.oneCell' = true)
    (hm : Mine e W base A n c vs) (hbase : base ≤ W.heap.size) (hl : (n + 1) * bytes ≤ 140737488355328)
    (h : ∀ A' c' w', Mine e w' base A' (n + 1) c' (vs ++ [y]) → W.grownBy w' (blockOf A) → (blockOf A' = blockOf A ∨ ∃ k, blockOf A' = some k ∧ W.heap.size ≤ k) → wpList P ops Q rest (a.put o.dst (.slice A' (n + 1) c')) w') :
    wpList P ops Q (o :: rest) a (W.alloc (.cells #[y] e)) := by
  refine wpList_plain hgd fun _ hK => ?_
  have hm' : Mine e (W.alloc (.cells #[y] e)) base A n c vs := hm.kept (World.grownBy_alloc W _ none) (by cases blockOf A <;> simp)
  obtain ⟨A', c', w', hr, h2, h3, h4⟩ := run_append_mine (P := P) (W.alloc (.cells #[y] e)) base t o.type e z bytes ht hinfo hz hb0 A n c vs hm' ⟨W.heap.size, 0, none⟩ 1 1 [y] rfl
    (World.news_of_block (cs := #[y]) (t := e) (fr := (0, 0)) (heap_alloc_new W _)) (by simpa using h1) hl (by simp; omega) (by omega)
  unfold Oper.wp execOp
  simp only [ho, resolve, invoke, builtin, Sem.run_bind, Sem.run_pure, Result.andThen_ok, List.map_toArray, List.map_cons, List.map_nil, hs, hx, hr]
  refine hK _ _ (h A' c' w' h2 (World.grownBy.trans (World.grownBy_alloc W _ _) h3) ?_)
  rcases h4 with h4 | ⟨k, h4, h5⟩
  · exact .inl h4
  · exact .inr ⟨k, h4, by simp at h5; omega⟩

/-- append(s, ys...): the elements lie in a slice that reads -/
theorem app_all {ops : Array Oper} {rest : List Oper} {o : Oper} {a : Act} {Q : Exit → Act → World → Prop} {W : World} (base : Nat) (hgd : o.guard = none) (s x : Operand) (t e : TypeId) (z : Value) (bytes : Nat)
    (ho : o.op = .call { callee := .builtin .append, args := #[s, x], argTypes := #[t, t] })
    (ht : P.underlying t = some (.slice e)) (hinfo : (P.info? e).map (fun i => (i.zero, i.size, i.bytes)) = some (some z, 1, bytes)) (hz : z.cells.size = 1) (hb0 : 0 < bytes)
    (A : Option Addr) (n c : Nat) (vs : List Value) (B : Option Addr) (m d : Nat) (ys : List Value) (hs : a.eval s = .slice A n c) (hx : a.eval x = .slice B m d) (h1 : ∀ u ∈ ys, u.oneCell' = true)
    (hm : Mine e W base A n c vs) (hr : Sl W B m d ys) (hbase : base ≤ W.heap.size) (hl : (n + m) * bytes ≤ 140737488355328) (hnil : m = 0 → B = none ∧ d = 0 ∨ n = 0 ∧ A = none ∧ c = 0)
    (h0 : m = 0 → wpList P ops Q rest (a.put o.dst (.slice A n c)) W)
    (h : 0 < m → ∀ A' c' w', Mine e w' base A' (n + m) c' (vs ++ ys) → W.grownBy w' (blockOf A) → (blockOf A' = blockOf A ∨ ∃ k, blockOf A' = some k ∧ W.heap.size ≤ k) → wpList P ops Q rest (a.put o.dst (.slice A' (n + m) c')) w') :
    wpList P ops Q (o :: rest) a W := by
  refine wpList_plain hgd fun _ hK => ?_
  obtain ⟨i, hi, hzz⟩ := Option.map_eq_some_iff.1 hinfo
  simp only [Prod.mk.injEq] at hzz
  obtain ⟨hz0, hz1, hz2⟩ := hzz
  by_cases hpos : 0 < m
  · obtain ⟨b, off, rfl, hcl⟩ := hr.cells hpos
    obtain ⟨A', c', w', hrun, h2, h3, h4⟩ := run_append_mine (P := P) W base t o.type e z bytes ht hinfo hz hb0 A n c vs hm ⟨b, off, none⟩ m d ys hr.len
      (fun j u hu => by
        have hj : j < m := by have := (List.getElem?_eq_some_iff.1 hu).1; have := hr.len; omega
        rw [add_row, hcl j hj, List.getD_eq_getElem?_getD, hu]; rfl) h1 hl hbase hpos
    unfold Oper.wp execOp
    simp only [ho, resolve, invoke, builtin, Sem.run_bind, Sem.run_pure, Result.andThen_ok, List.map_toArray, List.map_cons, List.map_nil, hs, hx, hrun]
    exact hK _ _ (h hpos A' c' w' h2 h3 h4)
  · obtain rfl : m = 0 := by omega
    have hrun : (Builtin.append_ #[t, t] o.type #[.slice A n c, .slice B 0 d]).run P W = .ok (.slice A n c) W := by
      rcases hnil rfl with ⟨rfl, rfl⟩ | ⟨rfl, rfl, rfl⟩
      · cases A with
        | none =>
          have hrow : n = 0 ∧ c = 0 := by
            rcases hm.row with ⟨_, a, b⟩ | ⟨g, rest, e, _⟩
            · exact ⟨a, b⟩
            · cases e
          obtain ⟨rfl, rfl⟩ := hrow
          simp [Builtin.append_, run_underlying ht, sizeOf, typeInfo, hi, Builtin.lenOf, Builtin.firstCells]
        | some ad =>
          simp [Builtin.append_, run_underlying ht, sizeOf, typeInfo, hi, Builtin.lenOf, Builtin.firstCells, hm.cap, storeCells]
      · cases B with
        | none => simp [Builtin.append_, run_underlying ht, sizeOf, typeInfo, hi, Builtin.lenOf, Builtin.firstCells]
        | some bd => simp [Builtin.append_, run_underlying ht, sizeOf, typeInfo, hi, Builtin.lenOf, Builtin.firstCells, loadCells, loadCellsFrom]
    unfold Oper.wp execOp
    simp only [ho, resolve, invoke, builtin, Sem.run_bind, Sem.run_pure, Result.andThen_ok, List.map_toArray, List.map_cons, List.map_nil, hs, hx, hrun]
    exact hK _ _ (h0 rfl)

/-- make([]T, l, c): laid ahead of a walk -/
theorem make_row (t e : TypeId) (z : Value) (bytes : Nat) (ht : P.underlying t = some (.slice e)) (hinfo : (P.info? e).map (fun i => (i.zero, i.size, i.bytes)) = some (some z, 1, bytes)) (hz : z.cells = #[z]) (hb0 : 0 < bytes)
    (l c : Nat) (hlc : l ≤ c) (hc : c * bytes ≤ 281474976710656) :
    ∀ W : World, (Instr.makeSlice t (.int .i64 (l : Int)) (.int .i64 (c : Int))).run P W = .ok (.slice (some ⟨W.heap.size, 0, none⟩) l c) (W.alloc (.cells (Array.replicate c z) e)) := by
  intro W
  obtain ⟨i, hi, hzz⟩ := Option.map_eq_some_iff.1 hinfo
  simp only [Prod.mk.injEq] at hzz
  obtain ⟨hz0, hz1, hz2⟩ := hzz
  have hcm : c ≤ 281474976710656 := Nat.le_trans (Nat.le_mul_of_pos_right _ hb0) hc
  have h := run_make (P := P) W t e i z ht hi hz0 .i64 .i64 l c (by omega) (by omega) (by
    rw [hz2]
    have : ((bytes * c : Nat) : Int) ≤ 281474976710656 := by rw [Nat.mul_comm]; omega
    rwa [Int.natCast_mul] at this) (by omega)
  rw [h, hz, hz1, Int.toNat_natCast, Int.toNat_natCast, Nat.mul_one]
  have e1 : madeCells #[z] c = Array.replicate c z := by
    apply Array.ext
    · simp [madeCells]
    · intro j h1 h2
      simp [madeCells, Nat.mod_one]
  rw [e1]
end

theorem Mine.made (T : TypeId) (W : World) (base : Nat) (z : Value) (l c : Nat) (hb : base ≤ W.heap.size) (hlc : l ≤ c) (hc : c ≤ 281474976710656) :
    Mine T (W.alloc (.cells (Array.replicate c z) T)) base (some ⟨W.heap.size, 0, none⟩) l c (List.replicate l z) :=
  ⟨by simp, hlc, by omega, .inr ⟨W.heap.size, List.replicate (c - l) z, rfl, hb, by
    rw [heap_alloc_new, List.replicate_append_replicate, show l + (c - l) = c by omega, List.toArray_replicate], by simp; omega⟩⟩

/-! ### limbs in memory -/
def u32s (xs : List Nat) : List Value := xs.map fun (x : Nat) => .int .u32 (x : Int)
theorem u32s_length (xs : List Nat) : (u32s xs).length = xs.length := by simp [u32s]
theorem u32s_take (xs : List Nat) (k : Nat) : (u32s xs).take k = u32s (xs.take k) := by simp [u32s, List.map_take]
theorem u32s_set (xs : List Nat) (k x : Nat) : (u32s xs).set k (.int .u32 (x : Int)) = u32s (xs.set k x) := by simp [u32s, List.map_set]
theorem u32s_getD {xs : List Nat} {j : Nat} (h : j < xs.length) : (u32s xs).getD j undef = .int .u32 (nth xs j : Nat) := by
  unfold u32s nth
  rw [List.getD_eq_getElem?_getD, List.getD_eq_getElem?_getD, List.getElem?_map, List.getElem?_eq_getElem h]
  rfl
theorem u32s_one (xs : List Nat) : ∀ u ∈ u32s xs, u.oneCell' = true := by
  intro u hu
  obtain ⟨x, _, rfl⟩ := List.mem_map.1 hu
  rfl

theorem Tryz.info_u32 : (Tryz.prog.info? 169).map (fun i => (i.zero, i.size, i.bytes)) = some (some (.int .u32 0), 1, 4) := by kernel_rfl

/-- limbs, to be read -/
structure Num (w : World) (A : Option Addr) (n c : Nat) (xs : List Nat) : Prop where
  sl : Sl w A n c (u32s xs)
  lim : Lim xs
/-- limbs of the call's own -/
structure Own (w : World) (base : Nat) (A : Option Addr) (n c : Nat) (xs : List Nat) : Prop where
  mine : Mine 169 w base A n c (u32s xs)
  lim : Lim xs

section
variable {w w' : World} {A : Option Addr} {n c base : Nat} {xs : List Nat}
theorem Num.len (h : Num w A n c xs) : xs.length = n := by have := h.sl.len; rwa [u32s_length] at this
theorem Own.len (h : Own w base A n c xs) : xs.length = n := by have := h.mine.len; rwa [u32s_length] at this
theorem Own.num (h : Own w base A n c xs) : Num w A n c xs := ⟨h.mine.sl, h.lim⟩
theorem Num.below (h : Num w A n c xs) (hb : Below w.heap.size w w') : Num w' A n c xs := ⟨h.sl.below hb, h.lim⟩
theorem Own.below (h : Own w base A n c xs) (hb : Below w.heap.size w w') : Own w' base A n c xs := ⟨h.mine.below hb, h.lim⟩
theorem Num.pre (h : Num w A n c xs) (k c' : Nat) (hk : k ≤ n) (hc : k ≤ c') : Num w A k c' (xs.take k) := ⟨by rw [← u32s_take]; exact h.sl.pre k c' hk hc, h.lim.take k⟩
theorem Own.pre (h : Own w base A n c xs) (k : Nat) (hk : k ≤ n) : Own w base A k k (xs.take k) := ⟨by rw [← u32s_take]; exact h.mine.pre k hk, h.lim.take k⟩
theorem Num.cells (h : Num w A n c xs) (hn : 0 < n) : ∃ b o, A = some ⟨b, o, none⟩ ∧ ∀ j, j < n → w.cell? ⟨b, o + j, none⟩ = some (.int .u32 (nth xs j : Nat)) := by
  obtain ⟨b, o, e, hc⟩ := h.sl.cells hn
  exact ⟨b, o, e, fun j hj => by rw [hc j hj, u32s_getD (by rw [h.len]; exact hj)]⟩
theorem Own.cell {g : Nat} (h : Own w base (some ⟨g, 0, none⟩) n c xs) (j : Nat) (hj : j < n) : w.cell? ⟨g, j, none⟩ = some (.int .u32 (nth xs j : Nat)) := by
  rw [h.mine.cell j hj, u32s_getD (by rw [h.len]; exact hj)]
theorem Own.free {g : Nat} (h : Own w base (some ⟨g, 0, none⟩) n c xs) (j : Nat) : w.frozen? ⟨g, j, none⟩ = false := h.mine.free j
theorem Own.stored {g : Nat} (h : Own w base (some ⟨g, 0, none⟩) n c xs) (j x : Nat) (hj : j < n) (hx : x < 4294967296) : Own (w.setCell ⟨g, j, none⟩ (.int .u32 (x : Int))) base (some ⟨g, 0, none⟩) n c (xs.set j x) :=
  ⟨by rw [← u32s_set]; exact h.mine.stored j hj _, h.lim.set j hx⟩
theorem Own.kept (h : Own w base A n c xs) {row : Option Nat} (hg : w.grownBy w' row) (hne : blockOf A = none ∨ blockOf A ≠ row) : Own w' base A n c xs := ⟨h.mine.kept hg hne, h.lim⟩
theorem Num.kept (h : Num w A n c xs) {row : Option Nat} (hg : w.grownBy w' row) (hne : n = 0 ∨ blockOf A ≠ row) : Num w' A n c xs := ⟨h.sl.kept hg hne, h.lim⟩
theorem Num.nil (w : World) (c : Nat) : Num w none 0 c [] := ⟨Sl.nil w c, Lim.nil⟩
theorem Own.nil (w : World) (base : Nat) : Own w base none 0 0 [] := ⟨Mine.nil _ w base, Lim.nil⟩
theorem Own.mono {base' : Nat} (h : Own w base A n c xs) (hb : base' ≤ base) : Own w base' A n c xs := ⟨h.mine.mono hb, h.lim⟩
theorem Own.some_of (h : Own w base A n c xs) (hn : 0 < n) : ∃ g, A = some ⟨g, 0, none⟩ ∧ base ≤ g ∧ g < w.heap.size := by
  rcases h.mine.row with ⟨_, h0, _⟩ | ⟨g, rest, e, hb, hg, _⟩
  · omega
  · exact ⟨g, e, hb, lt_of_block hg⟩
end

end Go.Proofs.YtekcpapkicmckaaGreatDoor
