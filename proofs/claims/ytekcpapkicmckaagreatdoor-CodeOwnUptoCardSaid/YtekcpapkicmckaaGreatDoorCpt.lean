/- slices.Clone of whole numbers: a slice of the call's own. The state of a tree's code being made, in memory. The contract of code.tree's closure node: leaves. The contract of code.tree's closure node: a test's operation. The contract of code.tree's closure node: whole. The contract of code.tree. Ensembles in memory. The contract of code.Compile (under way). -/
import Derived.Test.YtekcpapkicmckaaGreatDoorOpn
import Derived.Test.YtekcpapkicmckaaGreatDoorShelf
import Derived.Test.YtekcpapkicmckaaGreatDoorRcy
import Derived.Test.YtekcpapkicmckaaGreatDoorPlc
import Derived.Deep.RegionHeldLaw
import Derived.Deep.RegionHeld3
import Derived.Test.YtekcpapkicmckaaGreatDoorShq
namespace Go.Proofs.YtekcpapkicmckaaGreatDoor
open Go.RowKit

/-- what Clone leaves -/
def ClonePost (zs : List Int) (w : World) (e : Ending) (w' : World) : Prop :=
  ∃ d : Hd, e = .returned (.slice d.1 d.2.1 d.2.2) ∧ CatOwn w' w.heap.size d zs ∧ (∀ k, hdBlock d = some k → w.heap.size ≤ k) ∧ Below w.heap.size w w'

theorem catOwn_of_row {w' : World} {base n : Nat} {v : Value} {zs : List Int} (hz : zs.length = n) (hn : n ≤ 1000000000000) (h : w'.ownsRow base 3 1 v n (i64s zs)) : ∃ d : Hd, v = .slice d.1 d.2.1 d.2.2 ∧ CatOwn w' base d zs ∧ ∀ k, hdBlock d = some k → base ≤ k := by
  obtain ⟨hl, h⟩ := h
  rcases h with ⟨rfl, h0⟩ | ⟨g, cap, cur, rfl, hb, hg, hc, hm, hcs, ht⟩
  · exact ⟨(none, 0, 0), rfl, .inl ⟨rfl, rfl, List.eq_nil_of_length_eq_zero (by omega)⟩, fun k hk => by simp [hdBlock] at hk⟩
  · refine ⟨(some ⟨g, 0, none⟩, n, cap), rfl, .inr ⟨by rw [i64s_length]; exact hz, hc, by show n ≤ _; omega, .inr ⟨g, cur.toList.drop n, rfl, hb, ?_, ?_⟩⟩, fun k hk => ?_⟩
    · rw [hg, ← ht, Nat.mul_one, List.take_append_drop]
    · simp only [List.length_drop, Array.length_toList, hcs]
      omega
    · unfold hdBlock at hk
      split at hk
      · cases hk
      · simp [blockOf] at hk; omega

theorem clone_any (A : Option Addr) (n c : Nat) (zs : List Int) (w : World) (hx : Ints w A n c zs) (hb : n ≤ 1000000000000) :
    Calls Tryz.prog 42 #[.slice A n c] w (ClonePost zs w) := by
  have hlen := hx.len
  cases A with
  | none =>
    have h0 : n = 0 := by
      rcases Nat.eq_zero_or_pos n with h | h
      · exact h
      · obtain ⟨b, o, e, _⟩ := hx.cells h; cases e
    refine (Tryz.slices_Clone_int_nil n c w).mono ?_
    rintro e w' ⟨rfl, rfl⟩
    exact ⟨(none, 0, 0), rfl, .inl ⟨rfl, rfl, List.eq_nil_of_length_eq_zero (by omega)⟩, fun k hk => by simp [hdBlock] at hk, Below.refl _ _⟩
  | some a =>
    by_cases h0 : n = 0
    · subst h0
      have hz : zs = [] := List.eq_nil_of_length_eq_zero (by omega)
      subst hz
      refine (Tryz.slices_Clone_int_zero a c w).mono ?_
      rintro e w' ⟨v, rfl, hr, _, hbl⟩
      obtain ⟨d, rfl, hd, hk⟩ := catOwn_of_row (zs := []) rfl (by omega) hr
      exact ⟨d, rfl, hd, hk, hbl⟩
    · obtain ⟨b, o, e, hc⟩ := hx.cells (by omega)
      injection e with e
      subst e
      refine (Tryz.slices_Clone_int b o n c zs w (by omega) (by omega) (fun j hj => hc j (by omega))).mono ?_
      rintro e w' ⟨v, rfl, hr, _, hbl⟩
      rw [List.take_of_length_le (by omega)] at hr
      obtain ⟨d, rfl, hd, hk⟩ := catOwn_of_row hlen (by omega) hr
      exact ⟨d, rfl, hd, hk, hbl⟩

end Go.Proofs.YtekcpapkicmckaaGreatDoor

namespace Go.Proofs.YtekcpapkicmckaaGreatDoor
open Go.RowKit

theorem Mine.ty {T : TypeId} {w : World} {base : Nat} {A : Option Addr} {n c : Nat} {vs : List Value} (h : Mine T w base A n c vs) {k : Nat} (hk : blockOf A = some k) : ∃ cs, w.heap[k]? = some (.cells cs T (0, 0)) := by
  rcases h.row with ⟨rfl, _, _⟩ | ⟨g, rest, rfl, hb, hg, _⟩
  · cases hk
  · simp only [blockOf, Option.some.injEq] at hk
    subst hk
    exact ⟨_, hg⟩
theorem MineK.ty {sz : Nat} {T : TypeId} {w : World} {base : Nat} {A : Option Addr} {n c : Nat} {vs : List Value} (h : MineK sz T w base A n c vs) {k : Nat} (hk : blockOf A = some k) : ∃ cs, w.heap[k]? = some (.cells cs T (0, 0)) := by
  rcases h.row with ⟨rfl, _, _⟩ | ⟨g, rest, rfl, hb, hg, _⟩
  · cases hk
  · simp only [blockOf, Option.some.injEq] at hk
    subst hk
    exact ⟨_, hg⟩
theorem CatOwn.ty {w : World} {base : Nat} {h : Hd} {zs : List Int} (c : CatOwn w base h zs) {k : Nat} (hk : hdBlock h = some k) : ∃ cs, w.heap[k]? = some (.cells cs 3 (0, 0)) := by
  unfold hdBlock at hk
  split at hk
  · cases hk
  · rcases c with ⟨_, h2, _⟩ | c
    · contradiction
    · exact c.ty hk
theorem ty_ne {w : World} {k1 k2 : Nat} {c1 c2 : Array Value} {T1 T2 : TypeId} {f1 f2 : Nat × Nat} (h1 : w.heap[k1]? = some (.cells c1 T1 f1)) (h2 : w.heap[k2]? = some (.cells c2 T2 f2)) (hT : T1 ≠ T2) : k1 ≠ k2 := by
  intro e
  subst e
  rw [h1] at h2
  simp only [Option.some.injEq, Obj.cells.injEq] at h2
  exact hT h2.2.1
/-- a block of another kind than the row that is written -/
theorem keep_ty {w w' : World} {row : Option Nat} (hg : w.grownBy w' row) {k : Nat} {cs : Array Value} {T1 T2 : TypeId} {fr : Nat × Nat} (h : w.heap[k]? = some (.cells cs T1 fr)) (hrow : ∀ r, row = some r → ∃ c2, w.heap[r]? = some (.cells c2 T2 (0, 0))) (hT : T1 ≠ T2) : w'.heap[k]? = some (.cells cs T1 fr) := by
  refine (hg.block k (lt_of_block h) (fun e => ?_)).trans h
  obtain ⟨c2, h2⟩ := hrow k e.symm
  exact ty_ne h h2 hT rfl

/-- boxes of nodes stay -/
def NdKeep (w w' : World) : Prop := ∀ (k : Nat) (cs : Array Value), w.heap[k]? = some (.cells cs 72 (0, 0)) → w'.heap[k]? = some (.cells cs 72 (0, 0))
theorem NdKeep.trans {a b c : World} (h : NdKeep a b) (k : NdKeep b c) : NdKeep a c := fun i cs e => k i cs (h i cs e)
theorem NdKeep.below {a b : World} (h : Below a.heap.size a b) : NdKeep a b := fun i _ e => (h.block i (lt_of_block e)).trans e
theorem NdKeep.grown {a b : World} {row : Option Nat} {T2 : TypeId} (hg : a.grownBy b row) (hrow : ∀ r, row = some r → ∃ c2, a.heap[r]? = some (.cells c2 T2 (0, 0))) (hT : 72 ≠ T2) : NdKeep a b := fun _ _ e => keep_ty hg e hrow hT
theorem NdKeep.set {a : World} {g : Nat} {cs : Array Value} {T2 : TypeId} (h : a.heap[g]? = some (.cells cs T2 (0, 0))) (hT : 72 ≠ T2) (j : Nat) (v : Value) : NdKeep a (a.setCell ⟨g, j, none⟩ v) :=
  NdKeep.grown (setCell_grownBy a g j v) (fun r hr => by injection hr with hr; subst hr; exact ⟨cs, h⟩) hT

/-- a tree's code being made -/
structure TreeSt (w : World) (B bt bj bp bn P : Nat) (out F O : Int) (A : Option Addr) (n c : Nat) (JA : Option Addr) (jn jc : Nat) (js : List Int) (OA : Option Addr) (on oc : Nat) (ops : List OpV) : Prop where
  tree : w.heap[bt]? = some (.cells #[.int .i64 out, .slice A n c] 65 (0, 0))
  jump : w.heap[bj]? = some (.cells #[.slice JA jn jc] 44 (0, 0))
  pc : w.heap[bp]? = some (.cells #[.pointer (some ⟨P, 0, none⟩)] 77 (0, 0))
  fn : w.heap[bn]? = some (.cells #[.func (.func 68) #[] #[.pointer (some ⟨bt, 0, none⟩), .pointer (some ⟨bj, 0, none⟩), .pointer (some ⟨bp, 0, none⟩), .pointer (some ⟨bn, 0, none⟩)]] 119 (0, 0))
  prog : w.heap[P]? = some (.cells #[.int .i64 F, .int .i64 O, .slice OA on oc] 30 (0, 0))
  js : Mine 3 w B JA jn jc (i64s js)
  hds : ∃ hs, Heads w B OA on oc ops hs ∧ ∀ h ∈ hs, hdBlock h = none ∨ hdBlock h ≠ blockOf JA
  rng : ∀ v ∈ ops, OpRng v ∧ ∀ z ∈ v.cats, -9223372036854775808 ≤ z ∧ z ≤ 9223372036854775807
  low : B ≤ bj ∧ B ≤ P ∧ B ≤ w.heap.size

section
variable {w w' : World} {B bt bj bp bn P : Nat} {out F O : Int} {A : Option Addr} {n c : Nat} {JA : Option Addr} {jn jc : Nat} {js : List Int} {OA : Option Addr} {on oc : Nat} {ops : List OpV}
theorem TreeSt.own (h : TreeSt w B bt bj bp bn P out F O A n c JA jn jc js OA on oc ops) : OwnOps w B OA on oc ops := by
  obtain ⟨hs, hh, _⟩ := h.hds
  exact ⟨⟨hs, hh⟩, h.rng⟩
theorem Heads.below {hs : List Hd} (h : Heads w B OA on oc ops hs) (hb : Below w.heap.size w w') : Heads w' B OA on oc ops hs := by
  obtain ⟨e, hm, hc, h1, h2⟩ := h
  exact ⟨e, hm.below hb, fun j a b => (hc j a b).below hb, h1, h2⟩
theorem TreeSt.below (h : TreeSt w B bt bj bp bn P out F O A n c JA jn jc js OA on oc ops) (hb : Below w.heap.size w w') : TreeSt w' B bt bj bp bn P out F O A n c JA jn jc js OA on oc ops := by
  obtain ⟨hs, hh, ha⟩ := h.hds
  exact ⟨(hb.block _ (lt_of_block h.tree)).trans h.tree, (hb.block _ (lt_of_block h.jump)).trans h.jump, (hb.block _ (lt_of_block h.pc)).trans h.pc, (hb.block _ (lt_of_block h.fn)).trans h.fn, (hb.block _ (lt_of_block h.prog)).trans h.prog,
    h.js.below hb, ⟨hs, hh.below hb, ha⟩, h.rng, ⟨h.low.1, h.low.2.1, Nat.le_trans h.low.2.2 hb.size⟩⟩
/-- heads stay where another kind of block is written -/
theorem Heads.kept {hs : List Hd} (h : Heads w B OA on oc ops hs) {row : Option Nat} (hg : w.grownBy w' row) (h1 : blockOf OA = none ∨ blockOf OA ≠ row) (h2 : ∀ h ∈ hs, hdBlock h = none ∨ hdBlock h ≠ row) : Heads w' B OA on oc ops hs := by
  obtain ⟨e, hm, hc, a1, a2⟩ := h
  exact ⟨e, hm.kept hg h1, fun j a b => (hc j a b).kept hg (h2 _ (List.getElem_mem a)), a1, a2⟩
theorem Heads.apart_ty {hs : List Hd} (h : Heads w B OA on oc ops hs) {k : Nat} {cs : Array Value} {T : TypeId} {fr : Nat × Nat} (hk : w.heap[k]? = some (.cells cs T fr)) (hT1 : T ≠ 75) (hT2 : T ≠ 3) :
    (blockOf OA = none ∨ blockOf OA ≠ some k) ∧ ∀ h ∈ hs, hdBlock h = none ∨ hdBlock h ≠ some k := by
  obtain ⟨e, hm, hc, a1, a2⟩ := h
  constructor
  · cases hA : blockOf OA with
    | none => exact .inl rfl
    | some r =>
      obtain ⟨c2, h2⟩ := hm.ty hA
      exact .inr (fun e => by injection e with e; exact ty_ne hk h2 hT1 e.symm)
  · intro h hh
    obtain ⟨j, hj, rfl⟩ := List.mem_iff_getElem.1 hh
    cases hA : hdBlock hs[j] with
    | none => exact .inl rfl
    | some r =>
      obtain ⟨c2, h2⟩ := (hc j hj (by omega)).ty hA
      exact .inr (fun e => by injection e with e; exact ty_ne hk h2 hT2 e.symm)
theorem Heads.lt {hs : List Hd} (h : Heads w B OA on oc ops hs) : ∀ h ∈ hs, ∀ k, hdBlock h = some k → B ≤ k ∧ k < w.heap.size := by
  obtain ⟨e, hm, hc, a1, a2⟩ := h
  intro h hh k hk
  obtain ⟨j, hj, rfl⟩ := List.mem_iff_getElem.1 hh
  exact (hc j hj (by omega)).lt k hk

/-- a jump's place is noted -/
theorem TreeSt.noted (h : TreeSt w B bt bj bp bn P out F O A n c JA jn jc js OA on oc ops) {w1 : World} {JA' : Option Addr} {jc' : Nat} {x : Int} (hm : Mine 3 w1 B JA' (jn + 1) jc' (i64s js ++ [.int .i64 x])) (hg : w.grownBy w1 (blockOf JA))
    (hA : blockOf JA' = blockOf JA ∨ ∃ k, blockOf JA' = some k ∧ w.heap.size ≤ k) :
    TreeSt (w1.setCell ⟨bj, 0, none⟩ (.slice JA' (jn + 1) jc')) B bt bj bp bn P out F O A n c JA' (jn + 1) jc' (js ++ [x]) OA on oc ops := by
  obtain ⟨hs, hh, ha⟩ := h.hds
  have ht : ∀ r, blockOf JA = some r → ∃ c2, w.heap[r]? = some (.cells c2 3 (0, 0)) := fun r hr => h.js.ty hr
  have k1 := keep_ty hg h.tree ht (by decide)
  have k2 := keep_ty hg h.jump ht (by decide)
  have k3 := keep_ty hg h.pc ht (by decide)
  have k4 := keep_ty hg h.fn ht (by decide)
  have k5 := keep_ty hg h.prog ht (by decide)
  have hh1 : Heads w1 B OA on oc ops hs := hh.kept hg (by
    cases hO : blockOf OA with
    | none => exact .inl rfl
    | some r =>
      obtain ⟨c2, h2⟩ := hh.2.1.ty hO
      refine .inr (fun e => ?_)
      obtain ⟨c3, h3⟩ := ht r e.symm
      exact ty_ne h2 h3 (by decide) rfl) ha
  have hsg := setCell_grownBy w1 bj 0 (.slice JA' (jn + 1) jc')
  have hap := hh1.apart_ty k2 (by decide) (by decide)
  have e1 : bt ≠ bj := ty_ne k1 k2 (by decide)
  have e3 : bp ≠ bj := ty_ne k3 k2 (by decide)
  have e4 : bn ≠ bj := ty_ne k4 k2 (by decide)
  have e5 : P ≠ bj := ty_ne k5 k2 (by decide)
  refine ⟨(setCell_other e1 _ _).trans k1, setCell_row (vs := [.slice JA jn jc]) k2 0 _, (setCell_other e3 _ _).trans k3, (setCell_other e4 _ _).trans k4, (setCell_other e5 _ _).trans k5, ?_, ⟨hs, hh1.kept hsg hap.1 hap.2, ?_⟩, h.rng, ⟨h.low.1, h.low.2.1, ?_⟩⟩
  · have : Mine 3 w1 B JA' (jn + 1) jc' (i64s (js ++ [x])) := by simpa [i64s] using hm
    refine this.kept hsg ?_
    cases hJ : blockOf JA' with
    | none => exact .inl rfl
    | some r =>
      obtain ⟨c2, h2⟩ := hm.ty hJ
      exact .inr (fun e => by injection e with e; exact ty_ne h2 k2 (by decide) e)
  · intro hd hm
    rcases hA with e | ⟨k, e, hk⟩
    · rw [e]; exact ha hd hm
    · cases hd' : hdBlock hd with
      | none => exact .inl rfl
      | some r =>
        have := (hh.lt hd hm r hd').2
        exact .inr (by rw [e]; intro e2; injection e2 with e2; omega)
  · exact Nat.le_trans (Nat.le_trans h.low.2.2 hg.size) hsg.size
theorem flatOps_append : ∀ (hs : List Hd) (ops : List OpV) (hs2 : List Hd) (ops2 : List OpV), hs.length = ops.length → flatOps (hs ++ hs2) (ops ++ ops2) = flatOps hs ops ++ flatOps hs2 ops2
  | [], [], hs2, ops2, _ => by simp [flatOps]
  | h1 :: hs, v1 :: vs, hs2, ops2, e => by
    simp only [List.length_cons, Nat.add_right_cancel_iff] at e
    simp only [List.cons_append, flatOps, flatOps_append hs vs hs2 ops2 e, List.append_assoc]
/-- some operations more; their categories were laid since a world w0 -/
theorem Heads.snocs {w0 : World} {hs hs2 : List Hd} {ops2 : List OpV} {OA' : Option Addr} {oc' : Nat} (hh : Heads w0 B OA on oc ops hs) (hb : Below w0.heap.size w0 w) (e2 : hs2.length = ops2.length)
    (hc2 : ∀ j (h1 : j < hs2.length) (h2 : j < ops2.length), CatOwn w B hs2[j] ops2[j].cats) (hnew : ∀ h ∈ hs2, ∀ k, hdBlock h = some k → w0.heap.size ≤ k) (hp2 : hs2.Pairwise (fun h h' => ∀ k k', hdBlock h = some k → hdBlock h' = some k' → k ≠ k'))
    (hm : MineK 8 75 w' B OA' (on + ops2.length) oc' (flatOps hs ops ++ flatOps hs2 ops2)) (hg : w.grownBy w' (blockOf OA)) (hA : blockOf OA' = blockOf OA ∨ ∃ k, blockOf OA' = some k ∧ w.heap.size ≤ k) :
    Heads w' B OA' (on + ops2.length) oc' (ops ++ ops2) (hs ++ hs2) := by
  obtain ⟨e, hmk, hc, h1, h2⟩ := hh
  have hAlt := hmk.lt
  have hcw : ∀ j (h1 : j < (hs ++ hs2).length) (h2 : j < (ops ++ ops2).length), CatOwn w B (hs ++ hs2)[j] (ops ++ ops2)[j].cats := by
    intro j a b
    by_cases hj : j < ops.length
    · rw [List.getElem_append_left (by omega), List.getElem_append_left hj]
      exact (hc j (by omega) hj).below hb
    · rw [List.getElem_append_right (by omega), List.getElem_append_right (by omega)]
      have := hc2 (j - hs.length) (by simp at a; omega) (by simp at b; omega)
      simpa [e] using this
  have hsep : ∀ h ∈ hs ++ hs2, hdBlock h = none ∨ hdBlock h ≠ blockOf OA := by
    intro h hh
    rcases List.mem_append.1 hh with hh | hh
    · exact h1 h hh
    · cases hk : hdBlock h with
      | none => exact .inl rfl
      | some k =>
        refine .inr fun e => ?_
        have := (hAlt k e.symm).2
        have := hnew h hh k hk
        omega
  refine ⟨by simp [e, e2], by rw [flatOps_append hs ops hs2 ops2 e]; exact hm, fun j a b => (hcw j a b).kept hg (hsep _ (List.getElem_mem a)), fun h hh => ?_, ?_⟩
  · rcases hA with hA | ⟨k, hk, hkl⟩
    · rw [hA]; exact hsep h hh
    · obtain ⟨j, hj, rfl⟩ := List.mem_iff_getElem.1 hh
      cases hb : hdBlock ((hs ++ hs2)[j]) with
      | none => exact .inl rfl
      | some k' =>
        have hjl : j < (ops ++ ops2).length := by simp at hj ⊢; omega
        have := ((hcw j hj hjl).lt k' hb).2
        exact .inr (by rw [hk]; intro e; injection e with e; omega)
  · rw [List.pairwise_append]
    refine ⟨h2, hp2, fun a ha b hb => ?_⟩
    intro k k' hk hk'
    obtain ⟨j, hj, rfl⟩ := List.mem_iff_getElem.1 ha
    have := ((hc j hj (by omega)).lt k hk).2
    have := hnew b hb k' hk'
    omega

/-- operations are added -/
theorem TreeSt.added {w0 : World} (h : TreeSt w0 B bt bj bp bn P out F O A n c JA jn jc js OA on oc ops) {hs hs2 : List Hd} {ops2 : List OpV} {w1 : World} {OA' : Option Addr} {oc' : Nat} (hh : Heads w0 B OA on oc ops hs) (ha : ∀ h ∈ hs, hdBlock h = none ∨ hdBlock h ≠ blockOf JA)
    (hb : Below w0.heap.size w0 w) (e2 : hs2.length = ops2.length) (hc2 : ∀ j (h1 : j < hs2.length) (h2 : j < ops2.length), CatOwn w B hs2[j] ops2[j].cats) (hnew : ∀ h ∈ hs2, ∀ k, hdBlock h = some k → w0.heap.size ≤ k)
    (hp2 : hs2.Pairwise (fun h h' => ∀ k k', hdBlock h = some k → hdBlock h' = some k' → k ≠ k')) (hr2 : ∀ v ∈ ops2, OpRng v ∧ ∀ z ∈ v.cats, -9223372036854775808 ≤ z ∧ z ≤ 9223372036854775807)
    (hm : MineK 8 75 w1 B OA' (on + ops2.length) oc' (flatOps hs ops ++ flatOps hs2 ops2)) (hg : w.grownBy w1 (blockOf OA)) (hA : blockOf OA' = blockOf OA ∨ ∃ k, blockOf OA' = some k ∧ w.heap.size ≤ k) :
    TreeSt (w1.setCell ⟨P, 2, none⟩ (.slice OA' (on + ops2.length) oc')) B bt bj bp bn P out F O A n c JA jn jc js OA' (on + ops2.length) oc' (ops ++ ops2) := by
  have hw := h.below hb
  have hhw := hh.below hb
  have ht : ∀ r, blockOf OA = some r → ∃ c2, w.heap[r]? = some (.cells c2 75 (0, 0)) := fun r hr => hhw.2.1.ty hr
  have k1 := keep_ty hg hw.tree ht (by decide)
  have k2 := keep_ty hg hw.jump ht (by decide)
  have k3 := keep_ty hg hw.pc ht (by decide)
  have k4 := keep_ty hg hw.fn ht (by decide)
  have k5 := keep_ty hg hw.prog ht (by decide)
  have hn := Heads.snocs hh hb e2 hc2 hnew hp2 hm hg hA
  have hsg := setCell_grownBy w1 P 2 (.slice OA' (on + ops2.length) oc')
  have hap := hn.apart_ty k5 (by decide) (by decide)
  have e1 : bt ≠ P := ty_ne k1 k5 (by decide)
  have e2' : bj ≠ P := ty_ne k2 k5 (by decide)
  have e3 : bp ≠ P := ty_ne k3 k5 (by decide)
  have e4 : bn ≠ P := ty_ne k4 k5 (by decide)
  refine ⟨(setCell_other e1 _ _).trans k1, (setCell_other e2' _ _).trans k2, (setCell_other e3 _ _).trans k3, (setCell_other e4 _ _).trans k4, setCell_row (vs := [.int .i64 F, .int .i64 O, .slice OA on oc]) k5 2 _, ?_, ⟨hs ++ hs2, hn.kept hsg hap.1 hap.2, ?_⟩, ?_, ⟨h.low.1, h.low.2.1, ?_⟩⟩
  · have h1 : Mine 3 w1 B JA jn jc (i64s js) := hw.js.kept hg (by
      cases hJ : blockOf JA with
      | none => exact .inl rfl
      | some r =>
        obtain ⟨c2, h2⟩ := hw.js.ty hJ
        refine .inr (fun e => ?_)
        obtain ⟨c3, h3⟩ := ht r e.symm
        exact ty_ne h2 h3 (by decide) rfl)
    refine h1.kept hsg ?_
    cases hJ : blockOf JA with
    | none => exact .inl rfl
    | some r =>
      obtain ⟨c2, h2⟩ := h1.ty hJ
      exact .inr (fun e => by injection e with e; exact ty_ne h2 k5 (by decide) e)
  · intro hd hm
    rcases List.mem_append.1 hm with hm | hm
    · exact ha hd hm
    · cases hJ : blockOf JA with
      | none =>
        cases hk : hdBlock hd with
        | none => exact .inl rfl
        | some k => exact .inr (by simp)
      | some r =>
        cases hk : hdBlock hd with
        | none => exact .inl rfl
        | some k =>
          have := hnew hd hm k hk
          have := (h.js.lt r hJ).2
          exact .inr (by intro e; injection e with e; omega)
  · intro v hv
    rcases List.mem_append.1 hv with hv | hv
    · exact h.rng v hv
    · exact hr2 v hv
  · exact Nat.le_trans hw.low.2.2 (Nat.le_trans hg.size hsg.size)

theorem setTo_cats (x : Int) (ops : List OpV) (j i : Nat) (hj : j < ops.length) (b : i < (setTo x ops j).length) (a : i < ops.length) : (setTo x ops j)[i].cats = ops[i].cats := by
  simp only [setTo, List.getElem_set]
  split
  · next e => subst e; rw [opAt_get hj]
  · rfl
/-- a jump is set -/
theorem TreeSt.set {g : Nat} (h : TreeSt w B bt bj bp bn P out F O A n c JA jn jc js (some ⟨g, 0, none⟩) on oc ops) (j : Nat) (hj : j < ops.length) (x : Int) (hx : -9223372036854775808 ≤ x ∧ x ≤ 9223372036854775807) :
    TreeSt (w.setCell ⟨g, j * 8 + 7, none⟩ (.int .i64 x)) B bt bj bp bn P out F O A n c JA jn jc js (some ⟨g, 0, none⟩) on oc (setTo x ops j) := by
  obtain ⟨hs, hh, ha⟩ := h.hds
  have hsg := setCell_grownBy w g (j * 8 + 7) (.int .i64 x)
  have ht : ∀ r, some g = some r → ∃ c2, w.heap[r]? = some (.cells c2 75 (0, 0)) := fun r hr => hh.2.1.ty hr
  have k1 := keep_ty hsg h.tree ht (by decide)
  have k2 := keep_ty hsg h.jump ht (by decide)
  have k3 := keep_ty hsg h.pc ht (by decide)
  have k4 := keep_ty hsg h.fn ht (by decide)
  have k5 := keep_ty hsg h.prog ht (by decide)
  obtain ⟨e, hm, hc, h1, h2⟩ := hh
  have hlen : ops.length = on := by have := hm.len; rw [flatOps_length hs ops e] at this; omega
  refine ⟨k1, k2, k3, k4, k5, h.js.kept hsg ?_, ⟨hs, ⟨?_, ?_, ?_, h1, h2⟩, ha⟩, ?_, ⟨h.low.1, h.low.2.1, Nat.le_trans h.low.2.2 hsg.size⟩⟩
  · cases hJ : blockOf JA with
    | none => exact .inl rfl
    | some r =>
      obtain ⟨c2, hr2⟩ := h.js.ty hJ
      refine .inr (fun e => ?_)
      obtain ⟨c3, h3⟩ := ht r e.symm
      exact ty_ne hr2 h3 (by decide) rfl
  · unfold setTo; rw [List.length_set]; exact e
  · unfold setTo
    rw [opAt_get hj, ← flatOps_set hs ops e j hj 7 (by omega) (.int .i64 x) { ops[j] with dest := x } rfl]
    exact hm.stored _ (by omega) _
  · intro i a b
    have hcw : CatOwn w B hs[i] (setTo x ops j)[i].cats := by
      rw [setTo_cats x ops j i hj b (by omega)]
      exact hc i a (by omega)
    exact hcw.kept hsg (h1 _ (List.getElem_mem a))
  · intro u hu
    unfold setTo at hu
    rcases List.mem_or_eq_of_mem_set hu with hu | rfl
    · exact h.rng u hu
    · rw [opAt_get hj]
      have hr := h.rng _ (List.getElem_mem hj)
      exact ⟨⟨hr.1.kind, hr.1.feature, hr.1.thr, hr.1.missing, hr.1.output, hr.1.value, hx⟩, hr.2⟩
end

end Go.Proofs.YtekcpapkicmckaaGreatDoor

namespace Go.Proofs.YtekcpapkicmckaaGreatDoor
open Go.RowKit

section
variable {P : Program}
/-- append at a step of a region that draws: to whole rows of the call's own -/
theorem step_appK {ops : Array Oper} {o : Oper} {a : Act} {K : Act → World → Prop} {Q : Exit → Act → World → Prop} {E : Prop} {W : World} (base : Nat) (hgd : o.guard = none) (s x : Operand) (t e : TypeId) (z : Value) (sz bytes : Nat)
    (ho : o.op = .call { callee := .builtin .append, args := #[s, x], argTypes := #[t, t] })
    (ht : P.underlying t = some (.slice e)) (hinfo : (P.info? e).map (fun i => (i.zero, i.size, i.bytes)) = some (some z, sz, bytes)) (hz : z.cells.size = sz) (hb0 : 0 < bytes)
    (A : Option Addr) (n c : Nat) (vs : List Value) (g m d : Nat) (cs : Array Value) (T : TypeId) (hg : W.heap[g]? = some (.cells cs T (0, 0))) (hcs : cs.size = m * sz) (hs : a.eval s = .slice A n c) (hx : a.eval x = .slice (some ⟨g, 0, none⟩) m d) (h1 : ∀ u ∈ cs.toList, u.oneCell' = true)
    (hm : MineK sz e W base A n c vs) (hbase : base ≤ W.heap.size) (hpos : 0 < m) (hl : (n + m) * bytes ≤ 140737488355328)
    (h : ∀ A' c' w', MineK sz e w' base A' (n + m) c' (vs ++ cs.toList) → W.grownBy w' (blockOf A) → (blockOf A' = blockOf A ∨ ∃ k, blockOf A' = some k ∧ W.heap.size ≤ k) → K (a.put o.dst (.slice A' (n + m) c')) w') :
    if Region.wanted o (yielded ops a.tmps) = true then Oper.wp P o a W K Q else E := by
  have hw : Region.wanted o (yielded ops a.tmps) = true := by simp [Region.wanted, hgd]
  rw [if_pos hw]
  obtain ⟨A', c', w', hr, h2, h3, h4⟩ := run_append_mineK (P := P) W base t o.type e z sz bytes ht hinfo hz hb0 A n c vs hm ⟨g, 0, none⟩ m d cs.toList (by simpa using hcs)
    (World.news_of_block hg) h1 hl hbase hpos
  unfold Oper.wp execOp
  simp only [ho, resolve, invoke, builtin, Sem.run_bind, Sem.run_pure, Result.andThen_ok, List.map_toArray, List.map_cons, List.map_nil, hs, hx, hr]
  exact h A' c' w' h2 h3 h4
end

theorem Mine.toK {T : TypeId} {w : World} {base : Nat} {A : Option Addr} {n c : Nat} {vs : List Value} (h : Mine T w base A n c vs) : MineK 1 T w base A n c vs := ⟨by rw [h.len]; omega, h.cap, h.big, h.row.imp id fun ⟨g, rest, e, h1, h2, h3⟩ => ⟨g, rest, e, h1, h2, by omega⟩⟩
theorem MineK.to1 {T : TypeId} {w : World} {base : Nat} {A : Option Addr} {n c : Nat} {vs : List Value} (h : MineK 1 T w base A n c vs) : Mine T w base A n c vs := ⟨by rw [h.len]; omega, h.cap, h.big, h.row.imp id fun ⟨g, rest, e, h1, h2, h3⟩ => ⟨g, rest, e, h1, h2, by omega⟩⟩

theorem TreeSt.held {w w1 : World} {B bt bj bp bn P : Nat} {out F O : Int} {A : Option Addr} {n c : Nat} {JA : Option Addr} {jn jc : Nat} {js : List Int} {OA : Option Addr} {on oc : Nat} {ops : List OpV}
    (h : TreeSt w B bt bj bp bn P out F O A n c JA jn jc js OA on oc ops) (hg : w.grownBy w1 (blockOf JA)) :
    w1.cell? ⟨bj, 0, none⟩ = some (.slice JA jn jc) ∧ w1.frozen? ⟨bj, 0, none⟩ = false ∧ w1.cell? ⟨bp, 0, none⟩ = some (.pointer (some ⟨P, 0, none⟩)) ∧ w1.cell? ⟨P, 2, none⟩ = some (.slice OA on oc) := by
  have ht : ∀ r, blockOf JA = some r → ∃ c2, w.heap[r]? = some (.cells c2 3 (0, 0)) := fun r hr => h.js.ty hr
  have k2 := keep_ty hg h.jump ht (by decide)
  exact ⟨cell_of_block k2 rfl, frozen_row (vs := [.slice JA jn jc]) k2 0, cell_of_block (keep_ty hg h.pc ht (by decide)) rfl, cell_of_block (keep_ty hg h.prog ht (by decide)) rfl⟩

theorem TreeSt.held2 {w w1 : World} {B bt bj bp bn P : Nat} {out F O : Int} {A : Option Addr} {n c : Nat} {JA : Option Addr} {jn jc : Nat} {js : List Int} {OA : Option Addr} {on oc : Nat} {ops : List OpV}
    (h : TreeSt w B bt bj bp bn P out F O A n c JA jn jc js OA on oc ops) (hg : w.grownBy w1 (blockOf OA)) :
    w1.cell? ⟨P, 2, none⟩ = some (.slice OA on oc) ∧ w1.frozen? ⟨P, 2, none⟩ = false := by
  obtain ⟨hs, hh, ha⟩ := h.hds
  have k5 := keep_ty hg h.prog (fun r hr => hh.2.1.ty hr) (by decide)
  exact ⟨cell_of_block k5 rfl, frozen_row (vs := [.int .i64 F, .int .i64 O, .slice OA on oc]) k5 2⟩

theorem leaf_keep {w w1 : World} {B bt bj bp bn P : Nat} {out F O : Int} {A : Option Addr} {n c : Nat} {JA : Option Addr} {jn jc : Nat} {js : List Int} {OA : Option Addr} {on oc : Nat} {ops : List OpV}
    (h : TreeSt w B bt bj bp bn P out F O A n c JA jn jc js OA on oc ops) (hg : w.grownBy w1 (blockOf OA)) {k : Nat} {cs : Array Value} {x : Value} (hN : w.heap[k]? = some (.cells cs 72 (0, 0))) (hx : cs[1]? = some x) (y : Value) :
    (w1.cell? ⟨bp, 0, none⟩ = some (.pointer (some ⟨P, 0, none⟩)) ∧ w1.cell? ⟨bt, 0, none⟩ = some (.int .i64 out) ∧ w1.cell? ⟨k, 1, none⟩ = some x) ∧
    ((w1.setCell ⟨P, 2, none⟩ y).cell? ⟨bp, 0, none⟩ = some (.pointer (some ⟨P, 0, none⟩)) ∧ (w1.setCell ⟨P, 2, none⟩ y).cell? ⟨bt, 0, none⟩ = some (.int .i64 out) ∧ (w1.setCell ⟨P, 2, none⟩ y).cell? ⟨k, 1, none⟩ = some x) := by
  obtain ⟨hs, hh, ha⟩ := h.hds
  have ht : ∀ r, blockOf OA = some r → ∃ c2, w.heap[r]? = some (.cells c2 75 (0, 0)) := fun r hr => hh.2.1.ty hr
  have k1 := keep_ty hg h.tree ht (by decide)
  have k3 := keep_ty hg h.pc ht (by decide)
  have k5 := keep_ty hg h.prog ht (by decide)
  have k6 := keep_ty hg hN ht (by decide)
  exact ⟨⟨cell_of_block k3 rfl, cell_of_block k1 rfl, cell_of_block k6 hx⟩, cell_of_block ((setCell_other (ty_ne k3 k5 (by decide)) 2 y).trans k3) rfl, cell_of_block ((setCell_other (ty_ne k1 k5 (by decide)) 2 y).trans k1) rfl, cell_of_block ((setCell_other (ty_ne k6 k5 (by decide)) 2 y).trans k6) hx⟩

theorem OwnOps.ty {w : World} {base : Nat} {A : Option Addr} {n c : Nat} {ops : List OpV} (h : OwnOps w base A n c ops) {k : Nat} (hk : blockOf A = some k) : ∃ cs, w.heap[k]? = some (.cells cs 75 (0, 0)) := by
  obtain ⟨hs, hh⟩ := h.hds
  exact hh.2.1.ty hk

/-- what node leaves -/
def NodePost (B bt bj bp bn P : Nat) (out F O : Int) (A : Option Addr) (n c : Nat) (js : List Int) (ops : List OpV) (w : World) (e : Ending) (w' : World) : Prop :=
  ∃ JA jn jc OA on oc, e = .returned (.tuple #[]) ∧ TreeSt w' B bt bj bp bn P out F O A n c JA jn jc js OA on oc ops ∧ Below B w w' ∧ NdKeep w w'

set_option maxRecDepth 100000 in
set_option maxHeartbeats 4000000 in
set_option linter.unusedSimpArgs false in
theorem node_leaf (B bt bj bp bn P : Nat) (out F O : Int) (A : Option Addr) (n c : Nat) (JA : Option Addr) (jn jc : Nat) (js : List Int) (OA : Option Addr) (on oc : Nat) (ops : List OpV) (nds : List NdV) (i : Nat) (w : World)
    (hT : TreeSt w B bt bj bp bn P out F O A n c JA jn jc js OA on oc ops) (hp : NdsAt w A n c nds) (hi : i < n) (hk : (ndAt nds i).kind = 1) (hon : on + 2 ≤ 1000000000000) (hjn : jn ≤ 1000000000000) (ho : -9223372036854775808 ≤ out ∧ out ≤ 9223372036854775807)
    (hv : -9223372036854775808 ≤ (ndAt nds i).value ∧ (ndAt nds i).value ≤ 9223372036854775807) :
    Calls Tryz.prog 68 #[.int .i64 (i : Int), .pointer (some ⟨bt, 0, none⟩), .pointer (some ⟨bj, 0, none⟩), .pointer (some ⟨bp, 0, none⟩), .pointer (some ⟨bn, 0, none⟩)] w
      (NodePost B bt bj bp bn P out F O A n c (js ++ [(on : Int) + 1]) (ops ++ [addOp out (ndAt nds i).value, jumpTo 0]) w) := by
  have hlen := hp.len
  have hnb := hp.big
  obtain ⟨b, o, rfl, hc⟩ := hp.cells (by omega)
  obtain ⟨V1, V2, V3, hr, hic, hk1, hk2⟩ := hc i (by omega)
  have hat := ndAt_get (nds := nds) (i := i) (by omega)
  rw [← hat] at hr hic hk1 hk2
  generalize ndAt nds i = v at hr hic hk hv ⊢
  have r0 : _ = some _ := range_cell (o := o + i * 8) hr 0 rfl
  rw [Nat.add_zero] at r0
  have r1 := range_cell hr 1 rfl
  have r2 := range_cell hr 2 rfl
  have r3 := range_cell hr 3 rfl
  have r4 := range_cell hr 4 rfl
  have r5 := range_cell hr 5 rfl
  have r6 := range_cell hr 6 rfl
  have r7 := range_cell hr 7 rfl
  have hlb : b < w.heap.size := World.block_lt_of_cell? w _ r0
  have hsf : ∀ (W : World) (a : Addr) (b : Nat), (store a (.float .f64 b)).run Tryz.prog W = stored Tryz.prog W a (.float .f64 b) .plain := fun W a b => run_store _ W a _ _ rfl
  have i1 : (i : Int) < (n : Int) := by omega
  have s1 : w.cell? ⟨bt, 1, none⟩ = some (.slice (some ⟨b, o, none⟩) n c) := cell_of_block hT.tree rfl
  have hkc : (v.kind : Int) = 1 := by omega
  have HT := Lib.hid hT
  have l1 := lt_of_block hT.tree
  rw [hkc] at r0
  clear hc hr hlen hp hT hat
  go_enter Tryz.func68, Tryz.ntmps68
  go_upto_region 2 with (fail)
  have b5 := (Below.refl w.heap.size w).alloc (Nat.le_refl _) (.cells (ndCells V1 V2 V3 v).toArray 72)
  have hO5 : (w.alloc (.cells (ndCells V1 V2 V3 v).toArray 72)).heap[w.heap.size]? = some (.cells (ndCells V1 V2 V3 v).toArray 72 (0, 0)) := heap_alloc_new w _
  unfold ndCells at b5 hO5
  rw [hkc] at b5 hO5
  generalize (w.alloc (.cells #[.int .u8 1, .int .i64 v.value, .int .i64 v.feature, .float .f64 v.thr, .slice V1 V2 V3, .int .u8 (v.missing : Int), .int .i64 v.left, .int .i64 v.right] 72)) = w5 at b5 hO5 ⊢
  have hT5 := HT.out.below b5
  have HT5 := Lib.hid hT5
  have HSS := Lib.hid (fun W (h : Below w5.heap.size w5 W) => show W.cell? ⟨bj, 0, none⟩ = some (.slice JA jn jc) ∧ W.frozen? ⟨bj, 0, none⟩ = false ∧ W.cell? ⟨bp, 0, none⟩ = some (.pointer (some ⟨P, 0, none⟩)) ∧ W.cell? ⟨P, 2, none⟩ = some (.slice OA on oc) from
    ⟨cell_of_block (HT5.out.below h).jump rfl, frozen_row (vs := [.slice JA jn jc]) (HT5.out.below h).jump 0, cell_of_block (HT5.out.below h).pc rfl, cell_of_block (HT5.out.below h).prog rfl⟩)
  obtain ⟨a1, a2, a3, a4⟩ := HSS.out _ (Below.refl w5.heap.size w5)
  have HJM := Lib.hid (fun W (h : Below w5.heap.size w5 W) => (HT5.out.below h).js.toK)
  have HBZ := Lib.hid (fun W (h : Below w5.heap.size w5 W) => (HT5.out.below h).low.2.2)
  have l2 := lt_of_block hT5.jump
  have l3 := lt_of_block hT5.pc
  have l4 := lt_of_block hT5.prog
  have hwr : IntKind.i64.wrap ((on : Int) + 1) = (on : Int) + 1 := IntWalk.i64_in _ (by omega)
  clear r0 r1 r2 r3 r4 r5 r6 r7 s1 l1 hkc hlb hT5
  go_upto_region 3 with (fail)
  go_cut [] from 17 to 26 (fun wx => ∃ JA' jc', TreeSt wx B bt bj bp bn P out F O (some ⟨b, o, none⟩) n c JA' (jn + 1) jc' (js ++ [(on : Int) + 1]) OA on oc ops ∧ Below B w wx ∧ NdKeep w wx ∧ wx.heap[w.heap.size]? = w5.heap[w.heap.size]?)
  case first =>
    go_region_law
      ((refine step_appK B (by rfl) _ _ _ _ (.int .i64 0) 1 8 (by rfl) Tryz.underlying44 Tryz.info_int rfl (by omega) JA jn jc (i64s js) w5.heap.size 1 1 #[.int .i64 ((on : Int) + 1)] 3 (heap_alloc_new w5.drew _) rfl (by rfl) (by rfl) (by intro u hu; simp at hu; subst hu; rfl) (HJM.out _ ((Below.refl _ _).drew.alloc (Nat.le_refl _) _)) (HBZ.out _ ((Below.refl _ _).drew.alloc (Nat.le_refl _) _)) (by omega) (by omega) ?_; intro JA' jc' w6 hm6 hg6 hA6; have T0 := HT5.out.below (((Below.refl w5.heap.size w5).alloc (Nat.le_refl _) (.cells #[.int .i64 ((on : Int) + 1)] 3)).drew); have S6 := T0.held hg6))
    all_goals
      have b0 := (((Below.refl w5.heap.size w5).alloc (Nat.le_refl _) (.cells #[.int .i64 ((on : Int) + 1)] 3)).drew)
      have T1 := T0.noted hm6.to1 hg6 hA6
      have hB0 := below_then (b5.mono HT.out.low.2.2) (Nat.le_trans HT.out.low.2.2 b5.size) b0
      have hB1 := below_grown hB0 T0.low.2.2 hg6 (fun k hk => (T0.js.lt k hk).1)
      have hB2 := hB1.setCell (p := ⟨bj, 0, none⟩) T0.low.1 (.slice JA' (jn + 1) jc')
      have hO6 := (((NdKeep.below b0).trans (NdKeep.grown hg6 (fun r hr => T0.js.ty hr) (by decide))).trans (NdKeep.set (keep_ty hg6 T0.jump (fun r hr => T0.js.ty hr) (by decide)) (by decide) 0 (.slice JA' (jn + 1) jc'))) _ _ hO5
      have hNK := (((NdKeep.below b5).trans (NdKeep.below b0)).trans (NdKeep.grown hg6 (fun r hr => T0.js.ty hr) (by decide))).trans (NdKeep.set (keep_ty hg6 T0.jump (fun r hr => T0.js.ty hr) (by decide)) (by decide) 0 (.slice JA' (jn + 1) jc'))
      go_wp2
      go_meet
      exact ⟨JA', jc', T1, hB2, hNK, hO6.trans hO5.symm⟩
  case rest =>
    obtain ⟨JA', jc', T1, hB1, hNK, hN⟩ := hcut
    have HNK := Lib.hid hNK
    clear hNK
    have T1' := Lib.hid T1
    have HB1 := Lib.hid hB1
    have hN1 := hN.trans hO5
    have n1 : wc.cell? ⟨w.heap.size, 1, none⟩ = some (.int .i64 v.value) := cell_of_block hN1 rfl
    have c1 : wc.cell? ⟨bt, 0, none⟩ = some (.int .i64 out) := cell_of_block T1.tree rfl
    have c2 : wc.cell? ⟨bp, 0, none⟩ = some (.pointer (some ⟨P, 0, none⟩)) := cell_of_block T1.pc rfl
    have c3 : wc.cell? ⟨P, 2, none⟩ = some (.slice OA on oc) := cell_of_block T1.prog rfl
    have m1 := lt_of_block hN1
    have m2 := lt_of_block T1.tree
    have m3 := lt_of_block T1.pc
    have m4 := lt_of_block T1.prog
    obtain ⟨hs, hh, ha⟩ := T1.hds
    have HH := Lib.hid hh
    have HHA := Lib.hid ha
    have HOM := Lib.hid (fun W (h : Below wc.heap.size wc W) => hh.2.1.below h)
    have HRG := Lib.hid (show ∀ u ∈ [addOp out v.value, jumpTo 0], OpRng u ∧ ∀ z ∈ u.cats, -9223372036854775808 ≤ z ∧ z ≤ 9223372036854775807 by
      intro u hu
      simp at hu
      rcases hu with rfl | rfl
      · refine ⟨?_, by simp [addOp]⟩
        constructor <;> simp [addOp] <;> omega
      · refine ⟨?_, by simp [jumpTo]⟩
        constructor <;> simp [jumpTo])
    have HN1 := Lib.hid (fun W (h : Below wc.heap.size wc W) => (h.block _ m1).trans hN1)
    have HS3 := Lib.hid (fun W (h : Below wc.heap.size wc W) => show W.cell? ⟨bp, 0, none⟩ = some (.pointer (some ⟨P, 0, none⟩)) ∧ W.cell? ⟨bt, 0, none⟩ = some (.int .i64 out) ∧ W.cell? ⟨w.heap.size, 1, none⟩ = some (.int .i64 v.value) from
      ⟨cell_of_block (T1'.out.below h).pc rfl, cell_of_block (T1'.out.below h).tree rfl, cell_of_block ((h.block _ m1).trans hN1) rfl⟩)
    have HBZ' := Lib.hid (fun W (h : Below wc.heap.size wc W) => (T1'.out.below h).low.2.2)
    clear hN hB1 a1 a2 a3 a4 l2 l3 l4 hwr HJM HBZ HSS T1 hh ha hN1 hO5
    go_upto_region 3 with (fail)
    refine wp_region_held_drew (S := (fun W => W.cell? ⟨bp, 0, none⟩ = some (.pointer (some ⟨P, 0, none⟩)) ∧ W.cell? ⟨bt, 0, none⟩ = some (.int .i64 out) ∧ W.cell? ⟨w.heap.size, 1, none⟩ = some (.int .i64 v.value))) (by kernel_rfl) ?_ (fun hHeld => ?_)
    · try dsimp only
      first | assumption | exact HS3.out _ (Below.refl _ _).drew | exact HS3.out _ ((Below.refl _ _).drew.alloc (Nat.le_refl _) _)
    refine wpAnyH_take (i := 0) (v := ?v0_1) rfl (by kernel_rfl) (by kernel_rfl) (by kernel_rfl) (fun _ _ _ h => h) (Or.inl ⟨by rfl, ?hy0_1⟩) (by assumption) ?rest0_1
    case hy0_1 => intro w hSw; (try dsimp only at hSw); go_simp; try with_reducible rfl
    try simp only [Act.put, List.setIfInBounds_toArray, List.set_cons_zero, List.set_cons_succ]
    refine wpAnyH_take (i := 1) (v := ?v1_2) rfl (by kernel_rfl) (by kernel_rfl) (by kernel_rfl) (fun _ _ _ h => h) (Or.inl ⟨by rfl, ?hy1_2⟩) (by assumption) ?rest1_2
    case hy1_2 => intro w hSw; (try dsimp only at hSw); go_simp; try with_reducible rfl
    try simp only [Act.put, List.setIfInBounds_toArray, List.set_cons_zero, List.set_cons_succ]
    refine wpAnyH_take (i := 2) (v := ?v2_3) rfl (by kernel_rfl) (by kernel_rfl) (by kernel_rfl) (fun _ _ _ h => h) (Or.inl ⟨by rfl, ?hy2_3⟩) (by assumption) ?rest2_3
    case hy2_3 => intro w hSw; (try dsimp only at hSw); go_simp; try with_reducible rfl
    try simp only [Act.put, List.setIfInBounds_toArray, List.set_cons_zero, List.set_cons_succ]
    refine wpAnyH_take (i := 3) (v := ?v3_4) rfl (by kernel_rfl) (by kernel_rfl) (by kernel_rfl) (fun _ _ _ h => h) (Or.inl ⟨by rfl, ?hy3_4⟩) (by assumption) ?rest3_4
    case hy3_4 => intro w hSw; (try dsimp only at hSw); go_simp; try with_reducible rfl
    try simp only [Act.put, List.setIfInBounds_toArray, List.set_cons_zero, List.set_cons_succ]
    refine wpAnyH_take (i := 5) (v := ?v5_5) rfl (by kernel_rfl) (by kernel_rfl) (by kernel_rfl) (fun _ _ _ h => h) (Or.inl ⟨by rfl, ?hy5_5⟩) (by assumption) ?rest5_5
    case hy5_5 => intro w hSw; (try dsimp only at hSw); go_simp; try with_reducible rfl
    try simp only [Act.put, List.setIfInBounds_toArray, List.set_cons_zero, List.set_cons_succ]
    refine wpAnyH_take (i := 6) (v := ?v6_6) rfl (by kernel_rfl) (by kernel_rfl) (by kernel_rfl) (fun _ _ _ h => h) (Or.inl ⟨by rfl, ?hy6_6⟩) (by assumption) ?rest6_6
    case hy6_6 => intro w hSw; (try dsimp only at hSw); go_simp; try with_reducible rfl
    try simp only [Act.put, List.setIfInBounds_toArray, List.set_cons_zero, List.set_cons_succ]
    refine wpAnyH_take (i := 7) (v := ?v7_7) rfl (by kernel_rfl) (by kernel_rfl) (by kernel_rfl) (fun _ _ _ h => h) (Or.inl ⟨by rfl, ?hy7_7⟩) (by assumption) ?rest7_7
    case hy7_7 => intro w hSw; (try dsimp only at hSw); go_simp; try with_reducible rfl
    try simp only [Act.put, List.setIfInBounds_toArray, List.set_cons_zero, List.set_cons_succ]
    refine wpAnyH_take (i := 8) (v := ?v8_8) rfl (by kernel_rfl) (by kernel_rfl) (by kernel_rfl) (fun _ _ _ h => h) (Or.inl ⟨by rfl, ?hy8_8⟩) (by assumption) ?rest8_8
    case hy8_8 => intro w hSw; (try dsimp only at hSw); go_simp; try with_reducible rfl
    try simp only [Act.put, List.setIfInBounds_toArray, List.set_cons_zero, List.set_cons_succ]
    refine wpAnyH_take (i := 9) (v := ?v9_9) rfl (by kernel_rfl) (by kernel_rfl) (by kernel_rfl) (fun _ _ _ h => h) (Or.inl ⟨by rfl, ?hy9_9⟩) (by assumption) ?rest9_9
    case hy9_9 => intro w hSw; (try dsimp only at hSw); go_simp; try with_reducible rfl
    try simp only [Act.put, List.setIfInBounds_toArray, List.set_cons_zero, List.set_cons_succ]
    refine wpAnyH_take (i := 10) (v := ?v10_10) rfl (by kernel_rfl) (by kernel_rfl) (by kernel_rfl) (fun _ _ _ h => h) (Or.inl ⟨by rfl, ?hy10_10⟩) (by assumption) ?rest10_10
    case hy10_10 => intro w hSw; (try dsimp only at hSw); go_simp; try with_reducible rfl
    try simp only [Act.put, List.setIfInBounds_toArray, List.set_cons_zero, List.set_cons_succ]
    refine wpAnyH_ready (rs := [4, 11]) (by kernel_rfl) (by simp) ?_
    refine AllReadyH.cons rfl (fun K hK => ?_) (AllReadyH.cons rfl (fun K hK => ?_) AllReadyH.nil)
    · go_simp
      refine hK.out _ _ ?_ (fun hHeld => ?_)
      · try dsimp only
        first | assumption | exact HS3.out _ (Below.refl _ _).drew | exact HS3.out _ ((Below.refl _ _).drew.alloc (Nat.le_refl _) _)
      clear hK K
      try simp only [Act.put, List.setIfInBounds_toArray, List.set_cons_zero, List.set_cons_succ]
      refine wpAnyH_ready (rs := [11]) (by kernel_rfl) (by simp) ?_
      refine AllReadyH.cons rfl (fun K hK => ?_) AllReadyH.nil
      go_simp
      refine hK.out _ _ ?_ (fun hHeld => ?_)
      · try dsimp only
        first | assumption | exact HS3.out _ (Below.refl _ _).drew | exact HS3.out _ ((Below.refl _ _).drew.alloc (Nat.le_refl _) _)
      clear hK K
      try simp only [Act.put, List.setIfInBounds_toArray, List.set_cons_zero, List.set_cons_succ]
      refine wpAnyH_ready (rs := [12]) (by kernel_rfl) (by simp) ?_
      refine AllReadyH.cons rfl (fun K hK => ?_) AllReadyH.nil
      (refine step_appK B (by rfl) _ _ _ _ _ 8 80 (by rfl) Tryz.underlying28 Tryz.info_op rfl (by omega) OA on oc (flatOps hs ops) wc.heap.size 2 2 ((opRow (none, 0, 0) (addOp out v.value)) ++ (opRow (none, 0, 0) (jumpTo 0))).toArray 75 (heap_alloc_new wc.drew _) rfl (by rfl) (by rfl) (by intro u hu; simp at hu; rcases hu with hu | hu <;> exact opRow_one _ _ _ hu) (HOM.out _ ((Below.refl _ _).drew.alloc (Nat.le_refl _) _)) (HBZ'.out _ ((Below.refl _ _).drew.alloc (Nat.le_refl _) _)) (by omega) (by omega) ?_; intro OA' oc' w6 hm6 hg6 hA6; have T0 := T1'.out.below (((Below.refl wc.heap.size wc).alloc (Nat.le_refl _) (.cells ((opRow (none, 0, 0) (addOp out v.value)) ++ (opRow (none, 0, 0) (jumpTo 0))).toArray 75)).drew); have S6 := T0.held2 hg6; have S61 := S6.1; have S62 := S6.2; have S63 := HS3.out _ (((Below.refl wc.heap.size wc).alloc (Nat.le_refl _) (.cells ((opRow (none, 0, 0) (addOp out v.value)) ++ (opRow (none, 0, 0) (jumpTo 0))).toArray 75)).drew); have S64 := (leaf_keep T0 hg6 (HN1.out _ (((Below.refl wc.heap.size wc).alloc (Nat.le_refl _) (.cells ((opRow (none, 0, 0) (addOp out v.value)) ++ (opRow (none, 0, 0) (jumpTo 0))).toArray 75)).drew)) rfl (.slice OA' (on + 2) oc')).1; have S65 := (leaf_keep T0 hg6 (HN1.out _ (((Below.refl wc.heap.size wc).alloc (Nat.le_refl _) (.cells ((opRow (none, 0, 0) (addOp out v.value)) ++ (opRow (none, 0, 0) (jumpTo 0))).toArray 75)).drew)) rfl (.slice OA' (on + 2) oc')).2)
      refine hK.out _ _ ?_ (fun hHeld => ?_)
      · try dsimp only
        first | assumption | exact HS3.out _ (Below.refl _ _).drew | exact HS3.out _ ((Below.refl _ _).drew.alloc (Nat.le_refl _) _)
      clear hK K
      try simp only [Act.put, List.setIfInBounds_toArray, List.set_cons_zero, List.set_cons_succ]
      refine wpAnyH_take (i := 13) (v := ?v13_11) rfl (by kernel_rfl) (by kernel_rfl) (by kernel_rfl) (fun _ _ _ h => h) (Or.inl ⟨by rfl, ?hy13_11⟩) (by assumption) ?rest13_11
      case hy13_11 => intro w hSw; (try dsimp only at hSw); go_simp; try with_reducible rfl
      try simp only [Act.put, List.setIfInBounds_toArray, List.set_cons_zero, List.set_cons_succ]
      refine wpAnyH_take (i := 14) (v := ?v14_12) rfl (by kernel_rfl) (by kernel_rfl) (by kernel_rfl) (fun _ _ _ h => h) (Or.inl ⟨by rfl, ?hy14_12⟩) (by assumption) ?rest14_12
      case hy14_12 => intro w hSw; (try dsimp only at hSw); go_simp; try with_reducible rfl
      try simp only [Act.put, List.setIfInBounds_toArray, List.set_cons_zero, List.set_cons_succ]
      refine wpAnyH_ready (rs := [15]) (by kernel_rfl) (by simp) ?_
      refine AllReadyH.cons rfl (fun K hK => ?_) AllReadyH.nil
      go_simp
      refine hK.out _ _ ?_ (fun hHeld => ?_)
      · try dsimp only
        first | assumption | exact HS3.out _ (Below.refl _ _).drew | exact HS3.out _ ((Below.refl _ _).drew.alloc (Nat.le_refl _) _)
      clear hK K
      try simp only [Act.put, List.setIfInBounds_toArray, List.set_cons_zero, List.set_cons_succ]
      refine wpAnyH_done (by kernel_rfl) ?_ _
      have b0 := (((Below.refl wc.heap.size wc).alloc (Nat.le_refl _) (.cells ((opRow (none, 0, 0) (addOp out v.value)) ++ (opRow (none, 0, 0) (jumpTo 0))).toArray 75)).drew)
      have T2 := T1'.out.added (ops2 := [addOp out v.value, jumpTo 0]) (hs2 := [(none, 0, 0), (none, 0, 0)]) HH.out HHA.out b0 rfl (fun j h1 h2 => by
        rcases j with _ | _ | j
        · exact .inl ⟨rfl, rfl, rfl⟩
        · exact .inl ⟨rfl, rfl, rfl⟩
        · simp only [List.length_cons, List.length_nil] at h1; omega) (by intro h hh k hk; simp at hh; subst hh; simp [hdBlock] at hk) (by simp [hdBlock]) HRG.out (by simpa [flatOps] using hm6) hg6 hA6
      have hB2 := below_then HB1.out (Nat.le_trans HT.out.low.2.2 HB1.out.size) b0
      have hB3 := below_grown hB2 T0.low.2.2 hg6 (fun k hk => (T0.own.lt k hk).1)
      have hB4 := hB3.setCell (p := ⟨P, 2, none⟩) T0.low.2.1 (.slice OA' (on + 2) oc')
      have hNK2 := HNK.out.trans (((NdKeep.below b0).trans (NdKeep.grown hg6 (fun r hr => T0.own.ty hr) (by decide))).trans (NdKeep.set (keep_ty hg6 T0.prog (fun r hr => T0.own.ty hr) (by decide)) (by decide) 2 (.slice OA' (on + 2) oc')))
      clear S6 S61 S62 S63 S64 S65 hm6 hg6 hA6 T0 b0
      go_wp2
      go_end0
      exact ⟨JA', jn + 1, jc', OA', on + 2, oc', rfl, T2, hB4, hNK2⟩
    · go_simp
      refine hK.out _ _ ?_ (fun hHeld => ?_)
      · try dsimp only
        first | assumption | exact HS3.out _ (Below.refl _ _).drew | exact HS3.out _ ((Below.refl _ _).drew.alloc (Nat.le_refl _) _)
      clear hK K
      try simp only [Act.put, List.setIfInBounds_toArray, List.set_cons_zero, List.set_cons_succ]
      refine wpAnyH_ready (rs := [4]) (by kernel_rfl) (by simp) ?_
      refine AllReadyH.cons rfl (fun K hK => ?_) AllReadyH.nil
      go_simp
      refine hK.out _ _ ?_ (fun hHeld => ?_)
      · try dsimp only
        first | assumption | exact HS3.out _ (Below.refl _ _).drew | exact HS3.out _ ((Below.refl _ _).drew.alloc (Nat.le_refl _) _)
      clear hK K
      try simp only [Act.put, List.setIfInBounds_toArray, List.set_cons_zero, List.set_cons_succ]
      refine wpAnyH_ready (rs := [12]) (by kernel_rfl) (by simp) ?_
      refine AllReadyH.cons rfl (fun K hK => ?_) AllReadyH.nil
      (refine step_appK B (by rfl) _ _ _ _ _ 8 80 (by rfl) Tryz.underlying28 Tryz.info_op rfl (by omega) OA on oc (flatOps hs ops) wc.heap.size 2 2 ((opRow (none, 0, 0) (addOp out v.value)) ++ (opRow (none, 0, 0) (jumpTo 0))).toArray 75 (heap_alloc_new wc.drew _) rfl (by rfl) (by rfl) (by intro u hu; simp at hu; rcases hu with hu | hu <;> exact opRow_one _ _ _ hu) (HOM.out _ ((Below.refl _ _).drew.alloc (Nat.le_refl _) _)) (HBZ'.out _ ((Below.refl _ _).drew.alloc (Nat.le_refl _) _)) (by omega) (by omega) ?_; intro OA' oc' w6 hm6 hg6 hA6; have T0 := T1'.out.below (((Below.refl wc.heap.size wc).alloc (Nat.le_refl _) (.cells ((opRow (none, 0, 0) (addOp out v.value)) ++ (opRow (none, 0, 0) (jumpTo 0))).toArray 75)).drew); have S6 := T0.held2 hg6; have S61 := S6.1; have S62 := S6.2; have S63 := HS3.out _ (((Below.refl wc.heap.size wc).alloc (Nat.le_refl _) (.cells ((opRow (none, 0, 0) (addOp out v.value)) ++ (opRow (none, 0, 0) (jumpTo 0))).toArray 75)).drew); have S64 := (leaf_keep T0 hg6 (HN1.out _ (((Below.refl wc.heap.size wc).alloc (Nat.le_refl _) (.cells ((opRow (none, 0, 0) (addOp out v.value)) ++ (opRow (none, 0, 0) (jumpTo 0))).toArray 75)).drew)) rfl (.slice OA' (on + 2) oc')).1; have S65 := (leaf_keep T0 hg6 (HN1.out _ (((Below.refl wc.heap.size wc).alloc (Nat.le_refl _) (.cells ((opRow (none, 0, 0) (addOp out v.value)) ++ (opRow (none, 0, 0) (jumpTo 0))).toArray 75)).drew)) rfl (.slice OA' (on + 2) oc')).2)
      refine hK.out _ _ ?_ (fun hHeld => ?_)
      · try dsimp only
        first | assumption | exact HS3.out _ (Below.refl _ _).drew | exact HS3.out _ ((Below.refl _ _).drew.alloc (Nat.le_refl _) _)
      clear hK K
      try simp only [Act.put, List.setIfInBounds_toArray, List.set_cons_zero, List.set_cons_succ]
      refine wpAnyH_take (i := 13) (v := ?v13_13) rfl (by kernel_rfl) (by kernel_rfl) (by kernel_rfl) (fun _ _ _ h => h) (Or.inl ⟨by rfl, ?hy13_13⟩) (by assumption) ?rest13_13
      case hy13_13 => intro w hSw; (try dsimp only at hSw); go_simp; try with_reducible rfl
      try simp only [Act.put, List.setIfInBounds_toArray, List.set_cons_zero, List.set_cons_succ]
      refine wpAnyH_take (i := 14) (v := ?v14_14) rfl (by kernel_rfl) (by kernel_rfl) (by kernel_rfl) (fun _ _ _ h => h) (Or.inl ⟨by rfl, ?hy14_14⟩) (by assumption) ?rest14_14
      case hy14_14 => intro w hSw; (try dsimp only at hSw); go_simp; try with_reducible rfl
      try simp only [Act.put, List.setIfInBounds_toArray, List.set_cons_zero, List.set_cons_succ]
      refine wpAnyH_ready (rs := [15]) (by kernel_rfl) (by simp) ?_
      refine AllReadyH.cons rfl (fun K hK => ?_) AllReadyH.nil
      go_simp
      refine hK.out _ _ ?_ (fun hHeld => ?_)
      · try dsimp only
        first | assumption | exact HS3.out _ (Below.refl _ _).drew | exact HS3.out _ ((Below.refl _ _).drew.alloc (Nat.le_refl _) _)
      clear hK K
      try simp only [Act.put, List.setIfInBounds_toArray, List.set_cons_zero, List.set_cons_succ]
      refine wpAnyH_done (by kernel_rfl) ?_ _
      have b0 := (((Below.refl wc.heap.size wc).alloc (Nat.le_refl _) (.cells ((opRow (none, 0, 0) (addOp out v.value)) ++ (opRow (none, 0, 0) (jumpTo 0))).toArray 75)).drew)
      have T2 := T1'.out.added (ops2 := [addOp out v.value, jumpTo 0]) (hs2 := [(none, 0, 0), (none, 0, 0)]) HH.out HHA.out b0 rfl (fun j h1 h2 => by
        rcases j with _ | _ | j
        · exact .inl ⟨rfl, rfl, rfl⟩
        · exact .inl ⟨rfl, rfl, rfl⟩
        · simp only [List.length_cons, List.length_nil] at h1; omega) (by intro h hh k hk; simp at hh; subst hh; simp [hdBlock] at hk) (by simp [hdBlock]) HRG.out (by simpa [flatOps] using hm6) hg6 hA6
      have hB2 := below_then HB1.out (Nat.le_trans HT.out.low.2.2 HB1.out.size) b0
      have hB3 := below_grown hB2 T0.low.2.2 hg6 (fun k hk => (T0.own.lt k hk).1)
      have hB4 := hB3.setCell (p := ⟨P, 2, none⟩) T0.low.2.1 (.slice OA' (on + 2) oc')
      have hNK2 := HNK.out.trans (((NdKeep.below b0).trans (NdKeep.grown hg6 (fun r hr => T0.own.ty hr) (by decide))).trans (NdKeep.set (keep_ty hg6 T0.prog (fun r hr => T0.own.ty hr) (by decide)) (by decide) 2 (.slice OA' (on + 2) oc')))
      clear S6 S61 S62 S63 S64 S65 hm6 hg6 hA6 T0 b0
      go_wp2
      go_end0
      exact ⟨JA', jn + 1, jc', OA', on + 2, oc', rfl, T2, hB4, hNK2⟩

end Go.Proofs.YtekcpapkicmckaaGreatDoor

namespace Go.Proofs.YtekcpapkicmckaaGreatDoor
open Go.RowKit

/-- the cells of an operation written one by one -/
theorem op_cells_set {w : World} {g : Nat} {z : List Value} (hz : z.length = 8) (h : w.heap[g]? = some (.cells z.toArray 75 (0, 0))) (a0 a1 a2 a3 a4 a5 a6 a7 : Value) :
    ((((((((w.setCell ⟨g, 0, none⟩ a0).setCell ⟨g, 1, none⟩ a1).setCell ⟨g, 2, none⟩ a2).setCell ⟨g, 3, none⟩ a3).setCell ⟨g, 4, none⟩ a4).setCell ⟨g, 5, none⟩ a5).setCell ⟨g, 6, none⟩ a6).setCell ⟨g, 7, none⟩ a7).heap[g]? = some (.cells #[a0, a1, a2, a3, a4, a5, a6, a7] 75 (0, 0)) := by
  have h1 := setCell_row (setCell_row (setCell_row (setCell_row (setCell_row (setCell_row (setCell_row (setCell_row h 0 a0) 1 a1) 2 a2) 3 a3) 4 a4) 5 a5) 6 a6) 7 a7
  match z, hz with
  | [z0, z1, z2, z3, z4, z5, z6, z7], _ => exact h1
theorem op_cells_by (w : World) (g : Nat) (a0 a1 a2 a3 a4 a5 a6 a7 : Value) :
    w.grownBy ((((((((w.setCell ⟨g, 0, none⟩ a0).setCell ⟨g, 1, none⟩ a1).setCell ⟨g, 2, none⟩ a2).setCell ⟨g, 3, none⟩ a3).setCell ⟨g, 4, none⟩ a4).setCell ⟨g, 5, none⟩ a5).setCell ⟨g, 6, none⟩ a6).setCell ⟨g, 7, none⟩ a7) (some g) :=
  World.grownBy.trans (World.grownBy.trans (World.grownBy.trans (World.grownBy.trans (World.grownBy.trans (World.grownBy.trans (World.grownBy.trans (setCell_grownBy w g 0 a0) (setCell_grownBy _ g 1 a1)) (setCell_grownBy _ g 2 a2)) (setCell_grownBy _ g 3 a3)) (setCell_grownBy _ g 4 a4)) (setCell_grownBy _ g 5 a5)) (setCell_grownBy _ g 6 a6)) (setCell_grownBy _ g 7 a7)

theorem there_block {w : World} {g n : Nat} {cs : Array Value} {T : TypeId} (h : w.heap[g]? = some (.cells cs T (0, 0))) (hn : cs.size = n) : w.there g 0 n := fun j hj => by
  subst hn
  rw [Nat.zero_add]
  refine ⟨?_, ?_⟩
  · simp [World.cell?, h, hj]
  · simp [World.frozen?, h]
theorem op_store {w : World} {g : Nat} {z : List Value} (hz : z.length = 8) (h : w.heap[g]? = some (.cells z.toArray 75 (0, 0))) (a0 a1 a2 a3 a4 a5 a6 a7 : Value) :
    (w.setCells g 0 [a0, a1, a2, a3, a4, a5, a6, a7]).heap[g]? = some (.cells #[a0, a1, a2, a3, a4, a5, a6, a7] 75 (0, 0)) ∧ w.grownBy (w.setCells g 0 [a0, a1, a2, a3, a4, a5, a6, a7]) (some g) :=
  ⟨op_cells_set hz h a0 a1 a2 a3 a4 a5 a6 a7, op_cells_by w g a0 a1 a2 a3 a4 a5 a6 a7⟩
theorem Tryz.size_op : (Tryz.prog.info? 75).map (·.size) = some 8 := by kernel_rfl

/-- a test's operation as it is built: its kind and its jump come later -/
def rawOp (k : Nat) (x : NdV) : OpV := ⟨k, x.feature, x.thr, x.cats, x.missing, 0, 0, 0⟩

/-- what stands behind node's first statements -/
structure AtOp (W wx : World) (q : Nat) (k : Nat) (x : NdV) (cd : Hd) : Prop where
  bel : Below W.heap.size W wx
  box : wx.heap[q]? = some (.cells (opRow cd (rawOp k x)).toArray 75 (0, 0))
  cats : CatOwn wx W.heap.size cd x.cats
  new : W.heap.size ≤ q
  apart : hdBlock cd ≠ some q

theorem AtOp.kinded {W wx : World} {q : Nat} {x : NdV} {cd : Hd} (h : AtOp W wx q 1 x cd) : AtOp W (wx.setCell ⟨q, 0, none⟩ (.int .u8 2)) q 2 x cd := by
  have hg := setCell_grownBy wx q 0 (.int .u8 2)
  refine ⟨h.bel.setCell (p := ⟨q, 0, none⟩) h.new _, setCell_row h.box 0 (.int .u8 2), h.cats.kept hg (.inr h.apart), h.new, h.apart⟩

theorem jumpsT_length : ∀ (T : BT) (k : Nat), (jumpsT T k).length ≤ T.size
  | .leaf _, _ => by simp [jumpsT, BT.size]
  | .node i l r, k => by
    have := jumpsT_length l (k + 1)
    have := jumpsT_length r (k + 1 + l.size)
    simp only [jumpsT, List.length_append, BT.size]
    omega
/-- the closure serves at a place -/
def NodeOk (B bt bj bp bn P : Nat) (out F O : Int) (A : Option Addr) (n c : Nat) (nds : List NdV) (T : BT) (i : Nat) : Prop :=
  ∀ (JA : Option Addr) (jn jc : Nat) (js : List Int) (OA : Option Addr) (on oc : Nat) (ops : List OpV) (w : World), TreeSt w B bt bj bp bn P out F O A n c JA jn jc js OA on oc ops → (∀ W, Below B w W → NdsAt W A n c nds) → on + T.size ≤ 1000000000000 → jn ≤ on →
    Calls Tryz.prog 68 #[.int .i64 (i : Int), .pointer (some ⟨bt, 0, none⟩), .pointer (some ⟨bj, 0, none⟩), .pointer (some ⟨bp, 0, none⟩), .pointer (some ⟨bn, 0, none⟩)] w
      (NodePost B bt bj bp bn P out F O A n c (js ++ (jumpsT T on).map fun (x : Nat) => (x : Int)) (ops ++ emitT nds out T on) w)

theorem op_keep {w w1 : World} {B bt bj bp bn P : Nat} {out F O : Int} {A : Option Addr} {n c : Nat} {JA : Option Addr} {jn jc : Nat} {js : List Int} {OA : Option Addr} {on oc : Nat} {ops : List OpV}
    (h : TreeSt w B bt bj bp bn P out F O A n c JA jn jc js OA on oc ops) (hg : w.grownBy w1 (blockOf OA)) {q : Nat} {cs : Array Value} (hN : w.heap[q]? = some (.cells cs 75 (0, 0))) (hq : blockOf OA = none ∨ blockOf OA ≠ some q) (y : Value) :
    w1.cell? ⟨bp, 0, none⟩ = some (.pointer (some ⟨P, 0, none⟩)) ∧ w1.heap[q]? = some (.cells cs 75 (0, 0)) ∧
    (w1.setCell ⟨P, 2, none⟩ y).cell? ⟨bp, 0, none⟩ = some (.pointer (some ⟨P, 0, none⟩)) ∧ (w1.setCell ⟨P, 2, none⟩ y).heap[q]? = some (.cells cs 75 (0, 0)) := by
  obtain ⟨hs, hh, ha⟩ := h.hds
  have ht : ∀ r, blockOf OA = some r → ∃ c2, w.heap[r]? = some (.cells c2 75 (0, 0)) := fun r hr => hh.2.1.ty hr
  have k3 := keep_ty hg h.pc ht (by decide)
  have k5 := keep_ty hg h.prog ht (by decide)
  have k6 : w1.heap[q]? = some (.cells cs 75 (0, 0)) := (hg.block q (lt_of_block hN) (fun e => by rcases hq with h | h <;> (rw [← e] at h; simp at h))).trans hN
  exact ⟨cell_of_block k3 rfl, k6, cell_of_block ((setCell_other (ty_ne k3 k5 (by decide)) 2 y).trans k3) rfl, (setCell_other (ty_ne k6 k5 (by decide)) 2 y).trans k6⟩

set_option maxRecDepth 100000 in
set_option maxHeartbeats 4000000 in
set_option linter.unusedSimpArgs false in
theorem node_try (B bt bj bp bn P : Nat) (out F O : Int) (A : Option Addr) (n c : Nat) (JA : Option Addr) (jn jc : Nat) (js : List Int) (OA : Option Addr) (on oc : Nat) (ops : List OpV) (nds : List NdV) (i : Nat) (w : World)
    (hT : TreeSt w B bt bj bp bn P out F O A n c JA jn jc js OA on oc ops) (hp : NdsAt w A n c nds) (hi : i < n) (hk : (ndAt nds i).kind = 2 ∨ (ndAt nds i).kind = 3) (l r : BT) (L Q : Nat) (hL : (ndAt nds i).left = (L : Int)) (hQ : (ndAt nds i).right = (Q : Int)) (hLo : NodeOk B bt bj bp bn P out F O A n c nds l L) (hRo : NodeOk B bt bj bp bn P out F O A n c nds r Q) (hsz : on + (BT.node i l r).size ≤ 1000000000000) (hjn : jn ≤ on) (hlow : ∀ W, Below B w W → NdsAt W A n c nds) (hcl : (ndAt nds i).cats.length ≤ 1000000000000) (hfr : 0 ≤ (ndAt nds i).feature ∧ (ndAt nds i).feature ≤ 9223372036854775807) (hth : (ndAt nds i).thr < 18446744073709551616) :
    Calls Tryz.prog 68 #[.int .i64 (i : Int), .pointer (some ⟨bt, 0, none⟩), .pointer (some ⟨bj, 0, none⟩), .pointer (some ⟨bp, 0, none⟩), .pointer (some ⟨bn, 0, none⟩)] w
      (NodePost B bt bj bp bn P out F O A n c (js ++ (jumpsT (.node i l r) on).map fun (x : Nat) => (x : Int)) (ops ++ emitT nds out (.node i l r) on) w) := by
  have hon : on + 2 ≤ 1000000000000 := by have := l.size_pos; simp only [BT.size] at hsz; omega
  have HSZ := Lib.hid hsz
  have HLo := Lib.hid hLo
  have HRo := Lib.hid hRo
  have HND := Lib.hid hlow
  have hem : emitT nds out (.node i l r) on = testOp (ndAt nds i) ((on + 1 + l.size : Nat) : Int) :: (emitT nds out l (on + 1) ++ emitT nds out r (on + 1 + l.size)) := rfl
  rw [hem]
  clear hLo hRo hlow hsz hem
  have hlen := hp.len
  have hnb := hp.big
  have HP := Lib.hid hp
  obtain ⟨b, o, rfl, hc⟩ := hp.cells (by omega)
  obtain ⟨V1, V2, V3, hr, hic, hk1, hk2⟩ := hc i (by omega)
  have hat := ndAt_get (nds := nds) (i := i) (by omega)
  rw [← hat] at hr hic hk1 hk2
  generalize ndAt nds i = v at hr hic hk hk1 hk2 hcl hfr hth hL hQ ⊢
  have HL := Lib.hid hL
  have HQ := Lib.hid hQ
  clear hL hQ
  have r0 : _ = some _ := range_cell (o := o + i * 8) hr 0 rfl
  rw [Nat.add_zero] at r0
  have r1 := range_cell hr 1 rfl
  have r2 := range_cell hr 2 rfl
  have r3 := range_cell hr 3 rfl
  have r4 := range_cell hr 4 rfl
  have r5 := range_cell hr 5 rfl
  have r6 := range_cell hr 6 rfl
  have r7 := range_cell hr 7 rfl
  have hlb : b < w.heap.size := World.block_lt_of_cell? w _ r0
  have hsf : ∀ (W : World) (a : Addr) (b : Nat), (store a (.float .f64 b)).run Tryz.prog W = stored Tryz.prog W a (.float .f64 b) .plain := fun W a b => run_store _ W a _ _ rfl
  have i1 : (i : Int) < (n : Int) := by omega
  have s1 : w.cell? ⟨bt, 1, none⟩ = some (.slice (some ⟨b, o, none⟩) n c) := cell_of_block hT.tree rfl
  have f1 : ((v.kind : Int) == 1) = false := by simp; omega
  have f2 : decide ((v.kind : Int) = 1) = false := by simp; omega
  have HT := Lib.hid hT
  have HTL := Lib.hid hT.own.len
  have HK := Lib.hid hk
  have l1 := lt_of_block hT.tree
  have l2 := lt_of_block hT.prog
  have l3 := lt_of_block hT.pc
  have p1 : w.cell? ⟨bp, 0, none⟩ = some (.pointer (some ⟨P, 0, none⟩)) := cell_of_block hT.pc rfl
  have p2 : w.cell? ⟨P, 2, none⟩ = some (.slice OA on oc) := cell_of_block hT.prog rfl
  have hVl : V2 ≤ 1000000000000 := by have := hic.len; omega
  clear hc hr hlen hp hT hat hk
  go_enter Tryz.func68, Tryz.ntmps68
  go_upto_region 5 with (fail)
  have b5 := (Below.refl w.heap.size w).alloc (Nat.le_refl _) (.cells (ndCells V1 V2 V3 v).toArray 72)
  have hO5 : (w.alloc (.cells (ndCells V1 V2 V3 v).toArray 72)).heap[w.heap.size]? = some (.cells (ndCells V1 V2 V3 v).toArray 72 (0, 0)) := heap_alloc_new w _
  unfold ndCells at b5 hO5
  generalize (w.alloc (.cells #[.int .u8 (v.kind : Int), .int .i64 v.value, .int .i64 v.feature, .float .f64 v.thr, .slice V1 V2 V3, .int .u8 (v.missing : Int), .int .i64 v.left, .int .i64 v.right] 72)) = w5 at b5 hO5 ⊢
  have hT5 := HT.out.below b5
  have HT5 := Lib.hid hT5
  have HIC := Lib.hid (hic.below b5)
  have HO5 := Lib.hid hO5
  have HS5 := Lib.hid (fun W (h : Below w5.heap.size w5 W) => show W.cell? ⟨w.heap.size, 2, none⟩ = some (.int .i64 v.feature) ∧ W.cell? ⟨w.heap.size, 3, none⟩ = some (.float .f64 v.thr) ∧ W.cell? ⟨w.heap.size, 4, none⟩ = some (.slice V1 V2 V3) ∧ W.cell? ⟨w.heap.size, 5, none⟩ = some (.int .u8 (v.missing : Int)) from
    ⟨cell_of_block ((h.block _ (lt_of_block HO5.out)).trans HO5.out) rfl, cell_of_block ((h.block _ (lt_of_block HO5.out)).trans HO5.out) rfl, cell_of_block ((h.block _ (lt_of_block HO5.out)).trans HO5.out) rfl, cell_of_block ((h.block _ (lt_of_block HO5.out)).trans HO5.out) rfl⟩)
  have HCL := Lib.hid (fun W (h : Below w5.heap.size w5 W) => clone_any V1 V2 V3 v.cats W (HIC.out.below h) hVl)
  clear r0 r1 r2 r3 r4 r5 r6 r7 s1 l1 l2 l3 p1 p2 hlb hT5 hO5
  go_cut [8] from 46 to 55 (fun pv wx => ∃ q cd, pv = .pointer (some ⟨q, 0, none⟩) ∧ AtOp w5 wx q 1 v cd)
  case first =>
    refine wp_region_noPanic ?_
    refine wp_region_held_drew (S := (fun W => W.cell? ⟨w.heap.size, 2, none⟩ = some (.int .i64 v.feature) ∧ W.cell? ⟨w.heap.size, 3, none⟩ = some (.float .f64 v.thr) ∧ W.cell? ⟨w.heap.size, 4, none⟩ = some (.slice V1 V2 V3) ∧ W.cell? ⟨w.heap.size, 5, none⟩ = some (.int .u8 (v.missing : Int)))) (by kernel_rfl) ?_ (fun hHeld => ?_)
    · try dsimp only
      first | assumption | exact HS5.out _ (Below.refl _ _).drew | exact HS5.out _ ((Below.refl _ _).drew.alloc (Nat.le_refl _) _) | exact HS5.out _ (by assumption) | exact HS5.out _ (b66.alloc b66.size _)
    refine wpAnyH_take (i := 0) (v := ?v0_1) rfl (by kernel_rfl) (by kernel_rfl) (by kernel_rfl) (fun _ _ _ h => h) (Or.inl ⟨by rfl, ?hy0_1⟩) (by assumption) ?rest0_1
    case hy0_1 => intro w hSw; (try dsimp only at hSw); go_simp; try with_reducible rfl
    try simp only [Act.put, List.setIfInBounds_toArray, List.set_cons_zero, List.set_cons_succ]
    refine wpAnyH_take (i := 1) (v := ?v1_2) rfl (by kernel_rfl) (by kernel_rfl) (by kernel_rfl) (fun _ _ _ h => h) (Or.inl ⟨by rfl, ?hy1_2⟩) (by assumption) ?rest1_2
    case hy1_2 => intro w hSw; (try dsimp only at hSw); go_simp; try with_reducible rfl
    try simp only [Act.put, List.setIfInBounds_toArray, List.set_cons_zero, List.set_cons_succ]
    refine wpAnyH_take (i := 2) (v := ?v2_3) rfl (by kernel_rfl) (by kernel_rfl) (by kernel_rfl) (fun _ _ _ h => h) (Or.inl ⟨by rfl, ?hy2_3⟩) (by assumption) ?rest2_3
    case hy2_3 => intro w hSw; (try dsimp only at hSw); go_simp; try with_reducible rfl
    try simp only [Act.put, List.setIfInBounds_toArray, List.set_cons_zero, List.set_cons_succ]
    refine wpAnyH_take (i := 3) (v := ?v3_4) rfl (by kernel_rfl) (by kernel_rfl) (by kernel_rfl) (fun _ _ _ h => h) (Or.inl ⟨by rfl, ?hy3_4⟩) (by assumption) ?rest3_4
    case hy3_4 => intro w hSw; (try dsimp only at hSw); go_simp; try with_reducible rfl
    try simp only [Act.put, List.setIfInBounds_toArray, List.set_cons_zero, List.set_cons_succ]
    refine wpAnyH_take (i := 4) (v := ?v4_5) rfl (by kernel_rfl) (by kernel_rfl) (by kernel_rfl) (fun _ _ _ h => h) (Or.inl ⟨by rfl, ?hy4_5⟩) (by assumption) ?rest4_5
    case hy4_5 => intro w hSw; (try dsimp only at hSw); go_simp; try with_reducible rfl
    try simp only [Act.put, List.setIfInBounds_toArray, List.set_cons_zero, List.set_cons_succ]
    refine wpAnyH_take (i := 5) (v := ?v5_6) rfl (by kernel_rfl) (by kernel_rfl) (by kernel_rfl) (fun _ _ _ h => h) (Or.inl ⟨by rfl, ?hy5_6⟩) (by assumption) ?rest5_6
    case hy5_6 => intro w hSw; (try dsimp only at hSw); go_simp; try with_reducible rfl
    try simp only [Act.put, List.setIfInBounds_toArray, List.set_cons_zero, List.set_cons_succ]
    refine wpAnyH_take (i := 7) (v := ?v7_7) rfl (by kernel_rfl) (by kernel_rfl) (by kernel_rfl) (fun _ _ _ h => h) (Or.inl ⟨by rfl, ?hy7_7⟩) (by assumption) ?rest7_7
    case hy7_7 => intro w hSw; (try dsimp only at hSw); go_simp; try with_reducible rfl
    try simp only [Act.put, List.setIfInBounds_toArray, List.set_cons_zero, List.set_cons_succ]
    refine wpAnyH_take (i := 8) (v := ?v8_8) rfl (by kernel_rfl) (by kernel_rfl) (by kernel_rfl) (fun _ _ _ h => h) (Or.inl ⟨by rfl, ?hy8_8⟩) (by assumption) ?rest8_8
    case hy8_8 => intro w hSw; (try dsimp only at hSw); go_simp; try with_reducible rfl
    try simp only [Act.put, List.setIfInBounds_toArray, List.set_cons_zero, List.set_cons_succ]
    refine wpAnyH_ready (rs := [6, 10]) (by kernel_rfl) (by simp) ?_
    refine AllReadyH.cons rfl (fun K hK => ?_) (AllReadyH.cons rfl (fun K hK => ?_) AllReadyH.nil)
    · go_simp
      go_at_call 42
      refine (HCL.out _ ((Below.refl w5.heap.size w5).drew)).mono ?_
      rintro e w6 ⟨cd, rfl, hcat, hnew, b6⟩
      have b66 := below_then ((Below.refl w5.heap.size w5).drew) (by simp) b6
      go_wp2_with fail
      refine hK.out _ _ ?_ (fun hHeld => ?_)
      · try dsimp only
        first | assumption | exact HS5.out _ (Below.refl _ _).drew | exact HS5.out _ ((Below.refl _ _).drew.alloc (Nat.le_refl _) _) | exact HS5.out _ (by assumption) | exact HS5.out _ (b66.alloc b66.size _)
      clear hK K
      try simp only [Act.put, List.setIfInBounds_toArray, List.set_cons_zero, List.set_cons_succ]
      refine wpAnyH_take (i := 9) (oi := ⟨some 55, _, _, _, _, _⟩) (v := ?v9_9) rfl (by kernel_rfl) (by kernel_rfl) (by kernel_rfl) (fun _ _ _ h => h) (Or.inl ⟨by rfl, ?hy9_9⟩) (by assumption) ?rest9_9
      case hy9_9 => intro w hSw; (try dsimp only at hSw); go_simp; try with_reducible rfl
      try simp only [Act.put, List.setIfInBounds_toArray, List.set_cons_zero, List.set_cons_succ]
      refine wpAnyH_ready (rs := [10]) (by kernel_rfl) (by simp) ?_
      refine AllReadyH.cons rfl (fun K hK => ?_) AllReadyH.nil
      go_simp
      refine hK.out _ _ ?_ (fun hHeld => ?_)
      · try dsimp only
        exact HS5.out _ (b66.alloc b66.size _)
      clear hK K
      try simp only [Act.put, List.setIfInBounds_toArray, List.set_cons_zero, List.set_cons_succ]
      have hza : (w6.alloc (.cells #[.int .u8 0, .int .i64 0, .float .f64 0, .slice none 0 0, .int .u8 0, .int .i64 0, .int .i64 0, .int .i64 0] 75)).heap[w6.heap.size]? = _ := heap_alloc_new w6 _
      have b77 := b66.alloc b66.size (.cells #[.int .u8 0, .int .i64 0, .float .f64 0, .slice none 0 0, .int .u8 0, .int .i64 0, .int .i64 0, .int .i64 0] 75)
      have hq := b66.size
      refine wpAnyH_ready (rs := [11]) (by kernel_rfl) (by simp) ?_
      refine AllReadyH.cons rfl (fun K hK => ?_) AllReadyH.nil
      have hst := op_store (z := [.int .u8 0, .int .i64 0, .float .f64 0, .slice none 0 0, .int .u8 0, .int .i64 0, .int .i64 0, .int .i64 0]) rfl (hza) (.int .u8 1) (.int .i64 v.feature) (.float .f64 v.thr) (.slice cd.1 cd.2.1 cd.2.2) (.int .u8 (v.missing : Int)) (.int .i64 0) (.int .i64 0) (.int .i64 0)
      have bst := below_grown (A := some ⟨w6.heap.size, 0, none⟩) (b77) b77.size hst.2 (fun k hk => by simp [blockOf] at hk; omega)
      rw [if_pos (by rfl)]
      refine wp_store_mid _ _ _ rfl _ _ _ rfl rfl (there_block (hza) rfl) Tryz.size_op (all_oneCell_toArray (opRow_one cd (rawOp 1 v))) ?_
      simp only [Act.put, List.setIfInBounds_toArray, List.set_cons_zero, List.set_cons_succ, List.toList_toArray]
      refine hK.out _ _ ?_ (fun hHeld => ?_)
      · try dsimp only
        exact HS5.out _ bst
      clear hK K
      try simp only [Act.put, List.setIfInBounds_toArray, List.set_cons_zero, List.set_cons_succ]
      refine wpAnyH_done (by kernel_rfl) ?_ _
      refine NoPanic.normal ?_
      have hcA := (hcat.mono (base' := w5.heap.size) (Nat.le_refl _)).below ((Below.refl w6.heap.size w6).alloc (Nat.le_refl _) (.cells #[.int .u8 0, .int .i64 0, .float .f64 0, .slice none 0 0, .int .u8 0, .int .i64 0, .int .i64 0, .int .i64 0] 75))
      have hapA : hdBlock cd = none ∨ hdBlock cd ≠ some w6.heap.size := by
        cases hk : hdBlock cd with
        | none => exact .inl rfl
        | some k => have := (hcat.lt k hk).2; exact .inr (by intro e; injection e with e; omega)
      have hap2 : hdBlock cd ≠ some w6.heap.size := by
        rcases hapA with e | e
        · rw [e]; simp
        · exact e
      have hat : AtOp w5 _ w6.heap.size 1 v cd := ⟨bst, hst.1, hcA.kept hst.2 hapA, hq, hap2⟩
      clear hst bst
      go_wp2
      go_meet
      exact ⟨_, cd, rfl, hat⟩
    · go_simp
      refine hK.out _ _ ?_ (fun hHeld => ?_)
      · try dsimp only
        first | assumption | exact HS5.out _ (Below.refl _ _).drew | exact HS5.out _ ((Below.refl _ _).drew.alloc (Nat.le_refl _) _) | exact HS5.out _ (by assumption) | exact HS5.out _ (b66.alloc b66.size _)
      clear hK K
      try simp only [Act.put, List.setIfInBounds_toArray, List.set_cons_zero, List.set_cons_succ]
      refine wpAnyH_ready (rs := [6]) (by kernel_rfl) (by simp) ?_
      refine AllReadyH.cons rfl (fun K hK => ?_) AllReadyH.nil
      go_simp
      go_at_call 42
      refine (HCL.out _ (((Below.refl w5.heap.size w5).alloc (Nat.le_refl _) (.cells #[.int .u8 0, .int .i64 0, .float .f64 0, .slice none 0 0, .int .u8 0, .int .i64 0, .int .i64 0, .int .i64 0] 75)).drew)).mono ?_
      rintro e w6 ⟨cd, rfl, hcat, hnew, b6⟩
      have b66 := below_then (((Below.refl w5.heap.size w5).alloc (Nat.le_refl _) (.cells #[.int .u8 0, .int .i64 0, .float .f64 0, .slice none 0 0, .int .u8 0, .int .i64 0, .int .i64 0, .int .i64 0] 75)).drew) (by simp) b6
      go_wp2_with fail
      refine hK.out _ _ ?_ (fun hHeld => ?_)
      · try dsimp only
        first | assumption | exact HS5.out _ (Below.refl _ _).drew | exact HS5.out _ ((Below.refl _ _).drew.alloc (Nat.le_refl _) _) | exact HS5.out _ (by assumption) | exact HS5.out _ (b66.alloc b66.size _)
      clear hK K
      try simp only [Act.put, List.setIfInBounds_toArray, List.set_cons_zero, List.set_cons_succ]
      refine wpAnyH_take (i := 9) (oi := ⟨some 55, _, _, _, _, _⟩) (v := ?v9_10) rfl (by kernel_rfl) (by kernel_rfl) (by kernel_rfl) (fun _ _ _ h => h) (Or.inl ⟨by rfl, ?hy9_10⟩) (by assumption) ?rest9_10
      case hy9_10 => intro w hSw; (try dsimp only at hSw); go_simp; try with_reducible rfl
      try simp only [Act.put, List.setIfInBounds_toArray, List.set_cons_zero, List.set_cons_succ]
      have hzb := (b6.block w5.heap.size (by simp)).trans (show ((w5.alloc (.cells #[.int .u8 0, .int .i64 0, .float .f64 0, .slice none 0 0, .int .u8 0, .int .i64 0, .int .i64 0, .int .i64 0] 75)).drew).heap[w5.heap.size]? = _ from heap_alloc_new w5 _)
      have b77 := b66
      refine wpAnyH_ready (rs := [11]) (by kernel_rfl) (by simp) ?_
      refine AllReadyH.cons rfl (fun K hK => ?_) AllReadyH.nil
      have hst := op_store (z := [.int .u8 0, .int .i64 0, .float .f64 0, .slice none 0 0, .int .u8 0, .int .i64 0, .int .i64 0, .int .i64 0]) rfl (hzb) (.int .u8 1) (.int .i64 v.feature) (.float .f64 v.thr) (.slice cd.1 cd.2.1 cd.2.2) (.int .u8 (v.missing : Int)) (.int .i64 0) (.int .i64 0) (.int .i64 0)
      have bst := below_grown (A := some ⟨w5.heap.size, 0, none⟩) (b77) b77.size hst.2 (fun k hk => by simp [blockOf] at hk; omega)
      rw [if_pos (by rfl)]
      refine wp_store_mid _ _ _ rfl _ _ _ rfl rfl (there_block (hzb) rfl) Tryz.size_op (all_oneCell_toArray (opRow_one cd (rawOp 1 v))) ?_
      simp only [Act.put, List.setIfInBounds_toArray, List.set_cons_zero, List.set_cons_succ, List.toList_toArray]
      refine hK.out _ _ ?_ (fun hHeld => ?_)
      · try dsimp only
        exact HS5.out _ bst
      clear hK K
      try simp only [Act.put, List.setIfInBounds_toArray, List.set_cons_zero, List.set_cons_succ]
      refine wpAnyH_done (by kernel_rfl) ?_ _
      refine NoPanic.normal ?_
      have hcB := hcat.mono (base' := w5.heap.size) (by simp)
      have hapB : hdBlock cd = none ∨ hdBlock cd ≠ some w5.heap.size := by
        cases hk : hdBlock cd with
        | none => exact .inl rfl
        | some k => have := hnew k hk; simp at this; exact .inr (by intro e; injection e with e; omega)
      have hap2 : hdBlock cd ≠ some w5.heap.size := by
        rcases hapB with e | e
        · rw [e]; simp
        · exact e
      have hat : AtOp w5 _ w5.heap.size 1 v cd := ⟨bst, hst.1, hcB.kept hst.2 hapB, Nat.le_refl _, hap2⟩
      clear hst bst
      go_wp2
      go_meet
      exact ⟨_, cd, rfl, hat⟩
  case rest =>
    obtain ⟨q, cd, rfl, hat⟩ := hcut
    have hO6 := (hat.bel.block _ (lt_of_block HO5.out)).trans HO5.out
    have k0 : wc.cell? ⟨w.heap.size, 0, none⟩ = some (.int .u8 (v.kind : Int)) := cell_of_block hO6 rfl
    have q0 : wc.cell? ⟨q, 0, none⟩ = some (.int .u8 1) := cell_of_block hat.box rfl
    have qz : wc.frozen? ⟨q, 0, none⟩ = false := frozen_row hat.box 0
    have hqw := HO5.out
    have HAT := Lib.hid hat
    clear hqw hO6
    obtain ⟨kk, hkk⟩ : ∃ kk : Nat, kk = if v.kind = 3 then 2 else 1 := ⟨_, rfl⟩
    have HKK := Lib.hid hkk
    obtain ⟨y3, hy3⟩ : ∃ y, ((v.kind : Int) == 3) = y := ⟨_, rfl⟩
    have HY3 := Lib.hid hy3
    clear hkk hat
    go_upto_if 58 with (fail)
    go_cut [] from 59 to 59 (fun wx => AtOp w5 wx q kk v cd)
    case first =>
      cases y3
      · have H3 := Lib.hid (show ¬ v.kind = 3 by have := HY3.out; simp at this; omega)
        go_wp2
        go_meet
        show AtOp w5 _ q kk v cd
        rw [HKK.out, if_neg H3.out]
        exact HAT.out
      · have H3 := Lib.hid (show v.kind = 3 by have := HY3.out; simp at this; omega)
        go_wp2
        go_meet
        show AtOp w5 _ q kk v cd
        rw [HKK.out, if_pos H3.out]
        exact HAT.out.kinded
    case rest =>
      have hat8 := hcut
      go_upto_region 8 with (fail)
      rename World => wz
      have HAT8 := Lib.hid hat8
      have HT8 := Lib.hid (HT5.out.below hat8.bel)
      obtain ⟨hs, hh, ha⟩ := HT5.out.hds
      have HH := Lib.hid hh
      have HHA := Lib.hid ha
      have HOM := Lib.hid (fun W (h : Below wz.heap.size wz W) => hh.2.1.below (below_then hat8.bel hat8.bel.size h))
      have HBZ := Lib.hid (fun W (h : Below wz.heap.size wz W) => (HT8.out.below h).low.2.2)
      have HB8 := Lib.hid (fun W (h : Below wz.heap.size wz W) => (h.block _ (lt_of_block hat8.box)).trans hat8.box)
      have HSS := Lib.hid (fun (W : World) (h1 : W.cell? ⟨bp, 0, none⟩ = some (.pointer (some ⟨P, 0, none⟩))) (h2 : W.heap[q]? = some (.cells (opRow cd (rawOp kk v)).toArray 75 (0, 0))) => show W.cell? ⟨bp, 0, none⟩ = some (.pointer (some ⟨P, 0, none⟩)) ∧ W.cell? ⟨q, 0, none⟩ = some (.int .u8 (kk : Int)) ∧ W.cell? ⟨q, 1, none⟩ = some (.int .i64 v.feature) ∧ W.cell? ⟨q, 2, none⟩ = some (.float .f64 v.thr) ∧ W.cell? ⟨q, 3, none⟩ = some (.slice cd.1 cd.2.1 cd.2.2) ∧ W.cell? ⟨q, 4, none⟩ = some (.int .u8 (v.missing : Int)) ∧ W.cell? ⟨q, 5, none⟩ = some (.int .i64 0) ∧ W.cell? ⟨q, 6, none⟩ = some (.int .i64 0) ∧ W.cell? ⟨q, 7, none⟩ = some (.int .i64 0) from
        ⟨h1, cell_of_block h2 rfl, cell_of_block h2 rfl, cell_of_block h2 rfl, cell_of_block h2 rfl, cell_of_block h2 rfl, cell_of_block h2 rfl, cell_of_block h2 rfl, cell_of_block h2 rfl⟩)
      have HS8 := Lib.hid (fun W (h : Below wz.heap.size wz W) => HSS.out W (cell_of_block (HT8.out.below h).pc rfl) (HB8.out W h))
      have HQA := Lib.hid (show blockOf OA = none ∨ blockOf OA ≠ some q by
        cases hO : blockOf OA with
        | none => exact .inl rfl
        | some k => have := (hh.2.1.lt k hO).2; have := hat8.new; exact .inr (by intro e; injection e with e; omega))
      have HRG := Lib.hid (show ∀ u ∈ [rawOp kk v], OpRng u ∧ ∀ z ∈ u.cats, -9223372036854775808 ≤ z ∧ z ≤ 9223372036854775807 by
        intro u hu
        obtain rfl := List.mem_singleton.1 hu
        refine ⟨?_, hic.rng⟩
        have hkk := HKK.out
        constructor <;> simp only [rawOp] <;> first | (split at hkk <;> omega) | omega)
      have m2 := lt_of_block hat8.box
      have m3 := lt_of_block HT8.out.pc
      have m4 := lt_of_block HT8.out.prog
      have c3 : wz.cell? ⟨P, 2, none⟩ = some (.slice OA on oc) := cell_of_block HT8.out.prog rfl
      clear k0 q0 qz hat8 hcut hh ha
      go_cut [] from 60 to 69 (fun wx => ∃ OA' oc', TreeSt wx B bt bj bp bn P out F O (some ⟨b, o, none⟩) n c JA jn jc js OA' (on + 1) oc' (ops ++ [rawOp kk v]) ∧ Below B w wx ∧ NdKeep w wx ∧ wx.heap[w.heap.size]? = w5.heap[w.heap.size]?)
      case first =>
        refine wp_region_noPanic ?_
        refine wp_region_held_drew (S := (fun W => W.cell? ⟨bp, 0, none⟩ = some (.pointer (some ⟨P, 0, none⟩)) ∧ W.cell? ⟨q, 0, none⟩ = some (.int .u8 (kk : Int)) ∧ W.cell? ⟨q, 1, none⟩ = some (.int .i64 v.feature) ∧ W.cell? ⟨q, 2, none⟩ = some (.float .f64 v.thr) ∧ W.cell? ⟨q, 3, none⟩ = some (.slice cd.1 cd.2.1 cd.2.2) ∧ W.cell? ⟨q, 4, none⟩ = some (.int .u8 (v.missing : Int)) ∧ W.cell? ⟨q, 5, none⟩ = some (.int .i64 0) ∧ W.cell? ⟨q, 6, none⟩ = some (.int .i64 0) ∧ W.cell? ⟨q, 7, none⟩ = some (.int .i64 0))) (by kernel_rfl) ?_ (fun hHeld => ?_)
        · try dsimp only
          first | assumption | exact HS8.out _ (Below.refl _ _).drew | exact HS8.out _ ((Below.refl _ _).drew.alloc (Nat.le_refl _) _) | exact HSS.out _ S63.1 S63.2.1
        refine wpAnyH_take (i := 0) (v := ?v0_101) rfl (by kernel_rfl) (by kernel_rfl) (by kernel_rfl) (fun _ _ _ h => h) (Or.inl ⟨by rfl, ?hy0_101⟩) (by assumption) ?rest0_101
        case hy0_101 => intro w hSw; (try dsimp only at hSw); go_simp; try with_reducible rfl
        try simp only [Act.put, List.setIfInBounds_toArray, List.set_cons_zero, List.set_cons_succ]
        refine wpAnyH_take (i := 1) (v := ?v1_102) rfl (by kernel_rfl) (by kernel_rfl) (by kernel_rfl) (fun _ _ _ h => h) (Or.inl ⟨by rfl, ?hy1_102⟩) (by assumption) ?rest1_102
        case hy1_102 => intro w hSw; (try dsimp only at hSw); go_simp; try with_reducible rfl
        try simp only [Act.put, List.setIfInBounds_toArray, List.set_cons_zero, List.set_cons_succ]
        refine wpAnyH_take (i := 2) (v := ?v2_103) rfl (by kernel_rfl) (by kernel_rfl) (by kernel_rfl) (fun _ _ _ h => h) (Or.inl ⟨by rfl, ?hy2_103⟩) (by assumption) ?rest2_103
        case hy2_103 => intro w hSw; (try dsimp only at hSw); go_simp; try with_reducible rfl
        try simp only [Act.put, List.setIfInBounds_toArray, List.set_cons_zero, List.set_cons_succ]
        refine wpAnyH_take (i := 3) (v := ?v3_104) rfl (by kernel_rfl) (by kernel_rfl) (by kernel_rfl) (fun _ _ _ h => h) (Or.inl ⟨by rfl, ?hy3_104⟩) (by assumption) ?rest3_104
        case hy3_104 => intro w hSw; (try dsimp only at hSw); go_simp; try with_reducible rfl
        try simp only [Act.put, List.setIfInBounds_toArray, List.set_cons_zero, List.set_cons_succ]
        refine wpAnyH_take (i := 5) (oi := ⟨some 65, _, _, _, _, _⟩) (v := ?v5_105) rfl (by kernel_rfl) (by kernel_rfl) (by kernel_rfl) (fun _ _ _ h => h) (Or.inl ⟨by rfl, ?hy5_105⟩) (by assumption) ?rest5_105
        case hy5_105 => intro w hSw; (try dsimp only at hSw); go_simp; try with_reducible rfl
        try simp only [Act.put, List.setIfInBounds_toArray, List.set_cons_zero, List.set_cons_succ]
        refine wpAnyH_ready (rs := [4, 6]) (by kernel_rfl) (by simp) ?_
        refine AllReadyH.cons rfl (fun K hK => ?_) (AllReadyH.cons rfl (fun K hK => ?_) AllReadyH.nil)
        · go_simp
          refine hK.out _ _ ?_ (fun hHeld => ?_)
          · try dsimp only
            first | assumption | exact HS8.out _ (Below.refl _ _).drew | exact HS8.out _ ((Below.refl _ _).drew.alloc (Nat.le_refl _) _) | exact HSS.out _ S63.1 S63.2.1
          clear hK K
          try simp only [Act.put, List.setIfInBounds_toArray, List.set_cons_zero, List.set_cons_succ]
          refine wpAnyH_ready (rs := [6]) (by kernel_rfl) (by simp) ?_
          refine AllReadyH.cons rfl (fun K hK => ?_) AllReadyH.nil
          go_simp
          refine hK.out _ _ ?_ (fun hHeld => ?_)
          · try dsimp only
            first | assumption | exact HS8.out _ (Below.refl _ _).drew | exact HS8.out _ ((Below.refl _ _).drew.alloc (Nat.le_refl _) _) | exact HSS.out _ S63.1 S63.2.1
          clear hK K
          try simp only [Act.put, List.setIfInBounds_toArray, List.set_cons_zero, List.set_cons_succ]
          refine wpAnyH_ready (rs := [7]) (by kernel_rfl) (by simp) ?_
          refine AllReadyH.cons rfl (fun K hK => ?_) AllReadyH.nil
          (refine step_appK B (by rfl) _ _ _ _ _ 8 80 (by rfl) Tryz.underlying28 Tryz.info_op rfl (by omega) OA on oc (flatOps hs ops) wz.heap.size 1 1 (opRow cd (rawOp kk v)).toArray 75 (heap_alloc_new wz.drew _) rfl (by rfl) (by rfl) (opRow_one cd (rawOp kk v)) (HOM.out _ ((Below.refl _ _).drew.alloc (Nat.le_refl _) _)) (HBZ.out _ ((Below.refl _ _).drew.alloc (Nat.le_refl _) _)) (by omega) (by omega) ?_; intro OA' oc' w6 hm6 hg6 hA6; have S61 := ((HT8.out.below (((Below.refl wz.heap.size wz).alloc (Nat.le_refl _) (.cells (opRow cd (rawOp kk v)).toArray 75)).drew)).held2 hg6).1; have S62 := ((HT8.out.below (((Below.refl wz.heap.size wz).alloc (Nat.le_refl _) (.cells (opRow cd (rawOp kk v)).toArray 75)).drew)).held2 hg6).2; have S63 := (op_keep (HT8.out.below (((Below.refl wz.heap.size wz).alloc (Nat.le_refl _) (.cells (opRow cd (rawOp kk v)).toArray 75)).drew)) hg6 (HB8.out _ (((Below.refl wz.heap.size wz).alloc (Nat.le_refl _) (.cells (opRow cd (rawOp kk v)).toArray 75)).drew)) HQA.out (.slice OA' (on + 1) oc')))
          refine hK.out _ _ ?_ (fun hHeld => ?_)
          · try dsimp only
            first | assumption | exact HS8.out _ (Below.refl _ _).drew | exact HS8.out _ ((Below.refl _ _).drew.alloc (Nat.le_refl _) _) | exact HSS.out _ S63.1 S63.2.1
          clear hK K
          try simp only [Act.put, List.setIfInBounds_toArray, List.set_cons_zero, List.set_cons_succ]
          refine wpAnyH_take (i := 8) (v := ?v8_106) rfl (by kernel_rfl) (by kernel_rfl) (by kernel_rfl) (fun _ _ _ h => h) (Or.inl ⟨by rfl, ?hy8_106⟩) (by assumption) ?rest8_106
          case hy8_106 => intro w hSw; (try dsimp only at hSw); go_simp; try with_reducible rfl
          try simp only [Act.put, List.setIfInBounds_toArray, List.set_cons_zero, List.set_cons_succ]
          refine wpAnyH_take (i := 9) (v := ?v9_107) rfl (by kernel_rfl) (by kernel_rfl) (by kernel_rfl) (fun _ _ _ h => h) (Or.inl ⟨by rfl, ?hy9_107⟩) (by assumption) ?rest9_107
          case hy9_107 => intro w hSw; (try dsimp only at hSw); go_simp; try with_reducible rfl
          try simp only [Act.put, List.setIfInBounds_toArray, List.set_cons_zero, List.set_cons_succ]
          refine wpAnyH_ready (rs := [10]) (by kernel_rfl) (by simp) ?_
          refine AllReadyH.cons rfl (fun K hK => ?_) AllReadyH.nil
          go_simp
          refine hK.out _ _ ?_ (fun hHeld => ?_)
          · try dsimp only
            exact HSS.out _ S63.2.2.1 S63.2.2.2
          clear hK K
          try simp only [Act.put, List.setIfInBounds_toArray, List.set_cons_zero, List.set_cons_succ]
          refine wpAnyH_done (by kernel_rfl) ?_ _
          refine NoPanic.normal ?_
          go_wp2
          have b0 := (((Below.refl wz.heap.size wz).alloc (Nat.le_refl _) (.cells (opRow cd (rawOp kk v)).toArray 75)).drew)
          have hb0 := below_then HAT8.out.bel HAT8.out.bel.size b0
          have T1 := HT5.out.added (w := (wz.alloc (.cells (opRow cd (rawOp kk v)).toArray 75)).drew) (hs2 := [cd]) (ops2 := [rawOp kk v]) HH.out HHA.out hb0 rfl (fun j h1 h2 => by
            obtain rfl : j = 0 := by simp only [List.length_cons, List.length_nil] at h1; omega
            exact (HAT8.out.cats.mono HT5.out.low.2.2).below b0) (fun h hh k hk => by
            obtain rfl := List.mem_singleton.1 hh
            exact (HAT8.out.cats.lt k hk).1) (List.pairwise_singleton _ _) HRG.out (by simpa [flatOps] using hm6) hg6 hA6
          have hB1 := below_then (b5.mono HT.out.low.2.2) (Nat.le_trans HT.out.low.2.2 b5.size) hb0
          have hB2 := below_grown hB1 (HT8.out.below b0).low.2.2 hg6 (fun k hk => ((HT8.out.below b0).own.lt k hk).1)
          have hB3 := hB2.setCell (p := ⟨P, 2, none⟩) HT5.out.low.2.1 (.slice OA' (on + 1) oc')
          have hN0 := (hb0.block _ (lt_of_block HO5.out)).trans HO5.out
          have hN1 := keep_ty hg6 hN0 (fun r hr => (HOM.out _ b0).ty hr) (by decide)
          have hN2 := (setCell_other (ty_ne hN1 (keep_ty hg6 (HT8.out.below b0).prog (fun r hr => (HOM.out _ b0).ty hr) (by decide)) (by decide)) 2 (.slice OA' (on + 1) oc')).trans hN1
          have hNK := ((NdKeep.below b5).trans (NdKeep.below hb0)).trans ((NdKeep.grown hg6 (fun r hr => (HOM.out _ b0).ty hr) (by decide)).trans (NdKeep.set (keep_ty hg6 (HT8.out.below b0).prog (fun r hr => (HOM.out _ b0).ty hr) (by decide)) (by decide) 2 (.slice OA' (on + 1) oc')))
          go_meet
          exact ⟨OA', oc', T1, hB3, hNK, hN2.trans HO5.out.symm⟩
        · go_simp
          refine hK.out _ _ ?_ (fun hHeld => ?_)
          · try dsimp only
            first | assumption | exact HS8.out _ (Below.refl _ _).drew | exact HS8.out _ ((Below.refl _ _).drew.alloc (Nat.le_refl _) _) | exact HSS.out _ S63.1 S63.2.1
          clear hK K
          try simp only [Act.put, List.setIfInBounds_toArray, List.set_cons_zero, List.set_cons_succ]
          refine wpAnyH_ready (rs := [4]) (by kernel_rfl) (by simp) ?_
          refine AllReadyH.cons rfl (fun K hK => ?_) AllReadyH.nil
          go_simp
          refine hK.out _ _ ?_ (fun hHeld => ?_)
          · try dsimp only
            first | assumption | exact HS8.out _ (Below.refl _ _).drew | exact HS8.out _ ((Below.refl _ _).drew.alloc (Nat.le_refl _) _) | exact HSS.out _ S63.1 S63.2.1
          clear hK K
          try simp only [Act.put, List.setIfInBounds_toArray, List.set_cons_zero, List.set_cons_succ]
          refine wpAnyH_ready (rs := [7]) (by kernel_rfl) (by simp) ?_
          refine AllReadyH.cons rfl (fun K hK => ?_) AllReadyH.nil
          (refine step_appK B (by rfl) _ _ _ _ _ 8 80 (by rfl) Tryz.underlying28 Tryz.info_op rfl (by omega) OA on oc (flatOps hs ops) wz.heap.size 1 1 (opRow cd (rawOp kk v)).toArray 75 (heap_alloc_new wz.drew _) rfl (by rfl) (by rfl) (opRow_one cd (rawOp kk v)) (HOM.out _ ((Below.refl _ _).drew.alloc (Nat.le_refl _) _)) (HBZ.out _ ((Below.refl _ _).drew.alloc (Nat.le_refl _) _)) (by omega) (by omega) ?_; intro OA' oc' w6 hm6 hg6 hA6; have S61 := ((HT8.out.below (((Below.refl wz.heap.size wz).alloc (Nat.le_refl _) (.cells (opRow cd (rawOp kk v)).toArray 75)).drew)).held2 hg6).1; have S62 := ((HT8.out.below (((Below.refl wz.heap.size wz).alloc (Nat.le_refl _) (.cells (opRow cd (rawOp kk v)).toArray 75)).drew)).held2 hg6).2; have S63 := (op_keep (HT8.out.below (((Below.refl wz.heap.size wz).alloc (Nat.le_refl _) (.cells (opRow cd (rawOp kk v)).toArray 75)).drew)) hg6 (HB8.out _ (((Below.refl wz.heap.size wz).alloc (Nat.le_refl _) (.cells (opRow cd (rawOp kk v)).toArray 75)).drew)) HQA.out (.slice OA' (on + 1) oc')))
          refine hK.out _ _ ?_ (fun hHeld => ?_)
          · try dsimp only
            first | assumption | exact HS8.out _ (Below.refl _ _).drew | exact HS8.out _ ((Below.refl _ _).drew.alloc (Nat.le_refl _) _) | exact HSS.out _ S63.1 S63.2.1
          clear hK K
          try simp only [Act.put, List.setIfInBounds_toArray, List.set_cons_zero, List.set_cons_succ]
          refine wpAnyH_take (i := 8) (v := ?v8_108) rfl (by kernel_rfl) (by kernel_rfl) (by kernel_rfl) (fun _ _ _ h => h) (Or.inl ⟨by rfl, ?hy8_108⟩) (by assumption) ?rest8_108
          case hy8_108 => intro w hSw; (try dsimp only at hSw); go_simp; try with_reducible rfl
          try simp only [Act.put, List.setIfInBounds_toArray, List.set_cons_zero, List.set_cons_succ]
          refine wpAnyH_take (i := 9) (v := ?v9_109) rfl (by kernel_rfl) (by kernel_rfl) (by kernel_rfl) (fun _ _ _ h => h) (Or.inl ⟨by rfl, ?hy9_109⟩) (by assumption) ?rest9_109
          case hy9_109 => intro w hSw; (try dsimp only at hSw); go_simp; try with_reducible rfl
          try simp only [Act.put, List.setIfInBounds_toArray, List.set_cons_zero, List.set_cons_succ]
          refine wpAnyH_ready (rs := [10]) (by kernel_rfl) (by simp) ?_
          refine AllReadyH.cons rfl (fun K hK => ?_) AllReadyH.nil
          go_simp
          refine hK.out _ _ ?_ (fun hHeld => ?_)
          · try dsimp only
            exact HSS.out _ S63.2.2.1 S63.2.2.2
          clear hK K
          try simp only [Act.put, List.setIfInBounds_toArray, List.set_cons_zero, List.set_cons_succ]
          refine wpAnyH_done (by kernel_rfl) ?_ _
          refine NoPanic.normal ?_
          go_wp2
          have b0 := (((Below.refl wz.heap.size wz).alloc (Nat.le_refl _) (.cells (opRow cd (rawOp kk v)).toArray 75)).drew)
          have hb0 := below_then HAT8.out.bel HAT8.out.bel.size b0
          have T1 := HT5.out.added (w := (wz.alloc (.cells (opRow cd (rawOp kk v)).toArray 75)).drew) (hs2 := [cd]) (ops2 := [rawOp kk v]) HH.out HHA.out hb0 rfl (fun j h1 h2 => by
            obtain rfl : j = 0 := by simp only [List.length_cons, List.length_nil] at h1; omega
            exact (HAT8.out.cats.mono HT5.out.low.2.2).below b0) (fun h hh k hk => by
            obtain rfl := List.mem_singleton.1 hh
            exact (HAT8.out.cats.lt k hk).1) (List.pairwise_singleton _ _) HRG.out (by simpa [flatOps] using hm6) hg6 hA6
          have hB1 := below_then (b5.mono HT.out.low.2.2) (Nat.le_trans HT.out.low.2.2 b5.size) hb0
          have hB2 := below_grown hB1 (HT8.out.below b0).low.2.2 hg6 (fun k hk => ((HT8.out.below b0).own.lt k hk).1)
          have hB3 := hB2.setCell (p := ⟨P, 2, none⟩) HT5.out.low.2.1 (.slice OA' (on + 1) oc')
          have hN0 := (hb0.block _ (lt_of_block HO5.out)).trans HO5.out
          have hN1 := keep_ty hg6 hN0 (fun r hr => (HOM.out _ b0).ty hr) (by decide)
          have hN2 := (setCell_other (ty_ne hN1 (keep_ty hg6 (HT8.out.below b0).prog (fun r hr => (HOM.out _ b0).ty hr) (by decide)) (by decide)) 2 (.slice OA' (on + 1) oc')).trans hN1
          have hNK := ((NdKeep.below b5).trans (NdKeep.below hb0)).trans ((NdKeep.grown hg6 (fun r hr => (HOM.out _ b0).ty hr) (by decide)).trans (NdKeep.set (keep_ty hg6 (HT8.out.below b0).prog (fun r hr => (HOM.out _ b0).ty hr) (by decide)) (by decide) 2 (.slice OA' (on + 1) oc')))
          go_meet
          exact ⟨OA', oc', T1, hB3, hNK, hN2.trans HO5.out.symm⟩
      case rest =>
        obtain ⟨OA1, oc1, T1, hB1, hNK1, hN1⟩ := hcut
        rename World => w1
        have HNK1 := Lib.hid hNK1
        have HB1 := Lib.hid hB1
        have hO1 := hN1.trans HO5.out
        have fn1 : w1.cell? ⟨bn, 0, none⟩ = some (.func (.func 68) #[] #[.pointer (some ⟨bt, 0, none⟩), .pointer (some ⟨bj, 0, none⟩), .pointer (some ⟨bp, 0, none⟩), .pointer (some ⟨bn, 0, none⟩)]) := cell_of_block T1.fn rfl
        have n6 : w1.cell? ⟨w.heap.size, 6, none⟩ = some (.int .i64 v.left) := cell_of_block hO1 rfl
        rw [HL.out] at n6
        have HO1 := Lib.hid hO1
        have HCALL := Lib.hid (HLo.out JA jn jc js OA1 (on + 1) oc1 _ w1 T1 (fun W h => HND.out W (HB1.out.trans h)) (by have := HSZ.out; simp only [BT.size] at this; omega) (by omega))
        have HT1 := Lib.hid T1
        clear hNK1 hB1 hN1 hO1 T1
        go_wp2_with fail
        refine HCALL.out.mono ?_; rintro e w2 ⟨JA2, jn2, jc2, OA2, on2, oc2, rfl, T2, b2, nk2⟩
        clear fn1 n6
        go_upto_region 10 with (fail)
        have hll := HTL.out
        have hl2 := T2.own.len
        simp only [List.length_append, List.length_singleton, emitT_length, hll] at hl2
        have hon2 : on2 = on + 1 + l.size := by omega
        obtain ⟨g2, hg2, _, _⟩ := T2.own.some_of (by omega)
        subst hg2
        have ho2 : ops ++ [rawOp kk v] ++ emitT nds out l (on + 1) = ops ++ rawOp kk v :: emitT nds out l (on + 1) := by simp
        rw [ho2] at T2
        have hj2 : on < (ops ++ rawOp kk v :: emitT nds out l (on + 1)).length := by simp [hll]
        have hst : setTo (on2 : Int) (ops ++ rawOp kk v :: emitT nds out l (on + 1)) on = ops ++ testOp v ((on + 1 + l.size : Nat) : Int) :: emitT nds out l (on + 1) := by
          rw [setTo_mid _ _ _ _ _ hll.symm, hon2]
          congr 2
          simp only [rawOp, testOp, HKK.out]
        have T3 := T2.set on hj2 (on2 : Int) (by have := HSZ.out; simp only [BT.size] at this; omega)
        rw [hst] at T3
        have hcz : w2.cell? ⟨g2, on * 8 + 7, none⟩ = some (.int .i64 0) ∧ w2.frozen? ⟨g2, on * 8 + 7, none⟩ = false := by
          obtain ⟨hs2, hh2, _⟩ := T2.hds
          refine ⟨?_, hh2.2.1.free _⟩
          rw [hh2.2.1.cell (on * 8 + 7) (by omega), List.getD_eq_getElem?_getD, flatOps_get hs2 _ hh2.1 on hj2 7 (by omega)]
          have : (ops ++ rawOp kk v :: emitT nds out l (on + 1))[on] = rawOp kk v := by
            rw [List.getElem_append_right (by omega)]
            simp [hll]
          rw [this]
          rfl
        have c1 := hcz.1
        have z1 := hcz.2
        have p1 : w2.cell? ⟨bp, 0, none⟩ = some (.pointer (some ⟨P, 0, none⟩)) := cell_of_block T2.pc rfl
        have p2 : w2.cell? ⟨P, 2, none⟩ = some (.slice (some ⟨g2, 0, none⟩) on2 oc2) := cell_of_block T2.prog rfl
        have x1 : (on : Int) < (on2 : Int) := by omega
        have nk3 := NdKeep.grown (setCell_grownBy w2 g2 (on * 8 + 7) (.int .i64 (on2 : Int))) (fun r hr => T2.own.ty hr) (by decide)
        have hb3 := ((HB1.out.trans b2).setCell (p := ⟨g2, on * 8 + 7, none⟩) (T2.own.lt g2 rfl).1 (.int .i64 (on2 : Int))).drew
        have hO3 : ((w2.setCell ⟨g2, on * 8 + 7, none⟩ (.int .i64 (on2 : Int))).drew).heap[w.heap.size]? = _ := nk3 _ _ (nk2 _ _ HO1.out)
        have hjl := T2.js.len
        have hjs := HT1.out.js.len
        rw [i64s_length] at hjl hjs
        have hjm := jumpsT_length l (on + 1)
        simp only [List.length_append, List.length_map, hjs] at hjl
        have T3d := T3.below (Below.refl _ _).drew
        have HN3 := Lib.hid (show NdKeep w ((w2.setCell ⟨g2, on * 8 + 7, none⟩ (.int .i64 (on2 : Int))).drew) from (HNK1.out.trans nk2).trans nk3)
        have HCALL3 := Lib.hid (HRo.out JA2 jn2 jc2 _ (some ⟨g2, 0, none⟩) on2 oc2 _ _ T3d (fun W h => HND.out W (hb3.trans h)) (by have := HSZ.out; simp only [BT.size] at this; omega) (by omega))
        have HT3 := Lib.hid T3d
        have HB3 := Lib.hid hb3
        have HO3 := Lib.hid hO3
        have HE := Lib.hid hon2
        clear hll hl2 hj2 hst T3 hcz nk3 hb3 hO3 hjl hjs hjm T3d ho2 hon2 nk2 b2 T2
        go_region
        go_upto_region 11 with (fail)
        change Code.wp _ _ _ _ ((w2.setCell ⟨g2, on * 8 + 7, none⟩ (.int .i64 (on2 : Int))).drew)
        generalize ((w2.setCell ⟨g2, on * 8 + 7, none⟩ (.int .i64 (on2 : Int))).drew) = w3 at *
        have fn3 : w3.cell? ⟨bn, 0, none⟩ = some (.func (.func 68) #[] #[.pointer (some ⟨bt, 0, none⟩), .pointer (some ⟨bj, 0, none⟩), .pointer (some ⟨bp, 0, none⟩), .pointer (some ⟨bn, 0, none⟩)]) := cell_of_block HT3.out.fn rfl
        have n7 : w3.cell? ⟨w.heap.size, 7, none⟩ = some (.int .i64 v.right) := cell_of_block HO3.out rfl
        rw [HQ.out] at n7
        go_wp2_with fail
        refine HCALL3.out.mono ?_; rintro e w4 ⟨JA4, jn4, jc4, OA4, on4, oc4, rfl, T4, b4, nk4⟩
        have hfin := HB3.out.trans b4
        have hnk := HN3.out.trans nk4
        rw [HE.out] at T4
        have T5 : TreeSt w4 B bt bj bp bn P out F O (some ⟨b, o, none⟩) n c JA4 jn4 jc4 (js ++ (jumpsT (.node i l r) on).map fun (x : Nat) => (x : Int)) OA4 on4 oc4 (ops ++ (testOp v ((on + 1 + l.size : Nat) : Int) :: (emitT nds out l (on + 1) ++ emitT nds out r (on + 1 + l.size)))) := by
          simpa [jumpsT] using T4
        clear fn3 n7 T4
        go_wp2
        go_end0
        exact ⟨JA4, jn4, jc4, OA4, on4, oc4, rfl, T5, hfin, hnk⟩

end Go.Proofs.YtekcpapkicmckaaGreatDoor

namespace Go.Proofs.YtekcpapkicmckaaGreatDoor
open Go.RowKit

/-- a node's numbers are such as its fields hold -/
structure NdRng (v : NdV) : Prop where
  value : -9223372036854775808 ≤ v.value ∧ v.value ≤ 9223372036854775807
  thr : v.thr < 18446744073709551616
  cats : v.cats.length ≤ 1000000000000

theorem leaf_kind {n : Int} {v : NdV} (h : nodeV n v = true) (hi : innerV v = false) : v.kind = 1 := by
  unfold nodeV at h
  unfold innerV at hi
  simp only [decide_eq_false_iff_not] at hi
  by_cases h1 : v.kind = 1
  · exact h1
  · rw [if_neg h1, decide_eq_false hi, Bool.false_and, Bool.false_and] at h
    cases h
theorem inner_feature {n : Int} {v : NdV} (h : nodeV n v = true) (hi : innerV v = true) : 0 ≤ v.feature ∧ v.feature < 65536 := by
  unfold nodeV at h
  unfold innerV at hi
  simp only [decide_eq_true_eq] at hi
  rw [if_neg (by omega)] at h
  simp only [Bool.and_eq_true, decide_eq_true_eq] at h
  omega

set_option maxRecDepth 100000 in
theorem node_any (B bt bj bp bn P : Nat) (out F O : Int) (A : Option Addr) (n c : Nat) (nds : List NdV) (hR : RightT nds) (hn : nds.length = n) (hrg : ∀ i, i < n → NdRng (ndAt nds i)) (ho : -9223372036854775808 ≤ out ∧ out ≤ 9223372036854775807) :
    ∀ (T : BT) (i : Nat), Rep nds T i → NodeOk B bt bj bp bn P out F O A n c nds T i
  | .leaf i, j, ⟨e, hi, hv⟩ => by
    obtain rfl : i = j := e.symm
    intro JA jn jc js OA on oc ops w hT hlow hs hj
    have hr := hrg i (by omega)
    simp only [BT.size] at hs
    refine (node_leaf B bt bj bp bn P out F O A n c JA jn jc js OA on oc ops nds i w hT (hlow w (Below.refl _ _)) (by omega) (leaf_kind (hR.node i hi) hv) hs (by omega) ho hr.value).mono ?_
    rintro e w' h
    simpa [jumpsT, emitT] using h
  | .node i l r, j, ⟨e, hi, hv, h1, h2⟩ => by
    obtain rfl : i = j := e.symm
    intro JA jn jc js OA on oc ops w hT hlow hs hj
    have hr := hrg i (by omega)
    have hni := nodeV_inner (hR.node i hi) hv
    have hf := inner_feature (hR.node i hi) hv
    have hk : (ndAt nds i).kind = 2 ∨ (ndAt nds i).kind = 3 := by simpa [innerV] using hv
    exact node_try B bt bj bp bn P out F O A n c JA jn jc js OA on oc ops nds i w hT (hlow w (Below.refl _ _)) (by omega) hk l r (ndAt nds i).left.toNat (ndAt nds i).right.toNat (by omega) (by omega)
      (node_any B bt bj bp bn P out F O A n c nds hR hn hrg ho l _ h1) (node_any B bt bj bp bn P out F O A n c nds hR hn hrg ho r _ h2) hs hj hlow hr.cats (by omega) hr.thr

end Go.Proofs.YtekcpapkicmckaaGreatDoor

namespace Go.Proofs.YtekcpapkicmckaaGreatDoor
open Go.RowKit

theorem jumpsT_lt : ∀ (T : BT) (k : Nat), ∀ j ∈ jumpsT T k, k ≤ j ∧ j < k + T.size
  | .leaf _, k => by
    intro j hj
    simp [jumpsT] at hj
    simp only [BT.size]
    omega
  | .node i l r, k => by
    intro j hj
    simp only [jumpsT, List.mem_append] at hj
    simp only [BT.size]
    rcases hj with hj | hj
    · have := jumpsT_lt l (k + 1) j hj; omega
    · have := jumpsT_lt r (k + 1 + l.size) j hj; omega
theorem jumpsT_last : ∀ (T : BT) (k : Nat), ∀ j ∈ (jumpsT T k).dropLast, j + 1 < k + T.size
  | .leaf _, k => by simp [jumpsT]
  | .node i l r, k => by
    intro j hj
    simp only [jumpsT] at hj
    rw [List.dropLast_append_of_ne_nil (jumpsT_ne _ _), List.mem_append] at hj
    simp only [BT.size]
    rcases hj with hj | hj
    · have := jumpsT_lt l (k + 1) j hj; have := r.size_pos; omega
    · have := jumpsT_last r (k + 1 + l.size) j hj; omega

theorem Heads.pre {w : World} {B : Nat} {OA : Option Addr} {on oc : Nat} {ops : List OpV} {hs : List Hd} (h : Heads w B OA on oc ops hs) (k : Nat) (hk : k ≤ on) : Heads w B OA k oc (ops.take k) (hs.take k) := by
  obtain ⟨e, hm, hc, h1, h2⟩ := h
  have hlen : ops.length = on := by have := hm.len; rw [flatOps_length hs ops e] at this; omega
  refine ⟨by simp [e], by rw [flatOps_take hs ops k e (by omega)]; exact hm.pre k hk, fun j a b => ?_, fun h hh => h1 h (List.mem_of_mem_take hh), h2.sublist (List.take_sublist _ _)⟩
  rw [List.getElem_take, List.getElem_take]
  exact hc j (by simp at a; omega) (by simp at b; omega)
/-- the last operation is left out -/
theorem TreeSt.less {w : World} {B bt bj bp bn P : Nat} {out F O : Int} {A : Option Addr} {n c : Nat} {JA : Option Addr} {jn jc : Nat} {js : List Int} {OA : Option Addr} {on oc : Nat} {ops : List OpV}
    (h : TreeSt w B bt bj bp bn P out F O A n c JA jn jc js OA on oc ops) (k : Nat) (hk : k ≤ on) :
    TreeSt (w.setCell ⟨P, 2, none⟩ (.slice OA k oc)) B bt bj bp bn P out F O A n c JA jn jc js OA k oc (ops.take k) := by
  obtain ⟨hs, hh, ha⟩ := h.hds
  have hsg := setCell_grownBy w P 2 (.slice OA k oc)
  have ht : ∀ r, some P = some r → ∃ c2, w.heap[r]? = some (.cells c2 30 (0, 0)) := fun r hr => by injection hr with hr; subst hr; exact ⟨_, h.prog⟩
  have hap := hh.apart_ty h.prog (by decide) (by decide)
  have hp := (hh.kept hsg hap.1 hap.2).pre k hk
  refine ⟨keep_ty hsg h.tree ht (by decide), keep_ty hsg h.jump ht (by decide), keep_ty hsg h.pc ht (by decide), keep_ty hsg h.fn ht (by decide), setCell_row (vs := [.int .i64 F, .int .i64 O, .slice OA on oc]) h.prog 2 _, h.js.kept hsg ?_, ⟨hs.take k, hp, fun h hh => ha h (List.mem_of_mem_take hh)⟩, fun v hv => h.rng v (List.mem_of_mem_take hv), ⟨h.low.1, h.low.2.1, Nat.le_trans h.low.2.2 hsg.size⟩⟩
  cases hJ : blockOf JA with
  | none => exact .inl rfl
  | some r =>
    obtain ⟨c2, h2⟩ := h.js.ty hJ
    exact .inr (fun e => by injection e with e; exact ty_ne h2 h.prog (by decide) e)

/-- what tree leaves -/
def TreePost (B P : Nat) (F O : Int) (ops : List OpV) (w : World) (e : Ending) (w' : World) : Prop :=
  ∃ OA on oc, e = .returned (.tuple #[]) ∧ w'.heap[P]? = some (.cells #[.int .i64 F, .int .i64 O, .slice OA on oc] 30 (0, 0)) ∧ OwnOps w' B OA on oc ops ∧ Below B w w'

set_option maxRecDepth 100000 in
set_option maxHeartbeats 4000000 in
theorem tree_any (B P : Nat) (out F O : Int) (A : Option Addr) (n c : Nat) (OA : Option Addr) (on oc : Nat) (ops : List OpV) (nds : List NdV) (w : World) (hP : w.heap[P]? = some (.cells #[.int .i64 F, .int .i64 O, .slice OA on oc] 30 (0, 0)))
    (hO : OwnOps w B OA on oc ops) (hB1 : B ≤ P) (hB2 : B ≤ w.heap.size) (hlow : ∀ W, Below B w W → NdsAt W A n c nds) (hR : RightT nds) (hrg : ∀ i, i < n → NdRng (ndAt nds i)) (ho : -9223372036854775808 ≤ out ∧ out ≤ 9223372036854775807) (hsz : on + (treeOf nds).size ≤ 1000000000000) :
    Calls Tryz.prog 35 #[.pointer (some ⟨P, 0, none⟩), .agg #[.int .i64 out, .slice A n c]] w (TreePost B P F O (ops ++ treeCode ⟨out, nds⟩ on) w) := by
  have hmf : ∀ (fn : Fn) (first cap : Array Value) (w : World), (Instr.makeFunc fn first cap).run Tryz.prog w = .ok (.func fn first cap) w := fun _ _ _ _ => rfl
  have hsg : ∀ (W : World) (a : Addr) (fn : Fn) (x y : Array Value), (store a (.func fn x y)).run Tryz.prog W = stored Tryz.prog W a (.func fn x y) .plain := fun W a fn x y => run_store _ W a _ _ rfl
  have hrep := treeOf_rep hR
  go_enter Tryz.func35, Tryz.ntmps35
  go_upto_region 4 with (fail)
  have hh : ∀ a b c d : Obj, ((((w.alloc a).alloc b).alloc c).alloc d).heap[w.heap.size]? = some a ∧ ((((w.alloc a).alloc b).alloc c).alloc d).heap[w.heap.size + 1]? = some b ∧ ((((w.alloc a).alloc b).alloc c).alloc d).heap[w.heap.size + 1 + 1]? = some c ∧ ((((w.alloc a).alloc b).alloc c).alloc d).heap[w.heap.size + 1 + 1 + 1]? = some d ∧ Below w.heap.size w ((((w.alloc a).alloc b).alloc c).alloc d) := fun a b c d => by
    refine ⟨?_, ?_, ?_, ?_, ((((Below.refl _ _).alloc (Nat.le_refl _) _).alloc (by simp) _).alloc (by simp; omega) _).alloc (by simp; omega) _⟩
    all_goals
      show ((((w.heap.push a).push b).push c).push d)[_]? = _
      simp only [Array.getElem?_push, Array.size_push]
      repeat (first | rw [if_pos trivial] | rw [if_neg (by omega)] | rw [if_pos (by omega)])
  obtain ⟨k1, k2, k3, k4, b4⟩ := hh (.cells #[.pointer (some ⟨P, 0, none⟩)] 77) (.cells #[.int .i64 out, .slice A n c] 65) (.cells #[.slice none 0 0] 44) (.cells #[.func (.func 68) #[] #[.pointer (some ⟨w.heap.size + 1, 0, none⟩), .pointer (some ⟨w.heap.size + 1 + 1, 0, none⟩), .pointer (some ⟨w.heap.size, 0, none⟩), .pointer (some ⟨w.heap.size + 1 + 1 + 1, 0, none⟩)]] 119)
  clear hh
  generalize (((w.alloc (.cells #[.pointer (some ⟨P, 0, none⟩)] 77)).alloc (.cells #[.int .i64 out, .slice A n c] 65)).alloc (.cells #[.slice none 0 0] 44)).alloc (.cells #[.func (.func 68) #[] #[.pointer (some ⟨w.heap.size + 1, 0, none⟩), .pointer (some ⟨w.heap.size + 1 + 1, 0, none⟩), .pointer (some ⟨w.heap.size, 0, none⟩), .pointer (some ⟨w.heap.size + 1 + 1 + 1, 0, none⟩)]] 119) = w4 at *
  have T4 : TreeSt w4 B (w.heap.size + 1) (w.heap.size + 1 + 1) w.heap.size (w.heap.size + 1 + 1 + 1) P out F O A n c none 0 0 [] OA on oc ops := by
    have hO4 := hO.below b4
    obtain ⟨hs, hh⟩ := hO4.hds
    exact ⟨k2, k3, k1, k4, (b4.block _ (lt_of_block hP)).trans hP, Mine.nil _ _ _, ⟨hs, hh, fun h hh => by cases hdBlock h with | none => exact .inl rfl | some k => exact .inr (by simp [blockOf])⟩, hO4.rng, ⟨by omega, hB1, Nat.le_trans hB2 b4.size⟩⟩
  have hnl : nds.length = n := (hlow w (Below.refl _ _)).len
  have hb4 := b4.mono hB2
  have HC := Lib.hid (node_any B (w.heap.size + 1) (w.heap.size + 1 + 1) w.heap.size (w.heap.size + 1 + 1 + 1) P out F O A n c nds hR hnl hrg ho (treeOf nds) 0 hrep none 0 0 [] OA on oc ops w4 T4 (fun W h => hlow W (hb4.trans h)) hsz (Nat.zero_le _))
  have fn4 : w4.cell? ⟨w.heap.size + 1 + 1 + 1, 0, none⟩ = some (.func (.func 68) #[] #[.pointer (some ⟨w.heap.size + 1, 0, none⟩), .pointer (some ⟨w.heap.size + 1 + 1, 0, none⟩), .pointer (some ⟨w.heap.size, 0, none⟩), .pointer (some ⟨w.heap.size + 1 + 1 + 1, 0, none⟩)]) := cell_of_block k4 rfl
  have HB4 := Lib.hid hb4
  have HLEN := Lib.hid hO.len
  have HSZ := Lib.hid hsz
  have HRP := Lib.hid hrep
  clear hrep k1 k2 k3 k4 b4 T4 hb4 hP hO hlow hR hrg hsz hnl
  go_wp2_with fail
  refine HC.out.mono ?_; rintro e w5 ⟨JA, jn, jc, O5, on5, oc5, rfl, T5, b5, _⟩
  clear fn4
  have hl5 := T5.own.len
  simp only [List.length_append, emitT_length, HLEN.out] at hl5
  have htp := (treeOf nds).size_pos
  obtain ⟨m, hm⟩ : ∃ m, on5 = m + 1 := ⟨on5 - 1, by omega⟩
  subst hm
  obtain ⟨g5, rfl, _, _⟩ := T5.own.some_of (by omega)
  have hjl := T5.js.len
  rw [i64s_length] at hjl
  simp only [List.nil_append, List.length_map] at hjl
  have hjm := jumpsT_length (treeOf nds) on
  have hjn : jn ≠ 0 := fun e => jumpsT_ne (treeOf nds) on (List.eq_nil_of_length_eq_zero (by omega))
  obtain ⟨jm, hjm2⟩ : ∃ jm, jn = jm + 1 := ⟨jn - 1, by omega⟩
  subst hjm2
  obtain ⟨gj, rfl, _, _⟩ : ∃ g, JA = some ⟨g, 0, none⟩ ∧ B ≤ g ∧ g < w5.heap.size := by
    rcases T5.js.row with ⟨_, h0, _⟩ | ⟨g, rest, e, hb, hg, _⟩
    · omega
    · exact ⟨g, e, hb, lt_of_block hg⟩
  have p1 : w5.cell? ⟨w.heap.size, 0, none⟩ = some (.pointer (some ⟨P, 0, none⟩)) := cell_of_block T5.pc rfl
  have p2 : w5.cell? ⟨P, 2, none⟩ = some (.slice (some ⟨g5, 0, none⟩) (m + 1) oc5) := cell_of_block T5.prog rfl
  have z2 : w5.frozen? ⟨P, 2, none⟩ = false := frozen_row (vs := [.int .i64 F, .int .i64 O, .slice (some ⟨g5, 0, none⟩) (m + 1) oc5]) T5.prog 2
  have hcap := T5.own.cap
  have hm9 : m ≤ 1000000000000 := by have := HSZ.out; omega
  have hx1 : (0 : Int) ≤ (m : Int) := by omega
  have hx2 : (m : Int) ≤ (oc5 : Int) := by omega
  have T6 := (T5.less m (by omega)).below (Below.refl _ _).drew
  have ht6 : (ops ++ emitT nds out (treeOf nds) on).take m = ops ++ (emitT nds out (treeOf nds) on).dropLast := by
    have hl : (ops ++ emitT nds out (treeOf nds) on).length = m + 1 := by simp only [List.length_append, emitT_length, HLEN.out]; omega
    rw [← List.dropLast_append_of_ne_nil (emitT_ne nds out (treeOf nds) on), List.dropLast_eq_take, hl]
    rfl
  rw [ht6] at T6
  have hb6 := ((HB4.out.trans b5).setCell (p := ⟨P, 2, none⟩) T5.low.2.1 (.slice (some ⟨g5, 0, none⟩) m oc5)).drew
  have HT6 := Lib.hid T6
  have HB6 := Lib.hid hb6
  have HJL := Lib.hid hjl
  have HL5 := Lib.hid hl5
  clear hjl T6 ht6 hb6 b5 T5 hjm hl5
  go_upto_region 5 with (fail)
  go_region
  go_upto_region 6 with (fail)
  generalize ((w5.setCell ⟨P, 2, none⟩ (.slice (some ⟨g5, 0, none⟩) m oc5)).drew) = w6 at *
  have T6 := HT6.out
  have j1 : w6.cell? ⟨w.heap.size + 1 + 1, 0, none⟩ = some (.slice (some ⟨gj, 0, none⟩) (jm + 1) jc) := cell_of_block T6.jump rfl
  have hjc := T6.js.cap
  have hj9 : jm ≤ 1000000000000 := by
    have h1 := jumpsT_length (treeOf nds) on
    have h2 := HJL.out
    have h3 := HSZ.out
    omega
  have y1 : (0 : Int) ≤ (jm : Int) := by omega
  have y2 : (jm : Int) ≤ (jc : Int) := by omega
  clear T6 p1 p2 z2
  go_upto_region 7 with (fail)
  go_loopw [31] (fun ix wr => ∃ (i : Nat), ix = .int .i64 (i : Int) ∧ i ≤ jm ∧ TreeSt wr B (w.heap.size + 1) (w.heap.size + 1 + 1) w.heap.size (w.heap.size + 1 + 1 + 1) P out F O A n c (some ⟨gj, 0, none⟩) (jm + 1) jc ([] ++ (jumpsT (treeOf nds) on).map fun (x : Nat) => (x : Int)) (some ⟨g5, 0, none⟩) m oc5
    (((jumpsT (treeOf nds) on).take i).foldl (setTo (m : Int)) (ops ++ (emitT nds out (treeOf nds) on).dropLast)) ∧ Below B w wr) (fun ix _ => jm - (intOf ix).toNat)
  case atStart => exact ⟨0, rfl, Nat.zero_le _, HT6.out, HB6.out⟩
  case round =>
    obtain ⟨i, rfl, hi, Tr, hbr⟩ := hrel
    by_cases hlt : i < jm
    · have hjl := HJL.out
      have i1 : (i : Int) < (jm : Int) := by omega
      have i2 : decide ((i : Int) < (jm : Int)) = true := by simpa using i1
      have hts : (jumpsT (treeOf nds) on).take (i + 1) = (jumpsT (treeOf nds) on).take i ++ [(jumpsT (treeOf nds) on)[i]'(by omega)] := by rw [List.take_succ_eq_append_getElem (by omega)]
      have hjv := jumpsT_last (treeOf nds) on ((jumpsT (treeOf nds) on)[i]'(by omega)) (by
        rw [List.dropLast_eq_take]
        exact List.mem_take_iff_getElem.2 ⟨i, by omega, rfl⟩)
      have hjc := Tr.js.cell i (by omega)
      rw [i64s_getD (by simp; omega), List.getD_eq_getElem?_getD] at hjc
      simp only [List.nil_append, List.getElem?_map, List.getElem?_eq_getElem (show i < (jumpsT (treeOf nds) on).length by omega), Option.map_some, Option.getD_some] at hjc
      generalize (jumpsT (treeOf nds) on)[i]'(by omega) = jv at hts hjv hjc
      have hjm : jv < m := by have := HL5.out; omega
      have hol := Tr.own.len
      have Tn := (Tr.set jv (by omega) (m : Int) (by omega)).below (Below.refl _ _).drew
      have hfl : setTo (m : Int) (((jumpsT (treeOf nds) on).take i).foldl (setTo (m : Int)) (ops ++ (emitT nds out (treeOf nds) on).dropLast)) jv = ((jumpsT (treeOf nds) on).take (i + 1)).foldl (setTo (m : Int)) (ops ++ (emitT nds out (treeOf nds) on).dropLast) := by
        rw [hts, List.foldl_append]; rfl
      rw [hfl] at Tn
      have hcz : ∃ x, wr.cell? ⟨g5, jv * 8 + 7, none⟩ = some (.int .i64 x) ∧ wr.frozen? ⟨g5, jv * 8 + 7, none⟩ = false := by
        obtain ⟨hs2, hh2, _⟩ := Tr.hds
        have hc := hh2.2.1.cell (jv * 8 + 7) (by omega)
        rw [List.getD_eq_getElem?_getD, flatOps_get hs2 _ hh2.1 jv (by omega) 7 (by omega)] at hc
        exact ⟨_, hc, hh2.2.1.free _⟩
      obtain ⟨x, c1, z1⟩ := hcz
      have p1 : wr.cell? ⟨w.heap.size, 0, none⟩ = some (.pointer (some ⟨P, 0, none⟩)) := cell_of_block Tr.pc rfl
      have p2 : wr.cell? ⟨P, 2, none⟩ = some (.slice (some ⟨g5, 0, none⟩) m oc5) := cell_of_block Tr.prog rfl
      have x1 : (jv : Int) < (m : Int) := by omega
      have hbn := (hbr.setCell (p := ⟨g5, jv * 8 + 7, none⟩) (Tr.own.lt g5 rfl).1 (.int .i64 (m : Int))).drew
      have HTn := Lib.hid Tn
      have HBn := Lib.hid hbn
      clear hts hfl Tn hbn hol hjl Tr
      go_upto_region 9 with (fail)
      go_region
      go_wp2
      go_roundw
      case rel => exact ⟨i + 1, by go_num, hlt, HTn.out, HBn.out⟩
      case measure => simp [intOf]; omega
    · obtain rfl : i = jm := by omega
      have i2 : decide ((i : Int) < (i : Int)) = false := by simp
      have hjl := HJL.out
      have hdl : (jumpsT (treeOf nds) on).take i = (jumpsT (treeOf nds) on).dropLast := by
        rw [List.dropLast_eq_take, hjl]; rfl
      have hem : m = on + (treeOf nds).size - 1 := by have := HL5.out; omega
      rw [hdl, emitT_set_last nds out m (treeOf nds) on ops HLEN.out] at Tr
      have HFO := Lib.hid (show OwnOps wr B (some ⟨g5, 0, none⟩) m oc5 (ops ++ treeCode ⟨out, nds⟩ on) by
        unfold treeCode
        simp only [← hem]
        exact Tr.own)
      have HPR := Lib.hid Tr.prog
      clear Tr hdl hem hjl
      go_wp2
      go_end0
      exact ⟨_, _, _, rfl, HPR.out, HFO.out, hbr⟩

end Go.Proofs.YtekcpapkicmckaaGreatDoor

namespace Go.Proofs.YtekcpapkicmckaaGreatDoor
open Go.RowKit

/-- a tree in a block from a place on -/
def TrIn (w : World) (b o : Nat) (t : TrV) : Prop :=
  ∃ B m d, w.rangeAt b o [.int .i64 t.out, .slice B m d] ∧ NdsAt w B m d t.nds ∧ m ≤ 1000000000 ∧ (-9223372036854775808 ≤ t.out ∧ t.out ≤ 9223372036854775807) ∧ ∀ i, i < m → NdRng (ndAt t.nds i)
/-- a slice of trees -/
structure TrsAt (w : World) (A : Option Addr) (n c : Nat) (ts : List TrV) : Prop where
  len : ts.length = n
  cap : n ≤ c
  big : n ≤ 281474976710656
  cells : 0 < n → ∃ b o, A = some ⟨b, o, none⟩ ∧ ∀ j (h : j < ts.length), TrIn w b (o + j * 2) ts[j]
theorem TrIn.below {w w' : World} {b o : Nat} {t : TrV} (h : TrIn w b o t) (hb : Below w.heap.size w w') : TrIn w' b o t := by
  obtain ⟨B, m, d, h1, h2, h3⟩ := h
  exact ⟨B, m, d, rangeAt_below h1 hb, h2.below hb, h3⟩
theorem TrsAt.below {w w' : World} {A : Option Addr} {n c : Nat} {ts : List TrV} (h : TrsAt w A n c ts) (hb : Below w.heap.size w w') : TrsAt w' A n c ts :=
  ⟨h.len, h.cap, h.big, fun hn => by obtain ⟨b, o, hA, hc⟩ := h.cells hn; exact ⟨b, o, hA, fun j hj => (hc j hj).below hb⟩⟩

theorem codeT_length (nds : List NdV) (out : Int) (E : Nat) : ∀ (T : BT) (k : Nat) (last : Bool), (codeT nds out E T k last).length + (if last then 1 else 0) = T.size
  | .leaf i, k, last => by cases last <;> rfl
  | .node i l r, k, last => by
    have h1 := codeT_length nds out E l (k + 1) false
    have h2 := codeT_length nds out E r (k + 1 + l.size) last
    simp only [codeT, BT.size, List.length_cons, List.length_append]
    simp at h1
    omega
theorem treeCode_length (t : TrV) (k : Nat) : (treeCode t k).length + 1 = (treeOf t.nds).size := by
  have := codeT_length t.nds t.out (k + (treeOf t.nds).size - 1) (treeOf t.nds) k true
  simpa [treeCode] using this
theorem treesCode_snoc : ∀ (l : List TrV) (t : TrV) (k : Nat), treesCode (l ++ [t]) k = treesCode l k ++ treeCode t (k + (treesCode l k).length)
  | [], t, k => by simp [treesCode]
  | u :: l, t, k => by
    simp only [List.cons_append, treesCode, treesCode_snoc l t, List.append_assoc, List.length_append]
    rw [Nat.add_assoc]
theorem treeOf_size {nds : List NdV} (h : RightT nds) : (treeOf nds).size ≤ 2 * nds.length := by
  have h1 := (treeOf nds).size_le
  have h2 := Rep.many h (treeOf_rep h)
  omega
/-- all the nodes of some trees -/
def manyNodes : List TrV → Nat
  | [] => 0
  | t :: l => t.nds.length + manyNodes l
theorem treesCode_length : ∀ (l : List TrV) (k : Nat), (∀ t ∈ l, RightT t.nds) → (treesCode l k).length ≤ 2 * manyNodes l
  | [], _, _ => Nat.le_refl _
  | t :: l, k, h => by
    have h1 := treeCode_length t k
    have h2 := treeOf_size (h t (List.mem_cons_self ..))
    have h3 := treesCode_length l (k + (treeCode t k).length) (fun u hu => h u (List.mem_cons_of_mem _ hu))
    simp only [treesCode, manyNodes, List.length_append]
    omega
theorem manyNodes_take : ∀ (l : List TrV) (i : Nat) (h : i < l.length), manyNodes (l.take i) + l[i].nds.length ≤ manyNodes l
  | t :: l, 0, _ => by simp [manyNodes]
  | t :: l, i + 1, h => by
    have := manyNodes_take l i (by simpa using h)
    simp only [List.take_succ_cons, manyNodes, List.getElem_cons_succ]
    omega

/-- what Compile leaves -/
def CompilePost (F O : Int) (R : List OpV × Int) (w : World) (e : Ending) (w' : World) : Prop :=
  ∃ A n c, e = .returned (.tuple #[.agg #[.int .i64 (if R.2 = 0 then F else 0), .int .i64 (if R.2 = 0 then O else 0), .slice A n c], .int .i64 R.2]) ∧ OwnOps w' w.heap.size A n c R.1 ∧ Below w.heap.size w w'

set_option maxRecDepth 100000 in
set_option maxHeartbeats 4000000 in
/-- an ensemble's sizes are wrong -/
theorem Compile_size (name : ByteArray) (FA : Option Addr) (fn fc : Nat) (O : Int) (BA : Option Addr) (bn bc : Nat) (TA : Option Addr) (tn tc : Nat) (base : List Int) (ts : List TrV) (w : World) (hbl : base.length = bn)
    (hbad : O < 1 ∨ 64 < O ∨ (bn : Int) ≠ O ∨ 65536 < (fn : Int)) :
    Calls Tryz.prog 13 #[.agg #[.string name, .slice FA fn fc, .int .i64 O, .slice BA bn bc, .slice TA tn tc]] w (CompilePost (fn : Int) O (compileV (fn : Int) O base ts) w) := by
  have hv : compileV (fn : Int) O base ts = ([], 6) := by unfold compileV; rw [hbl, if_pos hbad]
  rw [hv]
  have HBD := Lib.hid hbad
  clear hv hbad
  go_enter Tryz.func13, Tryz.ntmps13
  go_upto_region 1 with (fail)
  have hh : ∀ a b : Obj, ((w.alloc a).alloc b).heap[w.heap.size]? = some a ∧ ((w.alloc a).alloc b).heap[w.heap.size + 1]? = some b ∧ Below w.heap.size w ((w.alloc a).alloc b) := fun a b => by
    refine ⟨?_, ?_, ((Below.refl _ _).alloc (Nat.le_refl _) _).alloc (by simp) _⟩
    all_goals
      show ((w.heap.push a).push b)[_]? = _
      simp only [Array.getElem?_push, Array.size_push]
      repeat (first | rw [if_pos trivial] | rw [if_neg (by omega)] | rw [if_pos (by omega)])
  obtain ⟨k1, k2, b2⟩ := hh (.cells #[.string name, .slice FA fn fc, .int .i64 O, .slice BA bn bc, .slice TA tn tc] 26) (.cells #[.int .i64 0, .int .i64 0, .slice none 0 0] 30)
  clear hh
  generalize (w.alloc (.cells #[.string name, .slice FA fn fc, .int .i64 O, .slice BA bn bc, .slice TA tn tc] 26)).alloc (.cells #[.int .i64 0, .int .i64 0, .slice none 0 0] 30) = w2 at k1 k2 b2 ⊢
  have e1 : w2.cell? ⟨w.heap.size, 1, none⟩ = some (.slice FA fn fc) := cell_of_block k1 rfl
  have e2 : w2.cell? ⟨w.heap.size, 2, none⟩ = some (.int .i64 O) := cell_of_block k1 rfl
  have e3 : w2.cell? ⟨w.heap.size, 3, none⟩ = some (.slice BA bn bc) := cell_of_block k1 rfl
  have s0 : w2.cell? ⟨w.heap.size + 1, 0, none⟩ = some (.int .i64 0) := cell_of_block k2 rfl
  have s1 : w2.cell? ⟨w.heap.size + 1, 1, none⟩ = some (.int .i64 0) := cell_of_block k2 rfl
  have s2 : w2.cell? ⟨w.heap.size + 1, 2, none⟩ = some (.slice none 0 0) := cell_of_block k2 rfl
  have z0 : w2.frozen? ⟨w.heap.size + 1, 0, none⟩ = false := frozen_row (vs := [.int .i64 0, .int .i64 0, .slice none 0 0]) k2 0
  have z1 : w2.frozen? ⟨w.heap.size + 1, 1, none⟩ = false := frozen_row (vs := [.int .i64 0, .int .i64 0, .slice none 0 0]) k2 1
  have z2 : w2.frozen? ⟨w.heap.size + 1, 2, none⟩ = false := frozen_row (vs := [.int .i64 0, .int .i64 0, .slice none 0 0]) k2 2
  have HBB := Lib.hid (((b2.setCell (p := ⟨w.heap.size + 1, 0, none⟩) (by simp) (.int .i64 0)).setCell (p := ⟨w.heap.size + 1, 1, none⟩) (by simp) (.int .i64 0)).setCell (p := ⟨w.heap.size + 1, 2, none⟩) (by simp) (.slice none 0 0))
  clear k1 k2 b2
  go_wp2_with fail
  all_goals first
  | (exfalso; have := HBD.out; simp at *; omega)
  | (refine bodyPost_ret (v := .tuple #[.agg #[.int .i64 0, .int .i64 0, .slice none 0 0], .int .i64 6]) (by simp [results, Tryz.results13, go_sem, *]) rfl ⟨none, 0, 0, rfl, OwnOps.nil _ _, HBB.out⟩)

end Go.Proofs.YtekcpapkicmckaaGreatDoor

namespace Go.Proofs.YtekcpapkicmckaaGreatDoor
open Go.RowKit

theorem treesFault_drop (F O : Int) (ts : List TrV) (i : Nat) (hi : i < ts.length) : treesFault F O (ts.drop i) = if treeFault F O ts[i] ≠ 0 then treeFault F O ts[i] else treesFault F O (ts.drop (i + 1)) := by
  rw [List.drop_eq_getElem_cons hi]; rfl
/-- a feature that is too great -/
def featF (F : Int) (nds : List NdV) : Bool := nds.any (fun v => decide (v.kind ≠ 1 ∧ F ≤ v.feature))
theorem featF_drop (F : Int) (nds : List NdV) (i : Nat) (hi : i < nds.length) : featF F (nds.drop i) = (decide ((ndAt nds i).kind ≠ 1 ∧ F ≤ (ndAt nds i).feature) || featF F (nds.drop (i + 1))) := by
  rw [List.drop_eq_getElem_cons hi, ndAt_get hi]; rfl

theorem treeFault_out {F O : Int} {t : TrV} {x : Int} (hs : shapeV t.nds = (0, x)) (h : t.out < 0 ∨ O ≤ t.out) : treeFault F O t = 6 := by
  unfold treeFault
  rw [hs, if_neg (by simp), if_pos h]
theorem treeFault_feat {F O : Int} {t : TrV} {x : Int} (hs : shapeV t.nds = (0, x)) (h : ¬ (t.out < 0 ∨ O ≤ t.out)) : treeFault F O t = if featF F t.nds then 72 else 0 := by
  unfold treeFault
  rw [hs, if_neg (by simp), if_neg h]
  rfl
theorem OwnOps.kept_ty {w w' : World} {base : Nat} {A : Option Addr} {n c : Nat} {ops : List OpV} (h : OwnOps w base A n c ops) {g : Nat} {cs : Array Value} {T : TypeId} {fr : Nat × Nat} (hk : w.heap[g]? = some (.cells cs T fr)) (h1 : T ≠ 75) (h2 : T ≠ 3) (hg : w.grownBy w' (some g)) : OwnOps w' base A n c ops := by
  obtain ⟨hs, hh⟩ := h.hds
  have ha := hh.apart_ty hk h1 h2
  exact ⟨⟨hs, hh.kept hg ha.1 ha.2⟩, h.rng⟩
theorem rightT_fault {F O : Int} {t : TrV} (h : treeFault F O t = 0) : RightT t.nds := by
  unfold treeFault at h
  by_cases hs : (shapeV t.nds).1 = 0
  · refine rightT_of ?_
    have h2 : ∀ a b, (shapeEnd a b).1 = 0 → shapeEnd a b = (0, 0) := by
      intro a b hh
      cases a with
      | some i => simp [shapeEnd] at hh
      | none => cases b with
        | some i => simp [shapeEnd] at hh
        | none => rfl
    unfold shapeV at hs ⊢
    by_cases h0 : t.nds.length = 0
    · rw [if_pos h0] at hs; simp at hs
    · rw [if_neg h0] at hs ⊢; exact h2 _ _ hs
  · rw [if_pos hs] at h; exact absurd h hs
theorem zero_box {w : World} {g : Nat} (h : w.heap[g]? = some (.cells #[.int .i64 0, .int .i64 0, .slice none 0 0] 30 (0, 0))) :
    w.cell? ⟨g, 0, none⟩ = some (.int .i64 0) ∧ w.cell? ⟨g, 1, none⟩ = some (.int .i64 0) ∧ w.cell? ⟨g, 2, none⟩ = some (.slice none 0 0) ∧ w.frozen? ⟨g, 0, none⟩ = false ∧ w.frozen? ⟨g, 1, none⟩ = false ∧ w.frozen? ⟨g, 2, none⟩ = false :=
  ⟨cell_of_block h rfl, cell_of_block h rfl, cell_of_block h rfl, frozen_row (vs := [.int .i64 0, .int .i64 0, .slice none 0 0]) h 0, frozen_row (vs := [.int .i64 0, .int .i64 0, .slice none 0 0]) h 1, frozen_row (vs := [.int .i64 0, .int .i64 0, .slice none 0 0]) h 2⟩

set_option maxRecDepth 100000 in
set_option maxHeartbeats 4000000 in
theorem Compile_good (name : ByteArray) (FA : Option Addr) (fn fc : Nat) (O : Int) (BA : Option Addr) (bn bc : Nat) (TA : Option Addr) (tn tc : Nat) (base : List Int) (ts : List TrV) (w : World) (hb : Ints w BA bn bc base) (ht : TrsAt w TA tn tc ts)
    (h1 : 1 ≤ O) (h2 : O ≤ 64) (h3 : (bn : Int) = O) (h4 : (fn : Int) ≤ 65536) (hsum : manyNodes ts ≤ 100000000000) :
    Calls Tryz.prog 13 #[.agg #[.string name, .slice FA fn fc, .int .i64 O, .slice BA bn bc, .slice TA tn tc]] w (CompilePost (fn : Int) O (compileV (fn : Int) O base ts) w) := by
  have hbl := hb.len
  have HBN := Lib.hid (show (bn : Int) = O from h3)
  have hv : compileV (fn : Int) O base ts = if treesFault (fn : Int) O ts ≠ 0 then ([], treesFault (fn : Int) O ts) else (baseOps 0 base ++ treesCode ts base.length ++ [endOp], 0) := by unfold compileV; rw [if_neg (by omega)]
  have HV := Lib.hid hv
  have HB := Lib.hid hb
  have HT := Lib.hid ht
  have HTL := Lib.hid ht.len
  have HSUM := Lib.hid hsum
  have htb := ht.big
  clear hv hb ht hbl hsum
  obtain ⟨R, hR⟩ : ∃ R, compileV (fn : Int) O base ts = R := ⟨_, rfl⟩
  rw [hR] at HV ⊢
  clear hR
  go_enter Tryz.func13, Tryz.ntmps13
  go_upto_region 1 with (fail)
  have hh : ∀ a b : Obj, ((w.alloc a).alloc b).heap[w.heap.size]? = some a ∧ ((w.alloc a).alloc b).heap[w.heap.size + 1]? = some b ∧ Below w.heap.size w ((w.alloc a).alloc b) := fun a b => by
    refine ⟨?_, ?_, ((Below.refl _ _).alloc (Nat.le_refl _) _).alloc (by simp) _⟩
    all_goals
      show ((w.heap.push a).push b)[_]? = _
      simp only [Array.getElem?_push, Array.size_push]
      repeat (first | rw [if_pos trivial] | rw [if_neg (by omega)] | rw [if_pos (by omega)])
  obtain ⟨k1, k2, b2⟩ := hh (.cells #[.string name, .slice FA fn fc, .int .i64 O, .slice BA bn bc, .slice TA tn tc] 26) (.cells #[.int .i64 0, .int .i64 0, .slice none 0 0] 30)
  clear hh
  generalize (w.alloc (.cells #[.string name, .slice FA fn fc, .int .i64 O, .slice BA bn bc, .slice TA tn tc] 26)).alloc (.cells #[.int .i64 0, .int .i64 0, .slice none 0 0] 30) = w2 at k1 k2 b2 ⊢
  have e1 : w2.cell? ⟨w.heap.size, 1, none⟩ = some (.slice FA fn fc) := cell_of_block k1 rfl
  have e2 : w2.cell? ⟨w.heap.size, 2, none⟩ = some (.int .i64 O) := cell_of_block k1 rfl
  have e3 : w2.cell? ⟨w.heap.size, 3, none⟩ = some (.slice BA bn bc) := cell_of_block k1 rfl
  have e4 : w2.cell? ⟨w.heap.size, 4, none⟩ = some (.slice TA tn tc) := cell_of_block k1 rfl
  have g1 : ¬ O < 1 := by omega
  have g2 : ¬ 64 < O := by omega
  have g3 : ((bn : Int) != O) = false := by simp; omega
  have g4 : ¬ 65536 < (fn : Int) := by omega
  have K1 := Lib.hid k1
  have K2 := Lib.hid k2
  have hle := lt_of_block k1
  clear h3 k1 k2
  go_upto_region 4 with (fail)
  go_loopw [41] (fun ix wr => ∃ (i : Nat), ix = .int .i64 (i : Int) ∧ i ≤ tn ∧ Hid (treesFault (fn : Int) O ts = treesFault (fn : Int) O (ts.drop i)) ∧ Hid (∀ t ∈ ts.take i, treeFault (fn : Int) O t = 0) ∧ Below w2.heap.size w2 wr) (fun ix _ => tn - (intOf ix).toNat)
  case atStart => exact ⟨0, rfl, Nat.zero_le _, Lib.hid rfl, Lib.hid (by simp), Below.refl _ _⟩
  case round =>
    obtain ⟨i, rfl, hi, HTF, HOK, hbr⟩ := hrel
    by_cases hlt : i < tn
    · have htr := (HT.out.below b2).below hbr
      obtain ⟨b, o, rfl, hc⟩ := htr.cells (by omega)
      have hl := HTL.out
      obtain ⟨B, m, d, hr, hnd, hmb, hor, hnr⟩ := hc i (by omega)
      have htd := treesFault_drop (fn : Int) O ts i (by omega)
      rw [← HTF.out] at htd
      have htk : ts.take (i + 1) = ts.take i ++ [ts[i]'(by omega)] := by rw [List.take_succ_eq_append_getElem (by omega)]
      generalize ts[i]'(by omega) = t at hr hnd hor hnr htd htk
      have r0 : _ = some _ := range_cell (o := o + i * 2) hr 0 rfl
      rw [Nat.add_zero] at r0
      have r1 := range_cell hr 1 rfl
      have hlb : b < wr.heap.size := World.block_lt_of_cell? wr _ r0
      have HTD := Lib.hid htd
      have HTK := Lib.hid htk
      have i1 : (i : Int) < (tn : Int) := by omega
      have i2 : decide ((i : Int) < (tn : Int)) = true := by simpa using i1
      clear hc hr hl htd htk htr
      go_upto_region 6 with (fail)
      have b5 := (Below.refl wr.heap.size wr).alloc (Nat.le_refl _) (.cells #[.int .i64 t.out, .slice B m d] 65)
      have hO5 := heap_alloc_new wr (.cells #[.int .i64 t.out, .slice B m d] 65)
      have HSH := Lib.hid (Shape_any t.out B m d t.nds _ (hnd.below b5) (by omega))
      generalize wr.alloc (.cells #[.int .i64 t.out, .slice B m d] 65) = w5 at b5 hO5 HSH ⊢
      have t0 : w5.cell? ⟨wr.heap.size, 0, none⟩ = some (.int .i64 t.out) := cell_of_block hO5 rfl
      have t1 : w5.cell? ⟨wr.heap.size, 1, none⟩ = some (.slice B m d) := cell_of_block hO5 rfl
      have hb5 := below_then hbr hbr.size b5
      obtain ⟨sw, hsw⟩ : ∃ sw, shapeV t.nds = sw := ⟨_, rfl⟩
      rw [hsw] at HSH
      have HSW := Lib.hid hsw
      have HO5 := Lib.hid hO5
      have HN5 := Lib.hid (hnd.below b5)
      clear r0 r1 hlb hsw hO5 hnd b5
      go_wp2_with fail
      refine HSH.out.mono ?_; rintro e w6 ⟨rfl, b6⟩
      have hb6 := below_then hb5 hb5.size b6
      have hO6 := (b6.block _ (lt_of_block HO5.out)).trans HO5.out
      have hn6 := HN5.out.below b6
      unfold shpOf
      clear t0 t1 hb5 HSH
      have kR := (hb6.block _ (lt_of_block K2.out)).trans K2.out
      have kE := (hb6.block _ (lt_of_block K1.out)).trans K1.out
      obtain ⟨s0, s1, s2, z0, z1, z2⟩ := zero_box kR
      have B6 := below_then b2 b2.size hb6
      obtain ⟨sw1, sw2⟩ := sw
      by_cases hs0 : sw1 = 0
      · subst hs0
        have t0 : w6.cell? ⟨wr.heap.size, 0, none⟩ = some (.int .i64 t.out) := cell_of_block hO6 rfl
        have t1 : w6.cell? ⟨wr.heap.size, 1, none⟩ = some (.slice B m d) := cell_of_block hO6 rfl
        have e2 : w6.cell? ⟨w.heap.size, 2, none⟩ = some (.int .i64 O) := cell_of_block kE rfl
        by_cases ho1 : t.out < 0
        · have o1 : decide (t.out < 0) = true := by simpa using ho1
          have HRR := Lib.hid (show R = ([], 6) by
            have htf : treesFault (fn : Int) O ts = 6 := by
              rw [HTD.out, treeFault_out HSW.out (.inl ho1)]; rfl
            rw [HV.out, htf]; rfl)
          have HBB := Lib.hid (((B6.setCell (p := ⟨w.heap.size + 1, 0, none⟩) (by simp) (.int .i64 0)).setCell (p := ⟨w.heap.size + 1, 1, none⟩) (by simp) (.int .i64 0)).setCell (p := ⟨w.heap.size + 1, 2, none⟩) (by simp) (.slice none 0 0))
          clear kR kE hO6
          go_wp2_with fail
          refine bodyPost_ret (v := .tuple #[.agg #[.int .i64 0, .int .i64 0, .slice none 0 0], .int .i64 6]) (by simp [results, Tryz.results13, go_sem, *]) rfl ?_
          rw [HRR.out]
          exact ⟨none, 0, 0, rfl, OwnOps.nil _ _, HBB.out⟩
        · by_cases ho2 : O ≤ t.out
          · have o1 : decide (t.out < 0) = false := by simpa using ho1
            have o2 : decide (O ≤ t.out) = true := by simpa using ho2
            have HRR := Lib.hid (show R = ([], 6) by
              have htf : treesFault (fn : Int) O ts = 6 := by
                rw [HTD.out, treeFault_out HSW.out (.inr ho2)]; rfl
              rw [HV.out, htf]; rfl)
            have HBB := Lib.hid (((B6.setCell (p := ⟨w.heap.size + 1, 0, none⟩) (by simp) (.int .i64 0)).setCell (p := ⟨w.heap.size + 1, 1, none⟩) (by simp) (.int .i64 0)).setCell (p := ⟨w.heap.size + 1, 2, none⟩) (by simp) (.slice none 0 0))
            clear kR kE hO6
            go_wp2_with fail
            refine bodyPost_ret (v := .tuple #[.agg #[.int .i64 0, .int .i64 0, .slice none 0 0], .int .i64 6]) (by simp [results, Tryz.results13, go_sem, *]) rfl ?_
            rw [HRR.out]
            exact ⟨none, 0, 0, rfl, OwnOps.nil _ _, HBB.out⟩
          · have o1 : decide (t.out < 0) = false := by simpa using ho1
            have o2 : decide (O ≤ t.out) = false := by simpa using ho2
            have HTD2 := Lib.hid (show treesFault (fn : Int) O ts = if featF (fn : Int) t.nds then 72 else treesFault (fn : Int) O (ts.drop (i + 1)) by
              rw [HTD.out]
              rw [treeFault_feat HSW.out (by omega)]
              cases featF (fn : Int) t.nds <;> simp)
            have HTF0 := Lib.hid (show featF (fn : Int) t.nds = false → treeFault (fn : Int) O t = 0 by
              intro h
              rw [treeFault_feat HSW.out (by omega), h]; rfl)
            have KR6 := Lib.hid kR
            have KE6 := Lib.hid kE
            have HN6 := Lib.hid hn6
            have hml := hn6.len
            have HML := Lib.hid hml
            have hmbb := hn6.big
            have HO1 := Lib.hid ho1
            have HO2 := Lib.hid ho2
            clear ho1 ho2 kR kE hn6 hml s0 s1 s2 z0 z1 z2 HSW HTD
            go_upto_region 12 with (fail)
            go_loopw [68] (fun ix wq => ∃ (k : Nat), ix = .int .i64 (k : Int) ∧ k ≤ m ∧ Hid (featF (fn : Int) t.nds = featF (fn : Int) (t.nds.drop k)) ∧ Below w6.heap.size w6 wq) (fun ix _ => m - (intOf ix).toNat)
            case atStart => exact ⟨0, rfl, Nat.zero_le _, Lib.hid rfl, Below.refl _ _⟩
            case round =>
              rename World => wq
              obtain ⟨k, rfl, hk, HFF, hbq⟩ := hrel
              have BQ := below_then B6 B6.size hbq
              have kRq := (hbq.block _ (lt_of_block KR6.out)).trans KR6.out
              have kEq := (hbq.block _ (lt_of_block KE6.out)).trans KE6.out
              by_cases hkt : k < m
              · have hnq := HN6.out.below hbq
                obtain ⟨bb, oo, rfl, hcc⟩ := hnq.cells (by omega)
                have hml := HML.out
                obtain ⟨V1, V2, V3, hrr, hic, hv1, hv2⟩ := hcc k (by omega)
                have hat := ndAt_get (nds := t.nds) (i := k) (by omega)
                have hfd := featF_drop (fn : Int) t.nds k (by omega)
                rw [← HFF.out, hat] at hfd
                generalize t.nds[k]'(by omega) = v at hrr hic hv1 hv2 hat hfd
                have HFD := Lib.hid hfd
                have r0 : _ = some _ := range_cell (o := oo + k * 8) hrr 0 rfl
                rw [Nat.add_zero] at r0
                have r1 := range_cell hrr 1 rfl
                have r2 := range_cell hrr 2 rfl
                have r3 := range_cell hrr 3 rfl
                have r4 := range_cell hrr 4 rfl
                have r5 := range_cell hrr 5 rfl
                have r6 := range_cell hrr 6 rfl
                have r7 := range_cell hrr 7 rfl
                have hlb : bb < wq.heap.size := World.block_lt_of_cell? wq _ r0
                have hsf : ∀ (W : World) (a : Addr) (b : Nat), (store a (.float .f64 b)).run Tryz.prog W = stored Tryz.prog W a (.float .f64 b) .plain := fun W a b => run_store _ W a _ _ rfl
                have i1' : (k : Int) < (m : Int) := by omega
                have i2' : decide ((k : Int) < (m : Int)) = true := by simpa using i1'
                clear hcc hrr hml hat hfd hnq t0 t1 e2
                go_upto_region 14 with (fail)
                have b7 := (Below.refl wq.heap.size wq).alloc (Nat.le_refl _) (.cells (ndCells V1 V2 V3 v).toArray 72)
                have hO7 : (wq.alloc (.cells (ndCells V1 V2 V3 v).toArray 72)).heap[wq.heap.size]? = some (.cells (ndCells V1 V2 V3 v).toArray 72 (0, 0)) := heap_alloc_new wq _
                unfold ndCells at b7 hO7
                generalize (wq.alloc (.cells #[.int .u8 (v.kind : Int), .int .i64 v.value, .int .i64 v.feature, .float .f64 v.thr, .slice V1 V2 V3, .int .u8 (v.missing : Int), .int .i64 v.left, .int .i64 v.right] 72)) = w7 at b7 hO7 ⊢
                obtain ⟨n0, n1, n2, n3, n4, n5, n6, n7⟩ := nd_box (v := v) hO7
                have hb7 := below_then hbq hbq.size b7
                have kR7 := (b7.block _ (lt_of_block kRq)).trans kRq
                have kE7 := (b7.block _ (lt_of_block kEq)).trans kEq
                have e1 : w7.cell? ⟨w.heap.size, 1, none⟩ = some (.slice FA fn fc) := cell_of_block kE7 rfl
                obtain ⟨s0, s1, s2, z0, z1, z2⟩ := zero_box kR7
                have B7 := below_then BQ BQ.size b7
                clear r0 r1 r2 r3 r4 r5 r6 r7 hlb hO7 b7 kR7 kE7 kRq kEq hic
                by_cases hk1 : v.kind = 1
                · have q1 : ((v.kind : Int) != 1) = false := by simp; omega
                  have q2 : decide ((v.kind : Int) = 1) = true := by simp; omega
                  have HF2 := Lib.hid (show featF (fn : Int) t.nds = featF (fn : Int) (t.nds.drop (k + 1)) by rw [HFD.out]; simp [hk1])
                  clear hk1
                  go_wp2
                  go_roundw
                  case rel => exact ⟨k + 1, by go_num, hkt, HF2, hb7⟩
                  case measure => simp [intOf]; omega
                · have q1 : ((v.kind : Int) != 1) = true := by simp; omega
                  have q2 : decide ((v.kind : Int) = 1) = false := by simp; omega
                  by_cases hf1 : (fn : Int) ≤ v.feature
                  · have q3 : decide ((fn : Int) ≤ v.feature) = true := by simpa using hf1
                    have HRR := Lib.hid (show R = ([], 72) by
                      have htf : treesFault (fn : Int) O ts = 72 := by
                        rw [HTD2.out, HFD.out, show (decide (v.kind ≠ 1 ∧ (fn : Int) ≤ v.feature)) = true by simp [hk1, hf1], Bool.true_or]; rfl
                      rw [HV.out, htf]; rfl)
                    have HBB := Lib.hid (((B7.setCell (p := ⟨w.heap.size + 1, 0, none⟩) (by simp) (.int .i64 0)).setCell (p := ⟨w.heap.size + 1, 1, none⟩) (by simp) (.int .i64 0)).setCell (p := ⟨w.heap.size + 1, 2, none⟩) (by simp) (.slice none 0 0))
                    clear hk1
                    go_wp2_with fail
                    refine bodyPost_ret (v := .tuple #[.agg #[.int .i64 0, .int .i64 0, .slice none 0 0], .int .i64 72]) (by simp [results, Tryz.results13, go_sem, *]) rfl ?_
                    rw [HRR.out]
                    exact ⟨none, 0, 0, rfl, OwnOps.nil _ _, HBB.out⟩
                  · have q3 : decide ((fn : Int) ≤ v.feature) = false := by simpa using hf1
                    have HF2 := Lib.hid (show featF (fn : Int) t.nds = featF (fn : Int) (t.nds.drop (k + 1)) by rw [HFD.out]; simp [hf1])
                    clear hk1
                    go_wp2
                    go_roundw
                    case rel => exact ⟨k + 1, by go_num, hkt, HF2, hb7⟩
                    case measure => simp [intOf]; omega
              · obtain rfl : k = m := by omega
                have i2' : decide ((k : Int) < (k : Int)) = false := by simp
                have hff : featF (fn : Int) t.nds = false := by rw [HFF.out, List.drop_of_length_le (by rw [HML.out]; exact Nat.le_refl _)]; rfl
                have HTF2 := Lib.hid (show treesFault (fn : Int) O ts = treesFault (fn : Int) O (ts.drop (i + 1)) by rw [HTD2.out, hff]; rfl)
                have HOK2 : Hid (∀ u ∈ ts.take (i + 1), treeFault (fn : Int) O u = 0) := Lib.hid (fun u hu => by
                  rw [HTK.out] at hu
                  rcases List.mem_append.1 hu with hu | hu
                  · exact HOK.out u hu
                  · obtain rfl := List.mem_singleton.1 hu
                    exact HTF0.out hff)
                have hbz := below_then hb6 hb6.size hbq
                clear t0 t1 e2 hff kRq kEq
                go_wp2
                go_roundw
                case rel => exact ⟨i + 1, by go_num, hlt, HTF2, HOK2, hbz⟩
                case measure => simp [intOf]; omega
      · have f1 : (sw1 != 0) = true := by simpa using hs0
        have f2 : decide (sw1 = 0) = false := by simpa using hs0
        have HRR := Lib.hid (show R = ([], sw1) by
          have htf : treesFault (fn : Int) O ts = sw1 := by
            rw [HTD.out]; unfold treeFault; rw [HSW.out]; simp [hs0]
          rw [HV.out, htf, if_pos hs0])
        have HS0 := Lib.hid hs0
        have HBB := Lib.hid (((B6.setCell (p := ⟨w.heap.size + 1, 0, none⟩) (by simp) (.int .i64 0)).setCell (p := ⟨w.heap.size + 1, 1, none⟩) (by simp) (.int .i64 0)).setCell (p := ⟨w.heap.size + 1, 2, none⟩) (by simp) (.slice none 0 0))
        clear hs0 kR kE hO6
        go_wp2_with fail
        refine bodyPost_ret (v := .tuple #[.agg #[.int .i64 0, .int .i64 0, .slice none 0 0], .int .i64 sw1]) (by simp [results, Tryz.results13, go_sem, *]) rfl ?_
        rw [HRR.out]
        exact ⟨none, 0, 0, by simp only [if_neg HS0.out], OwnOps.nil _ _, HBB.out⟩
    · obtain rfl : i = tn := by omega
      rename World => wo
      have i2 : decide ((i : Int) < (i : Int)) = false := by simp
      have htf : treesFault (fn : Int) O ts = 0 := by rw [HTF.out, List.drop_of_length_le (by rw [HTL.out]; exact Nat.le_refl _)]; rfl
      have HRR := Lib.hid (show R = (baseOps 0 base ++ treesCode ts base.length ++ [endOp], 0) by rw [HV.out, htf]; rfl)
      have HOK2 := Lib.hid (show ∀ t ∈ ts, treeFault (fn : Int) O t = 0 by
        have := HOK.out
        rwa [List.take_of_length_le (by rw [HTL.out]; exact Nat.le_refl _)] at this)
      have kR := (hbr.block _ (lt_of_block K2.out)).trans K2.out
      have kE := (hbr.block _ (lt_of_block K1.out)).trans K1.out
      have E1 : wo.cell? ⟨w.heap.size, 1, none⟩ = some (.slice FA fn fc) := cell_of_block kE rfl
      have E2 : wo.cell? ⟨w.heap.size, 2, none⟩ = some (.int .i64 O) := cell_of_block kE rfl
      clear htf e1 e2 e3 e4
      go_upto_region 19 with (fail)
      have b8 := (Below.refl wo.heap.size wo).alloc (Nat.le_refl _) (.cells #[.int .i64 (fn : Int), .int .i64 O, .slice none 0 0] 30)
      have hP8 := heap_alloc_new wo (.cells #[.int .i64 (fn : Int), .int .i64 O, .slice none 0 0] 30)
      have hz8 : (wo.alloc (.cells #[.int .i64 (fn : Int), .int .i64 O, .slice none 0 0] 30)).heap.size = wo.heap.size + 1 := by simp
      generalize wo.alloc (.cells #[.int .i64 (fn : Int), .int .i64 O, .slice none 0 0] 30) = w8 at b8 hP8 hz8 ⊢
      have kE8 := (b8.block _ (lt_of_block kE)).trans kE
      have E3 : w8.cell? ⟨w.heap.size, 3, none⟩ = some (.slice BA bn bc) := cell_of_block kE8 rfl
      have hbo := below_then b2 b2.size hbr
      have HBO := Lib.hid hbo
      have KE := Lib.hid kE
      have KR := Lib.hid kR
      have HZ8 := Lib.hid hz8
      have hbnl : bn ≤ 64 := by have := HBN.out; omega
      clear kE kE8 kR hbo hz8 E1 E2
      go_upto_region 20 with (fail)
      go_loopw [95] (fun ix wr => ∃ (j : Nat) (OA : Option Addr) (oc : Nat), ix = .int .i64 (j : Int) ∧ j ≤ bn ∧ wr.heap[wo.heap.size]? = some (.cells #[.int .i64 (fn : Int), .int .i64 O, .slice OA j oc] 30 (0, 0)) ∧ OwnOps wr wo.heap.size OA j oc (baseOps 0 (base.take j)) ∧ Below wo.heap.size wo wr) (fun ix _ => bn - (intOf ix).toNat)
      case atStart => exact ⟨0, none, 0, rfl, Nat.zero_le _, hP8, OwnOps.nil _ _, b8⟩
      case round =>
        obtain ⟨j, OA, oc, rfl, hj, hP, hown, hbq⟩ := hrel
        by_cases hjt : j < bn
        · obtain ⟨bb, ob, rfl, hc⟩ := (HB.out.below (below_then HBO.out HBO.out.size hbq)).cells (by omega)
          have hcj := hc j hjt
          have hbl := HB.out.len
          have hbt : base.take (j + 1) = base.take j ++ [base.getD j 0] := take_snocD (by omega)
          have hz : -9223372036854775808 ≤ base.getD j 0 ∧ base.getD j 0 ≤ 9223372036854775807 := HB.out.rng _ (by
            rw [List.getD_eq_getElem?_getD, List.getElem?_eq_getElem (by omega)]
            exact List.getElem_mem _)
          generalize base.getD j 0 = z at hcj hbt hz
          have i1' : (j : Int) < (bn : Int) := by omega
          have i2' : decide ((j : Int) < (bn : Int)) = true := by simpa using i1'
          have p2 : wr.cell? ⟨wo.heap.size, 2, none⟩ = some (.slice OA j oc) := cell_of_block hP rfl
          have HBT := Lib.hid hbt
          have HBL := Lib.hid hbl
          clear hc hbt hbl
          go_upto_region 22 with (fail)
          have hn8 := heap_alloc_new wr (.cells #[.int .u8 3, .int .i64 0, .float .f64 0, .slice none 0 0, .int .u8 0, .int .i64 (j : Int), .int .i64 z, .int .i64 0] 75)
          have b9 := (Below.refl wr.heap.size wr).alloc (Nat.le_refl _) (.cells #[.int .u8 3, .int .i64 0, .float .f64 0, .slice none 0 0, .int .u8 0, .int .i64 (j : Int), .int .i64 z, .int .i64 0] 75)
          obtain ⟨hs, hh⟩ := hown.hds
          have hmk8 := hh.2.1.below b9
          have hP9 := (b9.block _ (lt_of_block hP)).trans hP
          have HN8 := Lib.hid hn8
          have HP9 := Lib.hid hP9
          have HB9 := Lib.hid b9
          have hbz := Nat.le_trans hbq.size b9.size
          have hty : ∀ r, blockOf OA = some r → ∃ c2, (wr.alloc (.cells #[.int .u8 3, .int .i64 0, .float .f64 0, .slice none 0 0, .int .u8 0, .int .i64 (j : Int), .int .i64 z, .int .i64 0] 75)).heap[r]? = some (.cells c2 75 (0, 0)) := fun r hr => hmk8.ty hr
          have hlp := lt_of_block hP
          clear hn8 b9 hP9
          go_upto_region 23 with (at_builtin; refine app_boxK wo.heap.size rfl _ _ _ _ _ 8 80 rfl Tryz.underlying28 Tryz.info_op rfl (by omega) OA j oc (flatOps hs (baseOps 0 (base.take j))) wr.heap.size 1 1 _ _ HN8.out rfl rfl rfl (opRow_one (none, 0, 0) (addOp (j : Int) z)) hmk8 hbz (by omega) (by omega) ?_; rintro A' c' w9 hm9 hg9 hA9; have hU9 := keep_ty hg9 HP9.out hty (by decide); have u9 : w9.cell? ⟨wo.heap.size, 2, none⟩ = some (.slice OA j oc) := cell_of_block hU9 rfl; have z9 : w9.frozen? ⟨wo.heap.size, 2, none⟩ = false := frozen_row (vs := [.int .i64 (fn : Int), .int .i64 O, .slice OA j oc]) hU9 2)
          have hU9 := keep_ty hg9 HP9.out hty (by decide)
          have hown9 := OwnOps.snoc (v := addOp (j : Int) z) (hd := (none, 0, 0)) hh hown.rng HB9.out (.inl ⟨rfl, rfl, rfl⟩) (by constructor <;> simp [addOp] <;> omega) (by simp [addOp]) (fun k hk => by simp [hdBlock] at hk) hm9 hg9 hA9
          have hown10 := hown9.kept_ty hU9 (by decide) (by decide) (setCell_grownBy w9 wo.heap.size 2 (.slice A' (j + 1) c'))
          have hU10 : (w9.setCell ⟨wo.heap.size, 2, none⟩ (.slice A' (j + 1) c')).heap[wo.heap.size]? = some (.cells #[.int .i64 (fn : Int), .int .i64 O, .slice A' (j + 1) c'] 30 (0, 0)) := setCell_row (vs := [.int .i64 (fn : Int), .int .i64 O, .slice OA j oc]) hU9 2 _
          have hbs : baseOps 0 (base.take (j + 1)) = baseOps 0 (base.take j) ++ [addOp (j : Int) z] := by
            rw [HBT.out, baseOps_snoc, List.length_take, HBL.out, Nat.min_eq_left (by omega), Nat.zero_add]
          rw [← hbs] at hown10
          have hb10 := (below_grown (below_then hbq hbq.size HB9.out) hbz hg9 (fun k hk => (hmk8.lt k hk).1)).setCell (p := ⟨wo.heap.size, 2, none⟩) (Nat.le_refl _) (.slice A' (j + 1) c')
          generalize w9.setCell ⟨wo.heap.size, 2, none⟩ (.slice A' (j + 1) c') = w10 at hown10 hU10 hb10 ⊢
          clear p2 hown9 hm9 hg9 hA9 hmk8 hbs hty hU9
          go_wp2
          go_roundw
          case rel => exact ⟨j + 1, A', c', by go_num, hjt, hU10, hown10, hb10⟩
          case measure => simp [intOf]; omega
        · obtain rfl : j = bn := by omega
          rename World => wl
          have i2' : decide ((j : Int) < (j : Int)) = false := by simp
          have kEl := (hbq.block _ (lt_of_block KE.out)).trans KE.out
          have E4 : wl.cell? ⟨w.heap.size, 4, none⟩ = some (.slice TA i tc) := cell_of_block kEl rfl
          rw [List.take_of_length_le (by rw [HB.out.len]; exact Nat.le_refl _)] at hown
          clear kEl
          go_upto_region 25 with (fail)
          go_loopw [112] (fun ix wr => ∃ (k on : Nat) (OA : Option Addr) (oc : Nat), ix = .int .i64 (k : Int) ∧ k ≤ i ∧ wr.heap[wo.heap.size]? = some (.cells #[.int .i64 (fn : Int), .int .i64 O, .slice OA on oc] 30 (0, 0)) ∧ OwnOps wr wo.heap.size OA on oc (baseOps 0 base ++ treesCode (ts.take k) base.length) ∧ Below wo.heap.size wo wr) (fun ix _ => i - (intOf ix).toNat)
          case atStart => exact ⟨0, j, OA, oc, rfl, Nat.zero_le _, hP, by simpa [treesCode] using hown, hbq⟩
          case round =>
            clear hP hown hbq OA oc
            obtain ⟨k, on, OA, oc, rfl, hk, hP, hown, hbq⟩ := hrel
            by_cases hkt : k < i
            · obtain ⟨b, o, rfl, hc⟩ := (HT.out.below HBO.out).cells (by omega)
              have hl := HTL.out
              obtain ⟨B, m, d, hr0, hnd, hmb, hor, hnr⟩ := hc k (by omega)
              have hr := rangeAt_below hr0 hbq
              have hrt := HOK2.out _ (List.getElem_mem (show k < ts.length by omega))
              have htk : ts.take (k + 1) = ts.take k ++ [ts[k]'(by omega)] := by rw [List.take_succ_eq_append_getElem (by omega)]
              have hmn := manyNodes_take ts k (by omega)
              have hRts : ∀ u ∈ ts.take k, RightT u.nds := fun u hu => rightT_fault (HOK2.out u (List.mem_of_mem_take hu))
              have htl := treesCode_length (ts.take k) base.length hRts
              generalize ts[k]'(by omega) = t at hr hnd hor hnr hrt htk hmn
              have hRt := rightT_fault hrt
              have r0 : _ = some _ := range_cell (o := o + k * 2) hr 0 rfl
              rw [Nat.add_zero] at r0
              have r1 := range_cell hr 1 rfl
              have hlb : b < wr.heap.size := World.block_lt_of_cell? wr _ r0
              have k1' : (k : Int) < (i : Int) := by omega
              have k2' : decide ((k : Int) < (i : Int)) = true := by simpa using k1'
              have HTK := Lib.hid htk
              have hlen := hown.len
              have hbl := HB.out.len
              simp only [List.length_append, baseOps_length] at hlen
              have hts := treeOf_size hRt
              have hon : on + (treeOf t.nds).size ≤ 1000000000000 := by have := HSUM.out; omega
              have HON := Lib.hid hlen
              clear hc hr hr0 hl htk hmn htl hRts hrt hlen hbl hts
              go_upto_region 27 with (fail)
              have b5 := (Below.refl wr.heap.size wr).alloc (Nat.le_refl _) (.cells #[.int .i64 t.out, .slice B m d] 65)
              have hO5 := heap_alloc_new wr (.cells #[.int .i64 t.out, .slice B m d] 65)
              generalize wr.alloc (.cells #[.int .i64 t.out, .slice B m d] 65) = w5 at b5 hO5 ⊢
              have t0 : w5.cell? ⟨wr.heap.size, 0, none⟩ = some (.int .i64 t.out) := cell_of_block hO5 rfl
              have t1 : w5.cell? ⟨wr.heap.size, 1, none⟩ = some (.slice B m d) := cell_of_block hO5 rfl
              have hb5 := below_then hbq hbq.size b5
              have HCT := Lib.hid (tree_any wo.heap.size wo.heap.size t.out (fn : Int) O B m d OA on oc _ t.nds w5 ((b5.block _ (lt_of_block hP)).trans hP) (hown.below b5) (Nat.le_refl _) hb5.size (fun W h => hnd.below (hb5.trans h)) hRt hnr hor hon)
              clear r0 r1 hlb hO5 hP hown
              go_wp2_with fail
              refine HCT.out.mono ?_; rintro e w6 ⟨OA', on', oc', rfl, hP6, hown6, b6⟩
              have hfin : baseOps 0 base ++ treesCode (ts.take k) base.length ++ treeCode ⟨t.out, t.nds⟩ on = baseOps 0 base ++ treesCode (ts.take (k + 1)) base.length := by
                rw [HTK.out, treesCode_snoc, List.append_assoc, ← HON.out]
              rw [hfin] at hown6
              have hb6 := hb5.trans b6
              clear hfin t0 t1
              go_wp2
              go_roundw
              case rel => exact ⟨k + 1, on', OA', oc', by go_num, hkt, hP6, hown6, hb6⟩
              case measure => simp [intOf]; omega
            · obtain rfl : k = i := by omega
              have k2' : decide ((k : Int) < (k : Int)) = false := by simp
              rw [List.take_of_length_le (by rw [HTL.out]; exact Nat.le_refl _)] at hown
              have hlen := hown.len
              have hbl := HB.out.len
              have htl := treesCode_length ts base.length (fun u hu => rightT_fault (HOK2.out u hu))
              simp only [List.length_append, baseOps_length] at hlen
              have hon : on ≤ 1000000000000 := by have := HSUM.out; omega
              have p2 : wr.cell? ⟨wo.heap.size, 2, none⟩ = some (.slice OA on oc) := cell_of_block hP rfl
              have hn8 := heap_alloc_new wr (.cells #[.int .u8 5, .int .i64 0, .float .f64 0, .slice none 0 0, .int .u8 0, .int .i64 0, .int .i64 0, .int .i64 0] 75)
              have b9 := (Below.refl wr.heap.size wr).alloc (Nat.le_refl _) (.cells #[.int .u8 5, .int .i64 0, .float .f64 0, .slice none 0 0, .int .u8 0, .int .i64 0, .int .i64 0, .int .i64 0] 75)
              obtain ⟨hs, hh⟩ := hown.hds
              have hmk8 := hh.2.1.below b9
              have hP9 := (b9.block _ (lt_of_block hP)).trans hP
              have HN8 := Lib.hid hn8
              have HP9 := Lib.hid hP9
              have HB9 := Lib.hid b9
              have hbz := Nat.le_trans hbq.size b9.size
              have hty : ∀ r, blockOf OA = some r → ∃ c2, (wr.alloc (.cells #[.int .u8 5, .int .i64 0, .float .f64 0, .slice none 0 0, .int .u8 0, .int .i64 0, .int .i64 0, .int .i64 0] 75)).heap[r]? = some (.cells c2 75 (0, 0)) := fun r hr => hmk8.ty hr
              have hlp := lt_of_block hP
              clear hn8 b9 hP9 hlen hbl htl
              go_upto_region 30 with (at_builtin; refine app_boxK wo.heap.size rfl _ _ _ _ _ 8 80 rfl Tryz.underlying28 Tryz.info_op rfl (by omega) OA on oc (flatOps hs (baseOps 0 base ++ treesCode ts base.length)) wr.heap.size 1 1 _ _ HN8.out rfl rfl rfl (opRow_one (none, 0, 0) endOp) hmk8 hbz (by omega) (by omega) ?_; rintro A' c' w9 hm9 hg9 hA9; have hU9 := keep_ty hg9 HP9.out hty (by decide); have u9 : w9.cell? ⟨wo.heap.size, 2, none⟩ = some (.slice OA on oc) := cell_of_block hU9 rfl; have z9 : w9.frozen? ⟨wo.heap.size, 2, none⟩ = false := frozen_row (vs := [.int .i64 (fn : Int), .int .i64 O, .slice OA on oc]) hU9 2)
              have hU9 := keep_ty hg9 HP9.out hty (by decide)
              have hown9 := OwnOps.snoc (v := endOp) (hd := (none, 0, 0)) hh hown.rng HB9.out (.inl ⟨rfl, rfl, rfl⟩) (by constructor <;> simp [endOp]) (by simp [endOp]) (fun k hk => by simp [hdBlock] at hk) hm9 hg9 hA9
              have hown10 := hown9.kept_ty hU9 (by decide) (by decide) (setCell_grownBy w9 wo.heap.size 2 (.slice A' (on + 1) c'))
              have hU10 : (w9.setCell ⟨wo.heap.size, 2, none⟩ (.slice A' (on + 1) c')).heap[wo.heap.size]? = some (.cells #[.int .i64 (fn : Int), .int .i64 O, .slice A' (on + 1) c'] 30 (0, 0)) := setCell_row (vs := [.int .i64 (fn : Int), .int .i64 O, .slice OA on oc]) hU9 2 _
              have hb10 := (below_grown (below_then hbq hbq.size HB9.out) hbz hg9 (fun k hk => (hmk8.lt k hk).1)).setCell (p := ⟨wo.heap.size, 2, none⟩) (Nat.le_refl _) (.slice A' (on + 1) c')
              generalize w9.setCell ⟨wo.heap.size, 2, none⟩ (.slice A' (on + 1) c') = w10 at hown10 hU10 hb10 ⊢
              have kRf := (hb10.block _ (lt_of_block KR.out)).trans KR.out
              obtain ⟨s0, s1, s2, z0, z1, z2⟩ := zero_box kRf
              have v0 : w10.cell? ⟨wo.heap.size, 0, none⟩ = some (.int .i64 (fn : Int)) := cell_of_block hU10 rfl
              have v1 : w10.cell? ⟨wo.heap.size, 1, none⟩ = some (.int .i64 O) := cell_of_block hU10 rfl
              have v2 : w10.cell? ⟨wo.heap.size, 2, none⟩ = some (.slice A' (on + 1) c') := cell_of_block hU10 rfl
              have HFB := Lib.hid ((((below_then HBO.out HBO.out.size hb10).setCell (p := ⟨w.heap.size + 1, 0, none⟩) (by simp) (.int .i64 (fn : Int))).setCell (p := ⟨w.heap.size + 1, 1, none⟩) (by simp) (.int .i64 O)).setCell (p := ⟨w.heap.size + 1, 2, none⟩) (by simp) (.slice A' (on + 1) c'))
              have hgg := World.grownBy.trans (World.grownBy.trans (setCell_grownBy w10 (w.heap.size + 1) 0 (.int .i64 (fn : Int))) (setCell_grownBy _ (w.heap.size + 1) 1 (.int .i64 O))) (setCell_grownBy _ (w.heap.size + 1) 2 (.slice A' (on + 1) c'))
              have HFO := Lib.hid ((hown10.kept_ty kRf (by decide) (by decide) hgg).mono (Nat.le_trans (Nat.le_refl _) HBO.out.size))
              clear p2 hown9 hm9 hg9 hA9 hmk8 hty hU9 hgg hown10 hU10 kRf
              go_wp2_with fail
              refine bodyPost_ret (v := .tuple #[.agg #[.int .i64 (fn : Int), .int .i64 O, .slice A' (on + 1) c'], .int .i64 0]) (by simp [results, Tryz.results13, go_sem, *]) rfl ?_
              rw [HRR.out]
              exact ⟨A', on + 1, c', rfl, HFO.out, HFB.out⟩

end Go.Proofs.YtekcpapkicmckaaGreatDoor
