/- Operations in memory; the contract of code.rising. Programs in memory. Nodes of trees in memory; the contract of trees.inner. Slices of elements of several cells at the head of a block of the call's own: stores and appends. Programs of the call's own memory. -/
import Derived.Test.YtekcpapkicmckaaGreatDoorPlc
import Derived.Test.YtekcpapkicmckaaGreatDoorMem
import Derived.Deep.MidRow
import Derived.Deep.LoopGhost
import Derived.Deep.Light
import Derived.Deep.Cut
import Derived.Deep.CutRange
import Derived.WalkLawsBesides
import Derived.Test.YtekcpapkicmckaaGreatDoorWide
import Derived.Test.YtekcpapkicmckaaGreatDoorRyu
namespace Go.Proofs.YtekcpapkicmckaaGreatDoor
open Go.RowKit

def i64s (zs : List Int) : List Value := zs.map fun z => .int .i64 z
theorem i64s_length (zs : List Int) : (i64s zs).length = zs.length := by simp [i64s]
theorem i64s_getD {zs : List Int} {j : Nat} (h : j < zs.length) : (i64s zs).getD j undef = .int .i64 (zs.getD j 0) := by
  simp [i64s, List.getD, List.getElem?_eq_getElem h]

/-- a slice of whole numbers -/
structure Ints (w : World) (A : Option Addr) (n c : Nat) (zs : List Int) : Prop where
  sl : Sl w A n c (i64s zs)
  rng : ∀ z ∈ zs, -9223372036854775808 ≤ z ∧ z ≤ 9223372036854775807
theorem Ints.len {w : World} {A : Option Addr} {n c : Nat} {zs : List Int} (h : Ints w A n c zs) : zs.length = n := by have := h.sl.len; rwa [i64s_length] at this
theorem Ints.below {w w' : World} {A : Option Addr} {n c : Nat} {zs : List Int} (h : Ints w A n c zs) (hb : Below w.heap.size w w') : Ints w' A n c zs := ⟨h.sl.below hb, h.rng⟩
theorem Ints.cells {w : World} {A : Option Addr} {n c : Nat} {zs : List Int} (h : Ints w A n c zs) (hn : 0 < n) : ∃ b o, A = some ⟨b, o, none⟩ ∧ ∀ j, j < n → w.cell? ⟨b, o + j, none⟩ = some (.int .i64 (zs.getD j 0)) := by
  obtain ⟨b, o, hA, hc⟩ := h.sl.cells hn
  exact ⟨b, o, hA, fun j hj => by rw [hc j hj, i64s_getD (by rw [h.len]; exact hj)]⟩
theorem take_snocD {zs : List Int} {i : Nat} (h : i < zs.length) : zs.take (i + 1) = zs.take i ++ [zs.getD i 0] := by
  rw [List.take_succ_eq_append_getElem h, List.getD_eq_getElem?_getD, List.getElem?_eq_getElem h]; rfl

set_option maxRecDepth 100000 in
set_option maxHeartbeats 1000000 in
theorem rising_any (A : Option Addr) (n c : Nat) (zs : List Int) (w : World) (hx : Ints w A n c zs) :
    Calls Tryz.prog 77 #[.slice A n c] w fun e w' => e = .returned (.bool (rising zs)) ∧ ∃ q, w' = w.drewN q := by
  have hn := hx.sl.big
  have hlen := hx.len
  obtain ⟨D, hD⟩ : ∃ D : Nat → Int, D = fun j => zs.getD j 0 := ⟨_, rfl⟩
  have HC := Lib.hid (fun (h : 0 < n) => hx.cells h)
  have HZ := Lib.hid hlen
  have HE := Lib.hid hD
  clear hx hlen hD
  go_enter Tryz.func77, Tryz.ntmps77
  go_wp2
  go_loopw [3, 8] (fun lx ix wr => ∃ (i q : Nat) (last : Int), lx = .int .i64 last ∧ ix = .int .i64 (i : Int) ∧ i ≤ n ∧ Hid (risingF (-1) (zs.take i) = some last) ∧ wr = w.drewN q) (fun _ ix _ => n - (intOf ix).toNat)
  case atStart => exact ⟨0, 0, -1, rfl, rfl, Nat.zero_le _, Lib.hid rfl, rfl⟩
  case round =>
    obtain ⟨i, q, last, rfl, rfl, hi, HR, rfl⟩ := hrel
    by_cases hlt : i < n
    · obtain ⟨b, o, rfl, hc⟩ := HC.out (by omega)
      have h0 : (w.drewN q).cell? ⟨b, o + i, none⟩ = some (.int .i64 (zs.getD i 0)) := hc i hlt
      have hs := take_snocD (zs := zs) (i := i) (by rw [HZ.out]; exact hlt)
      generalize zs.getD i 0 = z at h0 hs
      clear hc
      have m1 : decide ((i : Int) < (n : Int)) = true := by simp; omega
      have m2 : (i : Int) < (n : Int) := by omega
      have hst : risingF (-1) (zs.take (i + 1)) = if z ≤ last ∨ 1024 ≤ z then none else some z := by rw [hs, risingF_snoc, HR.out]; rfl
      have hng : ∀ l m : List Int, risingF (-1) l = none → rising (l ++ m) = false := by
        intro l m h
        have : risingF (-1) (l ++ m) = none := by
          have key : ∀ (m l : List Int) (k : Int), risingF k l = none → risingF k (l ++ m) = none := by
            intro m l
            induction l with
            | nil => intro k h; simp [risingF] at h
            | cons d l ih => intro k h; simp only [List.cons_append, risingF] at h ⊢; split at h <;> simp_all
          exact key m l _ h
        unfold rising; rw [this]
      have hbad : (z ≤ last ∨ 1024 ≤ z) → rising zs = false := by
        intro h
        have := hng (zs.take (i + 1)) (zs.drop (i + 1)) (by rw [hst, if_pos h])
        rwa [List.take_append_drop] at this
      clear hs hng
      by_cases h1 : z ≤ last
      · have HB := Lib.hid (hbad (.inl h1))
        clear hst hbad
        go_wp2
        go_ret
        exact ⟨by rw [HB.out]; rfl, q, rfl⟩
      · by_cases h2 : 1024 ≤ z
        · have HB := Lib.hid (hbad (.inr h2))
          clear hst hbad
          go_wp2
          go_ret
          exact ⟨by rw [HB.out]; rfl, q, rfl⟩
        · have HR2 : Hid (risingF (-1) (zs.take (i + 1)) = some z) := Lib.hid (by rw [hst, if_neg (by omega)])
          clear hst hbad
          go_wp2
          go_roundw
          case rel => exact ⟨i + 1, q, z, rfl, by go_num, hlt, HR2, rfl⟩
          case measure => simp [intOf]; omega
    · obtain rfl : i = n := by omega
      have m1 : decide ((i : Int) < (i : Int)) = false := by simp
      have hrz : rising zs = decide (0 ≤ last) := by
        have := HR.out
        rw [List.take_of_length_le (by rw [HZ.out]; exact Nat.le_refl _)] at this
        unfold rising; rw [this]
      have HB := Lib.hid hrz
      clear hrz
      by_cases h1 : 0 ≤ last
      · have p1 : decide (0 ≤ last) = true := by simp; omega
        go_wp2
        go_ret
        exact ⟨by rw [HB.out, p1]; rfl, q, rfl⟩
      · have p1 : decide (0 ≤ last) = false := by simp; omega
        go_wp2
        go_ret
        exact ⟨by rw [HB.out, p1]; rfl, q, rfl⟩

end Go.Proofs.YtekcpapkicmckaaGreatDoor

namespace Go.Proofs.YtekcpapkicmckaaGreatDoor
open Go.RowKit

/-- the cells of an operation -/
def opCells (A : Option Addr) (n c : Nat) (v : OpV) : List Value := [.int .u8 (v.kind : Int), .int .i64 v.feature, .float .f64 v.thr, .slice A n c, .int .u8 (v.missing : Int), .int .i64 v.output, .int .i64 v.value, .int .i64 v.dest]

/-- an operation's numbers are such as its fields hold -/
structure OpRng (v : OpV) : Prop where
  kind : v.kind < 256
  feature : -9223372036854775808 ≤ v.feature ∧ v.feature ≤ 9223372036854775807
  thr : v.thr < 18446744073709551616
  missing : v.missing < 256
  output : -9223372036854775808 ≤ v.output ∧ v.output ≤ 9223372036854775807
  value : -9223372036854775808 ≤ v.value ∧ v.value ≤ 9223372036854775807
  dest : -9223372036854775808 ≤ v.dest ∧ v.dest ≤ 9223372036854775807

/-- an operation that lies in a block from a place on -/
def OpIn (w : World) (b o : Nat) (v : OpV) : Prop := ∃ B m d, w.rangeAt b o (opCells B m d v) ∧ Ints w B m d v.cats ∧ OpRng v

/-- a slice of operations -/
structure OpsAt (w : World) (A : Option Addr) (n c : Nat) (ops : List OpV) : Prop where
  len : ops.length = n
  cap : n ≤ c
  big : n ≤ 281474976710656
  cells : 0 < n → ∃ b o, A = some ⟨b, o, none⟩ ∧ ∀ j (h : j < ops.length), OpIn w b (o + j * 8) ops[j]

theorem rangeAt_below {w w' : World} {b o : Nat} {cs : List Value} (h : w.rangeAt b o cs) (hb : Below w.heap.size w w') : w'.rangeAt b o cs := fun j v hv => by
  have h1 := h j v hv
  have hl := World.block_lt_of_cell? w _ h1
  exact (hb.cell hl).trans h1

theorem OpIn.below {w w' : World} {b o : Nat} {v : OpV} (h : OpIn w b o v) (hb : Below w.heap.size w w') : OpIn w' b o v := by
  obtain ⟨B, m, d, h1, h2, h3⟩ := h
  exact ⟨B, m, d, rangeAt_below h1 hb, h2.below hb, h3⟩
theorem OpsAt.below {w w' : World} {A : Option Addr} {n c : Nat} {ops : List OpV} (h : OpsAt w A n c ops) (hb : Below w.heap.size w w') : OpsAt w' A n c ops :=
  ⟨h.len, h.cap, h.big, fun hn => by obtain ⟨b, o, hA, hc⟩ := h.cells hn; exact ⟨b, o, hA, fun j hj => (hc j hj).below hb⟩⟩

theorem range_cell {w : World} {b o : Nat} {cs : List Value} (h : w.rangeAt b o cs) (k : Nat) {v : Value} (hv : cs[k]? = some v) : w.cell? ⟨b, o + k, none⟩ = some v := h k v hv

/-- the table of kinds -/
structure KindTab (w : World) (g1 g2 g : Nat) : Prop where
  t1 : w.heap[g1]? = some (.cells #[.int .u8 2] 68 (0, 0))
  t2 : w.heap[g2]? = some (.cells #[.int .u8 3] 68 (0, 0))
  t : w.heap[g]? = some (.cells #[.bool false, .bool false, .bool false, .bool false, .bool false, .nilFunc,
        .bool true, .bool true, .bool false, .bool false, .bool true, .func (.func 73) #[] #[.pointer (some ⟨g1, 0, none⟩)],
        .bool true, .bool false, .bool true, .bool false, .bool true, .func (.func 73) #[] #[.pointer (some ⟨g2, 0, none⟩)],
        .bool false, .bool false, .bool false, .bool true, .bool false, .func (.func 75) #[] #[],
        .bool false, .bool false, .bool false, .bool false, .bool true, .func (.func 76) #[] #[],
        .bool false, .bool false, .bool false, .bool false, .bool false, .nilFunc] 126 (0, 0))

theorem KindTab.below {w w' : World} {g1 g2 g : Nat} (h : KindTab w g1 g2 g) (hb : Below w.heap.size w w') : KindTab w' g1 g2 g :=
  ⟨(hb.block _ (lt_of_block h.t1)).trans h.t1, (hb.block _ (lt_of_block h.t2)).trans h.t2, (hb.block _ (lt_of_block h.t)).trans h.t⟩

set_option maxRecDepth 100000 in
set_option maxHeartbeats 1000000 in
theorem kinds_any (w : World) : Calls Tryz.prog 46 #[] w fun e w' => ∃ g1 g2 g, e = .returned (.slice (some ⟨g, 0, none⟩) 6 6) ∧ KindTab w' g1 g2 g ∧ Below w.heap.size w w' := by
  have hmf : ∀ (fn : Fn) (first cap : Array Value) (w : World), (Instr.makeFunc fn first cap).run Tryz.prog w = .ok (.func fn first cap) w := fun _ _ _ _ => rfl
  go_enter Tryz.func46, Tryz.ntmps46
  go_wp2
  go_ret
  refine ⟨w.heap.size, w.heap.size + 1, w.heap.size + 1 + 1, rfl, ⟨?_, ?_, ?_⟩, ((((Below.refl _ _).alloc (Nat.le_refl _) _).alloc (by simp) _).alloc (by simp; omega) _)⟩
  · show (((w.heap.push _).push _).push _)[w.heap.size]? = _
    simp only [Array.getElem?_push, Array.size_push]
    rw [if_neg (by omega), if_neg (by omega), if_pos trivial]
  · show (((w.heap.push _).push _).push _)[w.heap.size + 1]? = _
    simp only [Array.getElem?_push, Array.size_push]
    rw [if_neg (by omega), if_pos trivial]
  · show (((w.heap.push _).push _).push _)[w.heap.size + 1 + 1]? = _
    simp only [Array.getElem?_push, Array.size_push]
    rw [if_pos trivial]

end Go.Proofs.YtekcpapkicmckaaGreatDoor

namespace Go.Proofs.YtekcpapkicmckaaGreatDoor
open Go.RowKit

/-- the cells of a node -/
def ndCells (A : Option Addr) (n c : Nat) (v : NdV) : List Value := [.int .u8 (v.kind : Int), .int .i64 v.value, .int .i64 v.feature, .float .f64 v.thr, .slice A n c, .int .u8 (v.missing : Int), .int .i64 v.left, .int .i64 v.right]

/-- a node that lies in a block from a place on -/
def NdIn (w : World) (b o : Nat) (v : NdV) : Prop := ∃ B m d, w.rangeAt b o (ndCells B m d v) ∧ Ints w B m d v.cats ∧ v.kind < 256 ∧ v.missing < 256

/-- a slice of nodes -/
structure NdsAt (w : World) (A : Option Addr) (n c : Nat) (nds : List NdV) : Prop where
  len : nds.length = n
  cap : n ≤ c
  big : n ≤ 281474976710656
  cells : 0 < n → ∃ b o, A = some ⟨b, o, none⟩ ∧ ∀ j (h : j < nds.length), NdIn w b (o + j * 8) nds[j]

theorem NdIn.below {w w' : World} {b o : Nat} {v : NdV} (h : NdIn w b o v) (hb : Below w.heap.size w w') : NdIn w' b o v := by
  obtain ⟨B, m, d, h1, h2, h3⟩ := h
  exact ⟨B, m, d, rangeAt_below h1 hb, h2.below hb, h3⟩
theorem NdsAt.below {w w' : World} {A : Option Addr} {n c : Nat} {nds : List NdV} (h : NdsAt w A n c nds) (hb : Below w.heap.size w w') : NdsAt w' A n c nds :=
  ⟨h.len, h.cap, h.big, fun hn => by obtain ⟨b, o, hA, hc⟩ := h.cells hn; exact ⟨b, o, hA, fun j hj => (hc j hj).below hb⟩⟩

set_option maxRecDepth 100000 in
set_option maxHeartbeats 1000000 in
theorem inner_any (A : Option Addr) (n c : Nat) (v : NdV) (w : World) :
    Calls Tryz.prog 67 #[.agg (ndCells A n c v).toArray] w fun e w' => e = .returned (.bool (innerV v)) ∧ Below w.heap.size w w' := by
  have B1 := (Below.refl w.heap.size w).alloc (Nat.le_refl _) (.cells (ndCells A n c v).toArray 72)
  unfold ndCells at B1 ⊢
  have h2 : ((v.kind : Int) == 2) = decide (v.kind = 2) := by by_cases h : v.kind = 2 <;> simp [h]; omega
  have h3 : ((v.kind : Int) == 3) = decide (v.kind = 3) := by by_cases h : v.kind = 3 <;> simp [h]; omega
  have HI := Lib.hid (show innerV v = (decide (v.kind = 2) || decide (v.kind = 3)) by unfold innerV; simp)
  obtain ⟨y2, hy2⟩ : ∃ y, ((v.kind : Int) == 2) = y := ⟨_, rfl⟩
  obtain ⟨y3, hy3⟩ : ∃ y, ((v.kind : Int) == 3) = y := ⟨_, rfl⟩
  rw [← h2, ← h3, hy2, hy3] at HI
  clear h2 h3
  cases y2
  all_goals cases y3
  all_goals
    go_enter Tryz.func67, Tryz.ntmps67
    go_wp2
    go_ret
    exact ⟨congrArg (fun x => Ending.returned (Value.bool x)) HI.out.symm, B1⟩

end Go.Proofs.YtekcpapkicmckaaGreatDoor

namespace Go.Proofs.YtekcpapkicmckaaGreatDoor
open Go.RowKit

/-- a slice at the head of a block that the call made: elements of so many cells -/
structure MineK (sz : Nat) (T : TypeId) (w : World) (base : Nat) (A : Option Addr) (n c : Nat) (vs : List Value) : Prop where
  len : vs.length = n * sz
  cap : n ≤ c
  big : n ≤ 281474976710656
  row : (A = none ∧ n = 0 ∧ c = 0) ∨ ∃ g rest, A = some ⟨g, 0, none⟩ ∧ base ≤ g ∧ w.heap[g]? = some (.cells (vs ++ rest).toArray T (0, 0)) ∧ c * sz ≤ n * sz + rest.length

section
variable {sz : Nat} {T : TypeId} {w w' : World} {base : Nat} {A : Option Addr} {n c : Nat} {vs : List Value}
theorem MineK.nil (sz : Nat) (T : TypeId) (w : World) (base : Nat) : MineK sz T w base none 0 0 [] := ⟨by simp, Nat.le_refl _, by omega, .inl ⟨rfl, rfl, rfl⟩⟩
theorem MineK.mono {base' : Nat} (h : MineK sz T w base A n c vs) (hb : base' ≤ base) : MineK sz T w base' A n c vs :=
  ⟨h.len, h.cap, h.big, h.row.imp id fun ⟨g, rest, e, h1, h2⟩ => ⟨g, rest, e, Nat.le_trans hb h1, h2⟩⟩
theorem MineK.lt (h : MineK sz T w base A n c vs) : ∀ k, blockOf A = some k → base ≤ k ∧ k < w.heap.size := by
  intro k hk
  rcases h.row with ⟨rfl, _, _⟩ | ⟨g, rest, rfl, hb, hg, _⟩
  · cases hk
  · simp only [blockOf, Option.some.injEq] at hk
    subst hk
    exact ⟨hb, lt_of_block hg⟩
theorem MineK.kept (h : MineK sz T w base A n c vs) {row : Option Nat} (hg : w.grownBy w' row) (hne : blockOf A = none ∨ blockOf A ≠ row) : MineK sz T w' base A n c vs :=
  ⟨h.len, h.cap, h.big, h.row.imp id fun ⟨g, rest, e, h1, h2, h3⟩ => ⟨g, rest, e, h1, (hg.block g (lt_of_block h2) (by subst e; simpa [blockOf] using hne)).trans h2, h3⟩⟩
theorem MineK.below (h : MineK sz T w base A n c vs) (hb : Below w.heap.size w w') : MineK sz T w' base A n c vs :=
  ⟨h.len, h.cap, h.big, h.row.imp id fun ⟨g, rest, e, h1, h2, h3⟩ => ⟨g, rest, e, h1, (hb.block g (lt_of_block h2)).trans h2, h3⟩⟩
theorem MineK.stored {g : Nat} (h : MineK sz T w base (some ⟨g, 0, none⟩) n c vs) (j : Nat) (hj : j < n * sz) (v : Value) :
    MineK sz T (w.setCell ⟨g, j, none⟩ v) base (some ⟨g, 0, none⟩) n c (vs.set j v) := by
  refine ⟨by rw [List.length_set]; exact h.len, h.cap, h.big, .inr ?_⟩
  rcases h.row with ⟨e, _⟩ | ⟨g', rest, e, h1, h2, h3⟩
  · cases e
  · simp only [Option.some.injEq, Addr.mk.injEq, and_true] at e
    subst e
    refine ⟨g, rest, rfl, h1, ?_, h3⟩
    have := setCell_row h2 j v
    rwa [List.set_append_left _ _ (by rw [h.len]; exact hj)] at this
theorem MineK.cell {g : Nat} (h : MineK sz T w base (some ⟨g, 0, none⟩) n c vs) (j : Nat) (hj : j < n * sz) : w.cell? ⟨g, j, none⟩ = some (vs.getD j undef) := by
  rcases h.row with ⟨e, _⟩ | ⟨g', rest, e, h1, h2, h3⟩
  · cases e
  · simp only [Option.some.injEq, Addr.mk.injEq, and_true] at e
    subst e
    have hl := h.len
    rw [cell_row h2 (by rw [List.length_append]; omega), List.getD_eq_getElem?_getD, List.getD_eq_getElem?_getD, List.getElem?_append_left (by omega)]
theorem MineK.free {g : Nat} (h : MineK sz T w base (some ⟨g, 0, none⟩) n c vs) (j : Nat) : w.frozen? ⟨g, j, none⟩ = false := by
  rcases h.row with ⟨e, _⟩ | ⟨g', rest, e, h1, h2, h3⟩
  · cases e
  · simp only [Option.some.injEq, Addr.mk.injEq, and_true] at e
    subst e
    exact frozen_row h2 j
theorem MineK.some_of (h : MineK sz T w base A n c vs) (hn : 0 < n) : ∃ g, A = some ⟨g, 0, none⟩ ∧ base ≤ g ∧ g < w.heap.size := by
  rcases h.row with ⟨_, h0, _⟩ | ⟨g, rest, e, hb, hg, _⟩
  · omega
  · exact ⟨g, e, hb, lt_of_block hg⟩
/-- fewer elements -/
theorem MineK.pre (h : MineK sz T w base A n c vs) (k : Nat) (hk : k ≤ n) : MineK sz T w base A k c (vs.take (k * sz)) := by
  have hks : k * sz ≤ n * sz := Nat.mul_le_mul_right _ hk
  refine ⟨by rw [List.length_take, h.len]; omega, Nat.le_trans hk h.cap, Nat.le_trans hk h.big, h.row.imp (fun ⟨a, b, c⟩ => ⟨a, by omega, c⟩) fun ⟨g, rest, e, h1, h2, h3⟩ =>
    ⟨g, vs.drop (k * sz) ++ rest, e, h1, by rw [← List.append_assoc, List.take_append_drop]; exact h2, ?_⟩⟩
  rw [List.length_append, List.length_drop, h.len]
  omega
end

section
variable {P : Program}
theorem run_append_mineK (W : World) (base : Nat) (t ty e : TypeId) (z : Value) (sz bytes : Nat) (ht : P.underlying t = some (.slice e))
    (hinfo : (P.info? e).map (fun i => (i.zero, i.size, i.bytes)) = some (some z, sz, bytes)) (hz : z.cells.size = sz) (hb0 : 0 < bytes)
    (A : Option Addr) (n c : Nat) (vs : List Value) (hm : MineK sz e W base A n c vs)
    (a : Addr) (m c' : Nat) (news : List Value) (hl : news.length = m * sz) (hnews : ∀ j u, news[j]? = some u → W.cell? (a.add j) = some u) (h1 : ∀ u ∈ news, u.oneCell' = true)
    (hbytes : (n + m) * bytes ≤ 140737488355328) (hbase : base ≤ W.heap.size) (hpos : 0 < m) :
    ∃ A' c2 w', (Builtin.append_ #[t, t] ty #[.slice A n c, .slice (some a) m c']).run P W = .ok (.slice A' (n + m) c2) w' ∧ MineK sz e w' base A' (n + m) c2 (vs ++ news) ∧ W.grownBy w' (blockOf A) ∧
      (blockOf A' = blockOf A ∨ ∃ k, blockOf A' = some k ∧ W.heap.size ≤ k) := by
  obtain ⟨i, hi, hzz⟩ := Option.map_eq_some_iff.1 hinfo
  simp only [Prod.mk.injEq] at hzz
  obtain ⟨hz0, hz1, hz2⟩ := hzz
  have hnm : n + m ≤ 140737488355328 := Nat.le_trans (Nat.le_mul_of_pos_right _ hb0) hbytes
  have hlen : (vs ++ news).length = (n + m) * sz := by rw [List.length_append, hm.len, hl, Nat.add_mul]
  have hzc : ∀ k, (Builtin.zeroCells z.cells k).size = k * sz := fun k => by simp [Builtin.zeroCells, hz, Nat.mul_comm]
  rcases hm.row with ⟨rfl, rfl, rfl⟩ | ⟨g, rest, rfl, hbg, hg, hcr⟩
  · have hv : vs = [] := List.eq_nil_of_length_eq_zero (by rw [hm.len]; omega)
    subst hv
    have hr := run_append_nil (P := P) W t ty e i z ht hi hz0 a m c' news (by rw [hl, hz1]) hnews hpos (by omega) (by
      rw [hz2]
      have : m * bytes ≤ (0 + m) * bytes := by rw [Nat.zero_add]; exact Nat.le_refl _
      omega)
    rw [Nat.zero_add]
    refine ⟨_, _, _, hr, ⟨by simpa using hl, grownCap_ge W m 0 e, by omega, .inr ⟨W.heap.size, (Builtin.zeroCells z.cells (grownCap W m 0 e - m)).toList, rfl, hbase, ?_, ?_⟩⟩, ⟨rfl, rfl, rfl, by simp, fun k hk _ => Below.heap_alloc W.drew _ k hk⟩, .inr ⟨_, rfl, Nat.le_refl _⟩⟩
    · rw [show W.heap.size = W.drew.heap.size from rfl, heap_alloc_new W.drew]
      simp
    · rw [Array.length_toList, hzc, Nat.sub_mul]
      have := Nat.mul_le_mul_right sz (grownCap_ge W m 0 e)
      omega
  · by_cases hroom : n + m ≤ c
    · have hcs := Nat.mul_le_mul_right sz hroom
      rw [Nat.add_mul] at hcs
      have hr := run_append_room (P := P) W t ty e i ht hi g n c (vs ++ rest).toArray hg a m c' news (by rw [hl, hz1]) hnews h1 hroom (by
        rw [hz1, hl, List.size_toArray, List.length_append, hm.len]; omega)
      refine ⟨_, _, _, hr, ⟨hlen, hroom, by omega, .inr ⟨g, rest.drop (m * sz), rfl, hbg, ?_, ?_⟩⟩, ⟨rfl, rfl, rfl, by simp, fun k _ hk => setRow_other W g k _ (fun e => hk (by simp [blockOf, e]))⟩, .inl rfl⟩
      · rw [setRow_heap W g _ _ e _ hg]
        congr 2
        have e1 : n * i.size = vs.length := by rw [hz1, hm.len]
        rw [e1, hl]
        simp [List.drop_append, List.drop_of_length_le (show vs.length ≤ vs.length + m * sz by omega)]
      · rw [List.length_drop, Nat.add_mul]; omega
    · have holds : ∀ j u, vs[j]? = some u → W.cell? ((⟨g, 0, none⟩ : Addr).add j) = some u := by
        intro j u hu
        have hj : j < vs.length := (List.getElem?_eq_some_iff.1 hu).1
        rw [add_row0, hm.cell j (by rw [← hm.len]; exact hj), List.getD_eq_getElem?_getD, hu]
        rfl
      have hr := run_append_grow (P := P) W t ty e i z ht hi hz0 ⟨g, 0, none⟩ n c vs (by rw [hz1]; exact hm.len) holds a m c' news (by rw [hl, hz1]) hnews (by omega) (by omega)
        (growslice_fits (by omega) (by rw [hz2]; exact hbytes))
      refine ⟨_, _, _, hr, ⟨hlen, grownCap_ge W (n + m) c e, by omega, .inr ⟨W.heap.size, (Builtin.zeroCells z.cells (grownCap W (n + m) c e - (n + m))).toList, rfl, hbase, ?_, ?_⟩⟩, ⟨rfl, rfl, rfl, by simp, fun k hk _ => Below.heap_alloc W.drew _ k hk⟩, .inr ⟨_, rfl, Nat.le_refl _⟩⟩
      · rw [show W.heap.size = W.drew.heap.size from rfl, heap_alloc_new W.drew]
        simp
      · rw [Array.length_toList, hzc, Nat.sub_mul]
        have := Nat.mul_le_mul_right sz (grownCap_ge W (n + m) c e)
        omega

/-- append(s, x, ..): behind 'at_builtin'; the goal's world is 'W.alloc' of the box -/
theorem app_boxK {ops : Array Oper} {rest : List Oper} {o : Oper} {a : Act} {Q : Exit → Act → World → Prop} {W : World} (base : Nat) (hgd : o.guard = none) (s x : Operand) (t e : TypeId) (z : Value) (sz bytes : Nat)
    (ho : o.op = .call { callee := .builtin .append, args := #[s, x], argTypes := #[t, t] })
    (ht : P.underlying t = some (.slice e)) (hinfo : (P.info? e).map (fun i => (i.zero, i.size, i.bytes)) = some (some z, sz, bytes)) (hz : z.cells.size = sz) (hb0 : 0 < bytes)
    (A : Option Addr) (n c : Nat) (vs : List Value) (g m d : Nat) (cs : Array Value) (T : TypeId) (hg : W.heap[g]? = some (.cells cs T (0, 0))) (hcs : cs.size = m * sz) (hs : a.eval s = .slice A n c) (hx : a.eval x = .slice (some ⟨g, 0, none⟩) m d) (h1 : ∀ u ∈ cs.toList, u.oneCell' = true)
    (hm : MineK sz e W base A n c vs) (hbase : base ≤ W.heap.size) (hpos : 0 < m) (hl : (n + m) * bytes ≤ 140737488355328)
    (h : ∀ A' c' w', MineK sz e w' base A' (n + m) c' (vs ++ cs.toList) → W.grownBy w' (blockOf A) → (blockOf A' = blockOf A ∨ ∃ k, blockOf A' = some k ∧ W.heap.size ≤ k) → wpList P ops Q rest (a.put o.dst (.slice A' (n + m) c')) w') :
    wpList P ops Q (o :: rest) a W := by
  refine wpList_plain hgd fun _ hK => ?_
  obtain ⟨A', c', w', hr, h2, h3, h4⟩ := run_append_mineK (P := P) W base t o.type e z sz bytes ht hinfo hz hb0 A n c vs hm ⟨g, 0, none⟩ m d cs.toList (by simpa using hcs)
    (World.news_of_block hg) h1 hl hbase hpos
  unfold Oper.wp execOp
  simp only [ho, resolve, invoke, builtin, Sem.run_bind, Sem.run_pure, Result.andThen_ok, List.map_toArray, List.map_cons, List.map_nil, hs, hx, hr]
  exact hK _ _ (h A' c' w' h2 h3 h4)
end

end Go.Proofs.YtekcpapkicmckaaGreatDoor

namespace Go.Proofs.YtekcpapkicmckaaGreatDoor
open Go.RowKit

/-- a slice's head: where it lies, how many, how many there is room for -/
abbrev Hd := Option Addr × Nat × Nat
/-- the block that a slice can be written in -/
def hdBlock (h : Hd) : Option Nat := if h.2.2 = 0 then none else blockOf h.1
def opRow (h : Hd) (v : OpV) : List Value := opCells h.1 h.2.1 h.2.2 v
def flatOps : List Hd → List OpV → List Value
  | h :: hs, v :: vs => opRow h v ++ flatOps hs vs
  | _, _ => []
theorem opRow_length (h : Hd) (v : OpV) : (opRow h v).length = 8 := rfl
theorem flatOps_length : ∀ (hs : List Hd) (ops : List OpV), hs.length = ops.length → (flatOps hs ops).length = ops.length * 8
  | [], [], _ => rfl
  | h :: hs, v :: vs, e => by
    simp only [List.length_cons, Nat.add_right_cancel_iff] at e
    simp only [flatOps, List.length_append, opRow_length, List.length_cons, flatOps_length hs vs e]
    omega
theorem flatOps_snoc : ∀ (hs : List Hd) (ops : List OpV) (h : Hd) (v : OpV), hs.length = ops.length → flatOps (hs ++ [h]) (ops ++ [v]) = flatOps hs ops ++ opRow h v
  | [], [], h, v, _ => by simp [flatOps]
  | h1 :: hs, v1 :: vs, h, v, e => by
    simp only [List.length_cons, Nat.add_right_cancel_iff] at e
    simp only [List.cons_append, flatOps, flatOps_snoc hs vs h v e, List.append_assoc]
theorem flatOps_get : ∀ (hs : List Hd) (ops : List OpV) (e : hs.length = ops.length) (j : Nat) (hj : j < ops.length) (k : Nat), k < 8 → (flatOps hs ops)[j * 8 + k]? = (opRow (hs[j]'(by omega)) ops[j])[k]?
  | [], [], _, j, hj, k, _ => by simp at hj
  | h1 :: hs, v1 :: vs, e, 0, hj, k, hk => by
    simp only [flatOps]
    rw [List.getElem?_append_left (by rw [opRow_length]; omega)]
    simp
  | h1 :: hs, v1 :: vs, e, j + 1, hj, k, hk => by
    simp only [List.length_cons, Nat.add_right_cancel_iff] at e
    simp only [flatOps]
    rw [List.getElem?_append_right (by rw [opRow_length]; omega), opRow_length, show (j + 1) * 8 + k - 8 = j * 8 + k by omega, flatOps_get hs vs e j (by simpa using hj) k hk]
    simp
theorem flatOps_take : ∀ (hs : List Hd) (ops : List OpV) (k : Nat), hs.length = ops.length → k ≤ ops.length → flatOps (hs.take k) (ops.take k) = (flatOps hs ops).take (k * 8)
  | hs, ops, 0, _, _ => by simp [flatOps]
  | [], [], k + 1, _, h => by simp at h
  | h1 :: hs, v1 :: vs, k + 1, e, hk => by
    simp only [List.length_cons, Nat.add_right_cancel_iff] at e
    simp only [List.take_succ_cons, flatOps, flatOps_take hs vs k e (by simpa using hk)]
    rw [List.take_append, opRow_length, show (k + 1) * 8 - 8 = k * 8 by omega, List.take_of_length_le (l := opRow h1 v1) (by rw [opRow_length]; omega)]
/-- one field of an operation, written over -/
theorem flatOps_set : ∀ (hs : List Hd) (ops : List OpV) (e : hs.length = ops.length) (j : Nat) (hj : j < ops.length) (k : Nat), k < 8 → ∀ (x : Value) (v' : OpV), opRow (hs[j]'(by omega)) v' = (opRow (hs[j]'(by omega)) ops[j]).set k x →
    (flatOps hs ops).set (j * 8 + k) x = flatOps hs (ops.set j v')
  | [], [], _, j, hj, k, _ => by simp at hj
  | h1 :: hs, v1 :: vs, e, 0, hj, k, hk => fun x v' h => by
    simp only [List.set_cons_zero, flatOps]
    rw [List.set_append_left _ _ (by rw [opRow_length]; omega)]
    simp at h
    rw [h]
    simp
  | h1 :: hs, v1 :: vs, e, j + 1, hj, k, hk => fun x v' h => by
    simp only [List.length_cons, Nat.add_right_cancel_iff] at e
    simp only [List.set_cons_succ, flatOps]
    rw [List.set_append_right _ _ (by rw [opRow_length]; omega), opRow_length, show (j + 1) * 8 + k - 8 = j * 8 + k by omega, flatOps_set hs vs e j (by simpa using hj) k hk x v' (by simpa using h)]

/-- categories of the call's own: none at all, or at the head of a block of its own -/
def CatOwn (w : World) (base : Nat) (h : Hd) (zs : List Int) : Prop := (h.2.1 = 0 ∧ h.2.2 = 0 ∧ zs = []) ∨ Mine 3 w base h.1 h.2.1 h.2.2 (i64s zs)
theorem CatOwn.sl {w : World} {base : Nat} {h : Hd} {zs : List Int} (c : CatOwn w base h zs) : Sl w h.1 h.2.1 h.2.2 (i64s zs) := by
  rcases c with ⟨h1, h2, rfl⟩ | c
  · exact ⟨by rw [h1]; rfl, by omega, by omega, fun hn => by omega⟩
  · exact c.sl
theorem CatOwn.below {w w' : World} {base : Nat} {h : Hd} {zs : List Int} (c : CatOwn w base h zs) (hb : Below w.heap.size w w') : CatOwn w' base h zs := c.imp id fun c => c.below hb
theorem CatOwn.mono {w : World} {base base' : Nat} {h : Hd} {zs : List Int} (c : CatOwn w base h zs) (hb : base' ≤ base) : CatOwn w base' h zs := c.imp id fun c => c.mono hb
theorem CatOwn.kept {w w' : World} {base : Nat} {h : Hd} {zs : List Int} (c : CatOwn w base h zs) {row : Option Nat} (hg : w.grownBy w' row) (hne : hdBlock h = none ∨ hdBlock h ≠ row) : CatOwn w' base h zs := by
  rcases c with c | c
  · exact .inl c
  · by_cases h0 : h.2.2 = 0
    · have hc := c.cap
      have hl := c.len
      refine .inl ⟨by omega, h0, ?_⟩
      rw [i64s_length] at hl
      exact List.eq_nil_of_length_eq_zero (by omega)
    · refine .inr (c.kept hg ?_)
      unfold hdBlock at hne
      rwa [if_neg h0] at hne
theorem CatOwn.lt {w : World} {base : Nat} {h : Hd} {zs : List Int} (c : CatOwn w base h zs) : ∀ k, hdBlock h = some k → base ≤ k ∧ k < w.heap.size := by
  intro k hk
  unfold hdBlock at hk
  split at hk
  · cases hk
  · rcases c with ⟨_, h2, _⟩ | c
    · contradiction
    · exact c.lt k hk

/-- the heads of the operations' categories -/
def Heads (w : World) (base : Nat) (A : Option Addr) (n c : Nat) (ops : List OpV) (hs : List Hd) : Prop :=
  hs.length = ops.length ∧ MineK 8 75 w base A n c (flatOps hs ops) ∧ (∀ j (h1 : j < hs.length) (h2 : j < ops.length), CatOwn w base hs[j] ops[j].cats) ∧
    (∀ h ∈ hs, hdBlock h = none ∨ hdBlock h ≠ blockOf A) ∧ hs.Pairwise (fun h h' => ∀ k k', hdBlock h = some k → hdBlock h' = some k' → k ≠ k')
/-- a program's operations in memory of the call's own -/
structure OwnOps (w : World) (base : Nat) (A : Option Addr) (n c : Nat) (ops : List OpV) : Prop where
  hds : ∃ hs : List Hd, Heads w base A n c ops hs
  rng : ∀ v ∈ ops, OpRng v ∧ ∀ z ∈ v.cats, -9223372036854775808 ≤ z ∧ z ≤ 9223372036854775807

section
variable {w w' : World} {base : Nat} {A : Option Addr} {n c : Nat} {ops : List OpV}
theorem OwnOps.len (h : OwnOps w base A n c ops) : ops.length = n := by
  obtain ⟨hs, e, hm, _⟩ := h.hds
  have := hm.len
  rw [flatOps_length hs ops e] at this
  omega
theorem OwnOps.nil (w : World) (base : Nat) : OwnOps w base none 0 0 [] := ⟨⟨[], rfl, MineK.nil _ _ _ _, fun j h => by simp at h, fun h hh => by simp at hh, List.Pairwise.nil⟩, fun v hv => by simp at hv⟩
theorem OwnOps.below (h : OwnOps w base A n c ops) (hb : Below w.heap.size w w') : OwnOps w' base A n c ops := by
  obtain ⟨hs, e, hm, hc, h1, h2⟩ := h.hds
  exact ⟨⟨hs, e, hm.below hb, fun j a b => (hc j a b).below hb, h1, h2⟩, h.rng⟩
theorem OwnOps.mono {base' : Nat} (h : OwnOps w base A n c ops) (hb : base' ≤ base) : OwnOps w base' A n c ops := by
  obtain ⟨hs, e, hm, hc, h1, h2⟩ := h.hds
  exact ⟨⟨hs, e, hm.mono hb, fun j a b => (hc j a b).mono hb, h1, h2⟩, h.rng⟩
theorem OwnOps.lt (h : OwnOps w base A n c ops) : ∀ k, blockOf A = some k → base ≤ k ∧ k < w.heap.size := by
  obtain ⟨hs, e, hm, _⟩ := h.hds
  exact hm.lt
theorem OwnOps.some_of (h : OwnOps w base A n c ops) (hn : 0 < n) : ∃ g, A = some ⟨g, 0, none⟩ ∧ base ≤ g ∧ g < w.heap.size := by
  obtain ⟨hs, e, hm, _⟩ := h.hds
  exact hm.some_of hn
theorem OwnOps.cap (h : OwnOps w base A n c ops) : n ≤ c := by
  obtain ⟨hs, e, hm, _⟩ := h.hds
  exact hm.cap
theorem OwnOps.opsAt (h : OwnOps w base A n c ops) : OpsAt w A n c ops := by
  have hlen := h.len
  obtain ⟨hs, e, hm, hc, h1, h2⟩ := h.hds
  refine ⟨hlen, hm.cap, hm.big, fun hn => ?_⟩
  obtain ⟨g, rfl, hbg, hgl⟩ := hm.some_of hn
  refine ⟨g, 0, rfl, fun j hj => ?_⟩
  refine ⟨(hs[j]'(by omega)).1, (hs[j]'(by omega)).2.1, (hs[j]'(by omega)).2.2, fun k v hv => ?_, ⟨(hc j (by omega) hj).sl, (h.rng _ (List.getElem_mem hj)).2⟩, (h.rng _ (List.getElem_mem hj)).1⟩
  have hk : k < 8 := (List.getElem?_eq_some_iff.1 hv).1
  have hf := flatOps_get hs ops e j hj k hk
  rw [show opRow (hs[j]'(by omega)) ops[j] = opCells (hs[j]'(by omega)).1 (hs[j]'(by omega)).2.1 (hs[j]'(by omega)).2.2 ops[j] from rfl, hv] at hf
  have hcl := hm.cell (j * 8 + k) (by omega)
  rw [List.getD_eq_getElem?_getD, hf] at hcl
  rw [Nat.zero_add]
  exact hcl
/-- one operation more; its categories were laid since a world w0 -/
theorem OwnOps.snoc {w0 : World} {hs : List Hd} (hh : Heads w0 base A n c ops hs) (hrg : ∀ v ∈ ops, OpRng v ∧ ∀ z ∈ v.cats, -9223372036854775808 ≤ z ∧ z ≤ 9223372036854775807) (hb : Below w0.heap.size w0 w) {hd : Hd} {v : OpV} {A' : Option Addr} {c' : Nat} (hcat : CatOwn w base hd v.cats) (hv : OpRng v) (hz : ∀ z ∈ v.cats, -9223372036854775808 ≤ z ∧ z ≤ 9223372036854775807)
    (hnew : ∀ k, hdBlock hd = some k → w0.heap.size ≤ k)
    (hm : MineK 8 75 w' base A' (n + 1) c' (flatOps hs ops ++ opRow hd v)) (hg : w.grownBy w' (blockOf A))
    (hA : blockOf A' = blockOf A ∨ ∃ k, blockOf A' = some k ∧ w.heap.size ≤ k) : OwnOps w' base A' (n + 1) c' (ops ++ [v]) := by
  obtain ⟨e, hmk, hc, h1, h2⟩ := hh
  have hAlt := hmk.lt
  have hcw : ∀ j (h1 : j < (hs ++ [hd]).length) (h2 : j < (ops ++ [v]).length), CatOwn w base (hs ++ [hd])[j] (ops ++ [v])[j].cats := by
    intro j a b
    by_cases hj : j < ops.length
    · rw [List.getElem_append_left (by omega), List.getElem_append_left hj]
      exact (hc j (by omega) hj).below hb
    · have hj' : j = ops.length := by simp at b; omega
      subst hj'
      rw [List.getElem_append_right (by omega), List.getElem_append_right (by omega)]
      simpa using hcat
  have hsep : ∀ h ∈ hs ++ [hd], hdBlock h = none ∨ hdBlock h ≠ blockOf A := by
    intro h hh
    rcases List.mem_append.1 hh with hh | hh
    · exact h1 h hh
    · obtain rfl := List.mem_singleton.1 hh
      cases hk : hdBlock h with
      | none => exact .inl rfl
      | some k =>
        refine .inr fun e => ?_
        have := (hAlt k e.symm).2
        have := hnew k hk
        omega
  refine ⟨⟨hs ++ [hd], by simp [e], by rw [flatOps_snoc hs ops hd v e]; exact hm, fun j a b => (hcw j a b).kept hg (hsep _ (List.getElem_mem a)), fun h hh => ?_, ?_⟩, fun u hu => ?_⟩
  · rcases hA with hA | ⟨k, hk, hkl⟩
    · rw [hA]; exact hsep h hh
    · obtain ⟨j, hj, rfl⟩ := List.mem_iff_getElem.1 hh
      cases hb : hdBlock ((hs ++ [hd])[j]) with
      | none => exact .inl rfl
      | some k' =>
        have hjl : j < (ops ++ [v]).length := by simp at hj ⊢; omega
        have := ((hcw j hj hjl).lt k' hb).2
        exact .inr (by rw [hk]; intro e; injection e with e; omega)
  · rw [List.pairwise_append]
    refine ⟨h2, List.pairwise_singleton _ _, fun a ha b hb => ?_⟩
    obtain rfl := List.mem_singleton.1 hb
    intro k k' hk hk'
    obtain ⟨j, hj, rfl⟩ := List.mem_iff_getElem.1 ha
    have := ((hc j hj (by omega)).lt k hk).2
    have := hnew k' hk'
    omega
  · rcases List.mem_append.1 hu with hu | hu
    · exact hrg u hu
    · obtain rfl := List.mem_singleton.1 hu
      exact ⟨hv, hz⟩
/-- a field written over -/
theorem OwnOps.stored {g : Nat} (h : OwnOps w base (some ⟨g, 0, none⟩) n c ops) (j : Nat) (hj : j < ops.length) (k : Nat) (hk : k < 8) (x : Value) (v' : OpV) (hx : ∀ hd : Hd, opRow hd v' = (opRow hd ops[j]).set k x) (hcat : v'.cats = ops[j].cats) (hv : OpRng v') :
    OwnOps (w.setCell ⟨g, j * 8 + k, none⟩ x) base (some ⟨g, 0, none⟩) n c (ops.set j v') := by
  have hlen := h.len
  obtain ⟨hs, e, hm, hc, h1, h2⟩ := h.hds
  refine ⟨⟨hs, by rw [List.length_set]; exact e, by rw [← flatOps_set hs ops e j hj k hk x v' (hx _)]; exact hm.stored _ (by omega) x, fun i a b => ?_, h1, h2⟩, fun u hu => ?_⟩
  · have hcw : CatOwn w base hs[i] (ops.set j v')[i].cats := by
      rw [List.getElem_set]
      split
      · next e => subst e; rw [hcat]; exact hc j a hj
      · exact hc i a (by simpa using b)
    exact hcw.kept (setCell_grownBy w g (j * 8 + k) x) (h1 _ (List.getElem_mem a))
  · rcases List.mem_or_eq_of_mem_set hu with hu | rfl
    · exact h.rng u hu
    · exact ⟨hv, by rw [hcat]; exact (h.rng _ (List.getElem_mem hj)).2⟩
end

end Go.Proofs.YtekcpapkicmckaaGreatDoor
