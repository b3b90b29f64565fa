/- Programs of operations in plain Lean: right ones, what they answer, tidied ones. Runs of programs in plain Lean; what a right program's operations are like. Tidied programs in plain Lean. The shape of trees in plain Lean. A shape that is right is a tree, in plain Lean. Compiled trees in plain Lean. What a tidied program says, in plain Lean: it is right, no longer, says the same in no more, and is tidy. A compiled program is right and says what the ensemble says, in plain Lean. -/
import Derived.Test.YtekcpapkicmckaaGreatDoorNat
import Derived.WalkKit
import Derived.Laws.Cover2
namespace Go.Proofs.YtekcpapkicmckaaGreatDoor

/-- an operation -/
structure OpV where
  kind : Nat
  feature : Int
  thr : Nat
  cats : List Int
  missing : Nat
  output : Int
  value : Int
  dest : Int

/-- the last one of rising categories behind a number; none: they don't rise, or one is too great -/
def risingF : Int → List Int → Option Int
  | last, [] => some last
  | last, c :: l => if c ≤ last ∨ 1024 ≤ c then none else risingF c l
def rising (l : List Int) : Bool := match risingF (-1) l with
  | some last => decide (0 ≤ last)
  | none => false

theorem risingF_snoc (last c : Int) (l : List Int) : risingF last (l ++ [c]) = (risingF last l).bind fun b => if c ≤ b ∨ 1024 ≤ c then none else some c := by
  induction l generalizing last with
  | nil => simp [risingF]
  | cons d l ih =>
    simp only [List.cons_append, risingF]
    split
    · rfl
    · exact ih d

/-- is an operation of a program right? -/
def rightV (F O n i : Int) (o : OpV) : Bool :=
  decide (1 ≤ o.kind ∧ o.kind ≤ 5) && decide (i = n - 1 → o.kind = 5) &&
  (if o.kind ≤ 2 then decide (0 ≤ o.feature ∧ o.feature < F ∧ (o.missing = 1 ∨ o.missing = 2)) else decide (o.feature = 0 ∧ o.missing = 0)) &&
  (if o.kind = 1 then decide (FloatKind.f64.format.order o.thr o.thr = some Ordering.eq) else decide (o.thr = 0)) &&
  (if o.kind = 2 then rising o.cats else decide (o.cats = [])) &&
  (if o.kind = 3 then decide (0 ≤ o.output ∧ o.output < O) else decide (o.output = 0 ∧ o.value = 0)) &&
  (if o.kind = 3 ∨ o.kind = 5 then decide (o.dest = 0) else decide (i < o.dest ∧ o.dest < n))

/-- the first operation from a place on that is not right -/
def faultF (F O n : Int) : Nat → List OpV → Option Nat
  | _, [] => none
  | i, o :: l => if rightV F O n i o then faultF F O n (i + 1) l else some i

/-- where there is a fault; what a program of so many operations is -/
def chkEnd (n : Nat) : Option Nat → Int × Int
  | some i => (190, (i : Int))
  | none => if n = 0 then (190, 0) else (0, 0)
/-- the fault of a program, its place -/
def checkV (F O : Int) (ops : List OpV) : Int × Int :=
  if F < 0 ∨ 65536 < F ∨ O < 1 ∨ 64 < O then (6, 0) else chkEnd ops.length (faultF F O ops.length 0 ops)

end Go.Proofs.YtekcpapkicmckaaGreatDoor

namespace Go.Proofs.YtekcpapkicmckaaGreatDoor
open Go.RowKit

def op0 : OpV := ⟨0, 0, 0, [], 0, 0, 0, 0⟩
def opAt (ops : List OpV) (i : Nat) : OpV := ops.getD i op0
theorem opAt_get {ops : List OpV} {i : Nat} (h : i < ops.length) : opAt ops i = ops[i] := by
  unfold opAt; rw [List.getD_eq_getElem?_getD, List.getElem?_eq_getElem h]; rfl

/-- no number? -/
def nanF (x : Nat) : Bool := !(FloatKind.f64.format.order x x == some Ordering.eq)
/-- at most? -/
def leF (x y : Nat) : Bool := (match FloatKind.f64.format.order x y with | some .lt => true | some .eq => true | _ => false)
/-- is a number one of some categories? -/
def isCat (zs : List Int) (x : Nat) : Bool := zs.any fun z => FloatKind.f64.format.order (floatOfInt FloatKind.f64 z) x == some Ordering.eq
/-- the side that a number goes to: 1 left, 2 right -/
def sideV (cats : Bool) (thr : Nat) (zs : List Int) (missing x : Nat) : Nat :=
  if nanF x then missing else if (if cats then isCat zs x else leF x thr) then 1 else 2
/-- does a vector go on with the next operation? -/
def goesOn (o : OpV) (xs : List Nat) : Bool := decide (sideV (decide (o.kind = 2)) o.thr o.cats o.missing (xs.getD o.feature.toNat 0) = 1)

/-- a sum's new number -/
def bump (S : List Int) (o : OpV) : List Int := S.set o.output.toNat (wrap64 (S.getD o.output.toNat 0 + o.value))
/-- the next operation's number -/
def nextAt (o : OpV) (xs : List Nat) (i : Nat) : Nat :=
  if o.kind = 3 then i + 1 else if o.kind = 4 then o.dest.toNat else if goesOn o xs then i + 1 else o.dest.toNat
def nextSums (o : OpV) (S : List Int) : List Int := if o.kind = 3 then bump S o else S
/-- a run from an operation on: the sums, the operations that are done -/
def runF (ops : List OpV) (xs : List Nat) : Nat → Nat → List Int → List Int × List Int
  | 0, _, S => (S, [])
  | f + 1, i, S =>
    let o := opAt ops i
    if o.kind = 5 then (S, [(i : Int)])
    else
      let r := runF ops xs f (nextAt o xs i) (nextSums o S)
      (r.1, (i : Int) :: r.2)
/-- what a program answers: sums, done operations, why not -/
def runV (F O : Int) (ops : List OpV) (xs : List Nat) : List Int × List Int × Int :=
  if (checkV F O ops).1 ≠ 0 then ([], [], (checkV F O ops).1)
  else if (xs.length : Int) ≠ F then ([], [], 72)
  else
    let r := runF ops xs ops.length 0 (List.replicate O.toNat 0)
    (r.1, r.2, 0)

theorem faultF_none {F O n : Int} : ∀ (l : List OpV) (i : Nat), faultF F O n i l = none → ∀ j (h : j < l.length), rightV F O n ((i + j : Nat) : Int) l[j] = true
  | [], _, _, j, h => by simp at h
  | o :: l, i, hf, j, h => by
    unfold faultF at hf
    by_cases hr : rightV F O n i o = true
    · rw [if_pos hr] at hf
      cases j with
      | zero => simpa using hr
      | succ j =>
        have := faultF_none l (i + 1) hf j (by simpa using h)
        rw [show i + 1 + j = i + (j + 1) by omega] at this
        simpa using this
    · rw [if_neg hr] at hf; cases hf

theorem wrong_first {F O : Int} {ops : List OpV} : (checkV F O ops).1 = 0 → checkV F O ops = (0, 0) := by
  unfold checkV
  split
  · intro h; simp at h
  · unfold chkEnd
    split
    · intro h; simp at h
    · split
      · intro h; simp at h
      · intro _; rfl

/-- a right program -/
structure RightP (F O : Int) (ops : List OpV) : Prop where
  feats : 0 ≤ F ∧ F ≤ 65536
  outs : 1 ≤ O ∧ O ≤ 64
  some : 0 < ops.length
  all : ∀ i, i < ops.length → rightV F O ops.length i (opAt ops i) = true

theorem rightP_of {F O : Int} {ops : List OpV} (h : checkV F O ops = (0, 0)) : RightP F O ops := by
  unfold checkV at h
  split at h
  · simp at h
  · next hb =>
    unfold chkEnd at h
    split at h
    · simp at h
    · next hn =>
      split at h
      · simp at h
      · refine ⟨by omega, by omega, by omega, fun i hi => ?_⟩
        have := faultF_none ops 0 hn i hi
        rw [Nat.zero_add] at this
        rw [opAt_get hi]; exact this

/-- what a right operation is like -/
structure RightO (F O n i : Int) (o : OpV) : Prop where
  kind : 1 ≤ o.kind ∧ o.kind ≤ 5
  last : i = n - 1 → o.kind = 5
  feature : o.kind ≤ 2 → 0 ≤ o.feature ∧ o.feature < F ∧ (o.missing = 1 ∨ o.missing = 2)
  nofeature : 3 ≤ o.kind → o.feature = 0 ∧ o.missing = 0
  thr : o.kind = 1 → FloatKind.f64.format.order o.thr o.thr = some Ordering.eq
  nothr : o.kind ≠ 1 → o.thr = 0
  cats : o.kind = 2 → rising o.cats = true
  nocats : o.kind ≠ 2 → o.cats = []
  output : o.kind = 3 → 0 ≤ o.output ∧ o.output < O
  nooutput : o.kind ≠ 3 → o.output = 0 ∧ o.value = 0
  dest : o.kind ≠ 3 → o.kind ≠ 5 → i < o.dest ∧ o.dest < n
  nodest : o.kind = 3 ∨ o.kind = 5 → o.dest = 0

theorem rightO_iff {F O n i : Int} {o : OpV} : rightV F O n i o = true ↔ RightO F O n i o := by
  unfold rightV
  simp only [Bool.and_eq_true, decide_eq_true_eq]
  constructor
  · rintro ⟨⟨⟨⟨⟨⟨h1, h2⟩, h3⟩, h4⟩, h5⟩, h6⟩, h7⟩
    refine ⟨h1, h2, fun h => ?_, fun h => ?_, fun h => ?_, fun h => ?_, fun h => ?_, fun h => ?_, fun h => ?_, fun h => ?_, fun h h' => ?_, fun h => ?_⟩
    · rw [if_pos h] at h3; simpa using h3
    · rw [if_neg (by omega)] at h3; simpa using h3
    · rw [if_pos h] at h4; simpa using h4
    · rw [if_neg h] at h4; simpa using h4
    · rw [if_pos h] at h5; simpa using h5
    · rw [if_neg h] at h5; simpa using h5
    · rw [if_pos h] at h6; simpa using h6
    · rw [if_neg h] at h6; simpa using h6
    · rw [if_neg (by omega)] at h7; simpa using h7
    · rw [if_pos h] at h7; simpa using h7
  · rintro ⟨h1, h2, h3, h3', h4, h4', h5, h5', h6, h6', h7, h7'⟩
    refine ⟨⟨⟨⟨⟨⟨h1, h2⟩, ?_⟩, ?_⟩, ?_⟩, ?_⟩, ?_⟩
    · split
      · simpa using h3 (by assumption)
      · simpa using h3' (by omega)
    · split
      · simpa using h4 (by assumption)
      · simpa using h4' (by assumption)
    · split
      · simpa using h5 (by assumption)
      · simpa using h5' (by assumption)
    · split
      · simpa using h6 (by assumption)
      · simpa using h6' (by assumption)
    · split
      · simpa using h7' (by assumption)
      · simpa using h7 (by omega) (by omega)

theorem RightP.at {F O : Int} {ops : List OpV} (h : RightP F O ops) {i : Nat} (hi : i < ops.length) : RightO F O ops.length i (opAt ops i) := rightO_iff.1 (h.all i hi)
theorem RightP.next {F O : Int} {ops : List OpV} (h : RightP F O ops) {i : Nat} (hi : i < ops.length) (h5 : (opAt ops i).kind ≠ 5) : i + 1 < ops.length := by
  have := (h.at hi).last
  by_cases e : i + 1 = ops.length
  · exact absurd (this (by omega)) h5
  · omega
theorem RightP.jump {F O : Int} {ops : List OpV} (h : RightP F O ops) {i : Nat} (hi : i < ops.length) (h3 : (opAt ops i).kind ≠ 3) (h5 : (opAt ops i).kind ≠ 5) : i < (opAt ops i).dest.toNat ∧ (opAt ops i).dest.toNat < ops.length ∧ (opAt ops i).dest = ((opAt ops i).dest.toNat : Int) := by
  have := (h.at hi).dest h3 h5
  omega
theorem RightP.nextAt {F O : Int} {ops : List OpV} (h : RightP F O ops) {i : Nat} (hi : i < ops.length) (h5 : (opAt ops i).kind ≠ 5) (xs : List Nat) : i < nextAt (opAt ops i) xs i ∧ Proofs.YtekcpapkicmckaaGreatDoor.nextAt (opAt ops i) xs i < ops.length := by
  have hn := h.next hi h5
  unfold Proofs.YtekcpapkicmckaaGreatDoor.nextAt
  split
  · omega
  · have := h.jump hi (by assumption) h5
    split
    · omega
    · split <;> omega

end Go.Proofs.YtekcpapkicmckaaGreatDoor

namespace Go.Proofs.YtekcpapkicmckaaGreatDoor

/-- where operations land, from below: the table behind k operations -/
def landStep (ops : List OpV) (L : List Nat) (i : Nat) : Nat :=
  let o := opAt ops i
  if o.kind = 4 then L.getD o.dest.toNat 0 else if o.kind = 3 ∧ o.value = 0 then L.getD (i + 1) 0 else i
def landT (ops : List OpV) : Nat → List Nat
  | 0 => List.replicate ops.length 0
  | k + 1 => (landT ops k).set (ops.length - 1 - k) (landStep ops (landT ops k) (ops.length - 1 - k))
def lands (ops : List OpV) : List Nat := landT ops ops.length

/-- a test? -/
def testV (o : OpV) : Bool := decide (o.kind = 1 ∨ o.kind = 2)
/-- the operations that stay, from above -/
def markV (ops : List OpV) (L : List Nat) (R : List Bool) (i : Nat) : List Bool :=
  let o := opAt ops i
  let R1 := if o.kind = 5 then R else R.set (L.getD (i + 1) 0) true
  if testV o then R1.set (L.getD o.dest.toNat 0) true else R1
def realT (ops : List OpV) (L : List Nat) : Nat → List Bool × List Nat
  | 0 => ((List.replicate ops.length false).set (L.getD 0 0) true, [])
  | k + 1 =>
    let r := realT ops L k
    if r.1.getD k false then (markV ops L r.1 k, r.2 ++ [k]) else r
/-- their numbers -/
def stays (ops : List OpV) : List Nat := (realT ops (lands ops) ops.length).2

/-- does the k-th want a jump behind it? -/
def jumpy (ops : List OpV) (L l : List Nat) (k : Nat) : Bool :=
  decide ((opAt ops (l.getD k 0)).kind ≠ 5) && (decide (k + 1 = l.length) || decide (L.getD (l.getD k 0 + 1) 0 ≠ l.getD (k + 1) 0))
/-- how many operations there are ahead of the k-th -/
def posT (ops : List OpV) (L l : List Nat) : Nat → Nat
  | 0 => 0
  | k + 1 => posT ops L l k + 1 + (if jumpy ops L l k then 1 else 0)
/-- the places of the first k -/
def placeT (ops : List OpV) (L l : List Nat) : Nat → List Nat
  | 0 => List.replicate ops.length 0
  | k + 1 => (placeT ops L l k).set (l.getD k 0) (posT ops L l k)
def jumpTo (x : Int) : OpV := ⟨4, 0, 0, [], 0, 0, 0, x⟩
/-- the first k operations, with their jumps, out of a table of places -/
def outT (ops : List OpV) (L l pl : List Nat) : Nat → List OpV
  | 0 => []
  | k + 1 =>
    let o := opAt ops (l.getD k 0)
    outT ops L l pl k ++ [if testV o then { o with dest := (pl.getD (L.getD o.dest.toNat 0) 0 : Nat) } else o] ++
      (if jumpy ops L l k then [jumpTo (pl.getD (L.getD (l.getD k 0 + 1) 0) 0 : Nat)] else [])
/-- the tidied program -/
def tidyOps (ops : List OpV) : List OpV :=
  let L := lands ops
  let l := stays ops
  outT ops L l (placeT ops L l l.length) l.length

theorem landT_length (ops : List OpV) : ∀ k, (landT ops k).length = ops.length
  | 0 => by simp [landT]
  | k + 1 => by simp [landT, landT_length ops k]
theorem lands_length (ops : List OpV) : (lands ops).length = ops.length := landT_length ops _
theorem landT_lt (ops : List OpV) (hn : 0 < ops.length) : ∀ k j, (landT ops k).getD j 0 < ops.length
  | 0, j => by
    simp only [landT, List.getD_eq_getElem?_getD, List.getElem?_replicate]
    split <;> simpa using hn
  | k + 1, j => by
    simp only [landT, List.getD_eq_getElem?_getD, List.getElem?_set]
    split
    · split
      · simp only [Option.getD_some]
        unfold landStep
        simp only
        split
        · exact landT_lt ops hn k _
        · split
          · exact landT_lt ops hn k _
          · omega
      · simpa using hn
    · have := landT_lt ops hn k j
      rwa [List.getD_eq_getElem?_getD] at this
theorem lands_lt (ops : List OpV) (hn : 0 < ops.length) (j : Nat) : (lands ops).getD j 0 < ops.length := landT_lt ops hn _ j

theorem markV_length (ops : List OpV) (L : List Nat) (R : List Bool) (i : Nat) : (markV ops L R i).length = R.length := by
  unfold markV
  simp only
  split <;> split <;> simp
theorem realT_length (ops : List OpV) (L : List Nat) : ∀ k, (realT ops L k).1.length = ops.length
  | 0 => by simp [realT]
  | k + 1 => by
    simp only [realT]
    split
    · rw [markV_length]; exact realT_length ops L k
    · exact realT_length ops L k
theorem realT_lt (ops : List OpV) (L : List Nat) : ∀ k, ∀ i ∈ (realT ops L k).2, i < k
  | 0 => by simp [realT]
  | k + 1 => by
    intro i
    simp only [realT]
    split
    · intro h
      rcases List.mem_append.1 h with h | h
      · exact Nat.lt_succ_of_lt (realT_lt ops L k i h)
      · simp at h; omega
    · intro h; exact Nat.lt_succ_of_lt (realT_lt ops L k i h)
theorem realT_many (ops : List OpV) (L : List Nat) : ∀ k, (realT ops L k).2.length ≤ k
  | 0 => by simp [realT]
  | k + 1 => by
    simp only [realT]
    have := realT_many ops L k
    split
    · simp; omega
    · omega
/-- rising numbers -/
theorem realT_rising (ops : List OpV) (L : List Nat) : ∀ k, (realT ops L k).2.Pairwise (· < ·)
  | 0 => by simp [realT]
  | k + 1 => by
    simp only [realT]
    split
    · rw [List.pairwise_append]
      refine ⟨realT_rising ops L k, List.pairwise_singleton _ _, fun a ha b hb => ?_⟩
      simp at hb
      have := realT_lt ops L k a ha
      omega
    · exact realT_rising ops L k
theorem stays_lt (ops : List OpV) : ∀ i ∈ stays ops, i < ops.length := realT_lt ops _ _
theorem stays_many (ops : List OpV) : (stays ops).length ≤ ops.length := realT_many ops _ _
theorem stays_rising (ops : List OpV) : (stays ops).Pairwise (· < ·) := realT_rising ops _ _
theorem posT_le (ops : List OpV) (L l : List Nat) : ∀ k, posT ops L l k ≤ 2 * k
  | 0 => Nat.le_refl _
  | k + 1 => by
    have := posT_le ops L l k
    simp only [posT]
    split <;> omega
theorem outT_length (ops : List OpV) (L l pl : List Nat) : ∀ k, (outT ops L l pl k).length = posT ops L l k
  | 0 => rfl
  | k + 1 => by
    simp only [outT, posT, List.length_append, outT_length ops L l pl k, List.length_singleton]
    split <;> simp
theorem placeT_length (ops : List OpV) (L l : List Nat) : ∀ k, (placeT ops L l k).length = ops.length
  | 0 => by simp [placeT]
  | k + 1 => by simp [placeT, placeT_length ops L l k]
theorem placeT_le (ops : List OpV) (L l : List Nat) : ∀ k j, (placeT ops L l k).getD j 0 ≤ 2 * k
  | 0, j => by
    simp only [placeT, List.getD_eq_getElem?_getD, List.getElem?_replicate]
    split <;> simp
  | k + 1, j => by
    simp only [placeT, List.getD_eq_getElem?_getD, List.getElem?_set]
    split
    · split
      · have := posT_le ops L l k
        simp; omega
      · simp
    · have := placeT_le ops L l k j
      rw [List.getD_eq_getElem?_getD] at this
      omega

/-- the first k operations as they were, with jumps that are not set yet; what each was -/
def out1 (ops : List OpV) (L l : List Nat) : Nat → List OpV
  | 0 => []
  | k + 1 => out1 ops L l k ++ [opAt ops (l.getD k 0)] ++ (if jumpy ops L l k then [jumpTo 0] else [])
def from1 (ops : List OpV) (L l : List Nat) : Nat → List Int
  | 0 => []
  | k + 1 => from1 ops L l k ++ [(l.getD k 0 : Int)] ++ (if jumpy ops L l k then [-1 - (L.getD (l.getD k 0 + 1) 0 : Int)] else [])
/-- an operation with its jump set -/
def fixV (L pl : List Nat) (o : OpV) (i : Int) : OpV :=
  if i < 0 then { o with dest := (pl.getD (-1 - i).toNat 0 : Nat) }
  else if testV o then { o with dest := (pl.getD (L.getD o.dest.toNat 0) 0 : Nat) } else o
theorem out1_length (ops : List OpV) (L l : List Nat) : ∀ k, (out1 ops L l k).length = posT ops L l k
  | 0 => rfl
  | k + 1 => by
    simp only [out1, posT, List.length_append, out1_length ops L l k, List.length_singleton]
    split <;> simp
theorem from1_length (ops : List OpV) (L l : List Nat) : ∀ k, (from1 ops L l k).length = posT ops L l k
  | 0 => rfl
  | k + 1 => by
    simp only [from1, posT, List.length_append, from1_length ops L l k, List.length_singleton]
    split <;> simp
theorem fixed_out (ops : List OpV) (L l pl : List Nat) : ∀ k, List.zipWith (fixV L pl) (out1 ops L l k) (from1 ops L l k) = outT ops L l pl k
  | 0 => rfl
  | k + 1 => by
    have h1 := out1_length ops L l k
    have h2 := from1_length ops L l k
    simp only [out1, from1, outT]
    rw [List.append_assoc, List.append_assoc, List.append_assoc, List.zipWith_append (by rw [h1, h2]), fixed_out ops L l pl k]
    congr 1
    have e0 : ¬ ((l.getD k 0 : Nat) : Int) < 0 := by omega
    have e1 : (-1 - (-1 - (L.getD (l.getD k 0 + 1) 0 : Int))).toNat = L.getD (l.getD k 0 + 1) 0 := by omega
    have e2 : (-1 - (L.getD (l.getD k 0 + 1) 0 : Int)) < 0 := by omega
    by_cases hj : jumpy ops L l k = true
    · simp only [hj, if_true, List.singleton_append, List.zipWith_cons_cons, List.zipWith_nil_left, fixV, if_neg e0, if_pos e2, e1]
      rfl
    · simp only [hj, List.append_nil, List.zipWith_cons_cons, List.zipWith_nil_left, fixV, if_neg e0, Bool.false_eq_true, if_false]

end Go.Proofs.YtekcpapkicmckaaGreatDoor

namespace Go.Proofs.YtekcpapkicmckaaGreatDoor

/-- a node of a tree -/
structure NdV where
  kind : Nat
  value : Int
  feature : Int
  thr : Nat
  cats : List Int
  missing : Nat
  left : Int
  right : Int

/-- an inner node? -/
def innerV (v : NdV) : Bool := decide (v.kind = 2 ∨ v.kind = 3)


def nd0 : NdV := ⟨0, 0, 0, 0, [], 0, 0, 0⟩
def ndAt (nds : List NdV) (i : Nat) : NdV := nds.getD i nd0
theorem ndAt_get {nds : List NdV} {i : Nat} (h : i < nds.length) : ndAt nds i = nds[i] := by
  unfold ndAt; rw [List.getD_eq_getElem?_getD, List.getElem?_eq_getElem h]; rfl

/-- is a node of a tree with so many right? -/
def nodeV (n : Int) (v : NdV) : Bool :=
  if v.kind = 1 then decide (v.feature = 0 ∧ v.thr = 0 ∧ v.cats = [] ∧ v.missing = 0 ∧ v.left = 0 ∧ v.right = 0)
  else decide (v.kind = 2 ∨ v.kind = 3) && decide (v.value = 0 ∧ 0 ≤ v.feature ∧ v.feature < 65536 ∧ (v.missing = 1 ∨ v.missing = 2) ∧ 1 ≤ v.left ∧ v.left < n ∧ 1 ≤ v.right ∧ v.right < n) &&
    (if v.kind = 2 then decide (FloatKind.f64.format.order v.thr v.thr = some Ordering.eq) && decide (v.cats = []) else decide (v.thr = 0) && rising v.cats)
/-- the first node from a place on that is not right -/
def splitF (n : Int) : Nat → List NdV → Option Nat
  | _, [] => none
  | i, v :: l => if nodeV n v then splitF n (i + 1) l else some i
/-- one more -/
def incAt (l : List Int) (i : Nat) : List Int := l.set i (l.getD i 0 + 1)
/-- how many of the first k nodes each is right below -/
def belowT (nds : List NdV) : Nat → List Int
  | 0 => List.replicate nds.length 0
  | k + 1 => if innerV (ndAt nds k) then incAt (incAt (belowT nds k) (ndAt nds k).left.toNat) (ndAt nds k).right.toNat else belowT nds k
/-- what is reached, from a stack (its top first) -/
def dfs (nds : List NdV) : Nat → List Bool → List Nat → List Bool
  | 0, R, _ => R
  | _ + 1, R, [] => R
  | f + 1, R, i :: st => if R.getD i false then dfs nds f R st else dfs nds f (R.set i true) (if innerV (ndAt nds i) then (ndAt nds i).right.toNat :: (ndAt nds i).left.toNat :: st else st)
def reachedV (nds : List NdV) : List Bool := dfs nds (3 * nds.length + 1) (List.replicate nds.length false) [0]
/-- the first node from a place on that is not right below one other, or not reached -/
def badF (b : List Int) (R : List Bool) : Nat → Nat → Option Nat
  | 0, _ => none
  | k + 1, i => if b.getD i 0 ≠ (if i = 0 then 0 else 1) ∨ R.getD i false = false then some i else badF b R k (i + 1)
/-- a tree's fault, its place -/
def shapeEnd : Option Nat → Option Nat → Int × Int
  | some i, _ => (71, (i : Int))
  | none, some i => (70, (i : Int))
  | none, none => (0, 0)
def shapeV (nds : List NdV) : Int × Int :=
  if nds.length = 0 then (70, 0) else shapeEnd (splitF nds.length 0 nds) (badF (belowT nds nds.length) (reachedV nds) nds.length 0)

theorem splitF_none {n : Int} : ∀ (l : List NdV) (i : Nat), splitF n i l = none → ∀ v ∈ l, nodeV n v = true
  | [], _, _ => by simp
  | v :: l, i, h => by
    unfold splitF at h
    split at h
    · next hv =>
      intro u hu
      rcases List.mem_cons.1 hu with rfl | hu
      · exact hv
      · exact splitF_none l (i + 1) h u hu
    · cases h
theorem badF_none {b : List Int} {R : List Bool} : ∀ (k i : Nat), badF b R k i = none → ∀ j, i ≤ j → j < i + k → b.getD j 0 = (if j = 0 then 0 else 1) ∧ R.getD j false = true
  | 0, i, _ => fun j h1 h2 => by omega
  | k + 1, i, h => by
    unfold badF at h
    by_cases hb : b.getD i 0 ≠ (if i = 0 then 0 else 1) ∨ R.getD i false = false
    · rw [if_pos hb] at h; cases h
    · rw [if_neg hb] at h
      intro j h1 h2
      by_cases e : j = i
      · subst e
        have h3 : b.getD j 0 = (if j = 0 then 0 else 1) := Classical.byContradiction fun h => hb (.inl h)
        have h4 : ¬ R.getD j false = false := fun h => hb (.inr h)
        exact ⟨h3, by simpa using h4⟩
      · exact badF_none k (i + 1) h j (by omega) (by omega)

theorem incAt_length (l : List Int) (i : Nat) : (incAt l i).length = l.length := by simp [incAt]
theorem belowT_length (nds : List NdV) : ∀ k, (belowT nds k).length = nds.length
  | 0 => by simp [belowT]
  | k + 1 => by
    simp only [belowT]
    split
    · rw [incAt_length, incAt_length]; exact belowT_length nds k
    · exact belowT_length nds k
theorem incAt_getD (l : List Int) (i j : Nat) (hi : i < l.length) : (incAt l i).getD j 0 = l.getD j 0 + (if i = j then 1 else 0) := by
  unfold incAt
  simp only [List.getD_eq_getElem?_getD, List.getElem?_set]
  split
  · next e => subst e; simp [hi]
  · simp

/-- a shape that is right -/
structure RightT (nds : List NdV) : Prop where
  some : 0 < nds.length
  node : ∀ i, i < nds.length → nodeV nds.length (ndAt nds i) = true
  below : ∀ j, j < nds.length → (belowT nds nds.length).getD j 0 = (if j = 0 then 0 else 1)
  reached : ∀ j, j < nds.length → (reachedV nds).getD j false = true
theorem rightT_of {nds : List NdV} (h : shapeV nds = (0, 0)) : RightT nds := by
  unfold shapeV at h
  by_cases h0 : nds.length = 0
  · rw [if_pos h0] at h; simp at h
  · rw [if_neg h0] at h
    cases hs : splitF nds.length 0 nds with
    | some i => rw [hs] at h; simp [shapeEnd] at h
    | none =>
      cases hb : badF (belowT nds nds.length) (reachedV nds) nds.length 0 with
      | some i => rw [hs, hb] at h; simp [shapeEnd] at h
      | none =>
        have hb' := badF_none _ _ hb
        exact ⟨by omega, fun i hi => by rw [ndAt_get hi]; exact splitF_none _ _ hs _ (List.getElem_mem hi), fun j hj => (hb' j (Nat.zero_le _) (by omega)).1, fun j hj => (hb' j (Nat.zero_le _) (by omega)).2⟩

end Go.Proofs.YtekcpapkicmckaaGreatDoor

namespace Go.Proofs.YtekcpapkicmckaaGreatDoor

/-- a tree of places -/
inductive BT where
  | leaf (i : Nat)
  | node (i : Nat) (l r : BT)
/-- the tree that stands at a place -/
def Rep (nds : List NdV) : BT → Nat → Prop
  | .leaf i, j => j = i ∧ i < nds.length ∧ innerV (ndAt nds i) = false
  | .node i l r, j => j = i ∧ i < nds.length ∧ innerV (ndAt nds i) = true ∧ Rep nds l (ndAt nds i).left.toNat ∧ Rep nds r (ndAt nds i).right.toNat
/-- its places, each ahead of those below it -/
def BT.all : BT → List Nat
  | .leaf i => [i]
  | .node i l r => i :: (l.all ++ r.all)

theorem nodeV_inner {n : Int} {v : NdV} (h : nodeV n v = true) (hi : innerV v = true) : 1 ≤ v.left ∧ v.left < n ∧ 1 ≤ v.right ∧ v.right < n := by
  unfold nodeV at h
  unfold innerV at hi
  simp only [decide_eq_true_eq] at hi
  rw [if_neg (by omega)] at h
  simp only [Bool.and_eq_true, decide_eq_true_eq] at h
  omega

/-- how many sides of a node lead to a place -/
def edges (nds : List NdV) (i j : Nat) : Int := if innerV (ndAt nds i) then (if (ndAt nds i).left.toNat = j then 1 else 0) + (if (ndAt nds i).right.toNat = j then 1 else 0) else 0
theorem edges_nonneg (nds : List NdV) (i j : Nat) : 0 ≤ edges nds i j := by
  unfold edges
  split
  · split <;> split <;> omega
  · omega

section
variable {nds : List NdV} (h : RightT nds)
include h

theorem inner_lt {i : Nat} (hi : i < nds.length) (hv : innerV (ndAt nds i) = true) : 1 ≤ (ndAt nds i).left.toNat ∧ (ndAt nds i).left.toNat < nds.length ∧ 1 ≤ (ndAt nds i).right.toNat ∧ (ndAt nds i).right.toNat < nds.length := by
  have := nodeV_inner (h.node i hi) hv
  omega

theorem belowT_succ {k : Nat} (hk : k < nds.length) (j : Nat) : (belowT nds (k + 1)).getD j 0 = (belowT nds k).getD j 0 + edges nds k j := by
  simp only [belowT]
  unfold edges
  split
  · next hv =>
    have := inner_lt h hk hv
    rw [incAt_getD _ _ _ (by rw [incAt_length, belowT_length]; omega), incAt_getD _ _ _ (by rw [belowT_length]; omega)]
    omega
  · omega
theorem belowT_ge {i j : Nat} : ∀ k, k ≤ nds.length → i < k → edges nds i j ≤ (belowT nds k).getD j 0 ∧ ∀ i', i < i' → i' < k → edges nds i j + edges nds i' j ≤ (belowT nds k).getD j 0
  | 0, _, hi => by omega
  | k + 1, hk, hi => by
    have hs := belowT_succ h (k := k) (by omega) j
    have he := edges_nonneg nds k j
    have h0 : ∀ k, k ≤ nds.length → 0 ≤ (belowT nds k).getD j 0 := by
      intro k
      induction k with
      | zero =>
        intro _
        simp only [belowT, List.getD_eq_getElem?_getD, List.getElem?_replicate]
        split <;> simp
      | succ k ih =>
        intro hk
        rw [belowT_succ h (by omega)]
        have := ih (by omega)
        have := edges_nonneg nds k j
        omega
    by_cases e : i = k
    · subst e
      have := h0 i (by omega)
      exact ⟨by omega, fun i' h1 h2 => by omega⟩
    · obtain ⟨h1, h2⟩ := belowT_ge (i := i) (j := j) k (by omega) (show i < k by omega)
      refine ⟨by omega, fun i' a b => ?_⟩
      by_cases e' : i' = k
      · subst e'; omega
      · have := h2 i' a (by omega); omega

/-- one node alone is above a place, by one side -/
theorem edges_one {i j : Nat} (hi : i < nds.length) (hj : j < nds.length) : edges nds i j ≤ 1 := by
  have := (belowT_ge h (j := j) nds.length (Nat.le_refl _) hi).1
  have hb := h.below j hj
  split at hb <;> omega
theorem edges_two {i i' j : Nat} (hi : i < nds.length) (hi' : i' < nds.length) (hj : j < nds.length) (h1 : 1 ≤ edges nds i j) (h2 : 1 ≤ edges nds i' j) : i = i' := by
  have hb := h.below j hj
  by_cases e : i < i'
  · have := (belowT_ge h (j := j) nds.length (Nat.le_refl _) hi).2 i' e hi'
    split at hb <;> omega
  · by_cases e' : i' < i
    · have := (belowT_ge h (j := j) nds.length (Nat.le_refl _) hi').2 i e' hi
      split at hb <;> omega
    · omega
theorem sides_ne {i : Nat} (hi : i < nds.length) (hv : innerV (ndAt nds i) = true) : (ndAt nds i).left.toNat ≠ (ndAt nds i).right.toNat := by
  intro e
  have hl := inner_lt h hi hv
  have := edges_one h hi (j := (ndAt nds i).right.toNat) (by omega)
  unfold edges at this
  rw [if_pos hv, if_pos e, if_pos rfl] at this
  omega
end

/-- is one node right below another? -/
def Child (nds : List NdV) (i j : Nat) : Prop := i < nds.length ∧ innerV (ndAt nds i) = true ∧ ((ndAt nds i).left.toNat = j ∨ (ndAt nds i).right.toNat = j)
theorem Child.edges {nds : List NdV} {i j : Nat} (h : Child nds i j) : 1 ≤ edges nds i j := by
  unfold Proofs.YtekcpapkicmckaaGreatDoor.edges
  rw [if_pos h.2.1]
  rcases h.2.2 with e | e
  · rw [if_pos e]; split <;> omega
  · rw [if_pos e]; split <;> omega
/-- a way from a place down, of some length -/
inductive Way (nds : List NdV) (a : Nat) : Nat → Nat → Prop
  | here : Way nds a 0 a
  | step {d i j : Nat} : Way nds a d i → Child nds i j → Way nds a (d + 1) j

section
variable {nds : List NdV} (h : RightT nds)
include h
theorem Child.lt {i j : Nat} (c : Child nds i j) : 1 ≤ j ∧ j < nds.length := by
  obtain ⟨h1, h2, h3⟩ := c
  have := inner_lt h h1 h2
  omega
theorem Child.one {i i' j : Nat} (c : Child nds i j) (c' : Child nds i' j) : i = i' := edges_two h c.1 c'.1 (c.lt h).2 c.edges c'.edges
theorem Way.depth {d j : Nat} (p : Way nds 0 d j) : ∀ d', Way nds 0 d' j → d = d' := by
  induction p with
  | here =>
    intro d' p'
    cases p' with
    | here => rfl
    | step q c => have := (c.lt h).1; omega
  | step q c ih =>
    intro d' p'
    cases p' with
    | here => have := (c.lt h).1; omega
    | step q' c' =>
      obtain rfl := c.one h c'
      rw [ih _ q']
/-- two ways of one length to one place begin at one place -/
theorem Way.same {a b d j : Nat} (p : Way nds a d j) : Way nds b d j → a = b := by
  induction p with
  | here => intro q; cases q; rfl
  | step p c ih =>
    intro q
    cases q with
    | step q c' =>
      obtain rfl := c.one h c'
      exact ih q
omit h in
theorem Way.trans {a b d e j : Nat} (p : Way nds a d b) (q : Way nds b e j) : Way nds a (d + e) j := by
  induction q with
  | here => exact p
  | step q c ih => exact ih.step c

theorem dfs_way : ∀ (f : Nat) (R : List Bool) (st : List Nat), R.length = nds.length → (∀ x ∈ st, x < nds.length ∧ ∃ d, Way nds 0 d x) → (∀ j, R.getD j false = true → ∃ d, Way nds 0 d j) → ∀ j, (dfs nds f R st).getD j false = true → ∃ d, Way nds 0 d j
  | 0, R, st, _, _, hR => hR
  | f + 1, R, [], _, _, hR => hR
  | f + 1, R, i :: st, hl, hs, hR => by
    unfold dfs
    split
    · exact dfs_way f R st hl (fun x hx => hs x (List.mem_cons_of_mem _ hx)) hR
    · obtain ⟨hi, d, hd⟩ := hs i (List.mem_cons_self ..)
      refine dfs_way f _ _ (by rw [List.length_set]; exact hl) ?_ ?_
      · intro x hx
        split at hx
        · next hv =>
          have hlt := inner_lt h hi hv
          rcases List.mem_cons.1 hx with rfl | hx
          · exact ⟨hlt.2.2.2, d + 1, hd.step ⟨hi, hv, .inr rfl⟩⟩
          · rcases List.mem_cons.1 hx with rfl | hx
            · exact ⟨hlt.2.1, d + 1, hd.step ⟨hi, hv, .inl rfl⟩⟩
            · exact hs x (List.mem_cons_of_mem _ hx)
        · exact hs x (List.mem_cons_of_mem _ hx)
      · intro j hj
        simp only [List.getD_eq_getElem?_getD, List.getElem?_set] at hj
        split at hj
        · next e => subst e; exact ⟨d, hd⟩
        · exact hR j (by rw [List.getD_eq_getElem?_getD]; exact hj)
theorem has_way {j : Nat} (hj : j < nds.length) : ∃ d, Way nds 0 d j := by
  refine dfs_way h _ _ _ (by simp) (fun x hx => ?_) (fun j hj => ?_) j (h.reached j hj)
  · simp at hx; subst hx; exact ⟨h.some, 0, .here⟩
  · simp [List.getD_eq_getElem?_getD, List.getElem?_replicate] at hj
    split at hj <;> simp at hj
theorem depth_bound : ∃ D, ∀ j, j < nds.length → ∀ d, Way nds 0 d j → d ≤ D := by
  have : ∀ k, k ≤ nds.length → ∃ D, ∀ j, j < k → ∀ d, Way nds 0 d j → d ≤ D := by
    intro k
    induction k with
    | zero => intro _; exact ⟨0, fun j hj => by omega⟩
    | succ k ih =>
      intro hk
      obtain ⟨D, hD⟩ := ih (by omega)
      obtain ⟨d, hd⟩ := has_way h (j := k) (by omega)
      refine ⟨max D d, fun j hj e he => ?_⟩
      by_cases e1 : j = k
      · subst e1
        have := hd.depth h e he
        omega
      · have := hD j (by omega) e he
        omega
  exact this _ (Nat.le_refl _)
theorem rep_of : ∃ T, Rep nds T 0 := by
  obtain ⟨D, hD⟩ := depth_bound h
  have : ∀ m d j, j < nds.length → Way nds 0 d j → D - d < m → ∃ T, Rep nds T j := by
    intro m
    induction m with
    | zero => intro d j _ _ hm; omega
    | succ m ih =>
      intro d j hj hd hm
      cases hv : innerV (ndAt nds j) with
      | false => exact ⟨.leaf j, rfl, hj, hv⟩
      | true =>
        have hl := inner_lt h hj hv
        have w1 := hd.step ⟨hj, hv, .inl rfl⟩
        have w2 := hd.step ⟨hj, hv, .inr rfl⟩
        have hb := hD _ hl.2.1 _ w1
        obtain ⟨l, hl'⟩ := ih (d + 1) _ hl.2.1 w1 (by omega)
        obtain ⟨r, hr'⟩ := ih (d + 1) _ hl.2.2.2 w2 (by omega)
        exact ⟨.node j l r, rfl, hj, hv, hl', hr'⟩
  exact this _ 0 0 h.some .here (Nat.lt_succ_self _)
omit h in
theorem Rep.way : ∀ {T : BT} {a : Nat}, Rep nds T a → ∀ x ∈ T.all, x < nds.length ∧ ∃ d, Way nds a d x
  | .leaf i, a, ⟨e, hi, _⟩, x, hx => by
    simp [BT.all] at hx
    subst hx; subst e
    exact ⟨hi, 0, .here⟩
  | .node i l r, a, ⟨e, hi, hv, h1, h2⟩, x, hx => by
    subst e
    simp only [BT.all, List.mem_cons, List.mem_append] at hx
    rcases hx with rfl | hx | hx
    · exact ⟨hi, 0, .here⟩
    · obtain ⟨hlt, d, hd⟩ := Rep.way h1 x hx
      exact ⟨hlt, _, (Way.here.step ⟨hi, hv, .inl rfl⟩).trans hd⟩
    · obtain ⟨hlt, d, hd⟩ := Rep.way h2 x hx
      exact ⟨hlt, _, (Way.here.step ⟨hi, hv, .inr rfl⟩).trans hd⟩
/-- no place twice -/
theorem Rep.nodup : ∀ {T : BT} {a d0 : Nat}, Way nds 0 d0 a → Rep nds T a → T.all.Nodup
  | .leaf i, a, d0, _, _ => by simp [BT.all]
  | .node i l r, a, d0, hw, ⟨e, hi, hv, h1, h2⟩ => by
    subst e
    have w1 := hw.step ⟨hi, hv, .inl rfl⟩
    have w2 := hw.step ⟨hi, hv, .inr rfl⟩
    have n1 := Rep.nodup w1 h1
    have n2 := Rep.nodup w2 h2
    simp only [BT.all, List.nodup_cons, List.mem_append, List.nodup_append]
    refine ⟨?_, n1, n2, ?_⟩
    · intro hx
      have key : ∀ b, Way nds 0 (d0 + 1) b → (∃ e, Way nds b e a) → False := by
        rintro b wb ⟨e, he⟩
        have := hw.depth h _ (wb.trans he)
        omega
      rcases hx with hx | hx
      · exact key _ w1 (Rep.way h1 _ hx).2
      · exact key _ w2 (Rep.way h2 _ hx).2
    · intro x hx y hy e
      subst e
      obtain ⟨_, e1, p1⟩ := Rep.way h1 x hx
      obtain ⟨_, e2, p2⟩ := Rep.way h2 x hy
      have := (w1.trans p1).depth h _ (w2.trans p2)
      obtain rfl : e1 = e2 := by omega
      exact sides_ne h hi hv (p1.same h p2)
end

theorem nodup_bound : ∀ (n : Nat) (l : List Nat), l.Nodup → (∀ x ∈ l, x < n) → l.length ≤ n
  | 0, l, _, hb => by
    cases l with
    | nil => simp
    | cons a l => have := hb a (List.mem_cons_self ..); omega
  | n + 1, l, hn, hb => by
    have h1 := nodup_bound n (l.erase n) (hn.erase n) (fun x hx => by
      have h2 := (hn.mem_erase_iff).1 hx
      have := hb x h2.2
      omega)
    have := List.length_erase_le (l := l) (a := n)
    by_cases hm : n ∈ l
    · rw [List.length_erase_of_mem hm] at h1; omega
    · rw [List.erase_of_not_mem hm] at h1; omega
/-- a tree has as many places as there are, at most -/
theorem Rep.many {nds : List NdV} (h : RightT nds) {T : BT} (hr : Rep nds T 0) : T.all.length ≤ nds.length :=
  nodup_bound _ _ (Rep.nodup h .here hr) fun x hx => (Rep.way hr x hx).1

end Go.Proofs.YtekcpapkicmckaaGreatDoor

namespace Go.Proofs.YtekcpapkicmckaaGreatDoor

/-- how many operations a subtree's code has -/
def BT.size : BT → Nat
  | .leaf _ => 2
  | .node _ l r => 1 + l.size + r.size
/-- an operation that adds; one that tests -/
def addOp (out v : Int) : OpV := ⟨3, 0, 0, [], 0, out, v, 0⟩
def testOp (x : NdV) (dest : Int) : OpV := ⟨if x.kind = 3 then 2 else 1, x.feature, x.thr, x.cats, x.missing, 0, 0, dest⟩
def endOp : OpV := ⟨5, 0, 0, [], 0, 0, 0, 0⟩
/-- a subtree's code at a place, the jumps to the tree's end not set -/
def emitT (nds : List NdV) (out : Int) : BT → Nat → List OpV
  | .leaf i, _ => [addOp out (ndAt nds i).value, jumpTo 0]
  | .node i l r, k => testOp (ndAt nds i) ((k + 1 + l.size : Nat) : Int) :: (emitT nds out l (k + 1) ++ emitT nds out r (k + 1 + l.size))
/-- the places of these jumps -/
def jumpsT : BT → Nat → List Nat
  | .leaf _, k => [k + 1]
  | .node _ l r, k => jumpsT l (k + 1) ++ jumpsT r (k + 1 + l.size)
/-- a subtree's code at a place: the tree's end lies at E; the tree's last leaf has no jump -/
def codeT (nds : List NdV) (out : Int) (E : Nat) : BT → Nat → Bool → List OpV
  | .leaf i, _, last => addOp out (ndAt nds i).value :: (if last then [] else [jumpTo (E : Int)])
  | .node i l r, k, last => testOp (ndAt nds i) ((k + 1 + l.size : Nat) : Int) :: (codeT nds out E l (k + 1) false ++ codeT nds out E r (k + 1 + l.size) last)

theorem BT.size_pos : ∀ T : BT, 2 ≤ T.size
  | .leaf _ => Nat.le_refl _
  | .node i l r => by
    have := BT.size_pos l
    have := BT.size_pos r
    simp only [BT.size]
    omega
theorem emitT_length (nds : List NdV) (out : Int) : ∀ (T : BT) (k : Nat), (emitT nds out T k).length = T.size
  | .leaf _, _ => rfl
  | .node i l r, k => by
    have h1 := emitT_length nds out l (k + 1)
    have h2 := emitT_length nds out r (k + 1 + l.size)
    simp only [emitT, BT.size, List.length_cons, List.length_append]
    omega
theorem emitT_ne (nds : List NdV) (out : Int) (T : BT) (k : Nat) : emitT nds out T k ≠ [] := by
  intro e
  have := emitT_length nds out T k
  have := T.size_pos
  rw [e] at *
  simp at *
  omega
theorem jumpsT_ne : ∀ (T : BT) (k : Nat), jumpsT T k ≠ []
  | .leaf _, _ => by simp [jumpsT]
  | .node i l r, k => by simp [jumpsT, jumpsT_ne l]
theorem BT.size_le : ∀ T : BT, T.size ≤ 2 * T.all.length
  | .leaf _ => by simp [BT.size, BT.all]
  | .node i l r => by
    have := BT.size_le l
    have := BT.size_le r
    simp only [BT.size, BT.all, List.length_cons, List.length_append]
    omega

def setTo (E : Int) (ops : List OpV) (j : Nat) : List OpV := ops.set j { opAt ops j with dest := E }
theorem setTo_mid (E : Int) (pre post : List OpV) (o : OpV) (j : Nat) (h : j = pre.length) : setTo E (pre ++ o :: post) j = pre ++ { o with dest := E } :: post := by
  subst h
  unfold setTo opAt
  simp [List.getD_eq_getElem?_getD]
theorem emitT_set (nds : List NdV) (out : Int) (E : Nat) : ∀ (T : BT) (k : Nat) (pre post : List OpV), pre.length = k → (jumpsT T k).foldl (setTo E) (pre ++ (emitT nds out T k ++ post)) = pre ++ (codeT nds out E T k false ++ post)
  | .leaf i, k, pre, post, h => by
    simp only [jumpsT, emitT, codeT, List.foldl_cons, List.foldl_nil, List.cons_append, List.nil_append]
    have := setTo_mid E (pre ++ [addOp out (ndAt nds i).value]) post (jumpTo 0) (k + 1) (by simp [h])
    simp only [List.append_assoc, List.cons_append, List.nil_append] at this
    rw [this]
    rfl
  | .node i l r, k, pre, post, h => by
    have h1 := emitT_set nds out E l (k + 1) (pre ++ [testOp (ndAt nds i) ((k + 1 + l.size : Nat) : Int)]) (emitT nds out r (k + 1 + l.size) ++ post) (by simp [h])
    have hlen : ∀ (T : BT) (k : Nat), (codeT nds out E T k false).length = T.size := by
      intro T
      induction T with
      | leaf => intro k; rfl
      | node i l r ihl ihr => intro k; simp only [codeT, BT.size, List.length_cons, List.length_append, ihl, ihr]; omega
    have h2 := emitT_set nds out E r (k + 1 + l.size) (pre ++ [testOp (ndAt nds i) ((k + 1 + l.size : Nat) : Int)] ++ codeT nds out E l (k + 1) false) post (by simp [h, hlen]; omega)
    simp only [jumpsT, emitT, codeT, List.foldl_append]
    simp only [List.append_assoc, List.cons_append, List.nil_append] at h1 h2 ⊢
    rw [h1, h2]
theorem emitT_set_last (nds : List NdV) (out : Int) (E : Nat) : ∀ (T : BT) (k : Nat) (pre : List OpV), pre.length = k → (jumpsT T k).dropLast.foldl (setTo E) (pre ++ (emitT nds out T k).dropLast) = pre ++ codeT nds out E T k true
  | .leaf i, k, pre, h => by simp [jumpsT, emitT, codeT]
  | .node i l r, k, pre, h => by
    have h1 := emitT_set nds out E l (k + 1) (pre ++ [testOp (ndAt nds i) ((k + 1 + l.size : Nat) : Int)]) (emitT nds out r (k + 1 + l.size)).dropLast (by simp [h])
    have hlen : ∀ (T : BT) (k : Nat), (codeT nds out E T k false).length = T.size := by
      intro T
      induction T with
      | leaf => intro k; rfl
      | node i l r ihl ihr => intro k; simp only [codeT, BT.size, List.length_cons, List.length_append, ihl, ihr]; omega
    have h2 := emitT_set_last nds out E r (k + 1 + l.size) (pre ++ [testOp (ndAt nds i) ((k + 1 + l.size : Nat) : Int)] ++ codeT nds out E l (k + 1) false) (by simp [h, hlen]; omega)
    have hd : (emitT nds out (.node i l r) k).dropLast = testOp (ndAt nds i) ((k + 1 + l.size : Nat) : Int) :: (emitT nds out l (k + 1) ++ (emitT nds out r (k + 1 + l.size)).dropLast) := by
      simp only [emitT]
      rw [List.dropLast_cons_of_ne_nil (by simp [emitT_ne]), List.dropLast_append_of_ne_nil (emitT_ne _ _ _ _)]
    have hj : (jumpsT (.node i l r) k).dropLast = jumpsT l (k + 1) ++ (jumpsT r (k + 1 + l.size)).dropLast := by
      simp only [jumpsT]
      rw [List.dropLast_append_of_ne_nil (jumpsT_ne _ _)]
    rw [hd, hj, List.foldl_append]
    simp only [codeT]
    simp only [List.append_assoc, List.cons_append, List.nil_append] at h1 h2 ⊢
    rw [h1, h2]

/-- a base's operations -/
def baseOps : Nat → List Int → List OpV
  | _, [] => []
  | k, v :: l => addOp (k : Int) v :: baseOps (k + 1) l
theorem baseOps_snoc : ∀ (k : Nat) (l : List Int) (v : Int), baseOps k (l ++ [v]) = baseOps k l ++ [addOp ((k + l.length : Nat) : Int) v]
  | k, [], v => by simp [baseOps]
  | k, u :: l, v => by
    simp only [List.cons_append, baseOps, baseOps_snoc (k + 1) l v, List.length_cons, List.cons.injEq, true_and, List.append_cancel_left_eq]
    rw [show k + 1 + l.length = k + (l.length + 1) by omega]
    exact ⟨rfl, trivial⟩
theorem baseOps_length : ∀ (k : Nat) (l : List Int), (baseOps k l).length = l.length
  | _, [] => rfl
  | k, _ :: l => by simp [baseOps, baseOps_length (k + 1) l]

/-- the trees' code, of trees of which so many nodes stand for a tree of places each -/
structure TrV where
  out : Int
  nds : List NdV
/-- the tree of places of a right shape -/
noncomputable def treeOf (nds : List NdV) : BT := open Classical in if h : ∃ T, Rep nds T 0 then h.choose else .leaf 0
theorem treeOf_rep {nds : List NdV} (h : RightT nds) : Rep nds (treeOf nds) 0 := by
  have he := rep_of h
  unfold treeOf
  rw [dif_pos he]
  exact he.choose_spec
theorem Rep.unique {nds : List NdV} : ∀ {T U : BT} {a : Nat}, Rep nds T a → Rep nds U a → T = U
  | .leaf i, .leaf j, a, ⟨e, _, _⟩, ⟨e', _, _⟩ => by subst e; subst e'; rfl
  | .leaf i, .node j l r, a, ⟨e, _, h⟩, ⟨e', _, h', _⟩ => by subst e; subst e'; rw [h] at h'; cases h'
  | .node i l r, .leaf j, a, ⟨e, _, h, _⟩, ⟨e', _, h'⟩ => by subst e; subst e'; rw [h] at h'; cases h'
  | .node i l r, .node j l' r', a, ⟨e, _, _, h1, h2⟩, ⟨e', _, _, h1', h2'⟩ => by
    subst e; subst e'
    rw [Rep.unique h1 h1', Rep.unique h2 h2']
/-- a tree's code at a place -/
noncomputable def treeCode (t : TrV) (k : Nat) : List OpV := codeT t.nds t.out (k + (treeOf t.nds).size - 1) (treeOf t.nds) k true
noncomputable def treesCode : List TrV → Nat → List OpV
  | [], _ => []
  | t :: l, k => treeCode t k ++ treesCode l (k + (treeCode t k).length)
/-- why a tree may not be so -/
def treeFault (F O : Int) (t : TrV) : Int :=
  if (shapeV t.nds).1 ≠ 0 then (shapeV t.nds).1 else if t.out < 0 ∨ O ≤ t.out then 6
  else if t.nds.any (fun v => decide (v.kind ≠ 1 ∧ F ≤ v.feature)) then 72 else 0
def treesFault (F O : Int) : List TrV → Int
  | [] => 0
  | t :: l => if treeFault F O t ≠ 0 then treeFault F O t else treesFault F O l
/-- an ensemble's program, or why there is none -/
noncomputable def compileV (F O : Int) (base : List Int) (ts : List TrV) : List OpV × Int :=
  if O < 1 ∨ 64 < O ∨ (base.length : Int) ≠ O ∨ 65536 < F then ([], 6)
  else if treesFault F O ts ≠ 0 then ([], treesFault F O ts)
  else (baseOps 0 base ++ treesCode ts base.length ++ [endOp], 0)

end Go.Proofs.YtekcpapkicmckaaGreatDoor

namespace Go.Proofs.YtekcpapkicmckaaGreatDoor
open Go.RowKit

theorem gset_eq {α : Type} {l : List α} {i : Nat} {d v : α} (h : i < l.length) : (l.set i v).getD i d = v := by
  simp [List.getD_eq_getElem?_getD, h]
theorem gset_ne {α : Type} {l : List α} {i j : Nat} {d v : α} (h : i ≠ j) : (l.set i v).getD j d = l.getD j d := by
  rw [List.getD_eq_getElem?_getD, List.getD_eq_getElem?_getD, List.getElem?_set_ne h]

/-! ### where operations land -/
theorem landT_keep (ops : List OpV) (k j : Nat) (hj : ops.length ≤ j + k) : ∀ d, k + d ≤ ops.length → (landT ops (k + d)).getD j 0 = (landT ops k).getD j 0
  | 0, _ => rfl
  | d + 1, h => by
    rw [← Nat.add_assoc]
    show ((landT ops (k + d)).set _ _).getD j 0 = _
    rw [gset_ne (by omega), landT_keep ops k j hj d (by omega)]

section
variable {F O : Int} {ops : List OpV}

theorem lands_at (h : RightP F O ops) {i : Nat} (hi : i < ops.length) : (lands ops).getD i 0 = landStep ops (lands ops) i := by
  have hk : ∀ j, i < j → (lands ops).getD j 0 = (landT ops (ops.length - 1 - i)).getD j 0 := fun j hj => by
    have := landT_keep ops (ops.length - 1 - i) j (by omega) (i + 1) (by omega)
    rw [show ops.length - 1 - i + (i + 1) = ops.length by omega] at this
    exact this
  have h1 := landT_keep ops (ops.length - i) i (by omega) i (by omega)
  rw [show ops.length - i + i = ops.length by omega] at h1
  have h2 : landT ops (ops.length - i) = (landT ops (ops.length - 1 - i)).set i (landStep ops (landT ops (ops.length - 1 - i)) i) := by
    have e : ops.length - i = (ops.length - 1 - i) + 1 := by omega
    rw [e]
    simp only [landT]
    rw [show ops.length - 1 - (ops.length - 1 - i) = i by omega]
  have h3 : (lands ops).getD i 0 = landStep ops (landT ops (ops.length - 1 - i)) i := by
    unfold lands
    rw [h1, h2, gset_eq (by rw [landT_length]; exact hi)]
  rw [h3]
  unfold landStep
  simp only
  split
  · next h4 => exact (hk _ (h.jump hi (by omega) (by omega)).1).symm
  · split
    · exact (hk _ (by omega)).symm
    · rfl

/-- an operation that does something -/
def heavy (o : OpV) : Prop := o.kind ≠ 4 ∧ ¬ (o.kind = 3 ∧ o.value = 0)

theorem land_facts (h : RightP F O ops) : ∀ (m i : Nat), ops.length - i ≤ m → i < ops.length → i ≤ (lands ops).getD i 0 ∧ (lands ops).getD i 0 < ops.length ∧ heavy (opAt ops ((lands ops).getD i 0))
  | 0, i, hm, hi => by omega
  | m + 1, i, hm, hi => by
    rw [lands_at h hi]
    unfold landStep
    simp only
    split
    · next h4 =>
      have hj := h.jump hi (by omega) (by omega)
      have := land_facts h m (opAt ops i).dest.toNat (by omega) (by omega)
      exact ⟨by omega, this.2⟩
    · next h4 =>
      split
      · next h3 =>
        have hn := h.next hi (by omega)
        have := land_facts h m (i + 1) (by omega) hn
        exact ⟨by omega, this.2⟩
      · next h3 => exact ⟨Nat.le_refl _, hi, h4, h3⟩
theorem land_le (h : RightP F O ops) {i : Nat} (hi : i < ops.length) : i ≤ (lands ops).getD i 0 := (land_facts h _ i (Nat.le_refl _) hi).1
/-! ### runs without a measure -/
theorem runF_enough (h : RightP F O ops) (xs : List Nat) : ∀ (m i f g : Nat) (S : List Int), ops.length - i ≤ m → i < ops.length → ops.length - i ≤ f → ops.length - i ≤ g → runF ops xs f i S = runF ops xs g i S
  | 0, i, f, g, S, hm, hi, _, _ => by omega
  | m + 1, i, f, g, S, hm, hi, hf, hg => by
    obtain ⟨f', rfl⟩ : ∃ f', f = f' + 1 := ⟨f - 1, by omega⟩
    obtain ⟨g', rfl⟩ : ∃ g', g = g' + 1 := ⟨g - 1, by omega⟩
    simp only [runF]
    split
    · rfl
    · next h5 =>
      have hn := h.nextAt hi h5 xs
      rw [runF_enough h xs m _ f' g' _ (by omega) hn.2 (by omega) (by omega)]

/-- a run from an operation on -/
def runs (ops : List OpV) (xs : List Nat) (i : Nat) (S : List Int) : List Int × List Int := runF ops xs (ops.length - i) i S
theorem runs_more (h : RightP F O ops) (xs : List Nat) {i : Nat} (hi : i < ops.length) (S : List Int) (h5 : (opAt ops i).kind ≠ 5) :
    runs ops xs i S = ((runs ops xs (nextAt (opAt ops i) xs i) (nextSums (opAt ops i) S)).1, (i : Int) :: (runs ops xs (nextAt (opAt ops i) xs i) (nextSums (opAt ops i) S)).2) := by
  have hn := h.nextAt hi h5 xs
  unfold runs
  obtain ⟨f, hf⟩ : ∃ f, ops.length - i = f + 1 := ⟨ops.length - i - 1, by omega⟩
  rw [hf]
  simp only [runF]
  rw [if_neg h5, runF_enough h xs _ _ f (ops.length - nextAt (opAt ops i) xs i) _ (Nat.le_refl _) hn.2 (by omega) (Nat.le_refl _)]
/-- sums that are int64s -/
def InR (S : List Int) : Prop := ∀ z ∈ S, -9223372036854775808 ≤ z ∧ z ≤ 9223372036854775807
theorem InR.bump {S : List Int} (hS : InR S) (o : OpV) : InR (bump S o) := by
  intro z hz
  unfold Proofs.YtekcpapkicmckaaGreatDoor.bump at hz
  rcases List.mem_or_eq_of_mem_set hz with hz | rfl
  · exact hS z hz
  · unfold wrap64; omega
theorem InR.next {S : List Int} (hS : InR S) (o : OpV) : InR (nextSums o S) := by
  unfold nextSums
  split
  · exact hS.bump o
  · exact hS
theorem InR.start (n : Nat) : InR (List.replicate n 0) := by
  intro z hz
  rw [List.mem_replicate] at hz
  omega
/-! ### which operations stay -/
theorem mark_true {R : List Bool} {L : List Nat} {i j : Nat} (hR : R.getD j false = true) : (markV ops L R i).getD j false = true := by
  have step : ∀ (R : List Bool) (x : Nat), R.getD j false = true → (R.set x true).getD j false = true := fun R x h => by
    by_cases e : x = j
    · subst e
      rw [gset_eq]
      by_cases hl : x < R.length
      · exact hl
      · rw [List.getD_eq_getElem?_getD, List.getElem?_eq_none (by omega)] at h; simp at h
    · rw [gset_ne e]; exact h
  unfold markV
  simp only
  split <;> split <;> first | exact step _ _ (step _ _ hR) | exact step _ _ hR | exact hR
theorem real_mono (L : List Nat) (j : Nat) (k : Nat) : ∀ d, (realT ops L k).1.getD j false = true → (realT ops L (k + d)).1.getD j false = true
  | 0, h => h
  | d + 1, h => by
    rw [← Nat.add_assoc]
    simp only [realT]
    split
    · exact mark_true (real_mono L j k d h)
    · exact real_mono L j k d h
theorem real_mem (L : List Nat) (i : Nat) : ∀ k, i ∈ (realT ops L k).2 ↔ i < k ∧ (realT ops L i).1.getD i false = true
  | 0 => by simp [realT]
  | k + 1 => by
    simp only [realT]
    split
    · next hk =>
      rw [List.mem_append, real_mem L i k, List.mem_singleton]
      constructor
      · rintro (⟨h1, h2⟩ | rfl)
        · exact ⟨by omega, h2⟩
        · exact ⟨by omega, hk⟩
      · rintro ⟨h1, h2⟩
        by_cases e : i = k
        · exact .inr e
        · exact .inl ⟨by omega, h2⟩
    · next hk =>
      rw [real_mem L i k]
      constructor
      · rintro ⟨h1, h2⟩; exact ⟨by omega, h2⟩
      · rintro ⟨h1, h2⟩
        by_cases e : i = k
        · subst e; exact absurd h2 hk
        · exact ⟨by omega, h2⟩
/-- why an operation stays -/
def Why (ops : List OpV) (L l : List Nat) (j : Nat) : Prop :=
  j = L.getD 0 0 ∨ ∃ i ∈ l, ((opAt ops i).kind ≠ 5 ∧ j = L.getD (i + 1) 0) ∨ (testV (opAt ops i) = true ∧ j = L.getD (opAt ops i).dest.toNat 0)
theorem Why.more {L l : List Nat} {j x : Nat} (h : Why ops L l j) : Why ops L (l ++ [x]) j := by
  rcases h with h | ⟨i, hi, h⟩
  · exact .inl h
  · exact .inr ⟨i, List.mem_append_left _ hi, h⟩
theorem real_first (L : List Nat) (h0 : L.getD 0 0 < ops.length) : (realT ops L 0).1.getD (L.getD 0 0) false = true := by
  simp only [realT]
  exact gset_eq (by simpa using h0)
theorem real_fall (L : List Nat) {i : Nat} (hm : (realT ops L i).1.getD i false = true) (h5 : (opAt ops i).kind ≠ 5) (hl : L.getD (i + 1) 0 < ops.length) : (realT ops L (i + 1)).1.getD (L.getD (i + 1) 0) false = true := by
  simp only [realT]
  rw [if_pos hm]
  unfold markV
  simp only
  rw [if_neg h5]
  have hr : (realT ops L i).1.length = ops.length := realT_length ops L i
  have h1 : ((realT ops L i).1.set (L.getD (i + 1) 0) true).getD (L.getD (i + 1) 0) false = true := gset_eq (by omega)
  split
  · by_cases e : L.getD (opAt ops i).dest.toNat 0 = L.getD (i + 1) 0
    · rw [e]; exact gset_eq (by rw [List.length_set, hr]; exact hl)
    · rw [gset_ne e]; exact h1
  · exact h1
theorem real_stays {j k : Nat} (hk : k ≤ j) (hj : j < ops.length) (h : (realT ops (lands ops) k).1.getD j false = true) : j ∈ stays ops := by
  unfold stays
  rw [real_mem]
  have := real_mono (lands ops) j k (j - k) h
  rw [show k + (j - k) = j by omega] at this
  exact ⟨hj, this⟩
theorem stays_real {j : Nat} (h : j ∈ stays ops) : j < ops.length ∧ (realT ops (lands ops) j).1.getD j false = true := by
  unfold stays at h
  rwa [real_mem] at h
theorem testV_jump (h : RightP F O ops) {i : Nat} (hi : i < ops.length) (ht : testV (opAt ops i) = true) : i < (opAt ops i).dest.toNat ∧ (opAt ops i).dest.toNat < ops.length := by
  have hk : (opAt ops i).kind = 1 ∨ (opAt ops i).kind = 2 := by simpa [testV] using ht
  have := h.jump hi (by omega) (by omega)
  exact ⟨this.1, this.2.1⟩
theorem stays_first (h : RightP F O ops) : (lands ops).getD 0 0 ∈ stays ops :=
  real_stays (Nat.zero_le _) (lands_lt ops h.some _) (real_first _ (lands_lt ops h.some _))
theorem stays_fall (h : RightP F O ops) {i : Nat} (hi : i ∈ stays ops) (h5 : (opAt ops i).kind ≠ 5) : (lands ops).getD (i + 1) 0 ∈ stays ops := by
  obtain ⟨h1, h2⟩ := stays_real hi
  exact real_stays (land_le h (h.next h1 h5)) (lands_lt ops h.some _) (real_fall _ h2 h5 (lands_lt ops h.some _))
/-! ### the k-th that stays -/
/-- the k-th operation that stays -/
def stay (ops : List OpV) (k : Nat) : Nat := (stays ops).getD k 0
theorem stay_mem {k : Nat} (hk : k < (stays ops).length) : stay ops k ∈ stays ops := by
  unfold stay; rw [List.getD_eq_getElem?_getD, List.getElem?_eq_getElem hk]; exact List.getElem_mem hk
theorem stay_of {j : Nat} (h : j ∈ stays ops) : ∃ k, k < (stays ops).length ∧ stay ops k = j := by
  obtain ⟨k, hk, e⟩ := List.mem_iff_getElem.1 h
  exact ⟨k, hk, by unfold stay; rw [List.getD_eq_getElem?_getD, List.getElem?_eq_getElem hk]; exact e⟩
theorem stay_lt {a b : Nat} (hab : a < b) (hb : b < (stays ops).length) : stay ops a < stay ops b := by
  have := List.pairwise_iff_getElem.1 (stays_rising ops) a b (by omega) hb hab
  unfold stay
  rw [List.getD_eq_getElem?_getD, List.getD_eq_getElem?_getD, List.getElem?_eq_getElem hb, List.getElem?_eq_getElem (by omega)]
  exact this
theorem stay_inj {a b : Nat} (ha : a < (stays ops).length) (hb : b < (stays ops).length) (e : stay ops a = stay ops b) : a = b := by
  rcases Nat.lt_trichotomy a b with h | h | h
  · have := stay_lt h hb; omega
  · exact h
  · have := stay_lt h ha; omega
theorem stay_lt_of {a b : Nat} (ha : a < (stays ops).length) (h : stay ops a < stay ops b) : a < b := by
  rcases Nat.lt_trichotomy a b with h1 | h1 | h1
  · exact h1
  · subst h1; omega
  · have := stay_lt h1 ha; omega
theorem stays_some (h : RightP F O ops) : 0 < (stays ops).length := List.length_pos_of_mem (stays_first h)
/-- where one goes on: to one that stays, further on -/
theorem stay_fall (h : RightP F O ops) {m : Nat} (hm : m < (stays ops).length) (h5 : (opAt ops (stay ops m)).kind ≠ 5) :
    ∃ b, m < b ∧ b < (stays ops).length ∧ stay ops b = (lands ops).getD (stay ops m + 1) 0 := by
  obtain ⟨b, hb, e⟩ := stay_of (stays_fall h (stay_mem hm) h5)
  have := land_le h (h.next (stays_lt ops _ (stay_mem hm)) h5)
  exact ⟨b, stay_lt_of hm (by omega), hb, e⟩
/-- has the k-th a jump behind it? -/
abbrev jmp (ops : List OpV) (k : Nat) : Bool := jumpy ops (lands ops) (stays ops) k
/-- the k-th one's new number -/
abbrev pos (ops : List OpV) (k : Nat) : Nat := posT ops (lands ops) (stays ops) k
theorem jmp_iff {m b : Nat} (hm : m < (stays ops).length) (h5 : (opAt ops (stay ops m)).kind ≠ 5) (hmb : m < b) (hb : b < (stays ops).length) (e : stay ops b = (lands ops).getD (stay ops m + 1) 0) : jmp ops m = true ↔ b ≠ m + 1 := by
  unfold jmp jumpy
  have e1 : (stays ops).getD m 0 = stay ops m := rfl
  have e2 : (stays ops).getD (m + 1) 0 = stay ops (m + 1) := rfl
  rw [e1, e2, ← e, decide_eq_true h5, Bool.true_and, decide_eq_false (show ¬ m + 1 = (stays ops).length by omega), Bool.false_or, decide_eq_true_eq]
  constructor
  · intro hne eb; exact hne (by rw [eb])
  · intro hne eb; exact hne (stay_inj hb (by omega) eb)
theorem jmp_end {m : Nat} (h5 : (opAt ops (stay ops m)).kind = 5) : jmp ops m = false := by
  unfold jmp jumpy
  have e1 : (stays ops).getD m 0 = stay ops m := rfl
  rw [e1, decide_eq_false (by omega), Bool.false_and]
theorem pos_succ (m : Nat) : pos ops (m + 1) = pos ops m + 1 + (if jmp ops m then 1 else 0) := rfl
theorem pos_lt {a : Nat} : ∀ {b : Nat}, a < b → pos ops a < pos ops b ∧ (jmp ops a = true → pos ops a + 1 < pos ops b)
  | 0, h => by omega
  | b + 1, h => by
    rw [pos_succ]
    by_cases e : a = b
    · subst e
      refine ⟨by omega, fun hj => ?_⟩
      rw [if_pos hj]; omega
    · have := pos_lt (a := a) (b := b) (by omega)
      refine ⟨by omega, fun hj => ?_⟩
      have := this.2 hj
      omega
/-! ### the operations of the tidied program -/
abbrev places (ops : List OpV) : List Nat := placeT ops (lands ops) (stays ops) (stays ops).length
/-- an operation with its new jump -/
def moved (ops : List OpV) (m : Nat) : OpV :=
  if testV (opAt ops (stay ops m)) then { opAt ops (stay ops m) with dest := ((places ops).getD ((lands ops).getD (opAt ops (stay ops m)).dest.toNat 0) 0 : Nat) } else opAt ops (stay ops m)
def jumpOf (ops : List OpV) (m : Nat) : OpV := jumpTo ((places ops).getD ((lands ops).getD (stay ops m + 1) 0) 0 : Nat)
theorem opAt_right (A B : List OpV) (n j : Nat) (hn : A.length = n) : opAt (A ++ B) (n + j) = opAt B j := by
  unfold opAt
  rw [List.getD_eq_getElem?_getD, List.getD_eq_getElem?_getD, List.getElem?_append_right (by omega), show n + j - A.length = j by omega]
/-! ### a tidied program is tidy -/
end

end Go.Proofs.YtekcpapkicmckaaGreatDoor

namespace Go.Proofs.YtekcpapkicmckaaGreatDoor
open Go.RowKit

/-! ### compiled programs are right -/
/-- operations from a place on are right -/
def AllR (F O n : Int) (k : Nat) (l : List OpV) : Prop := ∀ j, j < l.length → RightO F O n ((k + j : Nat) : Int) (opAt l j)
theorem AllR.nil {F O n : Int} {k : Nat} : AllR F O n k [] := fun j hj => absurd hj (Nat.not_lt_zero j)
theorem AllR.cons {F O n : Int} {k : Nat} {o : OpV} {l : List OpV} (h : RightO F O n (k : Int) o) (hl : AllR F O n (k + 1) l) : AllR F O n k (o :: l) := by
  intro j hj
  cases j with
  | zero => exact h
  | succ j =>
    have := hl j (by simpa using hj)
    rw [show k + 1 + j = k + (j + 1) by omega] at this
    exact this
theorem AllR.append {F O n : Int} {k : Nat} {A B : List OpV} (hA : AllR F O n k A) (hB : AllR F O n (k + A.length) B) : AllR F O n k (A ++ B) := by
  intro j hj
  by_cases h : j < A.length
  · have := hA j h
    unfold opAt at this ⊢
    rw [List.getD_eq_getElem?_getD, List.getElem?_append_left h, ← List.getD_eq_getElem?_getD]
    exact this
  · have := hB (j - A.length) (by simp at hj; omega)
    rw [show k + A.length + (j - A.length) = k + j by omega] at this
    unfold opAt at this ⊢
    rw [List.getD_eq_getElem?_getD, List.getElem?_append_right (by omega), ← List.getD_eq_getElem?_getD]
    exact this

section
variable {nds : List NdV} (hT : RightT nds) {F O n out : Int} (hf : ∀ i, i < nds.length → innerV (ndAt nds i) = true → (ndAt nds i).feature < F) (h0 : 0 ≤ out) (h1 : out < O)
include hT hf h0 h1
end

theorem codeT_len (nds : List NdV) (out : Int) (E : Nat) : ∀ (T : BT) (k : Nat) (last : Bool), (codeT nds out E T k last).length + (if last then 1 else 0) = T.size
  | .leaf i, k, last => by cases last <;> rfl
  | .node i l r, k, last => by
    have h1 := codeT_len nds out E l (k + 1) false
    have h2 := codeT_len nds out E r (k + 1 + l.size) last
    simp only [codeT, BT.size, List.length_cons, List.length_append]
    simp at h1
    omega
/-! ### what they say -/
/-- a piece of a program -/
structure Seg (ops : List OpV) (k : Nat) (l : List OpV) : Prop where
  fits : k + l.length ≤ ops.length
  at' : ∀ j, j < l.length → opAt ops (k + j) = opAt l j
theorem Seg.whole (A l B : List OpV) : Seg (A ++ (l ++ B)) A.length l :=
  ⟨by simp only [List.length_append]; omega, fun j hj => by
    rw [opAt_right _ _ _ _ rfl]
    unfold opAt
    rw [List.getD_eq_getElem?_getD, List.getD_eq_getElem?_getD, List.getElem?_append_left hj]⟩
theorem Seg.head {ops : List OpV} {k : Nat} {o : OpV} {l : List OpV} (h : Seg ops k (o :: l)) : opAt ops k = o ∧ k < ops.length := by
  have := h.at' 0 (by simp)
  have hf := h.fits
  simp only [List.length_cons] at hf
  exact ⟨by simpa [opAt] using this, by omega⟩
theorem Seg.left {ops : List OpV} {k : Nat} {A B : List OpV} (h : Seg ops k (A ++ B)) : Seg ops k A :=
  ⟨by have := h.fits; simp only [List.length_append] at this; omega, fun j hj => by
    rw [h.at' j (by simp; omega)]
    unfold opAt
    rw [List.getD_eq_getElem?_getD, List.getD_eq_getElem?_getD, List.getElem?_append_left hj]⟩
theorem Seg.right {ops : List OpV} {k : Nat} {A B : List OpV} (h : Seg ops k (A ++ B)) : Seg ops (k + A.length) B :=
  ⟨by have := h.fits; simp only [List.length_append] at this; omega, fun j hj => by
    rw [Nat.add_assoc, h.at' (A.length + j) (by simp; omega), opAt_right _ _ _ _ rfl]⟩

/-- a run comes to an operation -/
def Comes (ops : List OpV) (xs : List Nat) (i : Nat) (S : List Int) (j : Nat) (S' : List Int) : Prop :=
  ∃ tr, runs ops xs i S = ((runs ops xs j S').1, tr ++ (runs ops xs j S').2)
theorem Comes.trans {ops : List OpV} {xs : List Nat} {i j k : Nat} {S S' S'' : List Int} (h : Comes ops xs i S j S') (h' : Comes ops xs j S' k S'') : Comes ops xs i S k S'' := by
  obtain ⟨t1, e1⟩ := h
  obtain ⟨t2, e2⟩ := h'
  exact ⟨t1 ++ t2, by rw [e1, e2, List.append_assoc]⟩
theorem Comes.step {F O : Int} {ops : List OpV} (h : RightP F O ops) (xs : List Nat) {i : Nat} (hi : i < ops.length) (S : List Int) (h5 : (opAt ops i).kind ≠ 5) : Comes ops xs i S (nextAt (opAt ops i) xs i) (nextSums (opAt ops i) S) :=
  ⟨[(i : Int)], runs_more h xs hi S h5⟩
section
variable {F O : Int} {ops : List OpV} (hP : RightP F O ops) (xs : List Nat)
include hP
end

/-! ### the operations that are done rise -/
/-- a tidied program, or why there is none -/
def tidyV (F O : Int) (ops : List OpV) : List OpV × Int := if (checkV F O ops).1 ≠ 0 then ([], (checkV F O ops).1) else (tidyOps ops, 0)

end Go.Proofs.YtekcpapkicmckaaGreatDoor
