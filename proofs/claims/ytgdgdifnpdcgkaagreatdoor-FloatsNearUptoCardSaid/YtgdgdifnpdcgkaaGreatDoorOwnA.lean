/- What stays beside some blocks that are written to; quotients in variables. -/
import Derived.Test.YtgdgdifnpdcgkaaGreatDoorBeg
import Derived.Test.YtgdgdifnpdcgkaaGreatDoorCopy
namespace Go.Proofs.YtgdgdifnpdcgkaaGreatDoor
open Go.RowKit

/-- a world in which all blocks but some are as they were -/
structure Ex (p : Nat → Prop) (w w' : World) : Prop where
  size : w.heap.size ≤ w'.heap.size
  block : ∀ k, k < w.heap.size → ¬ p k → w'.heap[k]? = w.heap[k]?

section
variable {p : Nat → Prop} {w w1 w2 : World}
theorem Ex.refl (p : Nat → Prop) (w : World) : Ex p w w := ⟨Nat.le_refl _, fun _ _ _ => rfl⟩
theorem Ex.trans (h : Ex p w w1) (k : Ex p w1 w2) : Ex p w w2 := ⟨Nat.le_trans h.size k.size, fun j hj hn => (k.block j (Nat.lt_of_lt_of_le hj h.size) hn).trans (h.block j hj hn)⟩
theorem Ex.below (h : Below w.heap.size w w1) : Ex p w w1 := ⟨h.size, fun j hj _ => h.block j hj⟩
theorem Ex.grown {row : Option Nat} (h : w.grownBy w1 row) (hp : ∀ r, row = some r → p r) : Ex p w w1 := ⟨h.size, fun j hj hn => h.block j hj (fun e => hn (hp j e.symm))⟩
theorem Ex.set {g : Nat} (hp : p g) (j : Nat) (v : Value) : Ex p w (w.setCell ⟨g, j, none⟩ v) := ⟨by rw [setCell_size]; exact Nat.le_refl _, fun k _ hn => setCell_other (fun e => hn (by rw [e]; exact hp)) j v⟩
theorem Ex.mono {q : Nat → Prop} (h : Ex p w w1) (hq : ∀ k, p k → q k) : Ex q w w1 := ⟨h.size, fun j hj hn => h.block j hj (fun e => hn (hq j e))⟩
end

theorem Mine.keep {T : TypeId} {w w' : World} {base : Nat} {A : Option Addr} {n c : Nat} {vs : List Value} (h : Mine T w base A n c vs) (hk : ∀ k, blockOf A = some k → w'.heap[k]? = w.heap[k]?) : Mine T w' base A n c vs :=
  ⟨h.len, h.cap, h.big, by
    rcases h.row with h1 | ⟨g, rest, rfl, hb, hg, hc⟩
    · exact .inl h1
    · exact .inr ⟨g, rest, rfl, hb, (hk g rfl).trans hg, hc⟩⟩
theorem Own.keep {w w' : World} {base : Nat} {A : Option Addr} {n c : Nat} {xs : List Nat} (h : Own w base A n c xs) (hk : ∀ k, blockOf A = some k → w'.heap[k]? = w.heap[k]?) : Own w' base A n c xs := ⟨h.mine.keep hk, h.lim⟩
theorem Own.ex {p : Nat → Prop} {w w' : World} {base : Nat} {A : Option Addr} {n c : Nat} {xs : List Nat} (h : Own w base A n c xs) (hx : Ex p w w') (hp : ∀ k, blockOf A = some k → ¬ p k) : Own w' base A n c xs :=
  h.keep (fun k hk => hx.block k (h.mine.lt k hk).2 (hp k hk))

/-- a variable that holds a quotient -/
def RatVar (w : World) (T : Nat) (neg : Bool) (u v : Value) : Prop := w.heap[T]? = some (.cells #[.bool neg, u, v] 28 (0, 0))
section
variable {w w' : World} {T : Nat} {neg : Bool} {u v : Value}
theorem RatVar.lt (h : RatVar w T neg u v) : T < w.heap.size := lt_of_block h
theorem RatVar.below (h : RatVar w T neg u v) (hb : Below w.heap.size w w') : RatVar w' T neg u v := (hb.block T h.lt).trans h
theorem RatVar.ex {p : Nat → Prop} (h : RatVar w T neg u v) (hx : Ex p w w') (hp : ¬ p T) : RatVar w' T neg u v := (hx.block T h.lt hp).trans h
theorem RatVar.c0 (h : RatVar w T neg u v) : w.cell? ⟨T, 0, none⟩ = some (.bool neg) := cell_of_block h rfl
theorem RatVar.c1 (h : RatVar w T neg u v) : w.cell? ⟨T, 1, none⟩ = some u := cell_of_block h rfl
theorem RatVar.c2 (h : RatVar w T neg u v) : w.cell? ⟨T, 2, none⟩ = some v := cell_of_block h rfl
theorem RatVar.free (h : RatVar w T neg u v) (j : Nat) : w.frozen? ⟨T, j, none⟩ = false := frozen_of_block h
theorem RatVar.new (w : World) (neg : Bool) (u v : Value) : RatVar (w.alloc (.cells #[.bool neg, u, v] 28)) w.heap.size neg u v := heap_alloc_new w _
theorem RatVar.set1 (h : RatVar w T neg u v) (u' : Value) : RatVar (w.setCell ⟨T, 1, none⟩ u') T neg u' v := heap_setCell_same w T 1 _ _ u' h
theorem RatVar.set2 (h : RatVar w T neg u v) (v' : Value) : RatVar (w.setCell ⟨T, 2, none⟩ v') T neg u v' := heap_setCell_same w T 2 _ _ v' h
end

/-- a copy of limbs, behind a made slice of none -/
theorem Own.empty (w : World) (base : Nat) (h : base ≤ w.heap.size) : Own (w.alloc (.cells #[] 32)) base (some ⟨w.heap.size, 0, none⟩) 0 0 [] := by
  have := own_block w base [] Lim.nil h (by simp)
  simpa [u32s] using this

theorem same_eq (A B : Option Addr) (n c m d : Nat) (xs : List Nat) (w : World) (hx : Num w A n c xs) (hy : Num w B m d xs) :
    Calls Tryz.prog 9 #[.slice A n c, .slice B m d] w fun e w' => e = .returned (.bool true) ∧ ∃ q, w' = w.drewN q :=
  (same_any A B n c m d xs xs w hx hy).mono (by rintro e w' ⟨rfl, h⟩; exact ⟨by simp, h⟩)

/-- what the statement looks at in the end -/
structure OwnEnd (w : World) (T1 T2 T3 : Nat) (ng : Bool) (X Y : List Nat) (LX LY : Nat) (A3 A4 A5 A6 A7 A8 A9 A0 : Option Addr) (c3 c4 c5 c6 c7 c8 c9 c0 : Nat) (xs ys : List Nat) : Prop where
  v1 : RatVar w T1 ng (.slice A5 (LX + 1) c5) (.slice A6 (LY + 1) c6)
  v2 : RatVar w T2 ng (.slice A3 LX c3) (.slice A4 LY c4)
  v3 : RatVar w T3 ng (.slice A7 LX c7) (.slice A0 LY c0)
  a3 : Num w A3 LX c3 X
  a4 : Num w A4 LY c4 Y
  a7 : Num w A7 LX c7 X
  a0 : Num w A0 LY c0 Y
  a8 : Num w A8 LX c8 X
  a9 : Num w A9 LY c9 Y
  a5 : Num w A5 (LX + 1) c5 (xs ++ [9])
  a6 : Num w A6 (LY + 1) c6 (ys ++ [10])
theorem OwnEnd.below {w w' : World} {T1 T2 T3 : Nat} {ng : Bool} {X Y : List Nat} {LX LY : Nat} {A3 A4 A5 A6 A7 A8 A9 A0 : Option Addr} {c3 c4 c5 c6 c7 c8 c9 c0 : Nat} {xs ys : List Nat}
    (h : OwnEnd w T1 T2 T3 ng X Y LX LY A3 A4 A5 A6 A7 A8 A9 A0 c3 c4 c5 c6 c7 c8 c9 c0 xs ys) (hb : Below w.heap.size w w') : OwnEnd w' T1 T2 T3 ng X Y LX LY A3 A4 A5 A6 A7 A8 A9 A0 c3 c4 c5 c6 c7 c8 c9 c0 xs ys :=
  ⟨h.v1.below hb, h.v2.below hb, h.v3.below hb, h.a3.below hb, h.a4.below hb, h.a7.below hb, h.a0.below hb, h.a8.below hb, h.a9.below hb, h.a5.below hb, h.a6.below hb⟩
theorem drawn_below (w : World) (q : Nat) : Below w.heap.size w (w.drewN q) := ⟨rfl, rfl, rfl, Nat.le_refl _, fun _ _ => rfl⟩
theorem Num.last {w : World} {A : Option Addr} {n c x : Nat} {xs : List Nat} (h : Num w A (n + 1) c (xs ++ [x])) : ∃ b o, A = some ⟨b, o, none⟩ ∧ w.cell? ⟨b, o + n, none⟩ = some (.int .u32 (x : Nat)) := by
  obtain ⟨b, o, e, hc⟩ := h.cells (by omega)
  have hl := h.len
  have h1 := hc n (by omega)
  rw [List.length_append, List.length_singleton] at hl
  rw [nth_append_right (by omega), show n - xs.length = 0 by omega, nth_cons_zero] at h1
  exact ⟨b, o, e, h1⟩

end Go.Proofs.YtgdgdifnpdcgkaaGreatDoor
