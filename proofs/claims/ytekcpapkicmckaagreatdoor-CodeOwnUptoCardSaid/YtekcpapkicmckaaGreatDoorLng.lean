/- The long division, on lists of limbs: the estimate, what is taken off, what is put back. Plain Lean. limbs.long: what its parts share. limbs.long: the loop that makes the estimate smaller. limbs.long: the loop that puts the divisor back. limbs.long: the loop that takes the divisor times the estimate off. limbs.long: what follows in a round when the divisor times the estimate has been taken off but for the highest limb. The contract of limbs.long: Knuth's long division, in place. -/
import Derived.Test.YtekcpapkicmckaaGreatDoorNat
import Derived.Test.YtekcpapkicmckaaGreatDoorBits
import Derived.Deep.RegionWith
import Derived.Deep.DeepCutAuto
import Derived.Deep.CutBlock
namespace Go.Proofs.YtekcpapkicmckaaGreatDoor

section
variable {W V top next v' P head u2 w' : Nat}

end

end Go.Proofs.YtekcpapkicmckaaGreatDoor

namespace Go.Proofs.YtekcpapkicmckaaGreatDoor
open Go.RowKit

/-- a loop that is left by the end of a block, and not otherwise -/
def LoopEnds (N : Nat) (R : Act → World → Prop) : Exit → Act → World → Prop := fun e a w => match e with
  | .exit k => k = N ∧ R a w
  | _ => False
theorem loop_then {P : Program} {N : Nat} {R : Act → World → Prop} {Q : Exit → Act → World → Prop} {c : Code} {a : Act} {w : World} (h : c.wp P (LoopEnds N R) a w) (k : ∀ a' w', R a' w' → Q (.exit N) a' w') : c.wp P Q a w :=
  Code.wp_mono (fun e a' w' hq => by
    cases e with
    | exit n => obtain ⟨rfl, hr⟩ := hq; exact k _ _ hr
    | _ => exact hq.elim) h

/-- the bodies of a code's loops, the outer ones first -/
def loopsOf : Code → List Code
  | .loop c => c :: loopsOf c
  | .seq a b => loopsOf a ++ loopsOf b
  | .block _ c => loopsOf c
  | .scope c => loopsOf c
  | .cond _ a b => loopsOf a ++ loopsOf b
  | _ => []
theorem Own.drewN {w : World} {base : Nat} {A : Option Addr} {n c : Nat} {xs : List Nat} (h : Own w base A n c xs) (q : Nat) : Own (w.drewN q) base A n c xs := ⟨⟨h.mine.len, h.mine.cap, h.mine.big, h.mine.row⟩, h.lim⟩
theorem Num.drewN {w : World} {A : Option Addr} {n c : Nat} {xs : List Nat} (h : Num w A n c xs) (q : Nat) : Num (w.drewN q) A n c xs := ⟨⟨h.sl.len, h.sl.cap, h.sl.big, h.sl.cells⟩, h.lim⟩
theorem Own.drew {w : World} {base : Nat} {A : Option Addr} {n c : Nat} {xs : List Nat} (h : Own w base A n c xs) : Own w.drew base A n c xs := ⟨⟨h.mine.len, h.mine.cap, h.mine.big, h.mine.row⟩, h.lim⟩
theorem Num.drew {w : World} {A : Option Addr} {n c : Nat} {xs : List Nat} (h : Num w A n c xs) : Num w.drew A n c xs := ⟨⟨h.sl.len, h.sl.cap, h.sl.big, h.sl.cells⟩, h.lim⟩
theorem or_join32 (y x : Nat) (hy : y < 4294967296) (hx : x < 4294967296) : Go.bits .or .u64 ((y : Int) * 4294967296) (x : Int) = ((y * 4294967296 + x : Nat) : Int) := by
  have h := or_join64 32 y x hx (by omega)
  rwa [show ((y * 2 ^ 32 : Nat) : Int) = (y : Int) * 4294967296 by rw [show (2 : Nat) ^ 32 = 4294967296 from rfl]; omega] at h
end Go.Proofs.YtekcpapkicmckaaGreatDoor

namespace Go.Proofs.YtekcpapkicmckaaGreatDoor
open Go.RowKit

end Go.Proofs.YtekcpapkicmckaaGreatDoor

namespace Go.Proofs.YtekcpapkicmckaaGreatDoor
open Go.RowKit

end Go.Proofs.YtekcpapkicmckaaGreatDoor

namespace Go.Proofs.YtekcpapkicmckaaGreatDoor
open Go.RowKit

end Go.Proofs.YtekcpapkicmckaaGreatDoor

namespace Go.Proofs.YtekcpapkicmckaaGreatDoor
open Go.RowKit

end Go.Proofs.YtekcpapkicmckaaGreatDoor

namespace Go.Proofs.YtekcpapkicmckaaGreatDoor
open Go.RowKit

end Go.Proofs.YtekcpapkicmckaaGreatDoor
