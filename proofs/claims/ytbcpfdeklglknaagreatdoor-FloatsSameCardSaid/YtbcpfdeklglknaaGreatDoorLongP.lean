/- limbs.long: what its parts share. -/
import Derived.Test.YtbcpfdeklglknaaGreatDoorBits
import Derived.Test.YtbcpfdeklglknaaGreatDoorLongN
import Derived.Deep.RegionWith
import Derived.Deep.DeepCutAuto
import Derived.Deep.CutBlock
namespace Go.Proofs.YtbcpfdeklglknaaGreatDoor
open Go.RowKit

/-- a loop that is left by the end of a block, and not otherwise -/
def LoopEnds (N : Nat) (R : Act → World → Prop) : Exit → Act → World → Prop := fun e a w => match e with
  | .exit k => k = N ∧ R a w
  | _ => False
theorem loop_then {P : Program} {N : Nat} {R : Act → World → Prop} {Q : Exit → Act → World → Prop} {c : Code} {a : Act} {w : World} (h : c.wp P (LoopEnds N R) a w) (k : ∀ a' w', R a' w' → Q (.exit N) a' w') : c.wp P Q a w :=
  Code.wp_mono (fun e a' w' hq => by
    cases e with
    | exit n => obtain ⟨rfl, hr⟩ := hq; exact k _ _ hr
    | _ => exact hq.elim) h

/-- the bodies of a code's loops, the outer ones first -/
def loopsOf : Code → List Code
  | .loop c => c :: loopsOf c
  | .seq a b => loopsOf a ++ loopsOf b
  | .block _ c => loopsOf c
  | .scope c => loopsOf c
  | .cond _ a b => loopsOf a ++ loopsOf b
  | _ => []
/-- a part of a code: 0, the first; 1, the second -/
def codeAt : List Nat → Code → Code
  | [], c => c
  | 0 :: p, .seq a _ => codeAt p a
  | _ :: p, .seq _ b => codeAt p b
  | _ :: p, .loop c => codeAt p c
  | _ :: p, .block _ c => codeAt p c
  | _ :: p, .scope c => codeAt p c
  | 0 :: p, .cond _ a _ => codeAt p a
  | _ :: p, .cond _ _ b => codeAt p b
  | _, c => c
noncomputable def Tryz.longAt (p : List Nat) : Code := codeAt p (Tryz.f98.body.getD .skip)
noncomputable def Tryz.longLoop (k : Nat) : Code := ((loopsOf (Tryz.f98.body.getD .skip))[k]?).getD .skip

theorem Own.drewN {w : World} {base : Nat} {A : Option Addr} {n c : Nat} {xs : List Nat} (h : Own w base A n c xs) (q : Nat) : Own (w.drewN q) base A n c xs := ⟨⟨h.mine.len, h.mine.cap, h.mine.big, h.mine.row⟩, h.lim⟩
theorem Num.drewN {w : World} {A : Option Addr} {n c : Nat} {xs : List Nat} (h : Num w A n c xs) (q : Nat) : Num (w.drewN q) A n c xs := ⟨⟨h.sl.len, h.sl.cap, h.sl.big, h.sl.cells⟩, h.lim⟩
theorem grownBy_drewN {w w' : World} {row : Option Nat} (h : w.grownBy w' row) (q : Nat) : w.grownBy (w'.drewN q) row := ⟨h.os, h.tape, h.output, h.size, h.block⟩
theorem Own.drew {w : World} {base : Nat} {A : Option Addr} {n c : Nat} {xs : List Nat} (h : Own w base A n c xs) : Own w.drew base A n c xs := ⟨⟨h.mine.len, h.mine.cap, h.mine.big, h.mine.row⟩, h.lim⟩
theorem Num.drew {w : World} {A : Option Addr} {n c : Nat} {xs : List Nat} (h : Num w A n c xs) : Num w.drew A n c xs := ⟨⟨h.sl.len, h.sl.cap, h.sl.big, h.sl.cells⟩, h.lim⟩
theorem grownBy_drew {w w' : World} {row : Option Nat} (h : w.grownBy w' row) : w.grownBy w'.drew row := ⟨h.os, h.tape, h.output, h.size, h.block⟩
theorem or_join32 (y x : Nat) (hy : y < 4294967296) (hx : x < 4294967296) : Go.bits .or .u64 ((y : Int) * 4294967296) (x : Int) = ((y * 4294967296 + x : Nat) : Int) := by
  have h := or_join64 32 y x hx (by omega)
  rwa [show ((y * 2 ^ 32 : Nat) : Int) = (y : Int) * 4294967296 by rw [show (2 : Nat) ^ 32 = 4294967296 from rfl]; omega] at h
theorem low_still (x : Int) (y : Nat) (w : World) (h0 : 0 ≤ x) (h1 : x < 18446744073709551616) (e : x % 4294967296 = (y : Int)) :
    Calls Tryz.prog 63 #[.int .u64 x] w fun e w' => e = .returned (.int .u32 (y : Int)) ∧ w' = w := (low_int x w h0 h1).mono fun _ _ ⟨a, b⟩ => ⟨by rw [a, e], b.symm⟩
theorem Sub32_still (x y c : Nat) (w : World) (hx : x < 4294967296) (hy : y < 4294967296) (hc : c ≤ 1) :
    Calls Tryz.prog 121 #[.int .u32 x, .int .u32 y, .int .u32 c] w fun e w' => e = .returned (.tuple #[.int .u32 (diff x y c : Nat), .int .u32 (borr x y c : Nat)]) ∧ w' = w := (Sub32_any x y c w hx hy hc).mono fun _ _ ⟨a, b⟩ => ⟨a, b.symm⟩
theorem Add32_still (x y c : Nat) (w : World) (hx : x < 4294967296) (hy : y < 4294967296) (hc : c ≤ 1) :
    Calls Tryz.prog 122 #[.int .u32 x, .int .u32 y, .int .u32 c] w fun e w' => e = .returned (.tuple #[.int .u32 ((x + y + c) % 4294967296 : Nat), .int .u32 ((x + y + c) / 4294967296 : Nat)]) ∧ w' = w := (Add32_any x y c w hx hy hc).mono fun _ _ ⟨a, b⟩ => ⟨a, b.symm⟩

end Go.Proofs.YtbcpfdeklglknaaGreatDoor
