/- append([]uint32{}, a...): a copy of a slice that came in. -/
import Derived.Test.YtekcpapkicmckaaGreatDoorLimA
namespace Go.Proofs.YtekcpapkicmckaaGreatDoor
open Go.RowKit

section
variable {P : Program}
/-- append(s, ys...) where s has been made here and ys may be empty, nil or not -/
theorem app_copy {ops : Array Oper} {rest : List Oper} {o : Oper} {a : Act} {Q : Exit → Act → World → Prop} {W : World} (base : Nat) (hgd : o.guard = none) (s x : Operand) (t e : TypeId) (z : Value) (bytes : Nat)
    (ho : o.op = .call { callee := .builtin .append, args := #[s, x], argTypes := #[t, t] })
    (ht : P.underlying t = some (.slice e)) (hinfo : (P.info? e).map (fun i => (i.zero, i.size, i.bytes)) = some (some z, 1, bytes)) (hz : z.cells.size = 1) (hb0 : 0 < bytes)
    (A : Option Addr) (n c : Nat) (vs : List Value) (B : Option Addr) (m d : Nat) (ys : List Value) (hs : a.eval s = .slice A n c) (hx : a.eval x = .slice B m d) (h1 : ∀ u ∈ ys, u.oneCell' = true)
    (hm : Mine e W base A n c vs) (hr : Sl W B m d ys) (hbase : base ≤ W.heap.size) (hl : (n + m) * bytes ≤ 140737488355328)
    (h : ∀ A' c' w', Mine e w' base A' (n + m) c' (vs ++ ys) → W.grownBy w' (blockOf A) → wpList P ops Q rest (a.put o.dst (.slice A' (n + m) c')) w') :
    wpList P ops Q (o :: rest) a W := by
  by_cases hpos : 0 < m
  · exact app_all base hgd s x t e z bytes ho ht hinfo hz hb0 A n c vs B m d ys hs hx h1 hm hr hbase hl (fun h0 => absurd hpos (by omega)) (fun h0 => absurd hpos (by omega)) (fun _ A' c' w' g1 g2 _ => h A' c' w' g1 g2)
  · obtain rfl : m = 0 := by omega
    have hys : ys = [] := List.eq_nil_of_length_eq_zero hr.len
    subst hys
    refine wpList_plain hgd fun _ hK => ?_
    obtain ⟨i, hi, hzz⟩ := Option.map_eq_some_iff.1 hinfo
    simp only [Prod.mk.injEq] at hzz
    obtain ⟨hz0, hz1, hz2⟩ := hzz
    have hrun : (Builtin.append_ #[t, t] o.type #[.slice A n c, .slice B 0 d]).run P W = .ok (.slice A n c) W := by
      have hcap := hm.cap
      cases A with
      | none =>
        have hrow : n = 0 ∧ c = 0 := by
          rcases hm.row with ⟨_, a, b⟩ | ⟨g, rest, e, _⟩
          · exact ⟨a, b⟩
          · cases e
        obtain ⟨rfl, rfl⟩ := hrow
        cases B with
        | none => simp [Builtin.append_, run_underlying ht, sizeOf, typeInfo, hi, Builtin.lenOf, Builtin.firstCells]
        | some bd => simp [Builtin.append_, run_underlying ht, sizeOf, typeInfo, hi, Builtin.lenOf, Builtin.firstCells, loadCells, loadCellsFrom]
      | some ad =>
        cases B with
        | none => simp [Builtin.append_, run_underlying ht, sizeOf, typeInfo, hi, Builtin.lenOf, Builtin.firstCells, hcap, storeCells]
        | some bd => simp [Builtin.append_, run_underlying ht, sizeOf, typeInfo, hi, Builtin.lenOf, Builtin.firstCells, hcap, storeCells, loadCells, loadCellsFrom]
    unfold Oper.wp execOp
    simp only [ho, resolve, invoke, builtin, Sem.run_bind, Sem.run_pure, Result.andThen_ok, List.map_toArray, List.map_cons, List.map_nil, hs, hx, hrun]
    refine hK _ _ ?_
    have := h A c W (by simpa using hm) (grownBy_of_below (Below.refl _ _) _)
    simpa using this
end

end Go.Proofs.YtekcpapkicmckaaGreatDoor
