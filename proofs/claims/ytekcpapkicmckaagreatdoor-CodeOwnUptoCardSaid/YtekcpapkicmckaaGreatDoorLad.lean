/- From a row's listed variables to what a walk reads of them: what all rows share. -/
import Derived.Test.YtekcpapkicmckaaGreatDoorRows
import Derived.Test.YtekcpapkicmckaaGreatDoorSho
import Derived.ProofKit
import Derived.OpenShut
import Derived.ShutString
import Derived.LaidMore
import Derived.Lay
import Derived.Lib.LaidTab
import Derived.HandedShaped
import Derived.SevenTiedAt
import Derived.Shelf.Vars
import Derived.Stop.Joined
namespace Go.Proofs.YtekcpapkicmckaaGreatDoor
open Go.ChangeShapes Go.WideShapes Go.ChangeAt Go.RowKit
set_option linter.unusedVariables false

/-- one of the listed variables -/
theorem laid_var {P : Program} {W : World} {n : String} {d : DataW Unit} : ∀ (l : List (String × DataW Unit)) (ps : List MemPlace), DataW.LaidVars P W l ps → (n, d) ∈ l →
    ∃ g t cs fuel p, P.globalNamed n = some g ∧ (P.globals[g]?).map (·.type) = some t ∧ W.var? P n = some cs ∧ DataW.trod (fun _ => ()) P W 0 (fun _ => true) false fuel t cs.toList = some (d, p)
  | [], _, _, hm => by cases hm
  | x :: r, ps, h, hm => by
    obtain ⟨g, t, cs, fuel, p, q, hg, ht, hv, hd, hr, _⟩ := h
    rcases List.mem_cons.1 hm with e | hm
    · subst e; exact ⟨g, t, cs, fuel, p, hg, ht, hv, hd⟩
    · exact laid_var r q hr hm

theorem ten_laid {W : World} {l : List (String × DataW Unit)} (h : laidMet Tryz.prog l W) (hm : ("internal/strconv.uint64pow10", Rows.laid_internal_strconv_uint64pow10) ∈ l) : Lib.TabIs Tryz.prog W "internal/strconv.uint64pow10" .u64 Lib.pow10Tab := by
  obtain ⟨ps, hl, _⟩ := h
  obtain ⟨g, t, cs, fuel, p, hg, ht, hv, hd⟩ := laid_var l ps hl hm
  obtain rfl := Option.some.inj (gTen.symm.trans hg)
  obtain rfl := Option.some.inj ((show (Tryz.prog.globals[3]?).map (·.type) = some 263 by kernel_rfl).symm.trans ht)
  unfold Lib.TabIs
  rw [hv, ← Lib.cells_of_tab (k := .u64) (zs := Lib.pow10Tab) Tryz.underlying263 Tryz.underlying94 (by kernel_rfl) (by kernel_rfl) hd]

set_option maxRecDepth 100000 in
theorem pow_laid {W : World} {l : List (String × DataW Unit)} (h : laidMet Tryz.prog l W) (hm : ("internal/strconv.pow10Tab", Rows.laid_internal_strconv_pow10Tab) ∈ l) (k H L : Nat) (hk : k < 696) (he : Go.Pinned.pow10Rows[k]? = some (H, L)) : PowAt W k H L := by
  obtain ⟨ps, hl, _⟩ := h
  obtain ⟨g, t, cs, fuel, p, hg, ht, hv, hd⟩ := laid_var l ps hl hm
  obtain rfl := Option.some.inj ((show Tryz.prog.globalNamed "internal/strconv.pow10Tab" = some 12 by kernel_rfl).symm.trans hg)
  obtain rfl := Option.some.inj ((show (Tryz.prog.globals[12]?).map (·.type) = some 334 by kernel_rfl).symm.trans ht)
  obtain ⟨xs, m, _, ex, hcl, hl, hel⟩ := DataW.trod_array Tryz.underlying334 hd
  have c2 : Tryz.prog.cellsOf 333 = 2 := by kernel_rfl
  have hE := hel k hk
  rw [c2, List.getElem?_eq_getElem (by omega)] at hE
  obtain ⟨ys, n, rfl, hx, hlen, hyl, hyel⟩ := DataW.trod_struct Tryz.underlying333 hE
  have h0 := hyel 0 _ rfl
  have h1 := hyel 1 _ rfl
  have c3 : Tryz.prog.cellsOf 94 = 1 := by kernel_rfl
  change DataW.trod _ _ _ _ _ _ _ 94 ((((cs.toList.drop (k * 2)).take 2).drop 0).take (Tryz.prog.cellsOf 94)) = _ at h0
  change DataW.trod _ _ _ _ _ _ _ 94 ((((cs.toList.drop (k * 2)).take 2).drop 1).take (Tryz.prog.cellsOf 94)) = _ at h1
  rw [c3] at h0 h1
  match ys, hyl with
  | [x0, x1], _ =>
    obtain ⟨k0, e0, f0, _⟩ := DataW.trod_int Tryz.underlying94 h0
    obtain ⟨k1, e1, f1, _⟩ := DataW.trod_int Tryz.underlying94 h1
    have e3 := congrArg (fun x : DataW Unit => match x with | .agg ys => ys[k]? | _ => none) (Prod.mk.inj ex).1
    simp only [Rows.laid_internal_strconv_pow10Tab, Go.Pinned.pow10Tab, List.getElem?_map, he, List.getElem?_eq_getElem (by omega : k < xs.length), hx, Option.map_some] at e3
    simp [f0, f1] at e3
    obtain ⟨g0, g1⟩ := e3
    have a0 : cs.toList[k * 2]? = some (.int .u64 k0) := by
      have := congrArg (·[0]?) e0
      simpa [List.getElem?_take, List.getElem?_drop] using this
    have a1 : cs.toList[k * 2 + 1]? = some (.int .u64 k1) := by
      have := congrArg (·[0]?) e1
      simpa [List.getElem?_take, List.getElem?_drop] using this
    constructor
    · rw [World.var?_cell hg hv (k * 2), g0]
      simpa using a0
    · rw [World.var?_cell hg hv (k * 2 + 1), g1]
      simpa using a1

theorem max_shaped {W : World} (h : W.ShapedOpen Tryz.prog) : ∃ m, W.cell? ⟨4, 0, none⟩ = some (.int .i64 m) :=
  cell_of_shapedOpen_int (t := 3) (zero := #[.int .i64 0]) h (of_decide_eq_true (by kernel_rfl)) (by kernel_rfl) rfl (by kernel_rfl) (by kernel_rfl) Tryz.underlying3

theorem row365 : Go.Pinned.pow10Rows[365]? = some (12800000000000000000, 0) := by kernel_rfl


end Go.Proofs.YtekcpapkicmckaaGreatDoor
