/- thicketlaw02.FloatsNearest answers true for every sign and all limbs, nil and with needless noughts too: floats.Nearest is the document's answer, bit for bit, or the fault of a quotient over nought; what is handed in stays. The package's variable floats.wide reads as its own text lays it. -/
import Derived.Test.YtilbadhadnockaaDoorRows
import Derived.Test.YtilbadhadnockaaDoorTie
import Derived.Test.YtilbadhadnockaaDoorCards
import Derived.Test.YtilbadhadnockaaDoorWalkN
import Derived.WalkKit
import Derived.ProofKit
import Derived.OpenShut
import Derived.ShutString
import Derived.ChangeOld
import Derived.Below
import Derived.LaidMore
import Derived.SizedLaws
import Derived.Stop.Joined
import Derived.SevenTiedAt
namespace Go.Proofs.YtilbadhadnockaaDoor.floatsNearest
open Go.ChangeShapes Go.WideShapes Go.ChangeAt Go.RowKit
open Go.ChangeMaps (open_string shut_string)
set_option linter.unusedVariables false

theorem own : ownKnob Tryd.prog.godebug = none := by kernel_rfl
theorem laidOut : laidOutB Tryd.prog = true := by kernel_rfl
theorem gWide : Tryd.prog.globalNamed "thicket/floats.wide" = some 1 := by kernel_rfl
theorem tWide : (Tryd.prog.globals[1]?).map (·.type) = some 56 := by kernel_rfl

/-- a slice of numbers that came in -/
def IsRow (k : IntKind) (w : World) (a : Option Addr) (len cap : Nat) (zs : List Int) : Prop :=
  (a = none ∧ len = 0 ∧ cap = 0 ∧ zs = []) ∨
  ∃ x, a = some x ∧ len ≤ cap ∧ cap ≤ maxLen ∧ zs.length = cap ∧ (∀ i, i < zs.length → w.cell? (x.add i) = some (.int k (zs.getD i 0))) ∧ ∀ n ∈ zs, (Lit.int k n).wf = true

theorem wf_u32 {z : Int} (h : (Lit.int .u32 z).wf = true) : 0 ≤ z ∧ z < 4294967296 := by
  simp [Lit.wf] at h
  have e1 : IntKind.u32.min = 0 := by decide
  have e2 : IntKind.u32.max = 4294967295 := by decide
  omega

theorem num_of_row {w : World} {A : Option Addr} {len cap : Nat} {zs : List Int} (h : IsRow .u32 w A len cap zs) (hb : len ≤ 281474976710656) : Num w A len cap ((zs.take len).map Int.toNat) := by
  rcases h with ⟨rfl, rfl, rfl, rfl⟩ | ⟨x, rfl, hl, hm, hz, hc, hw⟩
  · exact Num.nil _ _
  · have hlen : ((zs.take len).map Int.toNat).length = len := by simp; omega
    have hwf : ∀ j, j < len → 0 ≤ zs.getD j 0 ∧ zs.getD j 0 < 4294967296 := fun j hj => wf_u32 (hw _ (by
      rw [List.getD_eq_getElem?_getD, List.getElem?_eq_getElem (by omega)]
      exact List.getElem_mem _))
    have hnth : ∀ j, j < len → nth ((zs.take len).map Int.toNat) j = (zs.getD j 0).toNat := fun j hj => by
      unfold nth
      rw [List.getD_eq_getElem?_getD, List.getElem?_map, List.getElem?_take_of_lt hj, List.getD_eq_getElem?_getD, List.getElem?_eq_getElem (show j < zs.length by omega)]
      rfl
    refine ⟨⟨by rw [u32s_length, hlen], hl, hb, fun h0 => ?_⟩, lim_of_nth fun j hj => ?_⟩
    · have h1 := hc 0 (by omega)
      obtain ⟨b, o, s⟩ := x
      have hs : s = none := by
        cases s with
        | none => rfl
        | some k =>
          exfalso
          simp [Addr.add, World.cell?] at h1
          split at h1 <;> simp at h1
      subst hs
      refine ⟨b, o, rfl, fun j hj => ?_⟩
      rw [u32s_getD (by rw [hlen]; exact hj), hnth j hj]
      have h2 := hc j (by omega)
      rw [add_row] at h2
      rw [h2, Int.toNat_of_nonneg (hwf j hj).1]
    · rw [hlen] at hj
      rw [hnth j hj]
      have := hwf j hj
      omega

/-- FROM 'laid' TO THE WALK's FACT. -/
theorem wide_of_laid {W : World} (h : laidMetH Tryd.prog Rows.floatsNearestRow.laid W) : WideAt W := by
  rw [MakeChecks.laidMetH_plain _ _ _ (by kernel_rfl)] at h
  obtain ⟨ps, ⟨g0, t0, cs0, f0, p0, q0, hg0, ht0, hv0, hd0, _, _⟩, _⟩ := h
  obtain rfl := Option.some.inj (gWide.symm.trans hg0)
  obtain rfl := Option.some.inj (tWide.symm.trans ht0)
  obtain ⟨xs, n, rfl, hx, hlen, hl, hel⟩ := DataW.trod_struct Tryd.underlying56 hd0
  have h0 := hel 0 _ rfl
  have h1 := hel 1 _ rfl
  have h2 := hel 2 _ rfl
  have c3 : Tryd.prog.cellsOf 3 = 1 := by kernel_rfl
  have cf : Tryd.prog.cellsOf 56 = 3 := by kernel_rfl
  rw [cf] at hlen
  change DataW.trod _ _ _ _ _ _ _ 3 ((cs0.toList.drop 0).take (Tryd.prog.cellsOf 3)) = _ at h0
  change DataW.trod _ _ _ _ _ _ _ 3 ((cs0.toList.drop 1).take (Tryd.prog.cellsOf 3)) = _ at h1
  change DataW.trod _ _ _ _ _ _ _ 3 ((cs0.toList.drop 2).take (Tryd.prog.cellsOf 3)) = _ at h2
  rw [c3] at h0 h1 h2
  obtain ⟨l⟩ := cs0
  match l, hlen with
  | [y0, y1, y2], _ =>
    match xs, hl with
    | [x0, x1, x2], _ =>
      obtain ⟨k0, e0, f0, _⟩ := DataW.trod_int Tryd.underlying3 h0
      obtain ⟨k1, e1, f1, _⟩ := DataW.trod_int Tryd.underlying3 h1
      obtain ⟨k2, e2, f2, _⟩ := DataW.trod_int Tryd.underlying3 h2
      simp at e0 e1 e2
      simp [f0, f1, f2, Rows.laid_thicket_floats_wide] at hx
      obtain ⟨⟨rfl, rfl, rfl⟩, _⟩ := hx
      subst e0 e1 e2
      exact ⟨by simpa using World.var?_cell hg0 hv0 0, by simpa using World.var?_cell hg0 hv0 1, by simpa using World.var?_cell hg0 hv0 2⟩

theorem door_met (os : Os) (args : Array Value) : laidMetH Tryd.prog Rows.floatsNearestRow.laid ((World.doorLaid Tryd.prog 400 os).forCall (fun _ _ => 0) ⟨#[], args, []⟩).memory :=
  laidMetH_of_parts3 (fuel := 8) (laidMet_of_run' 8 (by kernel_rfl) (by kernel_rfl)) (by kernel_rfl) (by kernel_rfl)

theorem walk (a0 : Bool) (a1 : Option Addr) (len1 cap1 : Nat) (z1 : List Int) (a2 : Option Addr) (len2 cap2 : Nat) (z2 : List Int) (w : World) (hg : WideAt w) (w1 : IsRow .u32 w a1 len1 cap1 z1) (w2 : IsRow .u32 w a2 len2 cap2 z2) (b1 : len1 ≤ 35184372087808) (b2 : len2 ≤ 35184372087808) :
    Calls Tryd.prog 3 #[.bool a0, .slice a1 len1 cap1, .slice a2 len2 cap2] w fun e w' => e = .returned (.bool true) ∧ Below w.heap.size w w' :=
  Nearest_true a0 a1 a2 len1 cap1 len2 cap2 _ _ w hg (num_of_row w1 (by omega)) (num_of_row w2 (by omega)) b1 b2

theorem sized_len {H : Type} {ts : List TypeId} {ds : List (DataW H)} (h : (DataW.weightsEach Tryd.prog ts ds).all (· ≤ reachBytes) = true) {j : Nat} {d : DataW H} {p q : List MemPlace} {zs : List Int} {len cap : Nat} (ht : ts[j]? = some 22) (hd : ds[j]? = some d)
    (hx : (d, p) = (.slice (lits .u32 (zs.take len)) (lits .u32 (zs.drop len)), q)) (hz : zs.length = cap) (hl : len ≤ cap) : len ≤ 35184372087808 := by
  obtain ⟨rfl, _⟩ := Prod.mk.inj hx
  have := sized_slice h ht hd Tryd.underlying22
  have hb : Tryd.prog.bytesOf 50 = 4 := by kernel_rfl
  rw [hb] at this
  simp [lits, reachBytes] at this
  omega

set_option maxRecDepth 100000 in
theorem lifted (os : Os) (started : os.Started) (H : Type) (enc : TypeId × Value → H) :
    ReturnsInHanded {} Tryd.checked os 3 .any (fun w args => (Rows.floatsNearestSpec.pre enc Tryd.prog Tryd.f3 [] false w args ∧ laidMetH Tryd.prog Rows.floatsNearestRow.laid w) ∧ sizedMet enc Tryd.prog Tryd.f3 (OpenSpec.ofChange Rows.floatsNearestSpec) false w args)
      (Rows.floatsNearestSpec.post enc Tryd.prog Tryd.f3 false true false false) := by
  refine returnsInHanded_of_change_and (C := Tryd.checked) (X := fun w _ => laidMetH Tryd.prog Rows.floatsNearestRow.laid w) (fun _ _ _ hh h => h.of_heap hh) own started (by kernel_rfl) Tryd.func3
    (ChangeSpec.witness_shaped (enc := enc) (C := Tryd.checked) (os := os) (X := fun w _ => laidMetH Tryd.prog Rows.floatsNearestRow.laid w) false (World.doorLaid Tryd.prog 400 os) #[.bool false, .slice none 0 0, .slice none 0 0] 8 rfl (World.shaped_of_RefB (by kernel_rfl) (by kernel_rfl)) (by kernel_rfl) (by kernel_rfl) (by kernel_rfl) (door_met os _)) ?_
  intro W base args ds gs before hval0 hW _ hsz hL _
  have hval : ∀ (j : Nat) t v, Tryd.f3.params[j]? = some t → args[j]? = some v → Value.okWide Tryd.prog W .any base t v := hval0
  have hW' := hW
  obtain ⟨p, q, hA0, hV, rfl, hfz, hnd⟩ := hW
  have hA : DataW.TrodAll enc Tryd.prog W 0 (fun _ => true) true Tryd.f3.params.toList args.toList ds p := hA0
  rw [Tryd.params3] at hA hval
  obtain ⟨v0, vs0, d0, ds0, p0, q0, hargs, rfl, rfl, h0, r0⟩ := trodAll_cons hA
  obtain ⟨v1, vs1, d1, ds1, p1, q1, rfl, rfl, rfl, h1, r1⟩ := trodAll_cons r0
  obtain ⟨v2, vs2, d2, ds2, p2, q2, rfl, rfl, rfl, h2, r2⟩ := trodAll_cons r1
  obtain ⟨rfl, rfl, rfl⟩ := trodAll_nil r2
  obtain rfl : args = #[v0, v1, v2] := by cases args; simp_all
  obtain ⟨rfl, rfl⟩ := trodVars_none hV
  obtain ⟨a0, rfl, rfl, rfl⟩ := open_bool Tryd.underlying4 (hval 0 4 v0 rfl rfl) h0
  obtain ⟨a1, len1, cap1, rfl⟩ := okWide_slice Tryd.underlying22 (hval 1 22 v1 rfl rfl)
  have k1 := h1
  have lt1 : ∀ x ∈ p1, x.block < W.heap.size := by obtain ⟨m, hm⟩ := k1; exact DataW.trod_lt m _ _ _ hm
  obtain ⟨z1, w1, b1⟩ : ∃ zs, IsRow .u32 W a1 len1 cap1 zs ∧ len1 ≤ 35184372087808 := by
    obtain ⟨fuel, hf⟩ := h1
    rcases open_ints Tryd.underlying22 Tryd.underlying50 (by kernel_rfl) hf with ⟨hcs, _⟩ | ⟨x, l, c, zs, hcs, _, hl, hm, hz, hdat, hcell, hwz⟩
    · simp [Value.cells] at hcs
      obtain ⟨rfl, rfl, rfl⟩ := hcs
      exact ⟨[], .inl ⟨rfl, rfl, rfl, rfl⟩, by omega⟩
    · simp [Value.cells] at hcs
      obtain ⟨rfl, rfl, rfl⟩ := hcs
      exact ⟨zs, .inr ⟨_, rfl, hl, hm, by simpa using hz, hcell, hwz⟩, sized_len hsz (j := 1) rfl rfl hdat (by simpa using hz) hl⟩
  obtain ⟨a2, len2, cap2, rfl⟩ := okWide_slice Tryd.underlying22 (hval 2 22 v2 rfl rfl)
  have k2 := h2
  have lt2 : ∀ x ∈ p2, x.block < W.heap.size := by obtain ⟨m, hm⟩ := k2; exact DataW.trod_lt m _ _ _ hm
  obtain ⟨z2, w2, b2⟩ : ∃ zs, IsRow .u32 W a2 len2 cap2 zs ∧ len2 ≤ 35184372087808 := by
    obtain ⟨fuel, hf⟩ := h2
    rcases open_ints Tryd.underlying22 Tryd.underlying50 (by kernel_rfl) hf with ⟨hcs, _⟩ | ⟨x, l, c, zs, hcs, _, hl, hm, hz, hdat, hcell, hwz⟩
    · simp [Value.cells] at hcs
      obtain ⟨rfl, rfl, rfl⟩ := hcs
      exact ⟨[], .inl ⟨rfl, rfl, rfl, rfl⟩, by omega⟩
    · simp [Value.cells] at hcs
      obtain ⟨rfl, rfl, rfl⟩ := hcs
      exact ⟨zs, .inr ⟨_, rfl, hl, hm, by simpa using hz, hcell, hwz⟩, sized_len hsz (j := 2) rfl rfl hdat (by simpa using hz) hl⟩
  clear hA0 hval0
  refine (walk a0 a1 len1 cap1 z1 a2 len2 cap2 z2 W (wide_of_laid hL) w1 w2 b1 b2).mono fun e W' ⟨he, bel⟩ => ?_
  subst he
  exact ⟨_, rfl, _, _, _, [], _, [], hW', trodAll_mk1 (shut_bool Tryd.underlying4 _), (trodAll_cons_mk (shut_bool Tryd.underlying4 _) (trodAll_cons_mk (Below.trod laidOut (by kernel_rfl) (of_decide_eq_true (by kernel_rfl)) k1 bel lt1) (trodAll_cons_mk (Below.trod laidOut (by kernel_rfl) (of_decide_eq_true (by kernel_rfl)) k2 bel lt2) trodAll_mk0))), rfl, bel.frame _, fun h => by cases h⟩

theorem over : Rows.FloatsNearestSaid :=
  OpenClaim.holds_of_wide 3 Tryd.f3 rfl rfl rfl rfl rfl rfl rfl ⟨rfl, rfl, rfl, rfl, rfl⟩ rfl rfl rfl rfl rfl (by kernel_rfl) Tryd.func3 (by kernel_rfl)
    (of_decide_eq_true (by kernel_rfl)) (by unfold Func.isWrapper; first | (rw [if_pos (by decide +kernel)]; kernel_rfl) | (rw [if_neg (by decide +kernel)]; exact ⟨rfl, rfl⟩))
    (fun os started H enc _ => lifted os started H enc)

/-- THE CARD -/
theorem proved : Rows.FloatsNearestCardSaid :=
  Claim7.holds_tied_plain_at .later [] [.wider] true (true, "8bb8b36becdb2f7c373137c9f330a9a9290ce8dcd62a29f305118dd22bc2c029") false
    over (fun _ h => by cases h) (by kernel_rfl) (fun _ h => by cases h) floatsNearest_row_tie rfl ⟨rfl, rfl⟩ (by kernel_rfl) rfl
    (fun f fn hf hfn => by
      obtain rfl : f = 3 := Option.some.inj ((show Tryd.prog.funcNamed "thicket/thicketlaw02.FloatsNearest" = some 3 by kernel_rfl).symm.trans hf) |>.symm
      obtain rfl : fn = Tryd.f3 := (Option.some.inj (Tryd.func3.symm.trans hfn)).symm
      exact ⟨by kernel_rfl, fun j t ht => by
        rw [Tryd.params3] at ht
        have hm : t ∈ [4, 22, 22] := by simpa using Array.mem_of_getElem? ht
        have hall : ([4, 22, 22].all fun u => !Tryd.prog.wantsStandIn u) = true := by kernel_rfl
        exact (show Tryd.prog.wantsStandIn t = false by simpa using List.all_eq_true.1 hall t hm)⟩)
    (by kernel_rfl)
#print axioms proved
end Go.Proofs.YtilbadhadnockaaDoor.floatsNearest
