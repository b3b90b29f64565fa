/- thicketlaw02.FloatsSame answers true for all digits, every point and every move: noughts ahead and behind and a point that is moved with the power leave the number that floats.Read reads as it is; what is handed in stays. The listed variables read as their own texts lay them. -/
import Derived.Test.YtbcpfdeklglknaaGreatDoorRows
import Derived.Test.YtbcpfdeklglknaaGreatDoorTie
import Derived.Test.YtbcpfdeklglknaaGreatDoorCards
import Derived.Test.YtbcpfdeklglknaaGreatDoorLaid
import Derived.Test.YtbcpfdeklglknaaGreatDoorSaw
import Derived.SizedLaws
import Derived.ChangeOld
namespace Go.Proofs.YtbcpfdeklglknaaGreatDoor.floatsSame
open Go.ChangeShapes Go.WideShapes Go.ChangeAt Go.RowKit
set_option linter.unusedVariables false

theorem laidOut : laidOutB Tryz.prog = true := by kernel_rfl
theorem begs_laid {W : World} (h : laidMetH Tryz.prog Rows.floatsSameRow.laid W) (hs : W.ShapedOpen Tryz.prog) : Begs W := by
  rw [MakeChecks.laidMetH_plain _ _ _ (by kernel_rfl)] at h
  exact ⟨⟨wide_laid h (by simp [Rows.floatsSameRow]), pow_laid h (by simp [Rows.floatsSameRow]) 365 _ _ (by omega) row365, ten_laid h (by simp [Rows.floatsSameRow]), max_shaped hs⟩, tz_laid h (by simp [Rows.floatsSameRow])⟩

theorem own : ownKnob Tryz.prog.godebug = none := by kernel_rfl

/-- a slice of numbers that came in -/
def IsRow (k : IntKind) (w : World) (a : Option Addr) (len cap : Nat) (zs : List Int) : Prop :=
  (a = none ∧ len = 0 ∧ cap = 0 ∧ zs = []) ∨
  ∃ x, a = some x ∧ len ≤ cap ∧ cap ≤ maxLen ∧ zs.length = cap ∧ (∀ i, i < zs.length → w.cell? (x.add i) = some (.int k (zs.getD i 0))) ∧ ∀ n ∈ zs, (Lit.int k n).wf = true

theorem wf_u8 {z : Int} (h : (Lit.int .u8 z).wf = true) : 0 ≤ z ∧ z < 256 := by
  simp [Lit.wf] at h
  have e1 : IntKind.u8.min = 0 := by decide
  have e2 : IntKind.u8.max = 255 := by decide
  omega

theorem sl_of_row {w : World} {A : Option Addr} {len cap : Nat} {zs : List Int} (h : IsRow .u8 w A len cap zs) (hb : len ≤ 281474976710656) : Sl w A len cap (u8s ((zs.take len).map Int.toNat)) ∧ ∀ d ∈ (zs.take len).map Int.toNat, d < 256 := by
  rcases h with ⟨rfl, rfl, rfl, rfl⟩ | ⟨x, rfl, hl, hm, hz, hc, hw⟩
  · exact ⟨Sl.nil _ _, fun d hd => by simp at hd⟩
  · have hlen : ((zs.take len).map Int.toNat).length = len := by simp; omega
    have hwf : ∀ j, j < len → 0 ≤ zs.getD j 0 ∧ zs.getD j 0 < 256 := fun j hj => wf_u8 (hw _ (by
      rw [List.getD_eq_getElem?_getD, List.getElem?_eq_getElem (by omega)]
      exact List.getElem_mem _))
    have hnth : ∀ j, j < len → ((zs.take len).map Int.toNat).getD j 0 = (zs.getD j 0).toNat := fun j hj => by
      rw [List.getD_eq_getElem?_getD, List.getElem?_map, List.getElem?_take_of_lt hj, List.getD_eq_getElem?_getD, List.getElem?_eq_getElem (show j < zs.length by omega)]
      rfl
    refine ⟨⟨by rw [u8s_length, hlen], hl, hb, fun h0 => ?_⟩, fun d hd => ?_⟩
    · have h1 := hc 0 (by omega)
      obtain ⟨b, o, s⟩ := x
      have hs : s = none := by
        cases s with
        | none => rfl
        | some k =>
          exfalso
          simp [Addr.add, World.cell?] at h1
          split at h1 <;> simp at h1
      subst hs
      refine ⟨b, o, rfl, fun j hj => ?_⟩
      rw [u8s_getD (by rw [hlen]; exact hj), hnth j hj]
      have h2 := hc j (by omega)
      rw [add_row] at h2
      rw [h2, Int.toNat_of_nonneg (hwf j hj).1]
    · obtain ⟨z, hz1, rfl⟩ := List.mem_map.1 hd
      have := wf_u8 (hw z (List.mem_of_mem_take hz1))
      omega

theorem walk (a1 : Option Addr) (len1 cap1 : Nat) (z1 : List Int) (a2 a3 a4 : Int) (w : World) (hg : Begs w) (w1 : IsRow .u8 w a1 len1 cap1 z1) (b1 : len1 ≤ 281474976710656) (k3 : (Lit.int .u8 a3).wf = true) (k4 : (Lit.int .u8 a4).wf = true) :
    Calls Tryz.prog 3 #[.slice a1 len1 cap1, .int .i64 a2, .int .u8 a3, .int .u8 a4] w fun e w' => e = .returned (.bool true) ∧ Below w.heap.size w w' := by
  obtain ⟨h1, h2⟩ := sl_of_row w1 b1
  obtain ⟨q1, q2⟩ := wf_u8 k3
  obtain ⟨q3, q4⟩ := wf_u8 k4
  obtain ⟨m3, rfl⟩ := Int.eq_ofNat_of_zero_le q1
  obtain ⟨m4, rfl⟩ := Int.eq_ofNat_of_zero_le q3
  exact same_law a1 len1 cap1 _ a2 m3 m4 w hg h1 h2 (by omega) (by omega)

theorem sized_len {H : Type} {ts : List TypeId} {ds : List (DataW H)} (h : (DataW.weightsEach Tryz.prog ts ds).all (· ≤ reachBytes) = true) {j : Nat} {d : DataW H} {p q : List MemPlace} {zs : List Int} {len cap : Nat} (ht : ts[j]? = some 22) (hd : ds[j]? = some d)
    (hx : (d, p) = (.slice (lits .u8 (zs.take len)) (lits .u8 (zs.drop len)), q)) (hz : zs.length = cap) (hl : len ≤ cap) : len ≤ 281474976710656 := by
  obtain ⟨rfl, _⟩ := Prod.mk.inj hx
  have := sized_slice h ht hd Tryz.underlying22
  have hb : Tryz.prog.bytesOf 5 = 1 := by kernel_rfl
  rw [hb] at this
  simp [lits, reachBytes] at this
  omega

set_option maxRecDepth 100000 in
theorem lifted (os : Os) (started : os.Started) (H : Type) (enc : TypeId × Value → H) :
    ReturnsInHanded {} Tryz.checked os 3 .any (fun w args => (Rows.floatsSameSpec.pre enc Tryz.prog Tryz.f3 [] false w args ∧ laidMetH Tryz.prog Rows.floatsSameRow.laid w) ∧ sizedMet enc Tryz.prog Tryz.f3 (OpenSpec.ofChange Rows.floatsSameSpec) false w args)
      (Rows.floatsSameSpec.post enc Tryz.prog Tryz.f3 false true false false) := by
  refine returns_laid_shaped (C := Tryz.checked) (X := fun w _ => laidMetH Tryz.prog Rows.floatsSameRow.laid w) (fun _ _ _ hh h => h.of_heap hh) own started (by kernel_rfl) Tryz.func3
    (ChangeSpec.witness_shaped (enc := enc) (C := Tryz.checked) (os := os) (X := fun w _ => laidMetH Tryz.prog Rows.floatsSameRow.laid w) false (World.laidAll Tryz.prog os Rows.floatsSameRow.laid) #[.slice none 0 0, .int .i64 0, .int .u8 0, .int .u8 0] 8 (World.laidAll_os _ _ _)
      (World.shaped_of_ZipB (by kernel_rfl) (by kernel_rfl)) (by kernel_rfl) (by kernel_rfl) (by kernel_rfl)
      (by rw [MakeChecks.laidMetH_plain _ _ _ (by kernel_rfl)]; exact laidMet_laidAll _ (by kernel_rfl) (by kernel_rfl))) ?_
  intro W base args ds gs before hval0 hW _ hsz hL hsh
  have hval : ∀ (j : Nat) t v, Tryz.f3.params[j]? = some t → args[j]? = some v → Value.okWide Tryz.prog W .any base t v := hval0
  have hW' := hW
  obtain ⟨p, q, hA0, hV, rfl, hfz, hnd⟩ := hW
  have hA : DataW.TrodAll enc Tryz.prog W 0 (fun _ => true) true Tryz.f3.params.toList args.toList ds p := hA0
  rw [Tryz.params3] at hA hval
  obtain ⟨v0, vs0, d0, ds0, p0, q0, hargs, rfl, rfl, h0, r0⟩ := trodAll_cons hA
  obtain ⟨v1, vs1, d1, ds1, p1, q1, rfl, rfl, rfl, h1, r1⟩ := trodAll_cons r0
  obtain ⟨v2, vs2, d2, ds2, p2, q2, rfl, rfl, rfl, h2, r2⟩ := trodAll_cons r1
  obtain ⟨v3, vs3, d3, ds3, p3, q3, rfl, rfl, rfl, h3, r3⟩ := trodAll_cons r2
  obtain ⟨rfl, rfl, rfl⟩ := trodAll_nil r3
  obtain rfl : args = #[v0, v1, v2, v3] := by cases args; simp_all
  obtain ⟨rfl, rfl⟩ := trodVars_none hV
  obtain ⟨a0, len0, cap0, rfl⟩ := okWide_slice Tryz.underlying22 (hval 0 22 v0 rfl rfl)
  obtain ⟨a1, rfl, rfl, rfl, w1⟩ := open_int Tryz.underlying3 (hval 1 3 v1 rfl rfl) h1
  obtain ⟨a2, rfl, rfl, rfl, w2⟩ := open_int Tryz.underlying5 (hval 2 5 v2 rfl rfl) h2
  obtain ⟨a3, rfl, rfl, rfl, w3⟩ := open_int Tryz.underlying5 (hval 3 5 v3 rfl rfl) h3
  have k0 := h0
  have lt0 : ∀ x ∈ p0, x.block < W.heap.size := by obtain ⟨m, hm⟩ := k0; exact DataW.trod_lt m _ _ _ hm
  obtain ⟨z0, w0, b0⟩ : ∃ zs, IsRow .u8 W a0 len0 cap0 zs ∧ len0 ≤ 281474976710656 := by
    obtain ⟨fuel, hf⟩ := h0
    rcases open_ints Tryz.underlying22 Tryz.underlying5 (by kernel_rfl) hf with ⟨hcs, _⟩ | ⟨x, l, c, zs, hcs, _, hl, hm, hz, hdat, hcell, hwz⟩
    · simp [Value.cells] at hcs
      obtain ⟨rfl, rfl, rfl⟩ := hcs
      exact ⟨[], .inl ⟨rfl, rfl, rfl, rfl⟩, by omega⟩
    · simp [Value.cells] at hcs
      obtain ⟨rfl, rfl, rfl⟩ := hcs
      exact ⟨zs, .inr ⟨_, rfl, hl, hm, by simpa using hz, hcell, hwz⟩, sized_len hsz (j := 0) rfl rfl hdat (by simpa using hz) hl⟩
  clear hA0 hval0
  refine (walk a0 len0 cap0 z0 a1 a2 a3 W (begs_laid hL hsh) w0 b0 w2 w3).mono fun e W' ⟨he, bel⟩ => ?_
  subst he
  exact ⟨_, rfl, _, _, _, [], _, [], hW', trodAll_mk1 (shut_bool Tryz.underlying4 _), (trodAll_cons_mk (Below.trod laidOut (by kernel_rfl) (of_decide_eq_true (by kernel_rfl)) k0 bel lt0) (trodAll_cons_mk (shut_int Tryz.underlying3 w1) (trodAll_cons_mk (shut_int Tryz.underlying5 w2) (trodAll_cons_mk (shut_int Tryz.underlying5 w3) trodAll_mk0)))), rfl, bel.frame _, fun h => by cases h⟩

theorem over : Rows.FloatsSameSaid :=
  OpenClaim.holds_of_wide 3 Tryz.f3 rfl rfl rfl rfl rfl rfl rfl ⟨rfl, rfl, rfl, rfl, rfl⟩ rfl rfl rfl rfl rfl (by kernel_rfl) Tryz.func3 (by kernel_rfl)
    (of_decide_eq_true (by kernel_rfl)) (by unfold Func.isWrapper; first | (rw [if_pos (by decide +kernel)]; kernel_rfl) | (rw [if_neg (by decide +kernel)]; exact ⟨rfl, rfl⟩))
    (fun os started H enc _ => lifted os started H enc)

/-- THE CARD -/
theorem proved : Rows.FloatsSameCardSaid :=
  Claim7.holds_tied_plain_at .later [] [.data, .data, .data, .data, .data, .sentinel, .sentinel, .wider, .pinned, .pinned, .pinned] true (true, "c89e22f86287752d1dc0fc1f02a9f03df3e0f96f32f906a028c1477c7cdeb55d") true
    over (fun _ h => by cases h) (by kernel_rfl) (fun _ h => by cases h) floatsSame_row_tie rfl ⟨rfl, rfl⟩ (by kernel_rfl) rfl
    (fun f fn hf hfn => by
      obtain rfl : f = 3 := Option.some.inj ((show Tryz.prog.funcNamed "thicket/thicketlaw02.FloatsSame" = some 3 by kernel_rfl).symm.trans hf) |>.symm
      obtain rfl : fn = Tryz.f3 := (Option.some.inj (Tryz.func3.symm.trans hfn)).symm
      exact ⟨by kernel_rfl, fun j t ht => by
        rw [Tryz.params3] at ht
        have hm : t ∈ [22, 3, 5, 5] := by simpa using Array.mem_of_getElem? ht
        have hall : ([22, 3, 5, 5].all fun u => !Tryz.prog.wantsStandIn u) = true := by kernel_rfl
        exact (show Tryz.prog.wantsStandIn t = false by simpa using List.all_eq_true.1 hall t hm)⟩)
    (by kernel_rfl)
#print axioms proved
end Go.Proofs.YtbcpfdeklglknaaGreatDoor.floatsSame
