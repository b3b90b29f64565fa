/- The state of a tidied program being made, in memory; the map of places. What the walks of the two Tidy share. code.Tidy: the loop that finds where operations land. code.Tidy: the loop that finds which operations stay. code.Tidy: the loop that makes the operations, with jumps that are not set. code.Tidy: the loop that sets the jumps. The contract of code.Tidy. -/
import Derived.Test.YtekcpapkicmckaaGreatDoorCpt
import Derived.Test.YtekcpapkicmckaaGreatDoorPlc
import Derived.Maps.Views
import Derived.Maps.OwnOps
import Derived.Test.YtekcpapkicmckaaGreatDoorLng
import Derived.Test.YtekcpapkicmckaaGreatDoorPrint
import Derived.Deep.QuietTactic
import Derived.BigQuiet
import Derived.IntWalk
namespace Go.Proofs.YtekcpapkicmckaaGreatDoor
open Go.RowKit Go.Maps

/-- a tidied program being made: the program in block P, what each operation was -/
structure TdSt (w : World) (B P : Nat) (F O : Int) (JA : Option Addr) (jn jc : Nat) (js : List Int) (OA : Option Addr) (on oc : Nat) (ops : List OpV) : Prop where
  prog : w.heap[P]? = some (.cells #[.int .i64 F, .int .i64 O, .slice OA on oc] 30 (0, 0))
  js : Mine 3 w B JA jn jc (i64s js)
  hds : ∃ hs, Heads w B OA on oc ops hs ∧ ∀ h ∈ hs, hdBlock h = none ∨ hdBlock h ≠ blockOf JA
  rng : ∀ v ∈ ops, OpRng v ∧ ∀ z ∈ v.cats, -9223372036854775808 ≤ z ∧ z ≤ 9223372036854775807
  low : B ≤ P ∧ B ≤ w.heap.size

section
variable {w w' : World} {B P : Nat} {F O : Int} {JA : Option Addr} {jn jc : Nat} {js : List Int} {OA : Option Addr} {on oc : Nat} {ops : List OpV}
theorem TdSt.own (h : TdSt w B P F O JA jn jc js OA on oc ops) : OwnOps w B OA on oc ops := by
  obtain ⟨hs, hh, _⟩ := h.hds
  exact ⟨⟨hs, hh⟩, h.rng⟩
theorem TdSt.below (h : TdSt w B P F O JA jn jc js OA on oc ops) (hb : Below w.heap.size w w') : TdSt w' B P F O JA jn jc js OA on oc ops := by
  obtain ⟨hs, hh, ha⟩ := h.hds
  exact ⟨(hb.block _ (lt_of_block h.prog)).trans h.prog, h.js.below hb, ⟨hs, hh.below hb, ha⟩, h.rng, ⟨h.low.1, Nat.le_trans h.low.2 hb.size⟩⟩
/-- another block is written: one that holds no cells of these kinds -/
theorem TdSt.kept (h : TdSt w B P F O JA jn jc js OA on oc ops) {row : Option Nat} (hg : w.grownBy w' row) (hrow : ∀ r, row = some r → ∀ cs T fr, w.heap[r]? = some (.cells cs T fr) → T ≠ 30 ∧ T ≠ 3 ∧ T ≠ 75) : TdSt w' B P F O JA jn jc js OA on oc ops := by
  obtain ⟨hs, hh, ha⟩ := h.hds
  have hne : ∀ k cs T fr, w.heap[k]? = some (.cells cs T fr) → (T = 30 ∨ T = 3 ∨ T = 75) → some k ≠ row := by
    intro k cs T fr hk hT e
    have := hrow k e.symm cs T fr hk
    rcases hT with h | h | h
    · exact this.1 h
    · exact this.2.1 h
    · exact this.2.2 h
  refine ⟨(hg.block _ (lt_of_block h.prog) (hne _ _ _ _ h.prog (.inl rfl))).trans h.prog, h.js.kept hg ?_, ⟨hs, hh.kept hg ?_ (fun hd hm => ?_), ha⟩, h.rng, ⟨h.low.1, Nat.le_trans h.low.2 hg.size⟩⟩
  · cases hJ : blockOf JA with
    | none => exact .inl rfl
    | some r =>
      obtain ⟨c2, h2⟩ := h.js.ty hJ
      exact .inr (hne _ _ _ _ h2 (.inr (.inl rfl)))
  · cases hO : blockOf OA with
    | none => exact .inl rfl
    | some r =>
      obtain ⟨c2, h2⟩ := hh.2.1.ty hO
      exact .inr (hne _ _ _ _ h2 (.inr (.inr rfl)))
  · obtain ⟨j, hj, rfl⟩ := List.mem_iff_getElem.1 hm
    cases hA : hdBlock hs[j] with
    | none => exact .inl rfl
    | some r =>
      obtain ⟨c2, h2⟩ := (hh.2.2.1 j hj (by rw [← hh.1]; exact hj)).ty hA
      exact .inr (hne _ _ _ _ h2 (.inr (.inl rfl)))

/-- what an operation was is noted -/
theorem TdSt.noted (h : TdSt w B P F O JA jn jc js OA on oc ops) {w1 : World} {JA' : Option Addr} {jc' : Nat} {x : Int} (hm : Mine 3 w1 B JA' (jn + 1) jc' (i64s js ++ [.int .i64 x])) (hg : w.grownBy w1 (blockOf JA))
    (hA : blockOf JA' = blockOf JA ∨ ∃ k, blockOf JA' = some k ∧ w.heap.size ≤ k) :
    TdSt w1 B P F O JA' (jn + 1) jc' (js ++ [x]) OA on oc ops := by
  obtain ⟨hs, hh, ha⟩ := h.hds
  have ht : ∀ r, blockOf JA = some r → ∃ c2, w.heap[r]? = some (.cells c2 3 (0, 0)) := fun r hr => h.js.ty hr
  have k5 := keep_ty hg h.prog ht (by decide)
  have hh1 : Heads w1 B OA on oc ops hs := hh.kept hg (by
    cases hO : blockOf OA with
    | none => exact .inl rfl
    | some r =>
      obtain ⟨c2, h2⟩ := hh.2.1.ty hO
      refine .inr (fun e => ?_)
      obtain ⟨c3, h3⟩ := ht r e.symm
      exact ty_ne h2 h3 (by decide) rfl) ha
  refine ⟨k5, by simpa [i64s] using hm, ⟨hs, hh1, ?_⟩, h.rng, ⟨h.low.1, Nat.le_trans h.low.2 hg.size⟩⟩
  intro hd hm
  rcases hA with e | ⟨k, e, hk⟩
  · rw [e]; exact ha hd hm
  · cases hd' : hdBlock hd with
    | none => exact .inl rfl
    | some r =>
      have := (hh.lt hd hm r hd').2
      exact .inr (by rw [e]; intro e2; injection e2 with e2; omega)

/-- operations are added -/
theorem TdSt.added {w0 : World} (h : TdSt w0 B P F O JA jn jc js OA on oc ops) {hs hs2 : List Hd} {ops2 : List OpV} {w1 : World} {OA' : Option Addr} {oc' : Nat} (hh : Heads w0 B OA on oc ops hs) (ha : ∀ h ∈ hs, hdBlock h = none ∨ hdBlock h ≠ blockOf JA)
    (hb : Below w0.heap.size w0 w) (e2 : hs2.length = ops2.length) (hc2 : ∀ j (h1 : j < hs2.length) (h2 : j < ops2.length), CatOwn w B hs2[j] ops2[j].cats) (hnew : ∀ h ∈ hs2, ∀ k, hdBlock h = some k → w0.heap.size ≤ k)
    (hp2 : hs2.Pairwise (fun h h' => ∀ k k', hdBlock h = some k → hdBlock h' = some k' → k ≠ k')) (hr2 : ∀ v ∈ ops2, OpRng v ∧ ∀ z ∈ v.cats, -9223372036854775808 ≤ z ∧ z ≤ 9223372036854775807)
    (hm : MineK 8 75 w1 B OA' (on + ops2.length) oc' (flatOps hs ops ++ flatOps hs2 ops2)) (hg : w.grownBy w1 (blockOf OA)) (hA : blockOf OA' = blockOf OA ∨ ∃ k, blockOf OA' = some k ∧ w.heap.size ≤ k) :
    TdSt (w1.setCell ⟨P, 2, none⟩ (.slice OA' (on + ops2.length) oc')) B P F O JA jn jc js OA' (on + ops2.length) oc' (ops ++ ops2) := by
  have hw := h.below hb
  have hhw := hh.below hb
  have ht : ∀ r, blockOf OA = some r → ∃ c2, w.heap[r]? = some (.cells c2 75 (0, 0)) := fun r hr => hhw.2.1.ty hr
  have k5 := keep_ty hg hw.prog ht (by decide)
  have hn := Heads.snocs hh hb e2 hc2 hnew hp2 hm hg hA
  have hsg := setCell_grownBy w1 P 2 (.slice OA' (on + ops2.length) oc')
  have hap := hn.apart_ty k5 (by decide) (by decide)
  refine ⟨setCell_row (vs := [.int .i64 F, .int .i64 O, .slice OA on oc]) k5 2 _, ?_, ⟨hs ++ hs2, hn.kept hsg hap.1 hap.2, ?_⟩, ?_, ⟨h.low.1, ?_⟩⟩
  · have h1 : Mine 3 w1 B JA jn jc (i64s js) := hw.js.kept hg (by
      cases hJ : blockOf JA with
      | none => exact .inl rfl
      | some r =>
        obtain ⟨c2, h2⟩ := hw.js.ty hJ
        refine .inr (fun e => ?_)
        obtain ⟨c3, h3⟩ := ht r e.symm
        exact ty_ne h2 h3 (by decide) rfl)
    refine h1.kept hsg ?_
    cases hJ : blockOf JA with
    | none => exact .inl rfl
    | some r =>
      obtain ⟨c2, h2⟩ := h1.ty hJ
      exact .inr (fun e => by injection e with e; exact ty_ne h2 k5 (by decide) e)
  · intro hd hm
    rcases List.mem_append.1 hm with hm | hm
    · exact ha hd hm
    · cases hJ : blockOf JA with
      | none =>
        cases hk : hdBlock hd with
        | none => exact .inl rfl
        | some k => exact .inr (by simp)
      | some r =>
        cases hk : hdBlock hd with
        | none => exact .inl rfl
        | some k =>
          have := hnew hd hm k hk
          have := (h.js.lt r hJ).2
          exact .inr (by intro e; injection e with e; omega)
  · intro v hv
    rcases List.mem_append.1 hv with hv | hv
    · exact h.rng v hv
    · exact hr2 v hv
  · exact Nat.le_trans hw.low.2 (Nat.le_trans hg.size hsg.size)

/-- a jump is set -/
theorem TdSt.set {g : Nat} (h : TdSt w B P F O JA jn jc js (some ⟨g, 0, none⟩) on oc ops) (j : Nat) (hj : j < ops.length) (x : Int) (hx : -9223372036854775808 ≤ x ∧ x ≤ 9223372036854775807) :
    TdSt (w.setCell ⟨g, j * 8 + 7, none⟩ (.int .i64 x)) B P F O JA jn jc js (some ⟨g, 0, none⟩) on oc (setTo x ops j) := by
  obtain ⟨hs, hh, ha⟩ := h.hds
  have hsg := setCell_grownBy w g (j * 8 + 7) (.int .i64 x)
  have ht : ∀ r, some g = some r → ∃ c2, w.heap[r]? = some (.cells c2 75 (0, 0)) := fun r hr => hh.2.1.ty hr
  have k5 := keep_ty hsg h.prog ht (by decide)
  obtain ⟨e, hm, hc, h1, h2⟩ := hh
  have hlen : ops.length = on := by have := hm.len; rw [flatOps_length hs ops e] at this; omega
  refine ⟨k5, h.js.kept hsg ?_, ⟨hs, ⟨?_, ?_, ?_, h1, h2⟩, ha⟩, ?_, ⟨h.low.1, Nat.le_trans h.low.2 hsg.size⟩⟩
  · cases hJ : blockOf JA with
    | none => exact .inl rfl
    | some r =>
      obtain ⟨c2, hr2⟩ := h.js.ty hJ
      refine .inr (fun e => ?_)
      obtain ⟨c3, h3⟩ := ht r e.symm
      exact ty_ne hr2 h3 (by decide) rfl
  · unfold setTo; rw [List.length_set]; exact e
  · unfold setTo
    rw [opAt_get hj, ← flatOps_set hs ops e j hj 7 (by omega) (.int .i64 x) { ops[j] with dest := x } rfl]
    exact hm.stored _ (by omega) _
  · intro i a b
    have hcw : CatOwn w B hs[i] (setTo x ops j)[i].cats := by
      rw [setTo_cats x ops j i hj b (by omega)]
      exact hc i a (by omega)
    exact hcw.kept hsg (h1 _ (List.getElem_mem a))
  · intro u hu
    unfold setTo at hu
    rcases List.mem_or_eq_of_mem_set hu with hu | rfl
    · exact h.rng u hu
    · rw [opAt_get hj]
      have hr := h.rng _ (List.getElem_mem hj)
      exact ⟨⟨hr.1.kind, hr.1.feature, hr.1.thr, hr.1.missing, hr.1.output, hr.1.value, hx⟩, hr.2⟩
end

/-! ### the map of places -/
noncomputable abbrev plainInt (e : TypeId) (v : Value) : Option (DataW Unit × List MemPlace) := plainElem Tryz.prog e v
theorem Tryz.keyInt : Keyed Tryz.prog 3 := int_keyed Tryz.underlying3
theorem Tryz.zeroInt (w : World) : (zeroValue 3).run Tryz.prog w = .ok (.int .i64 0) w := by kernel_rfl
theorem wf_nat {x : Nat} (h : x ≤ 9223372036854775807) : (Lit.int .i64 (x : Int)).wf = true := by
  simp [Lit.wf]
  have e1 : IntKind.i64.min = -9223372036854775808 := by decide
  have e2 : IntKind.i64.max = 9223372036854775807 := by decide
  omega
/-- the map says what the table says -/
structure PlaceMap (D : DataW Unit) (n : Nat) (pl : List Nat) : Prop where
  is : IsMap D
  at' : ∀ x : Nat, x < n → D.atKey (.int .i64 (x : Int)) (.lit (.int .i64 0)) = .lit (.int .i64 (pl.getD x 0 : Nat))
theorem PlaceMap.start (n : Nat) : PlaceMap (.map []) n (List.replicate n 0) :=
  ⟨isMap_empty, fun x hx => by
    rw [List.getD_eq_getElem?_getD, List.getElem?_replicate, if_pos hx]
    rfl⟩
theorem PlaceMap.put {D : DataW Unit} {n : Nat} {pl : List Nat} (h : PlaceMap D n pl) {i : Nat} (hi : i < n) (hl : pl.length = n) (p : Nat) : PlaceMap (D.put (.int .i64 (i : Int)) (.lit (.int .i64 (p : Int)))) n (pl.set i p) :=
  ⟨h.is.put _ _, fun x hx => by
    by_cases e : i = x
    · subst e
      rw [atKey_put_same h.is (by simp [WideAt.IsKeyLit]), gset_eq (by omega)]
    · rw [atKey_put_other (fun h => e (by injection h with _ h; omega)), gset_ne e]
      exact h.at' x hx⟩
/-- a map's block holds no cells -/
theorem ownsMap_ne {w : World} {t : TypeId} {R : Value → Option (DataW Unit × List MemPlace)} {b n : Nat} {D : DataW Unit} (h : w.ownsMap Tryz.prog t R b n D) {k : Nat} {cs : Array Value} {T : TypeId} {fr : Nat × Nat} (hk : w.heap[k]? = some (.cells cs T fr)) : b ≠ k := by
  obtain ⟨es, clock, hb, _⟩ := h
  intro e
  subst e
  rw [hb] at hk
  cases hk

end Go.Proofs.YtekcpapkicmckaaGreatDoor

namespace Go.Proofs.YtekcpapkicmckaaGreatDoor
open Go.RowKit

/-- the bodies of code.Tidy's loops -/
noncomputable def Tryz.tidyLoop (k : Nat) : Code := ((loopsOf (Tryz.f19.body.getD .skip))[k]?).getD .skip
/-- the bodies of thicketref19.Tidy's loops -/
noncomputable def Tryz.rtidyLoop (k : Nat) : Code := ((loopsOf (Tryz.f20.body.getD .skip))[k]?).getD .skip

def nats (l : List Nat) : List Value := i64s (l.map fun (x : Nat) => (x : Int))
theorem nats_set (l : List Nat) (i x : Nat) : (nats l).set i (.int .i64 (x : Int)) = nats (l.set i x) := by simp [nats, i64s, List.map_set]
theorem nats_length (l : List Nat) : (nats l).length = l.length := by simp [nats, i64s]
theorem nats_getD {l : List Nat} {j : Nat} (h : j < l.length) : (nats l).getD j undef = .int .i64 ((l.getD j 0 : Nat) : Int) := by
  simp [nats, i64s, List.getD_eq_getElem?_getD, List.getElem?_eq_getElem h]
theorem nats_snoc (l : List Nat) (x : Nat) : nats l ++ [.int .i64 (x : Int)] = nats (l ++ [x]) := by simp [nats, i64s]

theorem jumpTo_rng : OpRng (jumpTo 0) := ⟨by decide, by decide, by decide, by decide, by decide, by decide, by decide⟩
theorem markV_end {ops : List OpV} {L : List Nat} {R : List Bool} {i : Nat} {v : OpV} (hv : opAt ops i = v) (h : v.kind = 5) : markV ops L R i = R := by
  unfold markV; simp only [hv]
  rw [if_neg (by unfold testV; rw [h]; decide), if_pos h]
theorem markV_plain {ops : List OpV} {L : List Nat} {R : List Bool} {i : Nat} {v : OpV} (hv : opAt ops i = v) (h : v.kind = 3 ∨ v.kind = 4) : markV ops L R i = R.set (L.getD (i + 1) 0) true := by
  unfold markV; simp only [hv]
  rw [if_neg (by unfold testV; rcases h with h | h <;> rw [h] <;> decide), if_neg (by omega)]
theorem markV_test {ops : List OpV} {L : List Nat} {R : List Bool} {i : Nat} {v : OpV} (hv : opAt ops i = v) (h : v.kind = 1 ∨ v.kind = 2) : markV ops L R i = (R.set (L.getD (i + 1) 0) true).set (L.getD v.dest.toNat 0) true := by
  unfold markV; simp only [hv]
  rw [if_pos (by unfold testV; rcases h with h | h <;> rw [h] <;> decide), if_neg (by omega)]
/-- a row below what is written -/
theorem Mine.low {T : TypeId} {w w' : World} {base g n c : Nat} {vs : List Value} (h : Mine T w base (some ⟨g, 0, none⟩) n c vs) {B : Nat} (hb : Below B w w') (hg : g < B) : Mine T w' base (some ⟨g, 0, none⟩) n c vs :=
  ⟨h.len, h.cap, h.big, .inr (by
    rcases h.row with ⟨e, _⟩ | ⟨g', rest, e, h1, h2, h3⟩
    · cases e
    · simp only [Option.some.injEq, Addr.mk.injEq, and_true] at e
      subst e
      exact ⟨g, rest, rfl, h1, (hb.block g hg).trans h2, h3⟩)⟩
theorem bools_set (R : List Bool) (i : Nat) (b : Bool) : (bools R).set i (.bool b) = bools (R.set i b) := by simp [bools, List.map_set]
/-! ### the jumps are set -/
/-- the first k operations with their jumps set -/
def mixT (L pl : List Nat) (U : List OpV) (V : List Int) : Nat → List OpV
  | 0 => U
  | k + 1 =>
    if V.getD k 0 < 0 then setTo (pl.getD (-1 - V.getD k 0).toNat 0 : Nat) (mixT L pl U V k) k
    else if testV (opAt U k) then setTo (pl.getD (L.getD (opAt U k).dest.toNat 0) 0 : Nat) (mixT L pl U V k) k
    else mixT L pl U V k
theorem mix_eq (L pl : List Nat) (U : List OpV) (V : List Int) (hl : V.length = U.length) : ∀ k, k ≤ U.length → mixT L pl U V k = List.zipWith (fixV L pl) (U.take k) (V.take k) ++ U.drop k
  | 0, _ => by simp [mixT]
  | k + 1, hk => by
    have ih := mix_eq L pl U V hl k (by omega)
    have hU : k < U.length := by omega
    have hV : k < V.length := by omega
    have hz : List.zipWith (fixV L pl) (U.take (k + 1)) (V.take (k + 1)) = List.zipWith (fixV L pl) (U.take k) (V.take k) ++ [fixV L pl U[k] V[k]] := by
      rw [List.take_succ_eq_append_getElem hU, List.take_succ_eq_append_getElem hV, List.zipWith_append (by simp; omega)]
      rfl
    have hd : U.drop k = U[k] :: U.drop (k + 1) := List.drop_eq_getElem_cons hU
    have hlen : (List.zipWith (fixV L pl) (U.take k) (V.take k)).length = k := by simp; omega
    have hu : opAt U k = U[k] := opAt_get hU
    have hv : V.getD k 0 = V[k] := by rw [List.getD_eq_getElem?_getD, List.getElem?_eq_getElem hV]; rfl
    simp only [mixT]
    rw [hu, hv, ih, hz, hd, List.append_assoc]
    clear hz ih
    generalize List.zipWith (fixV L pl) (U.take k) (V.take k) = Z at hlen ⊢
    unfold fixV
    split
    · rw [setTo_mid _ _ _ _ _ hlen.symm]; rfl
    · split
      · rw [setTo_mid _ _ _ _ _ hlen.symm]; rfl
      · rfl
theorem mix_length (L pl : List Nat) (U : List OpV) (V : List Int) : ∀ k, (mixT L pl U V k).length = U.length
  | 0 => rfl
  | k + 1 => by
    simp only [mixT]
    split
    · unfold setTo; rw [List.length_set]; exact mix_length L pl U V k
    · split
      · unfold setTo; rw [List.length_set]; exact mix_length L pl U V k
      · exact mix_length L pl U V k
theorem mix_at (L pl : List Nat) (U : List OpV) (V : List Int) : ∀ k j, k ≤ j → opAt (mixT L pl U V k) j = opAt U j
  | 0, _, _ => rfl
  | k + 1, j, h => by
    have ih := mix_at L pl U V k j (by omega)
    have hs : ∀ E, opAt (setTo E (mixT L pl U V k) k) j = opAt (mixT L pl U V k) j := fun E => by
      unfold setTo opAt
      exact gset_ne (by omega)
    simp only [mixT]
    split
    · rw [hs]; exact ih
    · split
      · rw [hs]; exact ih
      · exact ih
theorem mix_tidy (ops : List OpV) : mixT (lands ops) (places ops) (out1 ops (lands ops) (stays ops) (stays ops).length) (from1 ops (lands ops) (stays ops) (stays ops).length) (out1 ops (lands ops) (stays ops) (stays ops).length).length = tidyOps ops := by
  rw [mix_eq _ _ _ _ (by rw [out1_length, from1_length]) _ (Nat.le_refl _), List.take_length, List.drop_of_length_le (Nat.le_refl _), List.append_nil]
  rw [show (out1 ops (lands ops) (stays ops) (stays ops).length).length = (from1 ops (lands ops) (stays ops) (stays ops).length).length by rw [out1_length, from1_length], List.take_length]
  exact fixed_out ops (lands ops) (stays ops) (places ops) (stays ops).length
theorem from1_mem (ops : List OpV) (hn : 0 < ops.length) (l : List Nat) : ∀ k, ∀ z ∈ from1 ops (lands ops) l k, z < 0 → ∃ x : Nat, x < ops.length ∧ z = -1 - (x : Int)
  | 0, z, h => by simp [from1] at h
  | k + 1, z, h => by
    intro hz
    simp only [from1, List.mem_append] at h
    rcases h with (h | h) | h
    · exact from1_mem ops hn l k z h hz
    · simp at h; omega
    · split at h
      · simp only [List.mem_singleton] at h
        exact ⟨_, lands_lt ops hn _, h⟩
      · simp at h
theorem out1_mem (ops : List OpV) : ∀ k, k ≤ (stays ops).length → ∀ o ∈ out1 ops (lands ops) (stays ops) k, (∃ i, i < ops.length ∧ o = opAt ops i) ∨ o = jumpTo 0
  | 0, _, o, h => by simp [out1] at h
  | k + 1, hk, o, h => by
    simp only [out1, List.mem_append] at h
    rcases h with (h | h) | h
    · exact out1_mem ops k (by omega) o h
    · simp only [List.mem_singleton] at h
      exact .inl ⟨stay ops k, stays_lt ops _ (stay_mem (by omega)), h⟩
    · split at h
      · simp only [List.mem_singleton] at h
        exact .inr h
      · simp at h

/-- cells of the k-th operation of the program being made -/
theorem TdSt.opCell {w : World} {B P : Nat} {F O : Int} {JA : Option Addr} {jn jc : Nat} {js : List Int} {g on oc : Nat} {ops : List OpV} (h : TdSt w B P F O JA jn jc js (some ⟨g, 0, none⟩) on oc ops) {j : Nat} (hj : j < ops.length) :
    w.cell? ⟨g, j * 8, none⟩ = some (.int .u8 ((opAt ops j).kind : Int)) ∧ w.cell? ⟨g, j * 8 + 7, none⟩ = some (.int .i64 (opAt ops j).dest) ∧ w.frozen? ⟨g, j * 8 + 7, none⟩ = false := by
  obtain ⟨hs, hh, _⟩ := h.hds
  have hlen := h.own.len
  have h0 := hh.2.1.cell (j * 8 + 0) (by omega)
  have h7 := hh.2.1.cell (j * 8 + 7) (by omega)
  rw [List.getD_eq_getElem?_getD, flatOps_get hs _ hh.1 j hj 0 (by omega)] at h0
  rw [List.getD_eq_getElem?_getD, flatOps_get hs _ hh.1 j hj 7 (by omega)] at h7
  rw [opAt_get hj]
  exact ⟨h0, h7, hh.2.1.free _⟩

end Go.Proofs.YtekcpapkicmckaaGreatDoor

namespace Go.Proofs.YtekcpapkicmckaaGreatDoor
open Go.RowKit

set_option maxHeartbeats 4000000 in
set_option maxRecDepth 100000 in
theorem td_land (F O : Int) (A : Option Addr) (n c : Nat) (ops : List OpV) (g pb : Nat) (w w3 : World) (c0 c2 c3 c4 c5 c8 c9 c10 c11 c12 c13 c14 c15 c16 c17 c18 c19 c20 c21 c22 c23 c24 c25 c26 c27 c28 c29 c30 c31 c32 c33 c34 c35 c36 c37 c38 c39 c40 c41 c42 c43 c44 c45 c46 c47 c48 c49 c50 c51 c52 c53 c54 c55 c56 c57 c58 c59 c60 c61 c62 c63 c64 c65 c66 c67 c68 c69 c70 c71 c72 c73 c74 c75 c76 c77 c78 c79 c80 c81 c82 c83 c84 c85 c86 c87 c88 c89 c90 c91 c92 c93 c94 c95 c96 c97 c98 c99 c100 c101 c102 c103 c104 c105 c106 c107 c108 c109 c110 c111 c112 c113 c114 c115 c116 c117 c118 c119 c120 c121 c122 c123 c124 c125 c126 c127 c128 c129 c130 c131 c132 c133 c134 c135 c136 c137 c138 c139 c140 c141 c142 c143 c144 c145 c146 c147 c148 c149 c150 c151 c152 c153 c154 c155 c156 c157 c158 c159 c160 c161 c162 c163 c164 c165 c166 c167 c168 c169 c170 c171 c172 c173 c174 c175 c176 c177 c178 c179 c180 c181 c182 c183 c184 c185 c186 c187 c188 c189 c190 c191 c192 c193 c194 c195 c196 c197 c198 c199 c200 c201 c202 c203 c204 c205 c206 c207 c208 c209 c210 c211 c212 c213 c214 c215 c216 c217 c218 c219 c220 c221 c222 c223 c224 c225 c226 c227 c228 c229 c230 c231 c232 c233 c234 c235 c236 c237 c238 c239 c240 c241 c242 c243 c244 c245 c246 c247 c248 c249 c250 c251 c252 c253 c254 c255 c256 c257 : Value) (hP : RightP F O ops) (hp : OpsAt w A n c ops) (hn : n ≤ 1000000000000) (hb3 : Below w.heap.size w w3) (hgw : w.heap.size ≤ g) (hpb : w3.heap[pb]? = some (.cells #[.int .i64 F, .int .i64 O, .slice A n c] 30 (0, 0))) (hpg : pb ≠ g)
    (hl : Mine 3 w3 g (some ⟨g, 0, none⟩) n n (nats (List.replicate n 0))) :
    Code.wp Tryz.prog (Code.loop (Tryz.tidyLoop 0)) (LoopEnds 0 (fun a w' => ∃ (u7 : Value) (u8 : Value) (u39 : Value) (u40 : Value) (u41 : Value) (u42 : Value) (u43 : Value) (u44 : Value) (u45 : Value) (u46 : Value) (u47 : Value) (u48 : Value) (u49 : Value) (u50 : Value) (u51 : Value) (u52 : Value) (u53 : Value) (u54 : Value) (u55 : Value) (u56 : Value) (u57 : Value) (u58 : Value) (u59 : Value) (u60 : Value) (u61 : Value) (u62 : Value) (u63 : Value) (u64 : Value) (u65 : Value) (u66 : Value) (u67 : Value) (u68 : Value) (u69 : Value) (u70 : Value) (u71 : Value) (u72 : Value) (u73 : Value) (u74 : Value) (u75 : Value) (u76 : Value) (u77 : Value) (u78 : Value) (u79 : Value) (u80 : Value) , a = ⟨List.toArray (c0 :: .pointer (some ⟨pb, 0, none⟩) :: c2 :: c3 :: c4 :: c5 :: .slice (some ⟨g, 0, none⟩) n n :: u7 :: u8 :: c9 :: c10 :: c11 :: c12 :: c13 :: c14 :: c15 :: c16 :: c17 :: c18 :: c19 :: c20 :: c21 :: c22 :: c23 :: c24 :: c25 :: c26 :: c27 :: c28 :: c29 :: c30 :: c31 :: c32 :: c33 :: c34 :: c35 :: c36 :: c37 :: c38 :: u39 :: u40 :: u41 :: u42 :: u43 :: u44 :: u45 :: u46 :: u47 :: u48 :: u49 :: u50 :: u51 :: u52 :: u53 :: u54 :: u55 :: u56 :: u57 :: u58 :: u59 :: u60 :: u61 :: u62 :: u63 :: u64 :: u65 :: u66 :: u67 :: u68 :: u69 :: u70 :: u71 :: u72 :: u73 :: u74 :: u75 :: u76 :: u77 :: u78 :: u79 :: u80 :: c81 :: c82 :: c83 :: c84 :: c85 :: c86 :: c87 :: c88 :: c89 :: c90 :: c91 :: c92 :: c93 :: c94 :: c95 :: c96 :: c97 :: c98 :: c99 :: c100 :: c101 :: c102 :: c103 :: c104 :: c105 :: c106 :: c107 :: c108 :: c109 :: c110 :: c111 :: c112 :: c113 :: c114 :: c115 :: c116 :: c117 :: c118 :: c119 :: c120 :: c121 :: c122 :: c123 :: c124 :: c125 :: c126 :: c127 :: c128 :: c129 :: c130 :: c131 :: c132 :: c133 :: c134 :: c135 :: c136 :: c137 :: c138 :: c139 :: c140 :: c141 :: c142 :: c143 :: c144 :: c145 :: c146 :: c147 :: c148 :: c149 :: c150 :: c151 :: c152 :: c153 :: c154 :: c155 :: c156 :: c157 :: c158 :: c159 :: c160 :: c161 :: c162 :: c163 :: c164 :: c165 :: c166 :: c167 :: c168 :: c169 :: c170 :: c171 :: c172 :: c173 :: c174 :: c175 :: c176 :: c177 :: c178 :: c179 :: c180 :: c181 :: c182 :: c183 :: c184 :: c185 :: c186 :: c187 :: c188 :: c189 :: c190 :: c191 :: c192 :: c193 :: c194 :: c195 :: c196 :: c197 :: c198 :: c199 :: c200 :: c201 :: c202 :: c203 :: c204 :: c205 :: c206 :: c207 :: c208 :: c209 :: c210 :: c211 :: c212 :: c213 :: c214 :: c215 :: c216 :: c217 :: c218 :: c219 :: c220 :: c221 :: c222 :: c223 :: c224 :: c225 :: c226 :: c227 :: c228 :: c229 :: c230 :: c231 :: c232 :: c233 :: c234 :: c235 :: c236 :: c237 :: c238 :: c239 :: c240 :: c241 :: c242 :: c243 :: c244 :: c245 :: c246 :: c247 :: c248 :: c249 :: c250 :: c251 :: c252 :: c253 :: c254 :: c255 :: c256 :: c257 :: []), []⟩ ∧ Mine 3 w' g (some ⟨g, 0, none⟩) n n (nats (lands ops)) ∧ w3.grownBy w' (some g))) ⟨List.toArray (c0 :: .pointer (some ⟨pb, 0, none⟩) :: c2 :: c3 :: c4 :: c5 :: .slice (some ⟨g, 0, none⟩) n n :: .int .i64 ((n : Int) - 1) :: c8 :: c9 :: c10 :: c11 :: c12 :: c13 :: c14 :: c15 :: c16 :: c17 :: c18 :: c19 :: c20 :: c21 :: c22 :: c23 :: c24 :: c25 :: c26 :: c27 :: c28 :: c29 :: c30 :: c31 :: c32 :: c33 :: c34 :: c35 :: c36 :: c37 :: c38 :: c39 :: c40 :: c41 :: c42 :: c43 :: c44 :: c45 :: c46 :: c47 :: c48 :: c49 :: c50 :: c51 :: c52 :: c53 :: c54 :: c55 :: c56 :: c57 :: c58 :: c59 :: c60 :: c61 :: c62 :: c63 :: c64 :: c65 :: c66 :: c67 :: c68 :: c69 :: c70 :: c71 :: c72 :: c73 :: c74 :: c75 :: c76 :: c77 :: c78 :: c79 :: c80 :: c81 :: c82 :: c83 :: c84 :: c85 :: c86 :: c87 :: c88 :: c89 :: c90 :: c91 :: c92 :: c93 :: c94 :: c95 :: c96 :: c97 :: c98 :: c99 :: c100 :: c101 :: c102 :: c103 :: c104 :: c105 :: c106 :: c107 :: c108 :: c109 :: c110 :: c111 :: c112 :: c113 :: c114 :: c115 :: c116 :: c117 :: c118 :: c119 :: c120 :: c121 :: c122 :: c123 :: c124 :: c125 :: c126 :: c127 :: c128 :: c129 :: c130 :: c131 :: c132 :: c133 :: c134 :: c135 :: c136 :: c137 :: c138 :: c139 :: c140 :: c141 :: c142 :: c143 :: c144 :: c145 :: c146 :: c147 :: c148 :: c149 :: c150 :: c151 :: c152 :: c153 :: c154 :: c155 :: c156 :: c157 :: c158 :: c159 :: c160 :: c161 :: c162 :: c163 :: c164 :: c165 :: c166 :: c167 :: c168 :: c169 :: c170 :: c171 :: c172 :: c173 :: c174 :: c175 :: c176 :: c177 :: c178 :: c179 :: c180 :: c181 :: c182 :: c183 :: c184 :: c185 :: c186 :: c187 :: c188 :: c189 :: c190 :: c191 :: c192 :: c193 :: c194 :: c195 :: c196 :: c197 :: c198 :: c199 :: c200 :: c201 :: c202 :: c203 :: c204 :: c205 :: c206 :: c207 :: c208 :: c209 :: c210 :: c211 :: c212 :: c213 :: c214 :: c215 :: c216 :: c217 :: c218 :: c219 :: c220 :: c221 :: c222 :: c223 :: c224 :: c225 :: c226 :: c227 :: c228 :: c229 :: c230 :: c231 :: c232 :: c233 :: c234 :: c235 :: c236 :: c237 :: c238 :: c239 :: c240 :: c241 :: c242 :: c243 :: c244 :: c245 :: c246 :: c247 :: c248 :: c249 :: c250 :: c251 :: c252 :: c253 :: c254 :: c255 :: c256 :: c257 :: []), []⟩ w3 := by
  have hlen := hp.len
  have hsf : ∀ (W : World) (a : Addr) (b : Nat), (store a (.float .f64 b)).run Tryz.prog W = stored Tryz.prog W a (.float .f64 b) .plain := fun W a b => run_store _ W a _ _ rfl
  have HLT := Lib.hid (show landT ops 0 = List.replicate n 0 by rw [landT, hlen])
  have HLE := Lib.hid (show landT ops n = lands ops by unfold lands; rw [hlen])
  have HLEN := Lib.hid hlen
  have HP := Lib.hid hp
  have HRP := Lib.hid hP
  have HPB := Lib.hid hpb
  clear hlen hp hP hpb
  conv => arg 2; arg 1; whnf
  go_loopw [7] (fun ix wr => ∃ (k : Nat) (z : Int), k ≤ n ∧ ix = .int .i64 z ∧ Hid (z = (n : Int) - 1 - k) ∧ Mine 3 wr g (some ⟨g, 0, none⟩) n n (nats (landT ops k)) ∧ w3.grownBy wr (some g)) (fun ix _ => (intOf ix + 1).toNat)
  case atStart => exact ⟨0, (n : Int) - 1, Nat.zero_le _, rfl, Lib.hid (by omega), by rw [HLT.out]; exact hl, ⟨rfl, rfl, rfl, Nat.le_refl _, fun _ _ _ => rfl⟩⟩
  case round =>
    obtain ⟨k, z, hk, rfl, HZ, hm, hgr⟩ := hrel
    clear hl
    by_cases hlt : k < n
    · have hbr := below_grown (A := some ⟨g, 0, none⟩) hb3 hb3.size hgr (fun k hk => by simp [blockOf] at hk; omega)
      have hpr := (hgr.block pb (lt_of_block HPB.out) (by simpa using hpg)).trans HPB.out
      obtain ⟨i, hi⟩ : ∃ i, i + k + 1 = n := ⟨n - 1 - k, by omega⟩
      obtain rfl : z = (i : Int) := by have := HZ.out; omega
      have hlen := HLEN.out
      have hil : i < ops.length := by omega
      obtain ⟨b, o, rfl, hc⟩ := HP.out.cells (by omega)
      obtain ⟨V1, V2, V3, hr', _, _⟩ := hc i hil
      have hr := rangeAt_below hr' hbr
      have hstep : landT ops (k + 1) = (landT ops k).set i (landStep ops (landT ops k) i) := by
        simp only [landT]
        rw [show ops.length - 1 - k = i by omega]
      have hll := landT_length ops k
      have hlb := landT_lt ops (by omega) k
      have hnx := HRP.out.next hil
      have hjm := HRP.out.jump hil
      have hkd := (HRP.out.at hil).kind
      unfold landStep at hstep
      simp only at hstep
      rw [← opAt_get hil] at hr
      generalize opAt ops i = v at hr hnx hjm hkd hstep
      generalize landT ops k = L at hm hstep hll hlb
      have r0 : _ = some _ := range_cell (o := o + i * 8) hr 0 rfl
      rw [Nat.add_zero] at r0
      have r1 := range_cell hr 1 rfl
      have r2 := range_cell hr 2 rfl
      have r3 := range_cell hr 3 rfl
      have r4 := range_cell hr 4 rfl
      have r5 := range_cell hr 5 rfl
      have r6 := range_cell hr 6 rfl
      have r7 := range_cell hr 7 rfl
      have p2 : wr.cell? ⟨pb, 2, none⟩ = some (.slice (some ⟨b, o, none⟩) n c) := cell_of_block hpr rfl
      have i1 : (i : Int) < (n : Int) := by omega
      have HST := Lib.hid hstep
      have HLL := Lib.hid (hll.trans hlen)
      have HNX := Lib.hid hnx
      have HJM := Lib.hid hjm
      have HLB := Lib.hid hlb
      have HZ2 := Lib.hid (show (i : Int) - 1 = (n : Int) - 1 - ((k + 1 : Nat) : Int) by omega)
      clear hc hr hr' hlen hstep hll hlb hnx hjm hpr hi
      go_upto_region 9 with (fail)
      have b5 := (Below.refl wr.heap.size wr).alloc (Nat.le_refl _) (.cells (opCells V1 V2 V3 v).toArray 75)
      have hO5 : (wr.alloc (.cells (opCells V1 V2 V3 v).toArray 75)).heap[wr.heap.size]? = some (.cells (opCells V1 V2 V3 v).toArray 75 (0, 0)) := heap_alloc_new wr _
      unfold opCells at b5 hO5
      generalize (wr.alloc (.cells #[.int .u8 (v.kind : Int), .int .i64 v.feature, .float .f64 v.thr, .slice V1 V2 V3, .int .u8 (v.missing : Int), .int .i64 v.output, .int .i64 v.value, .int .i64 v.dest] 75)) = w5 at b5 hO5 ⊢
      have hm5 := hm.below b5
      have hg5 := hgr.trans (grownBy_of_below b5 (some g))
      have f5 := hm5.free i
      have c5 := hm5.cell i (by omega)
      rw [nats_getD (by rw [HLL.out]; omega)] at c5
      have hgo : g ≠ wr.heap.size := by have := (hm.lt g rfl).2; omega
      clear r0 r1 r2 r3 r4 r5 r6 r7 p2 hm hgr b5
      go_upto_region 10 with (fail)
      have hm6 := hm5.stored i (by omega) (.int .i64 (i : Int))
      have hO6 := (setCell_other (w := w5) (g := g) hgo.symm i (.int .i64 (i : Int))).trans hO5
      have hg6 := hg5.trans (setCell_grownBy w5 g i (.int .i64 (i : Int)))
      rw [nats_set] at hm6
      generalize w5.setCell ⟨g, i, none⟩ (.int .i64 (i : Int)) = w6 at hm6 hO6 hg6 ⊢
      have q0 : w6.cell? ⟨wr.heap.size, 0, none⟩ = some (.int .u8 (v.kind : Int)) := cell_of_block hO6 rfl
      have q6 : w6.cell? ⟨wr.heap.size, 6, none⟩ = some (.int .i64 v.value) := cell_of_block hO6 rfl
      have q7 : w6.cell? ⟨wr.heap.size, 7, none⟩ = some (.int .i64 v.dest) := cell_of_block hO6 rfl
      have f6 := hm6.free i
      have c6 := hm6.cell i (by omega)
      rw [nats_getD (by rw [List.length_set, HLL.out]; omega), gset_eq (by rw [HLL.out]; omega)] at c6
      clear hm5 hO5 hg5 f5 c5 hO6
      by_cases h4 : v.kind = 4
      · obtain ⟨hj1, hj2, hj3⟩ := HJM.out (by omega) (by omega)
        have hx := HLB.out v.dest.toNat
        have hce := hm6.cell v.dest.toNat (by have := HLEN.out; omega)
        rw [nats_getD (by rw [List.length_set, HLL.out]; have := HLEN.out; omega), gset_ne (by omega)] at hce
        have HS2 := Lib.hid (show landT ops (k + 1) = L.set i (L.getD v.dest.toNat 0) by rw [HST.out, if_pos h4])
        rw [hj3] at q7
        have d1 : v.dest.toNat < n := by have := HLEN.out; omega
        generalize v.dest.toNat = d at hx hce HS2 q7 d1
        generalize L.getD d 0 = x at hx hce HS2
        have hkc : (v.kind : Int) = 4 := by omega
        rw [hkc] at q0
        have d2 : (d : Int) < (n : Int) := by omega
        have hm7 := hm6.stored i (by omega) (.int .i64 (x : Int))
        rw [nats_set, List.set_set, ← HS2.out] at hm7
        have hg7 := hg6.trans (setCell_grownBy w6 g i (.int .i64 (x : Int)))
        have HM7 := Lib.hid hm7
        clear hkc h4 hj1 hj2 hj3 hkd hm6 hm7
        go_wp2
        go_roundw
        case rel => exact ⟨k + 1, (i : Int) - 1, hlt, by go_num, HZ2, HM7.out, hg7⟩
        case measure => simp [intOf]
      · have k4 : ((v.kind : Int) == 4) = false := by simp; omega
        have k4' : decide ((v.kind : Int) = 4) = false := by simp; omega
        by_cases h3 : v.kind = 3 ∧ v.value = 0
        · have hnn := HNX.out (by omega)
          have hx := HLB.out (i + 1)
          have hce := hm6.cell (i + 1) (by have := HLEN.out; omega)
          rw [nats_getD (by rw [List.length_set, HLL.out]; have := HLEN.out; omega), gset_ne (by omega)] at hce
          have HS2 := Lib.hid (show landT ops (k + 1) = L.set i (L.getD (i + 1) 0) by rw [HST.out, if_neg h4, if_pos h3])
          generalize L.getD (i + 1) 0 = x at hx hce HS2
          have hkc : (v.kind : Int) = 3 := by omega
          rw [hkc] at q0
          rw [h3.2] at q6
          have d1 : i + 1 < n := by have := HLEN.out; omega
          have d2 : (i : Int) + 1 < (n : Int) := by omega
          have hm7 := hm6.stored i (by omega) (.int .i64 (x : Int))
          rw [nats_set, List.set_set, ← HS2.out] at hm7
          have hg7 := hg6.trans (setCell_grownBy w6 g i (.int .i64 (x : Int)))
          have HM7 := Lib.hid hm7
          clear hkc h4 h3 hkd hm6 hm7 k4 k4'
          go_wp2
          go_roundw
          case rel => exact ⟨k + 1, (i : Int) - 1, hlt, by go_num, HZ2, HM7.out, hg7⟩
          case measure => simp [intOf]
        · have HS2 := Lib.hid (show landT ops (k + 1) = L.set i i by rw [HST.out, if_neg h4, if_neg h3])
          rw [← HS2.out] at hm6
          have HM7 := Lib.hid hm6
          by_cases hk3 : v.kind = 3
          · have hkc : (v.kind : Int) = 3 := by omega
            rw [hkc] at q0
            have v0 : (v.value == 0) = false := by simpa using fun e => h3 ⟨hk3, e⟩
            have v1 : decide (v.value = 0) = false := by simpa using fun e => h3 ⟨hk3, e⟩
            clear hkc h4 h3 hk3 hkd k4 k4' hm6
            go_wp2
            go_roundw
            case rel => exact ⟨k + 1, (i : Int) - 1, hlt, by go_num, HZ2, HM7.out, hg6⟩
            case measure => simp [intOf]
          · have k3 : ((v.kind : Int) == 3) = false := by simp; omega
            have k3' : decide ((v.kind : Int) = 3) = false := by simp; omega
            clear h4 h3 hk3 hkd hm6
            go_wp2
            go_roundw
            case rel => exact ⟨k + 1, (i : Int) - 1, hlt, by go_num, HZ2, HM7.out, hg6⟩
            case measure => simp [intOf]
    · obtain rfl : k = n := by omega
      obtain rfl : z = -1 := by have := HZ.out; omega
      rw [HLE.out] at hm
      go_wp2
      refine ⟨rfl, ?_⟩; (repeat apply Exists.intro); exact ⟨rfl, hm, hgr⟩

end Go.Proofs.YtekcpapkicmckaaGreatDoor

namespace Go.Proofs.YtekcpapkicmckaaGreatDoor
open Go.RowKit

set_option maxHeartbeats 4000000 in
set_option maxRecDepth 100000 in
theorem td_real (F O : Int) (A : Option Addr) (n c : Nat) (ops : List OpV) (g pb gr : Nat) (w w4 : World) (c0 c2 c3 c4 c5 c7 c8 c11 c12 c13 c14 c15 c16 c17 c18 c19 c20 c21 c22 c23 c24 c25 c26 c27 c28 c29 c30 c31 c32 c33 c34 c35 c36 c37 c38 c39 c40 c41 c42 c43 c44 c45 c46 c47 c48 c49 c50 c51 c52 c53 c54 c55 c56 c57 c58 c59 c60 c61 c62 c63 c64 c65 c66 c67 c68 c69 c70 c71 c72 c73 c74 c75 c76 c77 c78 c79 c80 c81 c82 c83 c84 c85 c86 c87 c88 c89 c90 c94 c95 c96 c97 c98 c99 c100 c101 c102 c103 c104 c105 c106 c107 c108 c109 c110 c111 c112 c113 c114 c115 c116 c117 c118 c119 c120 c121 c122 c123 c124 c125 c126 c127 c128 c129 c130 c131 c132 c133 c134 c135 c136 c137 c138 c139 c140 c141 c142 c143 c144 c145 c146 c147 c148 c149 c150 c151 c152 c153 c154 c155 c156 c157 c158 c159 c160 c161 c162 c163 c164 c165 c166 c167 c168 c169 c170 c171 c172 c173 c174 c175 c176 c177 c178 c179 c180 c181 c182 c183 c184 c185 c186 c187 c188 c189 c190 c191 c192 c193 c194 c195 c196 c197 c198 c199 c200 c201 c202 c203 c204 c205 c206 c207 c208 c209 c210 c211 c212 c213 c214 c215 c216 c217 c218 c219 c220 c221 c222 c223 c224 c225 c226 c227 c228 c229 c230 c231 c232 c233 c234 c235 c236 c237 c238 c239 c240 c241 c242 c243 c244 c245 c246 c247 c248 c249 c250 c251 c252 c253 c254 c255 c256 c257 : Value) (hP : RightP F O ops) (hp : OpsAt w A n c ops) (hn : n ≤ 100000000000) (hb4 : Below w.heap.size w w4) (hgw : w.heap.size ≤ gr) (hgg : g < gr) (hgs : gr < w4.heap.size)
    (hl : Mine 3 w4 g (some ⟨g, 0, none⟩) n n (nats (lands ops))) (hR : Mine 4 w4 gr (some ⟨gr, 0, none⟩) n n (bools (realT ops (lands ops) 0).1)) :
    Code.wp Tryz.prog (Code.loop (Tryz.tidyLoop 1)) (LoopEnds 3 (fun a w' => ∃ (LA : Option Addr) (ln lc : Nat) (u11 : Value) (u12 : Value) (u93 : Value) (u94 : Value) (u95 : Value) (u96 : Value) (u97 : Value) (u98 : Value) (u99 : Value) (u100 : Value) (u101 : Value) (u102 : Value) (u103 : Value) (u104 : Value) (u105 : Value) (u106 : Value) (u107 : Value) (u108 : Value) (u109 : Value) (u110 : Value) (u111 : Value) (u112 : Value) (u113 : Value) (u114 : Value) (u115 : Value) (u116 : Value) (u117 : Value) (u118 : Value) (u119 : Value) (u120 : Value) (u121 : Value) (u122 : Value) (u123 : Value) (u124 : Value) (u125 : Value) (u126 : Value) (u127 : Value) (u128 : Value) (u129 : Value) (u130 : Value) (u131 : Value) (u132 : Value) , a = ⟨List.toArray (c0 :: .pointer (some ⟨pb, 0, none⟩) :: c2 :: c3 :: c4 :: c5 :: .slice (some ⟨g, 0, none⟩) n n :: c7 :: c8 :: .slice (some ⟨gr, 0, none⟩) n n :: .slice LA ln lc :: u11 :: u12 :: c13 :: c14 :: c15 :: c16 :: c17 :: c18 :: c19 :: c20 :: c21 :: c22 :: c23 :: c24 :: c25 :: c26 :: c27 :: c28 :: c29 :: c30 :: c31 :: c32 :: c33 :: c34 :: c35 :: c36 :: c37 :: c38 :: c39 :: c40 :: c41 :: c42 :: c43 :: c44 :: c45 :: c46 :: c47 :: c48 :: c49 :: c50 :: c51 :: c52 :: c53 :: c54 :: c55 :: c56 :: c57 :: c58 :: c59 :: c60 :: c61 :: c62 :: c63 :: c64 :: c65 :: c66 :: c67 :: c68 :: c69 :: c70 :: c71 :: c72 :: c73 :: c74 :: c75 :: c76 :: c77 :: c78 :: c79 :: c80 :: c81 :: c82 :: c83 :: c84 :: c85 :: c86 :: c87 :: c88 :: c89 :: c90 :: .slice A n c :: .int .i64 (n : Int) :: u93 :: u94 :: u95 :: u96 :: u97 :: u98 :: u99 :: u100 :: u101 :: u102 :: u103 :: u104 :: u105 :: u106 :: u107 :: u108 :: u109 :: u110 :: u111 :: u112 :: u113 :: u114 :: u115 :: u116 :: u117 :: u118 :: u119 :: u120 :: u121 :: u122 :: u123 :: u124 :: u125 :: u126 :: u127 :: u128 :: u129 :: u130 :: u131 :: u132 :: c133 :: c134 :: c135 :: c136 :: c137 :: c138 :: c139 :: c140 :: c141 :: c142 :: c143 :: c144 :: c145 :: c146 :: c147 :: c148 :: c149 :: c150 :: c151 :: c152 :: c153 :: c154 :: c155 :: c156 :: c157 :: c158 :: c159 :: c160 :: c161 :: c162 :: c163 :: c164 :: c165 :: c166 :: c167 :: c168 :: c169 :: c170 :: c171 :: c172 :: c173 :: c174 :: c175 :: c176 :: c177 :: c178 :: c179 :: c180 :: c181 :: c182 :: c183 :: c184 :: c185 :: c186 :: c187 :: c188 :: c189 :: c190 :: c191 :: c192 :: c193 :: c194 :: c195 :: c196 :: c197 :: c198 :: c199 :: c200 :: c201 :: c202 :: c203 :: c204 :: c205 :: c206 :: c207 :: c208 :: c209 :: c210 :: c211 :: c212 :: c213 :: c214 :: c215 :: c216 :: c217 :: c218 :: c219 :: c220 :: c221 :: c222 :: c223 :: c224 :: c225 :: c226 :: c227 :: c228 :: c229 :: c230 :: c231 :: c232 :: c233 :: c234 :: c235 :: c236 :: c237 :: c238 :: c239 :: c240 :: c241 :: c242 :: c243 :: c244 :: c245 :: c246 :: c247 :: c248 :: c249 :: c250 :: c251 :: c252 :: c253 :: c254 :: c255 :: c256 :: c257 :: []), []⟩ ∧ Mine 3 w' gr LA ln lc (nats (stays ops)) ∧ Below gr w4 w')) ⟨List.toArray (c0 :: .pointer (some ⟨pb, 0, none⟩) :: c2 :: c3 :: c4 :: c5 :: .slice (some ⟨g, 0, none⟩) n n :: c7 :: c8 :: .slice (some ⟨gr, 0, none⟩) n n :: .slice none 0 0 :: c11 :: c12 :: c13 :: c14 :: c15 :: c16 :: c17 :: c18 :: c19 :: c20 :: c21 :: c22 :: c23 :: c24 :: c25 :: c26 :: c27 :: c28 :: c29 :: c30 :: c31 :: c32 :: c33 :: c34 :: c35 :: c36 :: c37 :: c38 :: c39 :: c40 :: c41 :: c42 :: c43 :: c44 :: c45 :: c46 :: c47 :: c48 :: c49 :: c50 :: c51 :: c52 :: c53 :: c54 :: c55 :: c56 :: c57 :: c58 :: c59 :: c60 :: c61 :: c62 :: c63 :: c64 :: c65 :: c66 :: c67 :: c68 :: c69 :: c70 :: c71 :: c72 :: c73 :: c74 :: c75 :: c76 :: c77 :: c78 :: c79 :: c80 :: c81 :: c82 :: c83 :: c84 :: c85 :: c86 :: c87 :: c88 :: c89 :: c90 :: .slice A n c :: .int .i64 (n : Int) :: .int .i64 0 :: c94 :: c95 :: c96 :: c97 :: c98 :: c99 :: c100 :: c101 :: c102 :: c103 :: c104 :: c105 :: c106 :: c107 :: c108 :: c109 :: c110 :: c111 :: c112 :: c113 :: c114 :: c115 :: c116 :: c117 :: c118 :: c119 :: c120 :: c121 :: c122 :: c123 :: c124 :: c125 :: c126 :: c127 :: c128 :: c129 :: c130 :: c131 :: c132 :: c133 :: c134 :: c135 :: c136 :: c137 :: c138 :: c139 :: c140 :: c141 :: c142 :: c143 :: c144 :: c145 :: c146 :: c147 :: c148 :: c149 :: c150 :: c151 :: c152 :: c153 :: c154 :: c155 :: c156 :: c157 :: c158 :: c159 :: c160 :: c161 :: c162 :: c163 :: c164 :: c165 :: c166 :: c167 :: c168 :: c169 :: c170 :: c171 :: c172 :: c173 :: c174 :: c175 :: c176 :: c177 :: c178 :: c179 :: c180 :: c181 :: c182 :: c183 :: c184 :: c185 :: c186 :: c187 :: c188 :: c189 :: c190 :: c191 :: c192 :: c193 :: c194 :: c195 :: c196 :: c197 :: c198 :: c199 :: c200 :: c201 :: c202 :: c203 :: c204 :: c205 :: c206 :: c207 :: c208 :: c209 :: c210 :: c211 :: c212 :: c213 :: c214 :: c215 :: c216 :: c217 :: c218 :: c219 :: c220 :: c221 :: c222 :: c223 :: c224 :: c225 :: c226 :: c227 :: c228 :: c229 :: c230 :: c231 :: c232 :: c233 :: c234 :: c235 :: c236 :: c237 :: c238 :: c239 :: c240 :: c241 :: c242 :: c243 :: c244 :: c245 :: c246 :: c247 :: c248 :: c249 :: c250 :: c251 :: c252 :: c253 :: c254 :: c255 :: c256 :: c257 :: []), []⟩ w4 := by
  have hlen := hp.len
  have hsf : ∀ (W : World) (a : Addr) (b : Nat), (store a (.float .f64 b)).run Tryz.prog W = stored Tryz.prog W a (.float .f64 b) .plain := fun W a b => run_store _ W a _ _ rfl
  have HLE := Lib.hid (show (realT ops (lands ops) n).2 = stays ops by unfold stays; rw [hlen])
  have HLL := Lib.hid (lands_length ops)
  have HLB := Lib.hid (lands_lt ops hP.some)
  have HLEN := Lib.hid hlen
  have HP := Lib.hid hp
  have HRP := Lib.hid hP
  have HL := Lib.hid hl
  clear hlen hp hP hl
  generalize lands ops = L at HLE HLL HLB HL hR
  conv => arg 2; arg 1; whnf
  go_loopw [10, 93] (fun lx ix wr => ∃ (k : Nat) (LA : Option Addr) (ln lc : Nat), ix = .int .i64 (k : Int) ∧ k ≤ n ∧ lx = .slice LA ln lc ∧ Mine 3 wr gr LA ln lc (nats (realT ops L k).2) ∧ Mine 4 wr gr (some ⟨gr, 0, none⟩) n n (bools (realT ops L k).1) ∧ Below gr w4 wr) (fun _ ix _ => n - (intOf ix).toNat)
  case atStart => exact ⟨0, none, 0, 0, rfl, Nat.zero_le _, rfl, Mine.nil _ _ _, hR, Below.refl _ _⟩
  case round =>
    obtain ⟨k, LA, ln, lc, rfl, hk, rfl, hm, hRr, hbr⟩ := hrel
    clear hR
    by_cases hlt : k < n
    · have hlen := HLEN.out
      have hkl : k < ops.length := by omega
      have hbw := hb4.trans (hbr.mono hgw)
      obtain ⟨b, o, rfl, hc⟩ := HP.out.cells (by omega)
      obtain ⟨V1, V2, V3, hr', _, _⟩ := hc k hkl
      have hr := rangeAt_below hr' hbw
      have hlnk : ln ≤ k := by
        have h1 := hm.len
        rw [nats_length] at h1
        have := realT_many ops L k
        omega
      have hstep : realT ops L (k + 1) = if (realT ops L k).1.getD k false then (markV ops L (realT ops L k).1 k, (realT ops L k).2 ++ [k]) else realT ops L k := rfl
      have hrl := realT_length ops L k
      have hnx := HRP.out.next hkl
      have hjm := HRP.out.jump hkl
      have hkd := (HRP.out.at hkl).kind
      obtain ⟨v, hv⟩ : ∃ v, opAt ops k = v := ⟨_, rfl⟩
      rw [← opAt_get hkl, hv] at hr
      rw [hv] at hnx hjm hkd
      obtain ⟨R, l, hRl⟩ : ∃ R l, realT ops L k = (R, l) := ⟨_, _, rfl⟩
      rw [hRl] at hm hRr hstep hrl
      simp only at hm hRr hstep hrl
      have HAT := Lib.hid hv
      have hcr := hRr.cell k hlt
      rw [bools_getD (by omega)] at hcr
      have r0 : _ = some _ := range_cell (o := o + k * 8) hr 0 rfl
      rw [Nat.add_zero] at r0
      have r1 := range_cell hr 1 rfl
      have r2 := range_cell hr 2 rfl
      have r3 := range_cell hr 3 rfl
      have r4 := range_cell hr 4 rfl
      have r5 := range_cell hr 5 rfl
      have r6 := range_cell hr 6 rfl
      have r7 := range_cell hr 7 rfl
      have i1 : (k : Int) < (n : Int) := by omega
      have hlr := HL.out.low hbr hgg
      have HNX := Lib.hid hnx
      have HJM := Lib.hid hjm
      have HRL := Lib.hid hRl
      have hbs := hbr.size
      clear hc hr hr' hlen hnx hjm hv hRl hbw hrl
      go_upto_region 20 with (fail)
      have b5 := (Below.refl wr.heap.size wr).alloc (Nat.le_refl _) (.cells (opCells V1 V2 V3 v).toArray 75)
      have hO5 : (wr.alloc (.cells (opCells V1 V2 V3 v).toArray 75)).heap[wr.heap.size]? = some (.cells (opCells V1 V2 V3 v).toArray 75 (0, 0)) := heap_alloc_new wr _
      unfold opCells at b5 hO5
      generalize (wr.alloc (.cells #[.int .u8 (v.kind : Int), .int .i64 v.feature, .float .f64 v.thr, .slice V1 V2 V3, .int .u8 (v.missing : Int), .int .i64 v.output, .int .i64 v.value, .int .i64 v.dest] 75)) = w5 at b5 hO5 ⊢
      have hm5 := hm.below b5
      have hR5 := hRr.below b5
      have hl5 := hlr.low (b5.mono (show gr ≤ wr.heap.size by omega)) hgg
      have hb5 := hbr.trans (b5.mono (show gr ≤ wr.heap.size by omega))
      have c5 : w5.cell? ⟨gr, k, none⟩ = some (.bool (R.getD k false)) := (b5.cell (p := ⟨gr, k, none⟩) (by show gr < _; omega)).trans hcr
      have hgo : wr.heap.size ≠ gr := by omega
      clear r0 r1 r2 r3 r4 r5 r6 r7 hm hRr hcr b5 hlr hbr
      cases hy : R.getD k false
      · rw [hy] at c5
        have HS2 := Lib.hid (show realT ops L (k + 1) = (R, l) by rw [hstep, if_neg (by rw [hy]; simp)])
        clear hy hstep
        go_wp2
        go_roundw
        case rel => exact ⟨k + 1, LA, ln, lc, by go_num, hlt, rfl, by rw [HS2.out]; exact hm5, by rw [HS2.out]; exact hR5, hb5⟩
        case measure => simp [intOf]; omega
      · rw [hy] at c5
        have HST := Lib.hid (show realT ops L (k + 1) = (markV ops L R k, l ++ [k]) by rw [hstep, if_pos hy])
        clear hy hstep
        have hb5z : gr ≤ w5.heap.size := by have := hb5.size; omega
        go_upto_region 22 with (at_builtin; refine app_one gr rfl _ _ _ _ (.int .i64 0) 8 rfl Tryz.underlying44 Tryz.info_int rfl (by omega) LA ln lc _ (.int .i64 (k : Int)) rfl rfl rfl hm5 hb5z (by omega) ?_; intro A' c' w7 hm7 hg7 _)
        have hR7 := hR5.kept hg7 (hR5.apart hm5 (by decide))
        have hO7 := keep_ty hg7 hO5 (fun r hr => hm5.ty hr) (by decide)
        have hb7 := below_grown hb5 hb5z hg7 (fun q hq => (hm5.lt q hq).1)
        have hl7 : Mine 3 w7 g (some ⟨g, 0, none⟩) n n (nats L) := hl5.low (below_grown (Below.refl gr w5) hb5z hg7 (fun q hq => (hm5.lt q hq).1)) hgg
        rw [nats_snoc] at hm7
        have q0 : w7.cell? ⟨wr.heap.size, 0, none⟩ = some (.int .u8 (v.kind : Int)) := cell_of_block hO7 rfl
        have hgo7 : wr.heap.size ≠ gr := hgo
        clear c5 hm5 hR5 hO5 hl5 hb5 hg7
        rcases (show v.kind = 1 ∨ v.kind = 2 ∨ v.kind = 3 ∨ v.kind = 4 ∨ v.kind = 5 by omega) with hk | hk | hk | hk | hk
        · have hkd : v.kind = 1 := hk
          have hkc : (v.kind : Int) = 1 := by omega
          rw [hkc] at q0
          have hnn := HNX.out (by omega)
          have hx := HLB.out (k + 1)
          have hce := hl7.cell (k + 1) (by have := HLEN.out; omega)
          rw [nats_getD (by rw [HLL.out]; have := HLEN.out; omega)] at hce
          have d2 : (k : Int) + 1 < (n : Int) := by have := HLEN.out; omega
          have hxn : L.getD (k + 1) 0 < n := by have := HLEN.out; omega
          obtain ⟨x, hxx⟩ : ∃ x, L.getD (k + 1) 0 = x := ⟨_, rfl⟩
          rw [hxx] at hx hce hxn
          have hxi : (x : Int) < (n : Int) := by omega
          have f7 := hR7.free x
          have c7 := hR7.cell x hxn
          have hR8 := hR7.stored x hxn (.bool true)
          rw [bools_set] at hR8
          have hb8 := hb7.setCell (p := ⟨gr, x, none⟩) (Nat.le_refl _) (.bool true)
          have hm8 := hm7.kept (setCell_grownBy w7 gr x (.bool true)) (hm7.apart hR7 (by decide))
          have hO8 := (setCell_other (w := w7) (g := gr) hgo7 x (.bool true)).trans hO7
          have q0' : (w7.setCell ⟨gr, x, none⟩ (.bool true)).cell? ⟨wr.heap.size, 0, none⟩ = some (.int .u8 1) := by rw [← hkc]; exact cell_of_block hO8 rfl
          obtain ⟨hj1, hj2, hj3⟩ := HJM.out (by omega) (by omega)
          have hl8 := hl7.low (Below.refl gr w7 |>.setCell (p := ⟨gr, x, none⟩) (Nat.le_refl _) (.bool true)) hgg
          have hy := HLB.out v.dest.toNat
          have hcd := hl8.cell v.dest.toNat (by have := HLEN.out; omega)
          rw [nats_getD (by rw [HLL.out]; have := HLEN.out; omega)] at hcd
          have hyn : L.getD v.dest.toNat 0 < n := by have := HLEN.out; omega
          have hdn : v.dest.toNat < n := by have := HLEN.out; omega
          have q7 : (w7.setCell ⟨gr, x, none⟩ (.bool true)).cell? ⟨wr.heap.size, 7, none⟩ = some (.int .i64 v.dest) := cell_of_block hO8 rfl
          have HS2 := Lib.hid (show realT ops L (k + 1) = ((R.set x true).set (L.getD v.dest.toNat 0) true, l ++ [k]) by rw [HST.out, markV_test HAT.out (by omega), hxx])
          rw [hj3] at q7
          generalize v.dest.toNat = d at hy hcd HS2 q7 hyn hdn
          generalize L.getD d 0 = y at hy hcd HS2 hyn
          have hdi : (d : Int) < (n : Int) := by omega
          have hyi : (y : Int) < (n : Int) := by omega
          have f8 := hR8.free y
          have c8 := hR8.cell y hyn
          have hR9 := hR8.stored y hyn (.bool true)
          rw [bools_set] at hR9
          have hb9 := hb8.setCell (p := ⟨gr, y, none⟩) (Nat.le_refl _) (.bool true)
          have hm9 := hm8.kept (setCell_grownBy _ gr y (.bool true)) (hm8.apart hR8 (by decide))
          have HM9 := Lib.hid hm9
          have HR9 := Lib.hid hR9
          clear hkd hkc hk hxx hm8 hR8 hO8 hm7 hR7 hO7 hl8 hm9 hR9 hj1 hj2 hj3
          go_wp2
          go_roundw
          case rel => exact ⟨k + 1, A', ln + 1, c', by go_num, hlt, rfl, by rw [HS2.out]; exact HM9.out, by rw [HS2.out]; exact HR9.out, hb9⟩
          case measure => simp [intOf]; omega
        · have hkd : v.kind = 2 := hk
          have hkc : (v.kind : Int) = 2 := by omega
          rw [hkc] at q0
          have hnn := HNX.out (by omega)
          have hx := HLB.out (k + 1)
          have hce := hl7.cell (k + 1) (by have := HLEN.out; omega)
          rw [nats_getD (by rw [HLL.out]; have := HLEN.out; omega)] at hce
          have d2 : (k : Int) + 1 < (n : Int) := by have := HLEN.out; omega
          have hxn : L.getD (k + 1) 0 < n := by have := HLEN.out; omega
          obtain ⟨x, hxx⟩ : ∃ x, L.getD (k + 1) 0 = x := ⟨_, rfl⟩
          rw [hxx] at hx hce hxn
          have hxi : (x : Int) < (n : Int) := by omega
          have f7 := hR7.free x
          have c7 := hR7.cell x hxn
          have hR8 := hR7.stored x hxn (.bool true)
          rw [bools_set] at hR8
          have hb8 := hb7.setCell (p := ⟨gr, x, none⟩) (Nat.le_refl _) (.bool true)
          have hm8 := hm7.kept (setCell_grownBy w7 gr x (.bool true)) (hm7.apart hR7 (by decide))
          have hO8 := (setCell_other (w := w7) (g := gr) hgo7 x (.bool true)).trans hO7
          have q0' : (w7.setCell ⟨gr, x, none⟩ (.bool true)).cell? ⟨wr.heap.size, 0, none⟩ = some (.int .u8 2) := by rw [← hkc]; exact cell_of_block hO8 rfl
          obtain ⟨hj1, hj2, hj3⟩ := HJM.out (by omega) (by omega)
          have hl8 := hl7.low (Below.refl gr w7 |>.setCell (p := ⟨gr, x, none⟩) (Nat.le_refl _) (.bool true)) hgg
          have hy := HLB.out v.dest.toNat
          have hcd := hl8.cell v.dest.toNat (by have := HLEN.out; omega)
          rw [nats_getD (by rw [HLL.out]; have := HLEN.out; omega)] at hcd
          have hyn : L.getD v.dest.toNat 0 < n := by have := HLEN.out; omega
          have hdn : v.dest.toNat < n := by have := HLEN.out; omega
          have q7 : (w7.setCell ⟨gr, x, none⟩ (.bool true)).cell? ⟨wr.heap.size, 7, none⟩ = some (.int .i64 v.dest) := cell_of_block hO8 rfl
          have HS2 := Lib.hid (show realT ops L (k + 1) = ((R.set x true).set (L.getD v.dest.toNat 0) true, l ++ [k]) by rw [HST.out, markV_test HAT.out (by omega), hxx])
          rw [hj3] at q7
          generalize v.dest.toNat = d at hy hcd HS2 q7 hyn hdn
          generalize L.getD d 0 = y at hy hcd HS2 hyn
          have hdi : (d : Int) < (n : Int) := by omega
          have hyi : (y : Int) < (n : Int) := by omega
          have f8 := hR8.free y
          have c8 := hR8.cell y hyn
          have hR9 := hR8.stored y hyn (.bool true)
          rw [bools_set] at hR9
          have hb9 := hb8.setCell (p := ⟨gr, y, none⟩) (Nat.le_refl _) (.bool true)
          have hm9 := hm8.kept (setCell_grownBy _ gr y (.bool true)) (hm8.apart hR8 (by decide))
          have HM9 := Lib.hid hm9
          have HR9 := Lib.hid hR9
          clear hkd hkc hk hxx hm8 hR8 hO8 hm7 hR7 hO7 hl8 hm9 hR9 hj1 hj2 hj3
          go_wp2
          go_roundw
          case rel => exact ⟨k + 1, A', ln + 1, c', by go_num, hlt, rfl, by rw [HS2.out]; exact HM9.out, by rw [HS2.out]; exact HR9.out, hb9⟩
          case measure => simp [intOf]; omega
        · have hkd : v.kind = 3 := hk
          have hkc : (v.kind : Int) = 3 := by omega
          rw [hkc] at q0
          have hnn := HNX.out (by omega)
          have hx := HLB.out (k + 1)
          have hce := hl7.cell (k + 1) (by have := HLEN.out; omega)
          rw [nats_getD (by rw [HLL.out]; have := HLEN.out; omega)] at hce
          have d2 : (k : Int) + 1 < (n : Int) := by have := HLEN.out; omega
          have hxn : L.getD (k + 1) 0 < n := by have := HLEN.out; omega
          obtain ⟨x, hxx⟩ : ∃ x, L.getD (k + 1) 0 = x := ⟨_, rfl⟩
          rw [hxx] at hx hce hxn
          have hxi : (x : Int) < (n : Int) := by omega
          have f7 := hR7.free x
          have c7 := hR7.cell x hxn
          have hR8 := hR7.stored x hxn (.bool true)
          rw [bools_set] at hR8
          have hb8 := hb7.setCell (p := ⟨gr, x, none⟩) (Nat.le_refl _) (.bool true)
          have hm8 := hm7.kept (setCell_grownBy w7 gr x (.bool true)) (hm7.apart hR7 (by decide))
          have hO8 := (setCell_other (w := w7) (g := gr) hgo7 x (.bool true)).trans hO7
          have HS2 := Lib.hid (show realT ops L (k + 1) = (R.set x true, l ++ [k]) by rw [HST.out, markV_plain HAT.out (by omega), hxx])
          have HM8 := Lib.hid hm8
          have HR8 := Lib.hid hR8
          have q0' : (w7.setCell ⟨gr, x, none⟩ (.bool true)).cell? ⟨wr.heap.size, 0, none⟩ = some (.int .u8 3) := by rw [← hkc]; exact cell_of_block hO8 rfl
          clear hkd hkc hk hxx hm8 hR8 hO8 hm7 hR7 hO7
          go_wp2
          go_roundw
          case rel => exact ⟨k + 1, A', ln + 1, c', by go_num, hlt, rfl, by rw [HS2.out]; exact HM8.out, by rw [HS2.out]; exact HR8.out, hb8⟩
          case measure => simp [intOf]; omega
        · have hkd : v.kind = 4 := hk
          have hkc : (v.kind : Int) = 4 := by omega
          rw [hkc] at q0
          have hnn := HNX.out (by omega)
          have hx := HLB.out (k + 1)
          have hce := hl7.cell (k + 1) (by have := HLEN.out; omega)
          rw [nats_getD (by rw [HLL.out]; have := HLEN.out; omega)] at hce
          have d2 : (k : Int) + 1 < (n : Int) := by have := HLEN.out; omega
          have hxn : L.getD (k + 1) 0 < n := by have := HLEN.out; omega
          obtain ⟨x, hxx⟩ : ∃ x, L.getD (k + 1) 0 = x := ⟨_, rfl⟩
          rw [hxx] at hx hce hxn
          have hxi : (x : Int) < (n : Int) := by omega
          have f7 := hR7.free x
          have c7 := hR7.cell x hxn
          have hR8 := hR7.stored x hxn (.bool true)
          rw [bools_set] at hR8
          have hb8 := hb7.setCell (p := ⟨gr, x, none⟩) (Nat.le_refl _) (.bool true)
          have hm8 := hm7.kept (setCell_grownBy w7 gr x (.bool true)) (hm7.apart hR7 (by decide))
          have hO8 := (setCell_other (w := w7) (g := gr) hgo7 x (.bool true)).trans hO7
          have HS2 := Lib.hid (show realT ops L (k + 1) = (R.set x true, l ++ [k]) by rw [HST.out, markV_plain HAT.out (by omega), hxx])
          have HM8 := Lib.hid hm8
          have HR8 := Lib.hid hR8
          have q0' : (w7.setCell ⟨gr, x, none⟩ (.bool true)).cell? ⟨wr.heap.size, 0, none⟩ = some (.int .u8 4) := by rw [← hkc]; exact cell_of_block hO8 rfl
          clear hkd hkc hk hxx hm8 hR8 hO8 hm7 hR7 hO7
          go_wp2
          go_roundw
          case rel => exact ⟨k + 1, A', ln + 1, c', by go_num, hlt, rfl, by rw [HS2.out]; exact HM8.out, by rw [HS2.out]; exact HR8.out, hb8⟩
          case measure => simp [intOf]; omega
        · have hkd : v.kind = 5 := hk
          have hkc : (v.kind : Int) = 5 := by omega
          rw [hkc] at q0
          have HS2 := Lib.hid (show realT ops L (k + 1) = (R, l ++ [k]) by rw [HST.out, markV_end HAT.out hkd])
          clear hkd hkc hk
          go_wp2
          go_roundw
          case rel => exact ⟨k + 1, A', ln + 1, c', by go_num, hlt, rfl, by rw [HS2.out]; exact hm7, by rw [HS2.out]; exact hR7, hb7⟩
          case measure => simp [intOf]; omega
    · obtain rfl : k = n := by omega
      rw [HLE.out] at hm
      go_wp2
      refine ⟨rfl, ?_⟩; (repeat apply Exists.intro); exact ⟨rfl, hm, hbr⟩

end Go.Proofs.YtekcpapkicmckaaGreatDoor

namespace Go.Proofs.YtekcpapkicmckaaGreatDoor
open Go.RowKit Go.Maps

set_option maxHeartbeats 4000000 in
set_option maxRecDepth 100000 in
theorem td_out (F O : Int) (A : Option Addr) (n c : Nat) (ops : List OpV) (g pb g2 gb ln lc P mb B : Nat) (JA0 : Option Addr) (jc0 : Nat) (w w6 : World) (c0 c2 c3 c4 c5 c7 c8 c9 c11 c12 c16 c17 c18 c19 c20 c21 c22 c23 c24 c25 c26 c27 c28 c29 c30 c31 c32 c33 c34 c35 c36 c37 c38 c39 c40 c41 c42 c43 c44 c45 c46 c47 c48 c49 c50 c51 c52 c53 c54 c55 c56 c57 c58 c59 c60 c61 c62 c63 c64 c65 c66 c67 c68 c69 c70 c71 c72 c73 c74 c75 c76 c77 c78 c79 c80 c81 c82 c83 c84 c85 c86 c87 c88 c89 c90 c91 c92 c93 c94 c95 c96 c97 c98 c99 c100 c101 c102 c103 c104 c105 c106 c107 c108 c109 c110 c111 c112 c113 c114 c115 c116 c117 c118 c119 c120 c121 c122 c123 c124 c125 c126 c127 c128 c129 c130 c131 c132 c133 c134 c135 c136 c137 c138 c139 c143 c144 c145 c146 c147 c148 c149 c150 c151 c152 c153 c154 c155 c156 c157 c158 c159 c160 c161 c162 c163 c164 c165 c166 c167 c168 c169 c170 c171 c172 c173 c174 c175 c176 c177 c178 c179 c180 c181 c182 c183 c184 c185 c186 c187 c188 c189 c190 c191 c192 c193 c194 c195 c196 c197 c198 c199 c200 c201 c202 c203 c204 c205 c206 c207 c208 c209 c210 c211 c212 c213 c214 c215 c216 c217 c218 c219 c220 c221 c222 c223 c224 c225 c226 c227 c228 c229 c230 c231 c232 c233 c234 c235 c236 c237 c238 c239 c240 c241 c242 c243 c244 c245 c246 c247 c248 c249 c250 c251 c252 c253 c254 c255 c256 c257 : Value) (hP : RightP F O ops) (hp : OpsAt w A n c ops) (hn : n ≤ 100000000000) (hcb : ∀ v ∈ ops, v.cats.length ≤ 1000000000000) (hb6 : Below w.heap.size w w6) (hwB : w.heap.size ≤ B) (hpb : w6.heap[pb]? = some (.cells #[.int .i64 F, .int .i64 O, .slice A n c] 30 (0, 0))) (hpB : pb < B)
    (hl : Mine 3 w6 g (some ⟨g, 0, none⟩) n n (nats (lands ops))) (hgB : g < B) (hst : Mine 3 w6 gb (some ⟨g2, 0, none⟩) ln lc (nats (stays ops))) (hg2B : g2 < B) (hT0 : TdSt w6 B P F O JA0 0 jc0 [] none 0 0 []) (hM0 : w6.ownsMap Tryz.prog 3 (plainInt 3) mb 0 (.map [])) (hmB : B ≤ mb) :
    Code.wp Tryz.prog (Code.loop (Tryz.tidyLoop 2)) (LoopEnds 5 (fun a w' => ∃ (JA : Option Addr) (jn jc : Nat) (OA : Option Addr) (on oc : Nat) (D : DataW Unit) (u16 : Value) (u17 : Value) (u18 : Value) (u142 : Value) (u143 : Value) (u144 : Value) (u145 : Value) (u146 : Value) (u147 : Value) (u148 : Value) (u149 : Value) (u150 : Value) (u151 : Value) (u152 : Value) (u153 : Value) (u154 : Value) (u155 : Value) (u156 : Value) (u157 : Value) (u158 : Value) (u159 : Value) (u160 : Value) (u161 : Value) (u162 : Value) (u163 : Value) (u164 : Value) (u165 : Value) (u166 : Value) (u167 : Value) (u168 : Value) (u169 : Value) (u170 : Value) (u171 : Value) (u172 : Value) (u173 : Value) (u174 : Value) (u175 : Value) (u176 : Value) (u177 : Value) (u178 : Value) (u179 : Value) (u180 : Value) (u181 : Value) (u182 : Value) (u183 : Value) (u184 : Value) (u185 : Value) (u186 : Value) (u187 : Value) (u188 : Value) (u189 : Value) (u190 : Value) (u191 : Value) (u192 : Value) (u193 : Value) (u194 : Value) (u195 : Value) (u196 : Value) (u197 : Value) (u198 : Value) (u199 : Value) (u200 : Value) (u201 : Value) (u202 : Value) (u203 : Value) (u204 : Value) (u205 : Value) (u206 : Value) (u207 : Value) (u208 : Value) (u209 : Value) , a = ⟨List.toArray (c0 :: .pointer (some ⟨pb, 0, none⟩) :: c2 :: c3 :: c4 :: c5 :: .slice (some ⟨g, 0, none⟩) n n :: c7 :: c8 :: c9 :: .slice (some ⟨g2, 0, none⟩) ln lc :: c11 :: c12 :: .pointer (some ⟨P, 0, none⟩) :: .map (some mb) :: .slice JA jn jc :: u16 :: u17 :: u18 :: c19 :: c20 :: c21 :: c22 :: c23 :: c24 :: c25 :: c26 :: c27 :: c28 :: c29 :: c30 :: c31 :: c32 :: c33 :: c34 :: c35 :: c36 :: c37 :: c38 :: c39 :: c40 :: c41 :: c42 :: c43 :: c44 :: c45 :: c46 :: c47 :: c48 :: c49 :: c50 :: c51 :: c52 :: c53 :: c54 :: c55 :: c56 :: c57 :: c58 :: c59 :: c60 :: c61 :: c62 :: c63 :: c64 :: c65 :: c66 :: c67 :: c68 :: c69 :: c70 :: c71 :: c72 :: c73 :: c74 :: c75 :: c76 :: c77 :: c78 :: c79 :: c80 :: c81 :: c82 :: c83 :: c84 :: c85 :: c86 :: c87 :: c88 :: c89 :: c90 :: c91 :: c92 :: c93 :: c94 :: c95 :: c96 :: c97 :: c98 :: c99 :: c100 :: c101 :: c102 :: c103 :: c104 :: c105 :: c106 :: c107 :: c108 :: c109 :: c110 :: c111 :: c112 :: c113 :: c114 :: c115 :: c116 :: c117 :: c118 :: c119 :: c120 :: c121 :: c122 :: c123 :: c124 :: c125 :: c126 :: c127 :: c128 :: c129 :: c130 :: c131 :: c132 :: c133 :: c134 :: c135 :: c136 :: c137 :: c138 :: c139 :: .slice (some ⟨g2, 0, none⟩) ln lc :: .int .i64 (ln : Int) :: u142 :: u143 :: u144 :: u145 :: u146 :: u147 :: u148 :: u149 :: u150 :: u151 :: u152 :: u153 :: u154 :: u155 :: u156 :: u157 :: u158 :: u159 :: u160 :: u161 :: u162 :: u163 :: u164 :: u165 :: u166 :: u167 :: u168 :: u169 :: u170 :: u171 :: u172 :: u173 :: u174 :: u175 :: u176 :: u177 :: u178 :: u179 :: u180 :: u181 :: u182 :: u183 :: u184 :: u185 :: u186 :: u187 :: u188 :: u189 :: u190 :: u191 :: u192 :: u193 :: u194 :: u195 :: u196 :: u197 :: u198 :: u199 :: u200 :: u201 :: u202 :: u203 :: u204 :: u205 :: u206 :: u207 :: u208 :: u209 :: c210 :: c211 :: c212 :: c213 :: c214 :: c215 :: c216 :: c217 :: c218 :: c219 :: c220 :: c221 :: c222 :: c223 :: c224 :: c225 :: c226 :: c227 :: c228 :: c229 :: c230 :: c231 :: c232 :: c233 :: c234 :: c235 :: c236 :: c237 :: c238 :: c239 :: c240 :: c241 :: c242 :: c243 :: c244 :: c245 :: c246 :: c247 :: c248 :: c249 :: c250 :: c251 :: c252 :: c253 :: c254 :: c255 :: c256 :: c257 :: []), []⟩ ∧ TdSt w' B P F O JA jn jc (from1 ops (lands ops) (stays ops) ln) OA on oc (out1 ops (lands ops) (stays ops) ln) ∧
      w'.ownsMap Tryz.prog 3 (plainInt 3) mb ln D ∧ PlaceMap D n (placeT ops (lands ops) (stays ops) ln) ∧ Below B w6 w')) ⟨List.toArray (c0 :: .pointer (some ⟨pb, 0, none⟩) :: c2 :: c3 :: c4 :: c5 :: .slice (some ⟨g, 0, none⟩) n n :: c7 :: c8 :: c9 :: .slice (some ⟨g2, 0, none⟩) ln lc :: c11 :: c12 :: .pointer (some ⟨P, 0, none⟩) :: .map (some mb) :: .slice JA0 0 jc0 :: c16 :: c17 :: c18 :: c19 :: c20 :: c21 :: c22 :: c23 :: c24 :: c25 :: c26 :: c27 :: c28 :: c29 :: c30 :: c31 :: c32 :: c33 :: c34 :: c35 :: c36 :: c37 :: c38 :: c39 :: c40 :: c41 :: c42 :: c43 :: c44 :: c45 :: c46 :: c47 :: c48 :: c49 :: c50 :: c51 :: c52 :: c53 :: c54 :: c55 :: c56 :: c57 :: c58 :: c59 :: c60 :: c61 :: c62 :: c63 :: c64 :: c65 :: c66 :: c67 :: c68 :: c69 :: c70 :: c71 :: c72 :: c73 :: c74 :: c75 :: c76 :: c77 :: c78 :: c79 :: c80 :: c81 :: c82 :: c83 :: c84 :: c85 :: c86 :: c87 :: c88 :: c89 :: c90 :: c91 :: c92 :: c93 :: c94 :: c95 :: c96 :: c97 :: c98 :: c99 :: c100 :: c101 :: c102 :: c103 :: c104 :: c105 :: c106 :: c107 :: c108 :: c109 :: c110 :: c111 :: c112 :: c113 :: c114 :: c115 :: c116 :: c117 :: c118 :: c119 :: c120 :: c121 :: c122 :: c123 :: c124 :: c125 :: c126 :: c127 :: c128 :: c129 :: c130 :: c131 :: c132 :: c133 :: c134 :: c135 :: c136 :: c137 :: c138 :: c139 :: .slice (some ⟨g2, 0, none⟩) ln lc :: .int .i64 (ln : Int) :: .int .i64 0 :: c143 :: c144 :: c145 :: c146 :: c147 :: c148 :: c149 :: c150 :: c151 :: c152 :: c153 :: c154 :: c155 :: c156 :: c157 :: c158 :: c159 :: c160 :: c161 :: c162 :: c163 :: c164 :: c165 :: c166 :: c167 :: c168 :: c169 :: c170 :: c171 :: c172 :: c173 :: c174 :: c175 :: c176 :: c177 :: c178 :: c179 :: c180 :: c181 :: c182 :: c183 :: c184 :: c185 :: c186 :: c187 :: c188 :: c189 :: c190 :: c191 :: c192 :: c193 :: c194 :: c195 :: c196 :: c197 :: c198 :: c199 :: c200 :: c201 :: c202 :: c203 :: c204 :: c205 :: c206 :: c207 :: c208 :: c209 :: c210 :: c211 :: c212 :: c213 :: c214 :: c215 :: c216 :: c217 :: c218 :: c219 :: c220 :: c221 :: c222 :: c223 :: c224 :: c225 :: c226 :: c227 :: c228 :: c229 :: c230 :: c231 :: c232 :: c233 :: c234 :: c235 :: c236 :: c237 :: c238 :: c239 :: c240 :: c241 :: c242 :: c243 :: c244 :: c245 :: c246 :: c247 :: c248 :: c249 :: c250 :: c251 :: c252 :: c253 :: c254 :: c255 :: c256 :: c257 :: []), []⟩ w6 := by
  have hlen := hp.len
  have hsf : ∀ (W : World) (a : Addr) (b : Nat), (store a (.float .f64 b)).run Tryz.prog W = stored Tryz.prog W a (.float .f64 b) .plain := fun W a b => run_store _ W a _ _ rfl
  have hsln : (stays ops).length = ln := by have := hst.len; rwa [nats_length] at this
  have HSL := Lib.hid hsln
  have HPM := Lib.hid (show PlaceMap (.map []) n (placeT ops (lands ops) (stays ops) 0) by unfold placeT; rw [hlen]; exact PlaceMap.start n)
  have hlnn : ln ≤ n := by have := stays_many ops; omega
  have HLEN := Lib.hid hlen
  have HP := Lib.hid hp
  have HRP := Lib.hid hP
  have HL := Lib.hid hl
  have HS := Lib.hid hst
  have HPB := Lib.hid hpb
  have HCB := Lib.hid hcb
  clear hlen hp hP hl hst hpb hsln hcb
  conv => arg 2; arg 1; whnf
  go_loopw [15, 142] (fun fx ix wr => ∃ (k : Nat) (JA : Option Addr) (jn jc : Nat) (OA : Option Addr) (on oc : Nat) (D : DataW Unit), ix = .int .i64 (k : Int) ∧ k ≤ ln ∧ fx = .slice JA jn jc ∧ TdSt wr B P F O JA jn jc (from1 ops (lands ops) (stays ops) k) OA on oc (out1 ops (lands ops) (stays ops) k) ∧
    wr.ownsMap Tryz.prog 3 (plainInt 3) mb k D ∧ PlaceMap D n (placeT ops (lands ops) (stays ops) k) ∧ Below B w6 wr) (fun _ ix _ => ln - (intOf ix).toNat)
  case atStart => exact ⟨0, JA0, 0, jc0, none, 0, 0, _, rfl, Nat.zero_le _, rfl, hT0, hM0, HPM.out, Below.refl _ _⟩
  case round =>
    obtain ⟨k, JA, jn, jc, OA, on, oc, D, rfl, hk, rfl, hT, hM, hPM, hbr⟩ := hrel
    clear hT0 hM0
    by_cases hlt : k < ln
    · have hlen := HLEN.out
      have hks : k < (stays ops).length := by have := HSL.out; omega
      have hmem := stay_mem (ops := ops) hks
      have hil := stays_lt ops _ hmem
      have hon : on = posT ops (lands ops) (stays ops) k := by
        have h1 := hT.own.len
        rw [out1_length] at h1
        exact h1.symm
      have hjn : jn = posT ops (lands ops) (stays ops) k := by
        have h1 := hT.js.len
        rw [i64s_length, from1_length] at h1
        exact h1.symm
      have hpl := posT_le ops (lands ops) (stays ops) k
      have hon2 : on ≤ 2 * k := by omega
      have hjn2 : jn ≤ 2 * k := by omega
      have hpml : (placeT ops (lands ops) (stays ops) k).length = n := by rw [placeT_length, hlen]
      have HO1 := Lib.hid (show out1 ops (lands ops) (stays ops) (k + 1) = out1 ops (lands ops) (stays ops) k ++ [opAt ops (stay ops k)] ++ (if jmp ops k then [jumpTo 0] else []) from rfl)
      have HF1 := Lib.hid (show from1 ops (lands ops) (stays ops) (k + 1) = from1 ops (lands ops) (stays ops) k ++ [(stay ops k : Int)] ++ (if jmp ops k then [-1 - ((lands ops).getD (stay ops k + 1) 0 : Int)] else []) from rfl)
      have hPM1 := hPM.put (i := stay ops k) (by omega) hpml on
      have HPM1 : Hid (PlaceMap (D.put (.int .i64 (stay ops k : Int)) (.lit (.int .i64 (on : Int)))) n (placeT ops (lands ops) (stays ops) (k + 1))) := Lib.hid (by rw [hon] at hPM1 ⊢; exact hPM1)
      have hls := HS.out.low hbr hg2B
      have hce := hls.cell k hlt
      rw [nats_getD hks] at hce
      have HJM := Lib.hid (fun h5 => stay_fall HRP.out hks h5)
      have HJI := Lib.hid (fun (h5 : (opAt ops (stay ops k)).kind ≠ 5) (b : Nat) (h1 : k < b) (h2 : b < (stays ops).length) (h3 : stay ops b = (lands ops).getD (stay ops k + 1) 0) => jmp_iff hks h5 h1 h2 h3)
      have HNX := Lib.hid (HRP.out.next hil)
      have HJE := Lib.hid (fun (h5 : (opAt ops (stay ops k)).kind = 5) => jmp_end (ops := ops) (m := k) h5)
      have hce1 : k + 1 < ln → ∃ y, stay ops (k + 1) = y ∧ w6.cell? ⟨g2, k + 1, none⟩ = some (.int .i64 (y : Int)) := fun h => by
        have h2 := HS.out.cell (k + 1) h
        rw [nats_getD (by have := HSL.out; omega)] at h2
        exact ⟨_, rfl, h2⟩
      have HC1 := Lib.hid hce1
      rw [show (stays ops).getD k 0 = stay ops k from rfl] at hce
      obtain ⟨i, hi⟩ : ∃ i, stay ops k = i := ⟨_, rfl⟩
      obtain ⟨js, hjs⟩ : ∃ js, from1 ops (lands ops) (stays ops) k = js := ⟨_, rfl⟩
      obtain ⟨os, hos⟩ : ∃ os, out1 ops (lands ops) (stays ops) k = os := ⟨_, rfl⟩
      rw [hi] at hil hce HO1 HF1 HPM1 HJI HJE HNX
      rw [hos] at hT HO1
      rw [hjs] at hT HF1
      have HI := Lib.hid hi
      obtain ⟨v, hv⟩ : ∃ v, opAt ops i = v := ⟨_, rfl⟩
      have hget := opAt_get hil
      have hcl := HCB.out _ (List.getElem_mem hil)
      rw [← hget, hv] at hcl
      obtain ⟨b, o, rfl, hc⟩ := HP.out.cells (by omega)
      obtain ⟨V1, V2, V3, hr', hic', hrg⟩ := hc i hil
      rw [← hget, hv] at hr' hic' hrg
      rw [hv] at HO1 HJI HJE HNX
      have HV := Lib.hid hv
      have p2 : wr.cell? ⟨P, 2, none⟩ = some (.slice OA on oc) := cell_of_block hT.prog rfl
      have hin : (i : Int) < (n : Int) := by omega
      have hi0 : i ≤ 100000000000 := by omega
      have HIN := Lib.hid (show i < n by omega)
      have HHI := Lib.hid (show stay ops k = i ∧ (stays ops).length = ln from ⟨HI.out, HSL.out⟩)
      clear hc hget hil hmem hlen hi hjs hos hpml hPM hPM1 hls hce1 hv hpl hon hjn
      have hmx : k < maxLen := by unfold maxLen; omega
      go_upto_region 34 with (at_mapUpdate; refine wpList_mapUpdate_own _ rfl _ _ _ 84 rfl 3 3 Tryz.keyInt Tryz.underlying84 _ mb k D rfl hM hmx _ _ _ rfl rfl (keyOf_int_mk Tryz.underlying3 (wf_nat (x := i) (by omega))) _ [] (plainElem_int Tryz.underlying3 (wf_nat (x := on) (by omega))) ?_; intro w7 hM7 hg7)
      have hT7 := hT.kept hg7 (fun r hr cs T fr h => by injection hr with hr; subst hr; exact absurd rfl (ownsMap_ne hM h))
      have hb7 := below_grown (A := some ⟨mb, 0, none⟩) hbr (Nat.le_trans hT.low.2 (Nat.le_refl _)) hg7 (fun q hq => by simp [blockOf] at hq; omega)
      have hbw := hb6.trans (hb7.mono hwB)
      have hr := rangeAt_below hr' hbw
      have hic := hic'.below hbw
      have hp7 := (hb7.block pb hpB).trans HPB.out
      clear hT hM hbr hce p2 hr' hic' hbw
      have r0 : _ = some _ := range_cell (o := o + i * 8) hr 0 rfl
      rw [Nat.add_zero] at r0
      have r1 := range_cell hr 1 rfl
      have r2 := range_cell hr 2 rfl
      have r3 := range_cell hr 3 rfl
      have r4 := range_cell hr 4 rfl
      have r5 := range_cell hr 5 rfl
      have r6 := range_cell hr 6 rfl
      have r7 := range_cell hr 7 rfl
      have p2 : w7.cell? ⟨pb, 2, none⟩ = some (.slice (some ⟨b, o, none⟩) n c) := cell_of_block hp7 rfl
      clear hr hp7
      go_upto_region 35 with (fail)
      have b8 := (Below.refl w7.heap.size w7).alloc (Nat.le_refl _) (.cells #[.int .u8 (v.kind : Int), .int .i64 v.feature, .float .f64 v.thr, .slice V1 V2 V3, .int .u8 (v.missing : Int), .int .i64 v.output, .int .i64 v.value, .int .i64 v.dest] 75)
      have hO8 : (w7.alloc (.cells #[.int .u8 (v.kind : Int), .int .i64 v.feature, .float .f64 v.thr, .slice V1 V2 V3, .int .u8 (v.missing : Int), .int .i64 v.output, .int .i64 v.value, .int .i64 v.dest] 75)).heap[w7.heap.size]? = some (.cells #[.int .u8 (v.kind : Int), .int .i64 v.feature, .float .f64 v.thr, .slice V1 V2 V3, .int .u8 (v.missing : Int), .int .i64 v.output, .int .i64 v.value, .int .i64 v.dest] 75 (0, 0)) := heap_alloc_new w7 _
      have hz8 : (w7.alloc (.cells #[.int .u8 (v.kind : Int), .int .i64 v.feature, .float .f64 v.thr, .slice V1 V2 V3, .int .u8 (v.missing : Int), .int .i64 v.output, .int .i64 v.value, .int .i64 v.dest] 75)).heap.size = w7.heap.size + 1 := by simp
      generalize (w7.alloc (.cells #[.int .u8 (v.kind : Int), .int .i64 v.feature, .float .f64 v.thr, .slice V1 V2 V3, .int .u8 (v.missing : Int), .int .i64 v.output, .int .i64 v.value, .int .i64 v.dest] 75)) = w8 at b8 hO8 hz8 ⊢
      have HCL := Lib.hid (clone_any V1 V2 V3 v.cats w8 (hic.below b8) (by have := hic.len; omega))
      have HCR := Lib.hid hic.rng
      have c3 : w8.cell? ⟨w7.heap.size, 3, none⟩ = some (.slice V1 V2 V3) := cell_of_block hO8 rfl
      have HO8 := Lib.hid hO8
      have HZ8 := Lib.hid hz8
      have HB8 := Lib.hid b8
      clear r0 r1 r2 r3 r4 r5 r6 r7 p2 hic hO8 hz8 b8
      go_upto_region 36 with (go_at_call 42; refine HCL.out.mono ?_; rintro e w9 ⟨d, rfl, hcat, hnew, b9⟩; have hO9 := (b9.block w7.heap.size (by have := HZ8.out; omega)).trans HO8.out; have c3' : w9.cell? ⟨w7.heap.size, 3, none⟩ = some (.slice V1 V2 V3) := cell_of_block hO9 rfl; have z3 : w9.frozen? ⟨w7.heap.size, 3, none⟩ = false := frozen_row (vs := [.int .u8 (v.kind : Int), .int .i64 v.feature, .float .f64 v.thr, .slice V1 V2 V3, .int .u8 (v.missing : Int), .int .i64 v.output, .int .i64 v.value, .int .i64 v.dest]) hO9 3)
      have hz8 := HZ8.out
      have b10 := (below_then HB8.out HB8.out.size b9).setCell (p := ⟨w7.heap.size, 3, none⟩) (Nat.le_refl _) (.slice d.1 d.2.1 d.2.2)
      have hO10 : (w9.setCell ⟨w7.heap.size, 3, none⟩ (.slice d.1 d.2.1 d.2.2)).heap[w7.heap.size]? = some (.cells #[.int .u8 (v.kind : Int), .int .i64 v.feature, .float .f64 v.thr, .slice d.1 d.2.1 d.2.2, .int .u8 (v.missing : Int), .int .i64 v.output, .int .i64 v.value, .int .i64 v.dest] 75 (0, 0)) :=
        setCell_row (vs := [.int .u8 (v.kind : Int), .int .i64 v.feature, .float .f64 v.thr, .slice V1 V2 V3, .int .u8 (v.missing : Int), .int .i64 v.output, .int .i64 v.value, .int .i64 v.dest]) hO9 3 _
      have hB8 : B ≤ w8.heap.size := Nat.le_trans hT7.low.2 HB8.out.size
      have hcat10 : CatOwn (w9.setCell ⟨w7.heap.size, 3, none⟩ (.slice d.1 d.2.1 d.2.2)) B d v.cats := (hcat.mono hB8).kept (setCell_grownBy w9 w7.heap.size 3 _) (by
        cases hk : hdBlock d with
        | none => exact .inl rfl
        | some q => have := hnew q hk; exact .inr (by intro e; injection e with e; omega))
      have hnew7 : ∀ q, hdBlock d = some q → w7.heap.size ≤ q := fun q hq => by have := hnew q hq; omega
      generalize w9.setCell ⟨w7.heap.size, 3, none⟩ (.slice d.1 d.2.1 d.2.2) = w10 at b10 hO10 hcat10 ⊢
      have hT10 := hT7.below b10
      have p2 : w10.cell? ⟨P, 2, none⟩ = some (.slice OA on oc) := cell_of_block hT10.prog rfl
      have q0 : w10.cell? ⟨w7.heap.size, 0, none⟩ = some (.int .u8 (v.kind : Int)) := cell_of_block hO10 rfl
      have q1 : w10.cell? ⟨w7.heap.size, 1, none⟩ = some (.int .i64 v.feature) := cell_of_block hO10 rfl
      have q2 : w10.cell? ⟨w7.heap.size, 2, none⟩ = some (.float .f64 v.thr) := cell_of_block hO10 rfl
      have q3 : w10.cell? ⟨w7.heap.size, 3, none⟩ = some (.slice d.1 d.2.1 d.2.2) := cell_of_block hO10 rfl
      have q4 : w10.cell? ⟨w7.heap.size, 4, none⟩ = some (.int .u8 (v.missing : Int)) := cell_of_block hO10 rfl
      have q5 : w10.cell? ⟨w7.heap.size, 5, none⟩ = some (.int .i64 v.output) := cell_of_block hO10 rfl
      have q6 : w10.cell? ⟨w7.heap.size, 6, none⟩ = some (.int .i64 v.value) := cell_of_block hO10 rfl
      have q7 : w10.cell? ⟨w7.heap.size, 7, none⟩ = some (.int .i64 v.dest) := cell_of_block hO10 rfl
      have hn11 := heap_alloc_new w10 (.cells #[.int .u8 (v.kind : Int), .int .i64 v.feature, .float .f64 v.thr, .slice d.1 d.2.1 d.2.2, .int .u8 (v.missing : Int), .int .i64 v.output, .int .i64 v.value, .int .i64 v.dest] 75)
      have b11 := b10.alloc b10.size (.cells #[.int .u8 (v.kind : Int), .int .i64 v.feature, .float .f64 v.thr, .slice d.1 d.2.1 d.2.2, .int .u8 (v.missing : Int), .int .i64 v.output, .int .i64 v.value, .int .i64 v.dest] 75)
      have hcat11 := hcat10.below ((Below.refl w10.heap.size w10).alloc (Nat.le_refl _) (.cells #[.int .u8 (v.kind : Int), .int .i64 v.feature, .float .f64 v.thr, .slice d.1 d.2.1 d.2.2, .int .u8 (v.missing : Int), .int .i64 v.output, .int .i64 v.value, .int .i64 v.dest] 75))
      have hT11 := hT7.below b11
      obtain ⟨hs, hh, hap⟩ := hT7.hds
      have hmk11 := hh.2.1.below b11
      have hO11 : (w10.alloc (.cells #[.int .u8 (v.kind : Int), .int .i64 v.feature, .float .f64 v.thr, .slice d.1 d.2.1 d.2.2, .int .u8 (v.missing : Int), .int .i64 v.output, .int .i64 v.value, .int .i64 v.dest] 75)).heap[w7.heap.size]? = _ := (((Below.refl w10.heap.size w10).alloc (Nat.le_refl _) (.cells #[.int .u8 (v.kind : Int), .int .i64 v.feature, .float .f64 v.thr, .slice d.1 d.2.1 d.2.2, .int .u8 (v.missing : Int), .int .i64 v.output, .int .i64 v.value, .int .i64 v.dest] 75)).block _ (lt_of_block hO10)).trans hO10
      have hAl := hh.2.1.lt
      have hPl := lt_of_block hT7.prog
      have hb11z : B ≤ (w10.alloc (.cells #[.int .u8 (v.kind : Int), .int .i64 v.feature, .float .f64 v.thr, .slice d.1 d.2.1 d.2.2, .int .u8 (v.missing : Int), .int .i64 v.output, .int .i64 v.value, .int .i64 v.dest] 75)).heap.size := hT11.low.2
      have HT7 := Lib.hid hT7
      have HH := Lib.hid hh
      have HAP := Lib.hid hap
      have HB11 := Lib.hid b11
      have HC11 := Lib.hid hcat11
      have HN11 := Lib.hid hn11
      have HM11 := Lib.hid hmk11
      have HP11 := Lib.hid hT11.prog
      have HO11 := Lib.hid hO11
      have HNW := Lib.hid hnew7
      have HAL := Lib.hid hAl
      have HB7 := Lib.hid hb7
      have HPL := Lib.hid hPl
      have HRG := Lib.hid hrg
      have hon8 : (on + 1) * 80 ≤ 140737488355328 := by omega
      clear hT7 hh hap b10 b11 hcat10 hcat11 hn11 hmk11 hT10 hT11 hO10 hO11 hnew7 hnew hcat hAl b9 hO9 c3 c3' z3 hb7 hPl hrg HCL HB8 HO8 HZ8 hz8 hB8
      go_upto_region 37 with (at_builtin; refine app_boxK B rfl _ _ _ _ _ 8 80 rfl Tryz.underlying28 Tryz.info_op rfl (by omega) OA on oc (flatOps hs os) w10.heap.size 1 1 _ _ HN11.out rfl rfl rfl (opRow_one d v) HM11.out hb11z (by omega) hon8 ?_; rintro OA' oc' w11 hm11 hg11 hA11; have hp11 := keep_ty hg11 HP11.out (fun r hr => HM11.out.ty hr) (by decide); have u9 : w11.cell? ⟨P, 2, none⟩ = some (.slice OA on oc) := cell_of_block hp11 rfl; have z9 : w11.frozen? ⟨P, 2, none⟩ = false := frozen_row (vs := [.int .i64 F, .int .i64 O, .slice OA on oc]) hp11 2)
      have hT12 : TdSt (w11.setCell ⟨P, 2, none⟩ (.slice OA' (on + 1) oc')) B P F O JA jn jc js OA' (on + 1) oc' (os ++ [v]) := TdSt.added HT7.out HH.out HAP.out HB11.out (hs2 := [d]) (ops2 := [v]) rfl (fun j h1 h2 => by
          obtain rfl : j = 0 := by simpa using h1
          exact HC11.out) (fun h hh q hq => by obtain rfl := List.mem_singleton.1 hh; exact HNW.out q hq) (List.pairwise_singleton _ _) (fun u hu => by obtain rfl := List.mem_singleton.1 hu; exact ⟨HRG.out, HCR.out⟩)
          (by simpa [flatOps, opRow, opCells] using hm11) hg11 hA11
      have hO12 : (w11.setCell ⟨P, 2, none⟩ (.slice OA' (on + 1) oc')).heap[w7.heap.size]? = some (.cells #[.int .u8 (v.kind : Int), .int .i64 v.feature, .float .f64 v.thr, .slice d.1 d.2.1 d.2.2, .int .u8 (v.missing : Int), .int .i64 v.output, .int .i64 v.value, .int .i64 v.dest] 75 (0, 0)) :=
        (setCell_other (by have := HPL.out; omega) _ _).trans ((hg11.block _ (lt_of_block HO11.out) (fun e => by have := (HAL.out _ e.symm).2; omega)).trans HO11.out)
      have hb12 : Below B w6 (w11.setCell ⟨P, 2, none⟩ (.slice OA' (on + 1) oc')) :=
        (below_grown (HB7.out.trans (HB11.out.mono HT7.out.low.2)) hb11z hg11 (fun q hq => (HAL.out q hq).1)).setCell (p := ⟨P, 2, none⟩) HT7.out.low.1 _
      have hM12 : (w11.setCell ⟨P, 2, none⟩ (.slice OA' (on + 1) oc')).ownsMap Tryz.prog 3 (plainInt 3) mb (k + 1) (D.put (.int .i64 (i : Int)) (.lit (.int .i64 (on : Int)))) := by
        have hMa := hM7.kept (grownBy_of_below HB11.out none) (by simp)
        have hMb := hMa.kept hg11 (fun e => by obtain ⟨c2, h2⟩ := HM11.out.ty e.symm; exact ownsMap_ne hMa h2 rfl)
        exact hMb.kept (setCell_grownBy w11 P 2 _) (fun e => by injection e with e; exact ownsMap_ne hMb hp11 e)
      generalize w11.setCell ⟨P, 2, none⟩ (.slice OA' (on + 1) oc') = w12 at hT12 hO12 hb12 hM12 ⊢
      have HT12 := Lib.hid hT12
      have HO12 := Lib.hid hO12
      have HB12 := Lib.hid hb12
      have HM12 := Lib.hid hM12
      have hj12 := hT12.js
      have hb12z := hT12.low.2
      have hjn8 : (jn + 1) * 8 ≤ 140737488355328 := by omega
      clear q0 q1 q2 q3 q4 q5 q6 q7 p2 u9 z9 hm11 hg11 hA11 hT12 hO12 hb12 hM12 hM7 hg7 hp11 HT7 HH HAP HB11 HC11 HN11 HM11 HP11 HO11 HNW HAL HB7 HRG HCR hb11z hon8 HPL
      go_upto_region 38 with (at_builtin; refine app_one B rfl _ _ _ _ (.int .i64 0) 8 rfl Tryz.underlying44 Tryz.info_int rfl (by omega) JA jn jc _ (.int .i64 (i : Int)) rfl rfl rfl hj12 hb12z hjn8 ?_; intro JA' jc' w13 hm13 hg13 hA13)
      have hT13 := HT12.out.noted hm13 hg13 hA13
      have hO13 := keep_ty hg13 HO12.out (fun r hr => HT12.out.js.ty hr) (by decide)
      have hb13 := below_grown HB12.out hb12z hg13 (fun q hq => (hj12.lt q hq).1)
      have hM13 := HM12.out.kept hg13 (fun e => by obtain ⟨c2, h2⟩ := hj12.ty e.symm; exact ownsMap_ne HM12.out h2 rfl)
      have c0 : w13.cell? ⟨w7.heap.size, 0, none⟩ = some (.int .u8 (v.kind : Int)) := cell_of_block hO13 rfl
      clear hj12 hm13 hg13 hA13 HT12 HO12 HB12 HM12 hb12z hjn8 hO13
      by_cases h5 : v.kind = 5
      · have hj := HJE.out h5
        have HR1 := Lib.hid (show out1 ops (lands ops) (stays ops) (k + 1) = os ++ [v] by rw [HO1.out, hj]; simp)
        have HR2 := Lib.hid (show from1 ops (lands ops) (stays ops) (k + 1) = js ++ [(i : Int)] by rw [HF1.out, hj]; simp)
        have hkc : (v.kind : Int) = 5 := by omega
        rw [hkc] at c0
        clear hkc h5 hj HJM HJI HJE
        go_quiet (fail)
        go_wp2
        go_roundw
        case rel => exact ⟨k + 1, JA', jn + 1, jc', OA', on + 1, oc', _, by go_num, hlt, rfl, by first | (rw [HR1.out, HR2.out]; exact hT13) | (rw [HR1.out, HR2.out]; exact hT13.below (below_drawn (Below.refl _ _) _)), by first | exact hM13 | exact hM13.kept (grownBy_of_below (below_drawn (Below.refl _ _) _) none) (by simp), HPM1.out, by first | exact hb13 | exact below_drawn hb13 _⟩
        case measure => simp [intOf]; omega
      · have hnn : i + 1 < n := by have := HNX.out h5; have := HLEN.out; omega
        obtain ⟨bb, hkb, hbl, _⟩ := HJM.out (by rw [HHI.out.1, HV.out]; exact h5)
        have hk1 : k + 1 < ln := by have := HSL.out; omega
        obtain ⟨y, hy, hcy0⟩ := HC1.out hk1
        have hcy : w13.cell? ⟨g2, k + 1, none⟩ = some (.int .i64 (y : Int)) := (hb13.cell (p := ⟨g2, k + 1, none⟩) hg2B).trans hcy0
        have hl13 := HL.out.low hb13 hgB
        have hcx := hl13.cell (i + 1) hnn
        rw [nats_getD (by rw [lands_length, HLEN.out]; exact hnn)] at hcx
        obtain ⟨x, hx⟩ : ∃ x, (lands ops).getD (i + 1) 0 = x := ⟨_, rfl⟩
        have hxn : x < n := by have := lands_lt ops HRP.out.some (i + 1); have := HLEN.out; omega
        have hj : jmp ops k = decide (x ≠ y) := by
          unfold jmp jumpy
          rw [show (stays ops).getD k 0 = stay ops k from rfl, show (stays ops).getD (k + 1) 0 = stay ops (k + 1) from rfl, HHI.out.1, HV.out, hx, hy, decide_eq_true h5, decide_eq_false (show ¬ k + 1 = (stays ops).length by have := HSL.out; omega), Bool.true_and, Bool.false_or]
        rw [hx] at hcx HF1
        have HXX := Lib.hid hx
        have e1 : IntKind.i64.wrap ((i : Int) + 1) = (i : Int) + 1 := IntWalk.i64_in _ (by omega)
        have e2 : IntKind.i64.wrap ((k : Int) + 1) = (k : Int) + 1 := IntWalk.i64_in _ (by omega)
        have e3 : (0 : Int) ≤ (i : Int) + 1 := by omega
        have e4 : (0 : Int) ≤ (k : Int) + 1 := by omega
        have e5 : ((i : Int) + 1).toNat = i + 1 := by omega
        have e6 : ((k : Int) + 1).toNat = k + 1 := by omega
        have e7 : (i : Int) + 1 < (n : Int) := by omega
        have e8 : (k : Int) + 1 < (ln : Int) := by omega
        have k5 : ((v.kind : Int) != 5) = true := by simp; omega
        have k5' : decide ((v.kind : Int) = 5) = false := by simp; omega
        have m1 : ((k : Int) + 1 == (ln : Int)) = false := by simp; omega
        have m2 : decide ((k : Int) + 1 = (ln : Int)) = false := by simp; omega
        have hxb : x ≤ 100000000000 := by omega
        clear h5 hcy0 hkb hbl hx hl13 hnn hy
        by_cases hxy : x = y
        · rw [decide_eq_false (by simpa using hxy)] at hj
          have HR1 := Lib.hid (show out1 ops (lands ops) (stays ops) (k + 1) = os ++ [v] by rw [HO1.out, hj]; simp)
          have HR2 := Lib.hid (show from1 ops (lands ops) (stays ops) (k + 1) = js ++ [(i : Int)] by rw [HF1.out, hj]; simp)
          subst hxy
          clear hj HJM HJI HJE HC1
          go_quiet (fail)
          clear e1 e2 e5 e6
          go_wp2
          go_roundw
          case rel => exact ⟨k + 1, JA', jn + 1, jc', OA', on + 1, oc', _, by go_num, hlt, rfl, by first | (rw [HR1.out, HR2.out]; exact hT13) | (rw [HR1.out, HR2.out]; exact hT13.below (below_drawn (Below.refl _ _) _)), by first | exact hM13 | exact hM13.kept (grownBy_of_below (below_drawn (Below.refl _ _) _) none) (by simp), HPM1.out, by first | exact hb13 | exact below_drawn hb13 _⟩
          case measure => simp [intOf]; omega
        · have m3 : ((x : Int) != (y : Int)) = true := by simp; omega
          have m4 : decide ((x : Int) = (y : Int)) = false := by simp; omega
          rw [decide_eq_true hxy] at hj
          have HR1 := Lib.hid (show out1 ops (lands ops) (stays ops) (k + 1) = os ++ [v] ++ [jumpTo 0] by rw [HO1.out, hj]; simp)
          have HR2 := Lib.hid (show from1 ops (lands ops) (stays ops) (k + 1) = js ++ [(i : Int)] ++ [-1 - (x : Int)] by rw [HF1.out, hj]; simp)
          clear hj HJM HJI HJE HC1 hxy
          go_quiet (fail)
          have hT14 := hT13.below (below_drawn (Below.refl _ w13) nq)
          have hM14 := hM13.kept (grownBy_of_below (below_drawn (Below.refl _ w13) nq) none) (by simp)
          have hb14 := below_drawn hb13 nq
          clear e1 e2 e3 e4 e5 e6 k5 k5' m1 m2 m3 m4 c0 hcy hcx hT13 hM13 hb13
          generalize w13.drewN nq = w14 at hT14 hM14 hb14 ⊢
          have p2 : w14.cell? ⟨P, 2, none⟩ = some (.slice OA' (on + 1) oc') := cell_of_block hT14.prog rfl
          obtain ⟨hs, hh, hap⟩ := hT14.hds
          have hn15 := heap_alloc_new w14 (.cells #[.int .u8 4, .int .i64 0, .float .f64 0, .slice none 0 0, .int .u8 0, .int .i64 0, .int .i64 0, .int .i64 0] 75)
          have b15 := (Below.refl w14.heap.size w14).alloc (Nat.le_refl _) (.cells #[.int .u8 4, .int .i64 0, .float .f64 0, .slice none 0 0, .int .u8 0, .int .i64 0, .int .i64 0, .int .i64 0] 75)
          have hmk15 := hh.2.1.below b15
          have hT15 := hT14.below b15
          have hb15z : B ≤ (w14.alloc (.cells #[.int .u8 4, .int .i64 0, .float .f64 0, .slice none 0 0, .int .u8 0, .int .i64 0, .int .i64 0, .int .i64 0] 75)).heap.size := hT15.low.2
          have HH := Lib.hid hh
          have HAP := Lib.hid hap
          have HB15 := Lib.hid b15
          have HN15 := Lib.hid hn15
          have HM15 := Lib.hid hmk15
          have HP15 := Lib.hid hT15.prog
          have HT14 := Lib.hid hT14
          have HMM := Lib.hid hM14
          have HBB := Lib.hid hb14
          have hon8 : (on + 1 + 1) * 80 ≤ 140737488355328 := by omega
          clear hT14 hh hap hn15 b15 hmk15 hT15 hM14 hb14
          go_upto_region 40 with (at_builtin; refine app_boxK B rfl _ _ _ _ _ 8 80 rfl Tryz.underlying28 Tryz.info_op rfl (by omega) OA' (on + 1) oc' (flatOps hs (os ++ [v])) w14.heap.size 1 1 _ _ HN15.out rfl rfl rfl (opRow_one (none, 0, 0) (jumpTo 0)) HM15.out hb15z (by omega) hon8 ?_; rintro OA2 oc2 w15 hm15 hg15 hA15; have hp15 := keep_ty hg15 HP15.out (fun r hr => HM15.out.ty hr) (by decide); have u9 : w15.cell? ⟨P, 2, none⟩ = some (.slice OA' (on + 1) oc') := cell_of_block hp15 rfl; have z9 : w15.frozen? ⟨P, 2, none⟩ = false := frozen_row (vs := [.int .i64 F, .int .i64 O, .slice OA' (on + 1) oc']) hp15 2)
          have hT16 : TdSt (w15.setCell ⟨P, 2, none⟩ (.slice OA2 (on + 1 + 1) oc2)) B P F O JA' (jn + 1) jc' (js ++ [(i : Int)]) OA2 (on + 1 + 1) oc2 (os ++ [v] ++ [jumpTo 0]) := TdSt.added HT14.out HH.out HAP.out HB15.out (hs2 := [(none, 0, 0)]) (ops2 := [jumpTo 0]) rfl (fun j h1 h2 => by
              obtain rfl : j = 0 := by simpa using h1
              exact .inl ⟨rfl, rfl, rfl⟩) (fun h hh q hq => by obtain rfl := List.mem_singleton.1 hh; simp [hdBlock] at hq) (List.pairwise_singleton _ _) (fun u hu => by obtain rfl := List.mem_singleton.1 hu; exact ⟨jumpTo_rng, by simp [jumpTo]⟩)
              (by simpa [flatOps, opRow, opCells, jumpTo] using hm15) hg15 hA15
          have hb16 : Below B w6 (w15.setCell ⟨P, 2, none⟩ (.slice OA2 (on + 1 + 1) oc2)) :=
            (below_grown (HBB.out.trans (HB15.out.mono HT14.out.low.2)) hb15z hg15 (fun q hq => (HM15.out.lt q hq).1)).setCell (p := ⟨P, 2, none⟩) HT14.out.low.1 _
          have hM16 : (w15.setCell ⟨P, 2, none⟩ (.slice OA2 (on + 1 + 1) oc2)).ownsMap Tryz.prog 3 (plainInt 3) mb (k + 1) (D.put (.int .i64 (i : Int)) (.lit (.int .i64 (on : Int)))) := by
            have hMa := HMM.out.kept (grownBy_of_below HB15.out none) (by simp)
            have hMb := hMa.kept hg15 (fun e => by obtain ⟨c2, h2⟩ := HM15.out.ty e.symm; exact ownsMap_ne hMa h2 rfl)
            exact hMb.kept (setCell_grownBy w15 P 2 _) (fun e => by injection e with e; exact ownsMap_ne hMb hp15 e)
          generalize w15.setCell ⟨P, 2, none⟩ (.slice OA2 (on + 1 + 1) oc2) = w16 at hT16 hb16 hM16 ⊢
          have hl16 := HL.out.low hb16 hgB
          have hnn : i + 1 < n := by omega
          have hcx := hl16.cell (i + 1) hnn
          rw [nats_getD (by rw [lands_length, HLEN.out]; exact hnn), HXX.out] at hcx
          have hj16 := hT16.js
          have hb16z := hT16.low.2
          have HT16 := Lib.hid hT16
          have HB16 := Lib.hid hb16
          have HM16 := Lib.hid hM16
          have hjn8 : (jn + 1 + 1) * 8 ≤ 140737488355328 := by omega
          clear p2 u9 z9 hm15 hg15 hA15 hp15 hT16 hb16 hM16 hl16 hnn HT14 HMM HBB HH HAP HB15 HN15 HM15 HP15 hb15z hon8
          go_upto_region 41 with (at_builtin; refine app_one B rfl _ _ _ _ (.int .i64 0) 8 rfl Tryz.underlying44 Tryz.info_int rfl (by omega) JA' (jn + 1) jc' _ (.int .i64 (-1 - (x : Int))) rfl rfl rfl hj16 hb16z hjn8 ?_; intro JA2 jc2 w17 hm17 hg17 hA17)
          have hT17 := HT16.out.noted hm17 hg17 hA17
          have hb17 := below_grown HB16.out hb16z hg17 (fun q hq => (hj16.lt q hq).1)
          have hM17 := HM16.out.kept hg17 (fun e => by obtain ⟨c2, h2⟩ := hj16.ty e.symm; exact ownsMap_ne HM16.out h2 rfl)
          clear hj16 hm17 hg17 hA17
          go_wp2
          go_roundw
          case rel => exact ⟨k + 1, JA2, jn + 1 + 1, jc2, OA2, on + 1 + 1, oc2, _, by go_num, hlt, rfl, by rw [HR1.out, HR2.out]; exact hT17, hM17, HPM1.out, hb17⟩
          case measure => simp [intOf]; omega
    · obtain rfl : k = ln := by omega
      go_wp2
      refine ⟨rfl, ?_⟩; (repeat apply Exists.intro); exact ⟨rfl, hT, hM, hPM, hbr⟩

end Go.Proofs.YtekcpapkicmckaaGreatDoor

namespace Go.Proofs.YtekcpapkicmckaaGreatDoor
open Go.RowKit Go.Maps

set_option maxHeartbeats 4000000 in
set_option maxRecDepth 100000 in
theorem td_fix (F O : Int) (n : Nat) (ops : List OpV) (g ln P mb B : Nat) (JA : Option Addr) (jn jc : Nat) (OA : Option Addr) (on oc : Nat) (D : DataW Unit) (w6 : World) (c0 c1 c2 c3 c4 c5 c7 c8 c9 c10 c11 c12 c15 c16 c17 c18 c19 c20 c21 c22 c23 c24 c25 c26 c27 c28 c29 c30 c31 c32 c33 c34 c35 c36 c37 c38 c39 c40 c41 c42 c43 c44 c45 c46 c47 c48 c49 c50 c51 c52 c53 c54 c55 c56 c57 c58 c59 c60 c61 c62 c63 c64 c65 c66 c67 c68 c69 c70 c71 c72 c73 c74 c75 c76 c77 c78 c79 c80 c81 c82 c83 c84 c85 c86 c87 c88 c89 c90 c91 c92 c93 c94 c95 c96 c97 c98 c99 c100 c101 c102 c103 c104 c105 c106 c107 c108 c109 c110 c111 c112 c113 c114 c115 c116 c117 c118 c119 c120 c121 c122 c123 c124 c125 c126 c127 c128 c129 c130 c131 c132 c133 c134 c135 c136 c137 c138 c139 c140 c141 c142 c143 c144 c145 c146 c147 c148 c149 c150 c151 c152 c153 c154 c155 c156 c157 c158 c159 c160 c161 c162 c163 c164 c165 c166 c167 c168 c169 c170 c171 c172 c173 c174 c175 c176 c177 c178 c179 c180 c181 c182 c183 c184 c185 c186 c187 c188 c189 c190 c191 c192 c193 c194 c195 c196 c197 c198 c199 c200 c201 c202 c203 c204 c205 c206 c207 c208 c209 c213 c214 c215 c216 c217 c218 c219 c220 c221 c222 c223 c224 c225 c226 c227 c228 c229 c230 c231 c232 c233 c234 c235 c236 c237 c238 c239 c240 c241 c242 c243 c244 c245 c246 c247 c248 c249 c250 c251 c252 c253 c254 c255 c256 c257 : Value) (hP : RightP F O ops) (hlen : ops.length = n) (hn : n ≤ 100000000000)
    (hl : Mine 3 w6 g (some ⟨g, 0, none⟩) n n (nats (lands ops))) (hgB : g < B) (hT0 : TdSt w6 B P F O JA jn jc (from1 ops (lands ops) (stays ops) ln) OA on oc (out1 ops (lands ops) (stays ops) ln)) (hM0 : w6.ownsMap Tryz.prog 3 (plainInt 3) mb ln D) (hPM : PlaceMap D n (places ops)) (hln : ln = (stays ops).length) :
    Code.wp Tryz.prog (Code.loop (Tryz.tidyLoop 3)) (LoopEnds 7 (fun a w' => ∃ (u19 : Value) (u20 : Value) (u21 : Value) (u212 : Value) (u213 : Value) (u214 : Value) (u215 : Value) (u216 : Value) (u217 : Value) (u218 : Value) (u219 : Value) (u220 : Value) (u221 : Value) (u222 : Value) (u223 : Value) (u224 : Value) (u225 : Value) (u226 : Value) (u227 : Value) (u228 : Value) (u229 : Value) (u230 : Value) (u231 : Value) (u232 : Value) (u233 : Value) (u234 : Value) (u235 : Value) (u236 : Value) (u237 : Value) (u238 : Value) (u239 : Value) (u240 : Value) (u241 : Value) (u242 : Value) (u243 : Value) (u244 : Value) (u245 : Value) (u246 : Value) (u247 : Value) (u248 : Value) (u249 : Value) (u250 : Value) (u251 : Value) (u252 : Value) (u253 : Value) (u254 : Value) (u255 : Value) (u256 : Value) , a = ⟨List.toArray (c0 :: c1 :: c2 :: c3 :: c4 :: c5 :: .slice (some ⟨g, 0, none⟩) n n :: c7 :: c8 :: c9 :: c10 :: c11 :: c12 :: .pointer (some ⟨P, 0, none⟩) :: .map (some mb) :: c15 :: c16 :: c17 :: c18 :: u19 :: u20 :: u21 :: c22 :: c23 :: c24 :: c25 :: c26 :: c27 :: c28 :: c29 :: c30 :: c31 :: c32 :: c33 :: c34 :: c35 :: c36 :: c37 :: c38 :: c39 :: c40 :: c41 :: c42 :: c43 :: c44 :: c45 :: c46 :: c47 :: c48 :: c49 :: c50 :: c51 :: c52 :: c53 :: c54 :: c55 :: c56 :: c57 :: c58 :: c59 :: c60 :: c61 :: c62 :: c63 :: c64 :: c65 :: c66 :: c67 :: c68 :: c69 :: c70 :: c71 :: c72 :: c73 :: c74 :: c75 :: c76 :: c77 :: c78 :: c79 :: c80 :: c81 :: c82 :: c83 :: c84 :: c85 :: c86 :: c87 :: c88 :: c89 :: c90 :: c91 :: c92 :: c93 :: c94 :: c95 :: c96 :: c97 :: c98 :: c99 :: c100 :: c101 :: c102 :: c103 :: c104 :: c105 :: c106 :: c107 :: c108 :: c109 :: c110 :: c111 :: c112 :: c113 :: c114 :: c115 :: c116 :: c117 :: c118 :: c119 :: c120 :: c121 :: c122 :: c123 :: c124 :: c125 :: c126 :: c127 :: c128 :: c129 :: c130 :: c131 :: c132 :: c133 :: c134 :: c135 :: c136 :: c137 :: c138 :: c139 :: c140 :: c141 :: c142 :: c143 :: c144 :: c145 :: c146 :: c147 :: c148 :: c149 :: c150 :: c151 :: c152 :: c153 :: c154 :: c155 :: c156 :: c157 :: c158 :: c159 :: c160 :: c161 :: c162 :: c163 :: c164 :: c165 :: c166 :: c167 :: c168 :: c169 :: c170 :: c171 :: c172 :: c173 :: c174 :: c175 :: c176 :: c177 :: c178 :: c179 :: c180 :: c181 :: c182 :: c183 :: c184 :: c185 :: c186 :: c187 :: c188 :: c189 :: c190 :: c191 :: c192 :: c193 :: c194 :: c195 :: c196 :: c197 :: c198 :: c199 :: c200 :: c201 :: c202 :: c203 :: c204 :: c205 :: c206 :: c207 :: c208 :: c209 :: .slice JA jn jc :: .int .i64 (jn : Int) :: u212 :: u213 :: u214 :: u215 :: u216 :: u217 :: u218 :: u219 :: u220 :: u221 :: u222 :: u223 :: u224 :: u225 :: u226 :: u227 :: u228 :: u229 :: u230 :: u231 :: u232 :: u233 :: u234 :: u235 :: u236 :: u237 :: u238 :: u239 :: u240 :: u241 :: u242 :: u243 :: u244 :: u245 :: u246 :: u247 :: u248 :: u249 :: u250 :: u251 :: u252 :: u253 :: u254 :: u255 :: u256 :: c257 :: []), []⟩ ∧ TdSt w' B P F O JA jn jc (from1 ops (lands ops) (stays ops) ln) OA on oc (tidyOps ops) ∧ Below B w6 w')) ⟨List.toArray (c0 :: c1 :: c2 :: c3 :: c4 :: c5 :: .slice (some ⟨g, 0, none⟩) n n :: c7 :: c8 :: c9 :: c10 :: c11 :: c12 :: .pointer (some ⟨P, 0, none⟩) :: .map (some mb) :: c15 :: c16 :: c17 :: c18 :: c19 :: c20 :: c21 :: c22 :: c23 :: c24 :: c25 :: c26 :: c27 :: c28 :: c29 :: c30 :: c31 :: c32 :: c33 :: c34 :: c35 :: c36 :: c37 :: c38 :: c39 :: c40 :: c41 :: c42 :: c43 :: c44 :: c45 :: c46 :: c47 :: c48 :: c49 :: c50 :: c51 :: c52 :: c53 :: c54 :: c55 :: c56 :: c57 :: c58 :: c59 :: c60 :: c61 :: c62 :: c63 :: c64 :: c65 :: c66 :: c67 :: c68 :: c69 :: c70 :: c71 :: c72 :: c73 :: c74 :: c75 :: c76 :: c77 :: c78 :: c79 :: c80 :: c81 :: c82 :: c83 :: c84 :: c85 :: c86 :: c87 :: c88 :: c89 :: c90 :: c91 :: c92 :: c93 :: c94 :: c95 :: c96 :: c97 :: c98 :: c99 :: c100 :: c101 :: c102 :: c103 :: c104 :: c105 :: c106 :: c107 :: c108 :: c109 :: c110 :: c111 :: c112 :: c113 :: c114 :: c115 :: c116 :: c117 :: c118 :: c119 :: c120 :: c121 :: c122 :: c123 :: c124 :: c125 :: c126 :: c127 :: c128 :: c129 :: c130 :: c131 :: c132 :: c133 :: c134 :: c135 :: c136 :: c137 :: c138 :: c139 :: c140 :: c141 :: c142 :: c143 :: c144 :: c145 :: c146 :: c147 :: c148 :: c149 :: c150 :: c151 :: c152 :: c153 :: c154 :: c155 :: c156 :: c157 :: c158 :: c159 :: c160 :: c161 :: c162 :: c163 :: c164 :: c165 :: c166 :: c167 :: c168 :: c169 :: c170 :: c171 :: c172 :: c173 :: c174 :: c175 :: c176 :: c177 :: c178 :: c179 :: c180 :: c181 :: c182 :: c183 :: c184 :: c185 :: c186 :: c187 :: c188 :: c189 :: c190 :: c191 :: c192 :: c193 :: c194 :: c195 :: c196 :: c197 :: c198 :: c199 :: c200 :: c201 :: c202 :: c203 :: c204 :: c205 :: c206 :: c207 :: c208 :: c209 :: .slice JA jn jc :: .int .i64 (jn : Int) :: .int .i64 0 :: c213 :: c214 :: c215 :: c216 :: c217 :: c218 :: c219 :: c220 :: c221 :: c222 :: c223 :: c224 :: c225 :: c226 :: c227 :: c228 :: c229 :: c230 :: c231 :: c232 :: c233 :: c234 :: c235 :: c236 :: c237 :: c238 :: c239 :: c240 :: c241 :: c242 :: c243 :: c244 :: c245 :: c246 :: c247 :: c248 :: c249 :: c250 :: c251 :: c252 :: c253 :: c254 :: c255 :: c256 :: c257 :: []), []⟩ w6 := by
  have hu := hT0.own.len
  rw [out1_length] at hu
  have hv := hT0.js.len
  rw [i64s_length, from1_length] at hv
  have hpos := posT_le ops (lands ops) (stays ops) ln
  have hsm := stays_many ops
  have hp0 : 0 < posT ops (lands ops) (stays ops) ln := by
    exact Nat.lt_of_le_of_lt (Nat.zero_le _) (pos_lt (ops := ops) (a := 0) (b := ln) (by rw [hln]; exact stays_some hP)).1
  obtain ⟨g5, hg5⟩ : ∃ g5, OA = some ⟨g5, 0, none⟩ := by
    obtain ⟨g5, e, _⟩ := hT0.own.some_of (by omega)
    exact ⟨g5, e⟩
  subst hg5
  have hlow := (hT0.own.lt g5 rfl).1
  have HMT := Lib.hid (mix_tidy ops)
  have HV := Lib.hid (from1_mem ops hP.some (stays ops) ln)
  have HU := Lib.hid (out1_mem ops ln (by omega))
  rw [← hln] at HMT
  have hul : (out1 ops (lands ops) (stays ops) ln).length = on := by rw [out1_length]; exact hu
  have hvl : (from1 ops (lands ops) (stays ops) ln).length = jn := by rw [from1_length]; exact hv
  have hon : on = jn := by omega
  subst hon
  rw [hul] at HMT
  have hob : on ≤ 200000000000 := by omega
  have HRP := Lib.hid hP
  have HPM := Lib.hid hPM
  have HLL := Lib.hid ((lands_length ops).trans hlen)
  have HLB := Lib.hid (lands_lt ops hP.some)
  have HLEN := Lib.hid hlen
  have HL := Lib.hid hl
  have HPL := Lib.hid (fun j => placeT_le ops (lands ops) (stays ops) (stays ops).length j)
  generalize out1 ops (lands ops) (stays ops) ln = U at hT0 HMT HU hul
  generalize from1 ops (lands ops) (stays ops) ln = V at hT0 HMT HV hvl ⊢
  have hpl2 : (stays ops).length ≤ n := by omega
  generalize hpls : places ops = pl at HMT HPM
  rw [show placeT ops (lands ops) (stays ops) (stays ops).length = pl from hpls] at HPL
  generalize lands ops = L at HMT HLL HLB HL
  have HUL := Lib.hid hul
  have HVL := Lib.hid hvl
  clear hpls hP hPM hu hv hul hvl hlen hl hpos hsm hp0
  conv => arg 2; arg 1; whnf
  go_loopw [212] (fun ix wr => ∃ (k : Nat) (D' : DataW Unit), ix = .int .i64 (k : Int) ∧ k ≤ on ∧ TdSt wr B P F O JA on jc V (some ⟨g5, 0, none⟩) on oc (mixT L pl U V k) ∧ wr.ownsMap Tryz.prog 3 (plainInt 3) mb ln D' ∧ Hid (D' = D) ∧ Below B w6 wr) (fun ix _ => on - (intOf ix).toNat)
  case atStart => exact ⟨0, D, rfl, Nat.zero_le _, hT0, hM0, Lib.hid rfl, Below.refl _ _⟩
  case round =>
    obtain ⟨k, D', rfl, hk, hT, hM, HD, hbr⟩ := hrel
    clear hT0 hM0
    by_cases hlt : k < on
    · have hml := mix_length L pl U V k
      have hoc := hT.opCell (j := k) (by have := HUL.out; omega)
      have hma := mix_at L pl U V k k (Nat.le_refl _)
      rw [hma] at hoc
      have hstep : mixT L pl U V (k + 1) = if V.getD k 0 < 0 then setTo (pl.getD (-1 - V.getD k 0).toNat 0 : Nat) (mixT L pl U V k) k else if testV (opAt U k) then setTo (pl.getD (L.getD (opAt U k).dest.toNat 0) 0 : Nat) (mixT L pl U V k) k else mixT L pl U V k := rfl
      have hjl := hT.js.sl
      obtain ⟨bj, oj, hJA, hjc⟩ := hjl.cells (by omega)
      have hjk := hjc k hlt
      rw [i64s_getD (by have := HVL.out; omega)] at hjk
      have hvm := HV.out (V.getD k 0) (by
        have hkv : k < V.length := by have := HVL.out; omega
        rw [List.getD_eq_getElem?_getD, List.getElem?_eq_getElem hkv]
        exact List.getElem_mem hkv)
      have hum := HU.out (opAt U k) (by
        have hku : k < U.length := by have := HUL.out; omega
        rw [opAt_get hku]
        exact List.getElem_mem hku)
      have HTS := Lib.hid (fun (x : Int) (hx : -9223372036854775808 ≤ x ∧ x ≤ 9223372036854775807) => hT.set k (by have := HUL.out; omega) x hx)
      have HTN := Lib.hid hT
      have hjb := List.getElem_mem (l := i64s V) (n := k) (by rw [i64s_length]; have := HVL.out; omega)
      obtain ⟨z, hz⟩ : ∃ z, V.getD k 0 = z := ⟨_, rfl⟩
      obtain ⟨v, hv⟩ : ∃ v, opAt U k = v := ⟨_, rfl⟩
      rw [hz] at hstep hjk hvm
      rw [hv] at hstep hoc hum
      obtain ⟨c0, c7, z7⟩ := hoc
      have p2 : wr.cell? ⟨P, 2, none⟩ = some (.slice (some ⟨g5, 0, none⟩) on oc) := cell_of_block hT.prog rfl
      subst hJA
      generalize mixT L pl U V k = M at hT HTS HTN hstep hml hma
      have hki : (k : Int) < (on : Int) := by omega
      have HST := Lib.hid hstep
      have HM := Lib.hid hM
      have hms : ∀ x, (wr.setCell ⟨g5, k * 8 + 7, none⟩ x).ownsMap Tryz.prog 3 (plainInt 3) mb ln D' := fun x => hM.kept (setCell_grownBy wr g5 (k * 8 + 7) x) (fun e => by
        injection e with e
        obtain ⟨c2, h2⟩ := hT.own.ty (k := g5) rfl
        exact ownsMap_ne hM h2 e)
      have HMS := Lib.hid hms
      have hbs : ∀ x, Below B w6 (wr.setCell ⟨g5, k * 8 + 7, none⟩ x) := fun x => hbr.setCell (p := ⟨g5, k * 8 + 7, none⟩) hlow x
      have HBS := Lib.hid hbs
      have hl7 := HL.out.low hbr hgB
      clear hT hjl hjc hz hv hstep hml hma hjb hms hbs
      by_cases hz0 : z < 0
      · obtain ⟨x, hx, hzx⟩ := hvm hz0
        have hat := HPM.out.at' x (by have := HLEN.out; omega)
        rw [← HD.out] at hat
        have HAT := Lib.hid hat
        have ek : -1 - z = (x : Int) := by omega
        have ekn : (-1 - z).toNat = x := by omega
        have HS2 := Lib.hid (show mixT L pl U V (k + 1) = setTo ((pl.getD x 0 : Nat) : Int) M k by rw [HST.out, if_pos hz0, ekn])
        have hpx := HPL.out x
        have z1 : decide (z < 0) = true := by simpa using hz0
        have z2 : -9223372036854775808 ≤ z := by have := HLEN.out; omega
        have hT9 := HTS.out ((pl.getD x 0 : Nat) : Int) (by omega)
        have HT9 := Lib.hid hT9
        clear hat ekn hvm hum hzx hT9
        go_upto_region 50 with (at_lookup; refine wpList_lookup_own_int _ rfl _ _ 84 rfl 3 3 .i64 Tryz.keyInt Tryz.underlying84 Tryz.underlying3 (Tryz.zeroInt _) mb ln D' rfl HM.out _ _ rfl (keyOf_int_mk Tryz.underlying3 (wf_nat (x := x) (by omega))) ?_; intro cc hat hwc; obtain rfl : cc = ((pl.getD x 0 : Nat) : Int) := by (have h1 := HAT.out.symm.trans hat; injection h1 with h1; injection h1 with _ h1; exact h1.symm))
        go_wp2
        go_roundw
        case rel => exact ⟨k + 1, D', by go_num, hlt, by rw [HS2.out]; exact HT9.out, HMS.out _, HD, HBS.out _⟩
        case measure => simp [intOf]; omega
      · have z1 : decide (z < 0) = false := by simpa using hz0
        have z2 : 0 ≤ z := by omega
        by_cases ht : testV v = true
        · have hdst := hum
          obtain ⟨i, hil, hvi⟩ : ∃ i, i < ops.length ∧ v = opAt ops i := by
            rcases hum with h | h
            · exact h
            · rw [h] at ht; exact absurd ht (by decide)
          have hkk : v.kind = 1 ∨ v.kind = 2 := by simpa [testV] using ht
          have hj3 := HRP.out.jump hil (by rw [← hvi]; omega) (by rw [← hvi]; omega)
          rw [← hvi] at hj3
          have hx := HLB.out v.dest.toNat
          have hcd := hl7.cell v.dest.toNat (by have := HLEN.out; omega)
          rw [nats_getD (by have := HLEN.out; have := HLL.out; omega)] at hcd
          have HS2 := Lib.hid (show mixT L pl U V (k + 1) = setTo ((pl.getD (L.getD v.dest.toNat 0) 0 : Nat) : Int) M k by rw [HST.out, if_neg hz0, if_pos ht])
          rw [hj3.2.2] at c7
          have hdn : v.dest.toNat < n := by have := HLEN.out; omega
          generalize v.dest.toNat = d at hx hcd HS2 c7 hdn hj3
          generalize L.getD d 0 = x at hx hcd HS2
          have hat := HPM.out.at' x (by have := HLEN.out; omega)
          rw [← HD.out] at hat
          have HAT := Lib.hid hat
          have hpx := HPL.out x
          have hdi : (d : Int) < (n : Int) := by omega
          have hxn : x < n := by have := HLEN.out; omega
          have hT9 := HTS.out ((pl.getD x 0 : Nat) : Int) (by omega)
          have HT9 := Lib.hid hT9
          clear hat hum hdst ht hvi hil hj3 hT9
          rcases hkk with hkk | hkk
          all_goals
            have hkc : (v.kind : Int) = _ := congrArg Nat.cast hkk
            rw [hkc] at c0
            clear hkc hkk
            go_upto_region 50 with (at_lookup; refine wpList_lookup_own_int _ rfl _ _ 84 rfl 3 3 .i64 Tryz.keyInt Tryz.underlying84 Tryz.underlying3 (Tryz.zeroInt _) mb ln D' rfl HM.out _ _ rfl (keyOf_int_mk Tryz.underlying3 (wf_nat (x := x) (by omega))) ?_; intro cc hat hwc; obtain rfl : cc = ((pl.getD x 0 : Nat) : Int) := by (have h1 := HAT.out.symm.trans hat; injection h1 with h1; injection h1 with _ h1; exact h1.symm))
            go_wp2
            go_roundw
            case rel => exact ⟨k + 1, D', by go_num, hlt, by rw [HS2.out]; exact HT9.out, HMS.out _, HD, HBS.out _⟩
            case measure => simp [intOf]; omega
        · have HS2 := Lib.hid (show mixT L pl U V (k + 1) = M by rw [HST.out, if_neg hz0, if_neg ht])
          have k1 : ((v.kind : Int) == 1) = false := by
            have : v.kind ≠ 1 := fun e => ht (by unfold testV; rw [e]; decide)
            simp; omega
          have k2 : ((v.kind : Int) == 2) = false := by
            have : v.kind ≠ 2 := fun e => ht (by unfold testV; rw [e]; decide)
            simp; omega
          have k1' : decide ((v.kind : Int) = 1) = false := by simpa using k1
          have k2' : decide ((v.kind : Int) = 2) = false := by simpa using k2
          have HBR := Lib.hid hbr
          clear ht hum hvm
          go_wp2
          go_roundw
          case rel => exact ⟨k + 1, D', by go_num, hlt, by rw [HS2.out]; exact HTN.out, HM.out, HD, HBR.out⟩
          case measure => simp [intOf]; omega
    · obtain rfl : k = on := by omega
      rw [HMT.out] at hT
      go_wp2
      refine ⟨rfl, ?_⟩; (repeat apply Exists.intro); exact ⟨rfl, hT, hbr⟩

end Go.Proofs.YtekcpapkicmckaaGreatDoor

namespace Go.Proofs.YtekcpapkicmckaaGreatDoor
open Go.RowKit Go.Maps

theorem Mine.some_at {T : TypeId} {w : World} {base : Nat} {A : Option Addr} {n c : Nat} {vs : List Value} (h : Mine T w base A n c vs) (hn : 0 < n) : ∃ g, A = some ⟨g, 0, none⟩ ∧ base ≤ g ∧ g < w.heap.size := by
  rcases h.row with ⟨_, h0, _⟩ | ⟨g, rest, e, hb, hg, _⟩
  · omega
  · exact ⟨g, e, hb, lt_of_block hg⟩

set_option maxHeartbeats 4000000 in
set_option maxRecDepth 100000 in
theorem Tidy_any (F O : Int) (A : Option Addr) (n c : Nat) (ops : List OpV) (w : World) (hp : OpsAt w A n c ops) (hn : n ≤ 100000000000) (hcb : ∀ v ∈ ops, v.cats.length ≤ 1000000000000) :
    Calls Tryz.prog 19 #[.agg #[.int .i64 F, .int .i64 O, .slice A n c]] w (CompilePost F O (tidyV F O ops) w) := by
  have hlen := hp.len
  have HCB := Lib.hid hcb
  have HP := Lib.hid hp
  have hmm := @run_makeMap Tryz.prog
  obtain ⟨K, hK⟩ : ∃ K, checkV F O ops = K := ⟨_, rfl⟩
  obtain ⟨R, hR⟩ : ∃ R, tidyV F O ops = R := ⟨_, rfl⟩
  have HR := Lib.hid hR
  rw [hR]
  have hC := fun W (h : Below w.heap.size w W) => Check_any F O A n c ops W (hp.below h)
  rw [hK] at hC
  have HC := Lib.hid hC
  have HK := Lib.hid hK
  have HLEN := Lib.hid hlen
  clear hp hcb hK hR hC hlen
  go_enter Tryz.func19, Tryz.ntmps19
  go_upto_region 1 with (fail)
  have hh : ∀ a b : Obj, ((w.alloc a).alloc b).heap[w.heap.size]? = some a ∧ ((w.alloc a).alloc b).heap[w.heap.size + 1]? = some b ∧ Below w.heap.size w ((w.alloc a).alloc b) := fun a b => by
    refine ⟨?_, ?_, ((Below.refl _ _).alloc (Nat.le_refl _) _).alloc (by simp) _⟩
    all_goals
      show ((w.heap.push a).push b)[_]? = _
      simp only [Array.getElem?_push, Array.size_push]
      repeat (first | rw [if_pos trivial] | rw [if_neg (by omega)] | rw [if_pos (by omega)])
  obtain ⟨k1, k2, b2⟩ := hh (.cells #[.int .i64 F, .int .i64 O, .slice A n c] 30) (.cells #[.int .i64 0, .int .i64 0, .slice none 0 0] 30)
  clear hh
  generalize (w.alloc (.cells #[.int .i64 F, .int .i64 O, .slice A n c] 30)).alloc (.cells #[.int .i64 0, .int .i64 0, .slice none 0 0] 30) = w2 at k1 k2 b2 ⊢
  have p0 : w2.cell? ⟨w.heap.size, 0, none⟩ = some (.int .i64 F) := cell_of_block k1 rfl
  have p1 : w2.cell? ⟨w.heap.size, 1, none⟩ = some (.int .i64 O) := cell_of_block k1 rfl
  have p2 : w2.cell? ⟨w.heap.size, 2, none⟩ = some (.slice A n c) := cell_of_block k1 rfl
  have hC2 := Lib.hid (HC.out w2 b2)
  obtain ⟨K1, K2⟩ := K
  unfold chkOf at hC2
  go_wp2_with fail
  refine hC2.out.mono ?_; rintro e w3 ⟨rfl, b3⟩
  have q1 := (b3.block _ (lt_of_block k1)).trans k1
  have q2 := (b3.block _ (lt_of_block k2)).trans k2
  have B3 := below_then b2 b2.size b3
  have hs3 := Nat.lt_of_lt_of_le (lt_of_block k2) b3.size
  clear p0 p1 p2 k1 k2 b2 b3 hC2 HC
  by_cases hk : K1 = 0
  · subst hk
    have hK0 := wrong_first (F := F) (O := O) (ops := ops) (by rw [HK.out])
    have hP := rightP_of hK0
    have HRR := Lib.hid (show R = (tidyOps ops, 0) by rw [← HR.out]; unfold tidyV; rw [hK0, if_neg (by simp)])
    have hn0 : 0 < n := by have := hP.some; have := HLEN.out; omega
    have HMK := make_row (P := Tryz.prog) 44 3 (.int .i64 0) 8 Tryz.underlying44 Tryz.info_int rfl (by omega) n n (Nat.le_refl _) (by omega)
    have p2 : w3.cell? ⟨w.heap.size, 2, none⟩ = some (.slice A n c) := cell_of_block q1 rfl
    clear hK0 HK HR
    go_upto_region 5 with (fail)
    have b4 := (Below.refl w3.heap.size w3).alloc (Nat.le_refl _) (.cells (Array.replicate n (.int .i64 0)) 3)
    have hm4 : Mine 3 (w3.alloc (.cells (Array.replicate n (.int .i64 0)) 3)) w3.heap.size (some ⟨w3.heap.size, 0, none⟩) n n (nats (List.replicate n 0)) := by
      have hm1 := Mine.made 3 w3 w3.heap.size (.int .i64 0) n n (Nat.le_refl _) (Nat.le_refl _) (by omega)
      rw [show nats (List.replicate n 0) = List.replicate n (.int .i64 0) by simp [nats, i64s]]
      exact hm1
    generalize w3.alloc (.cells (Array.replicate n (.int .i64 0)) 3) = w4 at b4 hm4 ⊢
    have q1' := (b4.block _ (lt_of_block q1)).trans q1
    have q2' := (b4.block _ (lt_of_block q2)).trans q2
    have B4 := below_then B3 B3.size b4
    have p2' : w4.cell? ⟨w.heap.size, 2, none⟩ = some (.slice A n c) := cell_of_block q1' rfl
    have hn1 : (0 : Int) < (n : Int) := by omega
    obtain ⟨g, hg⟩ : ∃ g, w3.heap.size = g := ⟨_, rfl⟩
    have hgw : w.heap.size + 1 < g := by omega
    rw [hg] at hm4
    have HGG := Lib.hid hg
    clear p2 q1 q2 B3 b4 HMK hs3
    go_wp2
    rw [HGG.out]
    refine @loop_then _ 0 ?R _ _ _ _ ?h ?k
    case h =>
      change Code.wp Tryz.prog (Code.loop (Tryz.tidyLoop 0)) _ _ _
      exact @td_land F O A n c ops g w.heap.size w w4 _ _ _ _ _ _ _ _ _ _ _ _ _ _ _ _ _ _ _ _ _ _ _ _ _ _ _ _ _ _ _ _ _ _ _ _ _ _ _ _ _ _ _ _ _ _ _ _ _ _ _ _ _ _ _ _ _ _ _ _ _ _ _ _ _ _ _ _ _ _ _ _ _ _ _ _ _ _ _ _ _ _ _ _ _ _ _ _ _ _ _ _ _ _ _ _ _ _ _ _ _ _ _ _ _ _ _ _ _ _ _ _ _ _ _ _ _ _ _ _ _ _ _ _ _ _ _ _ _ _ _ _ _ _ _ _ _ _ _ _ _ _ _ _ _ _ _ _ _ _ _ _ _ _ _ _ _ _ _ _ _ _ _ _ _ _ _ _ _ _ _ _ _ _ _ _ _ _ _ _ _ _ _ _ _ _ _ _ _ _ _ _ _ _ _ _ _ _ _ _ _ _ _ _ _ _ _ _ _ _ _ _ _ _ _ _ _ _ _ _ _ _ _ _ _ _ _ _ _ _ _ _ _ _ _ _ _ _ _ _ _ _ _ _ _ _ _ _ _ _ _ _ _ _ _ hP HP.out (by omega) B4 (by omega) q1' (by omega) hm4
    case k =>
      rintro a' w5 ⟨_, _, _, _, _, _, _, _, _, _, _, _, _, _, _, _, _, _, _, _, _, _, _, _, _, _, _, _, _, _, _, _, _, _, _, _, _, _, _, _, _, _, _, _, rfl, hm5, hg5⟩
      have q1 := (hg5.block _ (lt_of_block q1') (by simp; omega)).trans q1'
      have q2 := (hg5.block _ (lt_of_block q2') (by simp; omega)).trans q2'
      have B5 := below_grown (A := some ⟨g, 0, none⟩) B4 B4.size hg5 (fun q hq => by simp [blockOf] at hq; omega)
      have p2 : w5.cell? ⟨w.heap.size, 2, none⟩ = some (.slice A n c) := cell_of_block q1 rfl
      have HMR := make_row (P := Tryz.prog) 83 4 (.bool false) 1 Tryz.underlying83 Tryz.info_bool rfl (by omega) n n (Nat.le_refl _) (by omega)
      have HS5 := Lib.hid (show g < w5.heap.size from (hm5.lt g rfl).2)
      clear p2' q1' q2' B4 hm4 hg5
      go_upto_region 15 with (fail)
      have b6 := (Below.refl w5.heap.size w5).alloc (Nat.le_refl _) (.cells (Array.replicate n (.bool false)) 4)
      have hR6 : Mine 4 (w5.alloc (.cells (Array.replicate n (.bool false)) 4)) w5.heap.size (some ⟨w5.heap.size, 0, none⟩) n n (bools (List.replicate n false)) := by
        have hm1 := Mine.made 4 w5 w5.heap.size (.bool false) n n (Nat.le_refl _) (Nat.le_refl _) (by omega)
        rw [show bools (List.replicate n false) = List.replicate n (.bool false) by simp [bools]]
        exact hm1
      generalize w5.alloc (.cells (Array.replicate n (.bool false)) 4) = w6 at b6 hR6 ⊢
      have hl6 := hm5.below b6
      have q1' := (b6.block _ (lt_of_block q1)).trans q1
      have q2' := (b6.block _ (lt_of_block q2)).trans q2
      have B6 := below_then B5 B5.size b6
      obtain ⟨gr, hgr⟩ : ∃ gr, w5.heap.size = gr := ⟨_, rfl⟩
      have hggr : g < gr := by have := HS5.out; omega
      rw [hgr] at hR6 b6
      rw [hgr]
      obtain ⟨x0, hx0⟩ : ∃ x, (lands ops).getD 0 0 = x := ⟨_, rfl⟩
      have hxn : x0 < n := by have := lands_lt ops hP.some 0; have := HLEN.out; omega
      have cl0 := hl6.cell 0 hn0
      rw [nats_getD (by rw [lands_length, HLEN.out]; exact hn0), hx0] at cl0
      have cr0 := hR6.cell x0 hxn
      have fr0 := hR6.free x0
      have hxi : (x0 : Int) < (n : Int) := by omega
      have HX0 := Lib.hid hx0
      have HGR := Lib.hid hgr
      clear hgr hx0 p2 q1 q2 B5 hm5 HMR
      go_upto_region 16 with (fail)
      have hR7 := hR6.stored x0 hxn (.bool true)
      have hb7 := (Below.refl gr w6).setCell (p := ⟨gr, x0, none⟩) (Nat.le_refl _) (.bool true)
      rw [bools_set, show (List.replicate n false).set x0 true = (realT ops (lands ops) 0).1 by simp only [realT]; rw [HX0.out, HLEN.out]] at hR7
      have hgs7 : gr < (w6.setCell ⟨gr, x0, none⟩ (.bool true)).heap.size := (hR7.lt gr rfl).2
      generalize w6.setCell ⟨gr, x0, none⟩ (.bool true) = w7 at hR7 hb7 hgs7 ⊢
      have hl7 := hl6.low hb7 hggr
      have q1 := (hb7.block _ (by omega)).trans q1'
      have q2 := (hb7.block _ (by omega)).trans q2'
      have B7 := B6.trans (hb7.mono (show w.heap.size ≤ gr by omega))
      have p2 : w7.cell? ⟨w.heap.size, 2, none⟩ = some (.slice A n c) := cell_of_block q1 rfl
      clear hR6 hl6 q1' q2' B6 b6 cl0 cr0 fr0
      go_wp2
      refine @loop_then _ 3 ?R2 _ _ _ _ ?h2 ?k2
      case h2 =>
        change Code.wp Tryz.prog (Code.loop (Tryz.tidyLoop 1)) _ _ _
        exact @td_real F O A n c ops g w.heap.size gr w w7 _ _ _ _ _ _ _ _ _ _ _ _ _ _ _ _ _ _ _ _ _ _ _ _ _ _ _ _ _ _ _ _ _ _ _ _ _ _ _ _ _ _ _ _ _ _ _ _ _ _ _ _ _ _ _ _ _ _ _ _ _ _ _ _ _ _ _ _ _ _ _ _ _ _ _ _ _ _ _ _ _ _ _ _ _ _ _ _ _ _ _ _ _ _ _ _ _ _ _ _ _ _ _ _ _ _ _ _ _ _ _ _ _ _ _ _ _ _ _ _ _ _ _ _ _ _ _ _ _ _ _ _ _ _ _ _ _ _ _ _ _ _ _ _ _ _ _ _ _ _ _ _ _ _ _ _ _ _ _ _ _ _ _ _ _ _ _ _ _ _ _ _ _ _ _ _ _ _ _ _ _ _ _ _ _ _ _ _ _ _ _ _ _ _ _ _ _ _ _ _ _ _ _ _ _ _ _ _ _ _ _ _ _ _ _ _ _ _ _ _ _ _ _ _ _ _ _ _ _ _ _ _ _ _ _ _ _ _ _ _ _ _ _ _ _ _ _ _ _ _ _ hP HP.out hn B7 (by omega) hggr hgs7 hl7 hR7
      case k2 =>
        rintro a' w8 ⟨LA, ln, lc, _, _, _, _, _, _, _, _, _, _, _, _, _, _, _, _, _, _, _, _, _, _, _, _, _, _, _, _, _, _, _, _, _, _, _, _, _, _, _, _, _, _, rfl, hs8, hb8⟩
        have hsl : (stays ops).length = ln := by have := hs8.len; rwa [nats_length] at this
        have hln0 : 0 < ln := by have := stays_some hP; omega
        obtain ⟨g2, rfl, _, hg2⟩ := hs8.some_at hln0
        have q1' := (hb8.block _ (by omega)).trans q1
        have q2' := (hb8.block _ (by omega)).trans q2
        have B8 := B7.trans (hb8.mono (show w.heap.size ≤ gr by omega))
        have hl8 := hl7.low hb8 hggr
        have p0 : w8.cell? ⟨w.heap.size, 0, none⟩ = some (.int .i64 F) := cell_of_block q1' rfl
        have p1 : w8.cell? ⟨w.heap.size, 1, none⟩ = some (.int .i64 O) := cell_of_block q1' rfl
        have hgr8 : gr < w8.heap.size := Nat.lt_of_lt_of_le hgs7 hb8.size
        clear q1 q2 p2 B7 hl7 hR7 hb7 hb8
        go_upto_region 28 with (fail)
        have b9 := (Below.refl w8.heap.size w8).alloc (Nat.le_refl _) (.cells #[.int .i64 F, .int .i64 O, .slice none 0 0] 30)
        have hO9 := heap_alloc_new w8 (.cells #[.int .i64 F, .int .i64 O, .slice none 0 0] 30)
        have hz9 : (w8.alloc (.cells #[.int .i64 F, .int .i64 O, .slice none 0 0] 30)).heap.size = w8.heap.size + 1 := by simp
        generalize w8.alloc (.cells #[.int .i64 F, .int .i64 O, .slice none 0 0] 30) = w9 at b9 hO9 hz9 ⊢
        have hM10 := World.ownsMap_made (H := Unit) w9 Tryz.prog 3 (plainInt 3)
        go_upto_region 30 with (fail)
        have hM11 := hM10.alloc (.cells #[] 3)
        have hF11 := heap_alloc_new (w9.alloc (.map #[] 0)) (.cells #[] 3)
        have b11 := (b9.alloc b9.size (.map #[] 0)).alloc (by simp; omega) (.cells #[] 3)
        have hO11 : ((w9.alloc (.map #[] 0)).alloc (.cells #[] 3)).heap[w8.heap.size]? = _ := ((((Below.refl w9.heap.size w9).alloc (Nat.le_refl _) (.map #[] 0)).alloc (by simp) (.cells #[] 3)).block _ (lt_of_block hO9)).trans hO9
        rw [hz9] at hM11
        rw [show (w9.alloc (.map #[] 0)).heap.size = w8.heap.size + 1 + 1 by simp [hz9]] at hF11
        generalize (w9.alloc (.map #[] 0)).alloc (.cells #[] 3) = w11 at hM11 hF11 b11 hO11 ⊢
        obtain ⟨B, hB⟩ : ∃ B, w8.heap.size = B := ⟨_, rfl⟩
        rw [hB] at hM11 hF11 b11 hO11
        rw [hB]
        have hs11 : B ≤ w11.heap.size := Nat.le_trans (Nat.le_of_eq hB.symm) b11.size
        have hT11 : TdSt w11 B B F O (some ⟨B + 1 + 1, 0, none⟩) 0 0 [] none 0 0 [] :=
          ⟨hO11, ⟨rfl, Nat.le_refl _, by omega, .inr ⟨B + 1 + 1, [], rfl, by omega, hF11, by simp⟩⟩, ⟨[], ⟨rfl, MineK.nil _ _ _ _, fun j h => by simp at h, fun h hh => by simp at hh, List.Pairwise.nil⟩, fun h hh => by simp at hh⟩, fun v hv => by simp at hv, ⟨Nat.le_refl _, hs11⟩⟩
        have q1 := (b11.block _ (by omega)).trans q1'
        have q2 := (b11.block _ (by omega)).trans q2'
        have B11 := B8.trans (b11.mono (show w.heap.size ≤ B by omega))
        have hl11 := hl8.low b11 (by omega)
        have hs11' := hs8.low b11 (by omega)
        have hgB : g < B := by omega
        have hpB : w.heap.size + 1 < B := by omega
        have HBB := Lib.hid hB
        clear hM10 hO9 hz9 b9 q1' q2' B8 hl8 hs8 p0 p1 hF11 hO11 hB
        go_wp2
        refine @loop_then _ 5 ?R3 _ _ _ _ ?h3 ?k3
        case h3 =>
          change Code.wp Tryz.prog (Code.loop (Tryz.tidyLoop 2)) _ _ _
          exact @td_out F O A n c ops g w.heap.size g2 gr ln lc B (B + 1) B (some ⟨B + 1 + 1, 0, none⟩) 0 w w11 _ _ _ _ _ _ _ _ _ _ _ _ _ _ _ _ _ _ _ _ _ _ _ _ _ _ _ _ _ _ _ _ _ _ _ _ _ _ _ _ _ _ _ _ _ _ _ _ _ _ _ _ _ _ _ _ _ _ _ _ _ _ _ _ _ _ _ _ _ _ _ _ _ _ _ _ _ _ _ _ _ _ _ _ _ _ _ _ _ _ _ _ _ _ _ _ _ _ _ _ _ _ _ _ _ _ _ _ _ _ _ _ _ _ _ _ _ _ _ _ _ _ _ _ _ _ _ _ _ _ _ _ _ _ _ _ _ _ _ _ _ _ _ _ _ _ _ _ _ _ _ _ _ _ _ _ _ _ _ _ _ _ _ _ _ _ _ _ _ _ _ _ _ _ _ _ _ _ _ _ _ _ _ _ _ _ _ _ _ _ _ _ _ _ _ _ _ _ _ _ _ _ _ _ _ _ _ _ _ _ _ _ _ _ _ _ _ _ _ _ _ _ _ _ _ _ _ _ _ _ _ _ _ _ _ _ _ _ _ _ _ _ _ _ _ _ _ _ _ hP HP.out hn HCB.out B11 (by omega) q1 (by omega) hl11 hgB hs11' (by have := HBB.out; omega) hT11 hM11 (by omega)
        case k3 =>
          rintro a' w12 ⟨JA, jn, jc, OA, on, oc, D, _, _, _, _, _, _, _, _, _, _, _, _, _, _, _, _, _, _, _, _, _, _, _, _, _, _, _, _, _, _, _, _, _, _, _, _, _, _, _, _, _, _, _, _, _, _, _, _, _, _, _, _, _, _, _, _, _, _, _, _, _, _, _, _, _, _, _, _, _, _, _, rfl, hT12, hM12, hPM12, hb12⟩
          have hPM : PlaceMap D n (places ops) := by unfold places; rw [hsl]; exact hPM12
          have q2' := (hb12.block _ (by omega)).trans q2
          have B12 := B11.trans (hb12.mono (show w.heap.size ≤ B by omega))
          have hl12 := hl11.low hb12 hgB
          clear hT11 hM11 q1 q2 B11 hl11 hs11' hPM12 hb12
          go_wp2
          refine @loop_then _ 7 ?R4 _ _ _ _ ?h4 ?k4
          case h4 =>
            change Code.wp Tryz.prog (Code.loop (Tryz.tidyLoop 3)) _ _ _
            exact @td_fix F O n ops g ln B (B + 1) B JA jn jc OA on oc D w12 _ _ _ _ _ _ _ _ _ _ _ _ _ _ _ _ _ _ _ _ _ _ _ _ _ _ _ _ _ _ _ _ _ _ _ _ _ _ _ _ _ _ _ _ _ _ _ _ _ _ _ _ _ _ _ _ _ _ _ _ _ _ _ _ _ _ _ _ _ _ _ _ _ _ _ _ _ _ _ _ _ _ _ _ _ _ _ _ _ _ _ _ _ _ _ _ _ _ _ _ _ _ _ _ _ _ _ _ _ _ _ _ _ _ _ _ _ _ _ _ _ _ _ _ _ _ _ _ _ _ _ _ _ _ _ _ _ _ _ _ _ _ _ _ _ _ _ _ _ _ _ _ _ _ _ _ _ _ _ _ _ _ _ _ _ _ _ _ _ _ _ _ _ _ _ _ _ _ _ _ _ _ _ _ _ _ _ _ _ _ _ _ _ _ _ _ _ _ _ _ _ _ _ _ _ _ _ _ _ _ _ _ _ _ _ _ _ _ _ _ _ _ _ _ _ _ _ _ _ _ _ _ _ _ _ _ _ _ _ _ _ _ _ _ _ _ _ _ _ _ _ _ hP HLEN.out hn hl12 hgB hT12 hM12 hPM hsl.symm
          case k4 =>
            rintro a' w13 ⟨_, _, _, _, _, _, _, _, _, _, _, _, _, _, _, _, _, _, _, _, _, _, _, _, _, _, _, _, _, _, _, _, _, _, _, _, _, _, _, _, _, _, _, _, _, _, _, _, rfl, hT13, hb13⟩
            have q2 := (hb13.block _ (by omega)).trans q2'
            obtain ⟨s0, s1, s2, z0, z1, z2⟩ := zero_box q2
            have v0 : w13.cell? ⟨B, 0, none⟩ = some (.int .i64 F) := cell_of_block hT13.prog rfl
            have v1 : w13.cell? ⟨B, 1, none⟩ = some (.int .i64 O) := cell_of_block hT13.prog rfl
            have v2 : w13.cell? ⟨B, 2, none⟩ = some (.slice OA on oc) := cell_of_block hT13.prog rfl
            have B13 := B12.trans (hb13.mono (show w.heap.size ≤ B by omega))
            have HFB := Lib.hid (((B13.setCell (p := ⟨w.heap.size + 1, 0, none⟩) (by simp) (.int .i64 F)).setCell (p := ⟨w.heap.size + 1, 1, none⟩) (by simp) (.int .i64 O)).setCell (p := ⟨w.heap.size + 1, 2, none⟩) (by simp) (.slice OA on oc))
            have hgg := World.grownBy.trans (World.grownBy.trans (setCell_grownBy w13 (w.heap.size + 1) 0 (.int .i64 F)) (setCell_grownBy _ (w.heap.size + 1) 1 (.int .i64 O))) (setCell_grownBy _ (w.heap.size + 1) 2 (.slice OA on oc))
            have HFO := Lib.hid ((hT13.own.kept_ty q2 (by decide) (by decide) hgg).mono (show w.heap.size ≤ B by omega))
            clear hgg q2 q2' B12 B13 hT12 hT13 hM12 hb13 hl12 hPM
            go_wp2_with fail
            refine bodyPost_ret (v := .tuple #[.agg #[.int .i64 F, .int .i64 O, .slice OA on oc], .int .i64 0]) (by simp [results, Tryz.results19, go_sem, *]) rfl ?_
            rw [HRR.out]
            exact ⟨OA, on, oc, rfl, HFO.out, HFB.out⟩
  · have HRR := Lib.hid (show R = ([], K1) by rw [← HR.out]; unfold tidyV; rw [HK.out, if_pos hk])
    obtain ⟨s0, s1, s2, z0, z1, z2⟩ := zero_box q2
    have f1 : (K1 != 0) = true := by simpa using hk
    have f2 : decide (K1 = 0) = false := by simpa using hk
    have HBB := Lib.hid (((B3.setCell (p := ⟨w.heap.size + 1, 0, none⟩) (by simp) (.int .i64 0)).setCell (p := ⟨w.heap.size + 1, 1, none⟩) (by simp) (.int .i64 0)).setCell (p := ⟨w.heap.size + 1, 2, none⟩) (by simp) (.slice none 0 0))
    have HNK := Lib.hid hk
    clear q1 q2 B3 hk HR HK
    go_wp2
    refine bodyPost_ret (v := .tuple #[.agg #[.int .i64 0, .int .i64 0, .slice none 0 0], .int .i64 K1]) (by simp [results, Tryz.results19, go_sem, *]) rfl ?_
    rw [HRR.out]
    exact ⟨none, 0, 0, by rw [if_neg HNK.out, if_neg HNK.out], OwnOps.nil _ _, HBB.out⟩

end Go.Proofs.YtekcpapkicmckaaGreatDoor
