/- trees.Score: its plain law, slices.Clone of a base, the walk. -/
import Derived.Test.YtekcpapkicmckaaGreatDoorWay
import Derived.Test.YtekcpapkicmckaaGreatDoorCopy
import Derived.Test.YtekcpapkicmckaaGreatDoorCpt
import Derived.IntWalk
namespace Go.Proofs.YtekcpapkicmckaaGreatDoor
open Go.RowKit

/-- trees.Score's errno -/
def scoreK (F O : Int) (base : List Int) (ts : List TrV) (m : Nat) : Int :=
  if O < 1 ∨ (base.length : Int) ≠ O then 6 else if (m : Int) ≠ F then 72 else treesFault F O ts
theorem bigF_any (m : Nat) : ∀ nds : List NdV, bigF m nds = nds.any (wantsV m)
  | [] => rfl
  | v :: l => by
    unfold bigF
    rw [bigF_any m l, List.any_cons]
    cases wantsV m v <;> rfl
theorem big_feat {nds : List NdV} {m : Nat} (h : RightT nds) : bigF m nds = featF (m : Int) nds := by
  rw [bigF_any]
  unfold featF
  have key : ∀ v ∈ nds, wantsV m v = decide (v.kind ≠ 1 ∧ (m : Int) ≤ v.feature) := fun v hv => by
    obtain ⟨i, hi, rfl⟩ := List.mem_iff_getElem.1 hv
    have hn := h.node i hi
    rw [ndAt_get hi] at hn
    unfold wantsV innerV
    by_cases hk : nds[i].kind = 1
    · simp [hk]
    · unfold nodeV at hn
      rw [if_neg hk] at hn
      simp only [Bool.and_eq_true, decide_eq_true_eq] at hn
      rw [decide_eq_true hn.1.1, Bool.true_and]
      simp [hk]
  rw [Bool.eq_iff_iff, List.any_eq_true, List.any_eq_true]
  constructor
  · rintro ⟨v, hv, e⟩; exact ⟨v, hv, by rw [← key v hv]; exact e⟩
  · rintro ⟨v, hv, e⟩; exact ⟨v, hv, by rw [key v hv]; exact e⟩
theorem way_feat {nds : List NdV} {x : Int} (m : Nat) (h : shapeV nds = (0, x)) : wayK nds m = if featF (m : Int) nds then 72 else 0 := by
  rw [← big_feat (rightT_ok h)]
  unfold wayK
  rw [h, if_neg (by simp)]
theorem treesSum_snoc (xs : List Nat) (t : TrV) : ∀ (l : List TrV) (S : List Int), treesSum xs (l ++ [t]) S = bump (treesSum xs l S) (addOp t.out (ndAt t.nds (leafV t.nds xs (treeOf t.nds))).value)
  | [], S => rfl
  | u :: l, S => by simp only [List.cons_append, treesSum, treesSum_snoc xs t l]
theorem treesSum_length (xs : List Nat) : ∀ (l : List TrV) (S : List Int), (treesSum xs l S).length = S.length
  | [], _ => rfl
  | t :: l, S => by simp only [treesSum, treesSum_length xs l, bump, List.length_set]

set_option maxRecDepth 100000 in
theorem Clone64_any (A : Option Addr) (n c : Nat) (zs : List Int) (w : World) (hx : Ints w A n c zs) (hb : n ≤ 1000000000000) :
    Calls Tryz.prog 53 #[.slice A n c] w fun e w' => ∃ B d, e = .returned (.slice B n d) ∧ OwnInts 2 w' w.heap.size B n d zs ∧ Below w.heap.size w w' := by
  have hlen := hx.len
  have HR := Lib.hid hx.rng
  have q23 : ∀ (w : World) (a : Option Addr) (n c n' c' : Nat), (binOp .eql 23 (.slice a n c) (.slice none n' c')).run Tryz.prog w = .ok (.bool a.isNone) w := fun w a n c n' c' => Lib.run_eql_slice_nil w _ _ a n c n' c' Tryz.underlying23
  cases A with
  | none =>
    have h0 : n = 0 := by
      rcases Nat.eq_zero_or_pos n with h | h
      · exact h
      · obtain ⟨b, o, e, _⟩ := hx.cells h; cases e
    subst h0
    have hz : zs = [] := List.eq_nil_of_length_eq_zero (by omega)
    subst hz
    clear hlen hx
    go_enter Tryz.func53, Tryz.ntmps53
    go_wp2
    go_ret
    exact ⟨none, 0, rfl, ⟨Mine.nil _ _ _, by simp⟩, Below.refl _ _⟩
  | some a =>
    have hs := hx.sl
    have HL := Lib.hid hlen
    have b2 := (Below.refl w.heap.size w).alloc (Nat.le_refl _) (.cells #[] 2)
    have hm2 : Mine 2 (w.alloc (.cells #[] 2)) w.heap.size (some ⟨w.heap.size, 0, none⟩) 0 0 [] := ⟨rfl, Nat.le_refl _, by omega, .inr ⟨w.heap.size, [], rfl, Nat.le_refl _, heap_alloc_new w _, by simp⟩⟩
    have hs2 := hs.below b2
    have hz2 := b2.size
    have HB := Lib.hid b2
    clear hx hlen hs b2
    go_enter Tryz.func53, Tryz.ntmps53
    go_wp2_with (at_builtin; refine app_copy w.heap.size rfl _ _ _ _ (.int .i64 0) 8 rfl Tryz.underlying23 Tryz.info_i64 rfl (by omega) (some ⟨w.heap.size, 0, none⟩) 0 0 [] (some a) n c (i64s zs) rfl rfl (by intro u hu; simp only [i64s, List.mem_map] at hu; obtain ⟨z, _, rfl⟩ := hu; rfl) hm2 hs2 hz2 (by omega) ?_; rintro A' c' w3 hm3 hg3)
    have hb3 := below_grown HB.out hz2 hg3 (fun k hk => by simp [blockOf] at hk; omega)
    rw [Nat.zero_add, List.nil_append] at hm3
    have HM3 := Lib.hid hm3
    have HB3 := Lib.hid hb3
    clear hm2 hs2 hm3 hb3 hg3
    go_wp2
    go_ret
    exact ⟨A', c', by simp, ⟨HM3.out, HR.out⟩, HB3.out⟩

def ScorePost (K : Int) (L : List Int) (w : World) (e : Ending) (w' : World) : Prop :=
  ∃ SA sn sc l, e = .returned (.tuple #[.slice SA sn sc, .int .i64 K]) ∧ OwnInts 2 w' w.heap.size SA sn sc l ∧ Below w.heap.size w w' ∧ (K = 0 → l = L)

set_option maxRecDepth 100000 in
set_option maxHeartbeats 4000000 in
theorem Score_bad (name : ByteArray) (FA : Option Addr) (fn fc : Nat) (O : Int) (BA : Option Addr) (bn bc : Nat) (TA : Option Addr) (tn tc : Nat) (X : Option Addr) (xn xc : Nat) (base L : List Int) (ts : List TrV) (w : World) (hbl : base.length = bn)
    (hbad : O < 1 ∨ (bn : Int) ≠ O ∨ xn ≠ fn) :
    Calls Tryz.prog 30 #[.agg #[.string name, .slice FA fn fc, .int .i64 O, .slice BA bn bc, .slice TA tn tc], .slice X xn xc] w (ScorePost (scoreK (fn : Int) O base ts xn) L w) := by
  have B1 := (Below.refl w.heap.size w).alloc (Nat.le_refl _) (.cells #[.string name, .slice FA fn fc, .int .i64 O, .slice BA bn bc, .slice TA tn tc] 26)
  have k1 := heap_alloc_new w (.cells #[.string name, .slice FA fn fc, .int .i64 O, .slice BA bn bc, .slice TA tn tc] 26)
  obtain ⟨K, hK⟩ : ∃ K, scoreK (fn : Int) O base ts xn = K := ⟨_, rfl⟩
  rw [hK]
  have HB1 := Lib.hid B1
  by_cases h1 : O < 1 ∨ (bn : Int) ≠ O
  · have HK6 := Lib.hid (show K = 6 by rw [← hK]; unfold scoreK; rw [hbl, if_pos h1])
    clear hK hbad hbl
    by_cases h2 : O < 1
    · have f1 : decide (O < 1) = true := by simpa using h2
      clear h1
      go_enter Tryz.func30, Tryz.ntmps30
      go_upto_region 1 with (fail)
      generalize w.alloc (.cells #[.string name, .slice FA fn fc, .int .i64 O, .slice BA bn bc, .slice TA tn tc] 26) = w2 at *
      have e2 : w2.cell? ⟨w.heap.size, 2, none⟩ = some (.int .i64 O) := cell_of_block k1 rfl
      have e3 : w2.cell? ⟨w.heap.size, 3, none⟩ = some (.slice BA bn bc) := cell_of_block k1 rfl
      clear B1 k1
      go_wp2
      go_ret2
      exact ⟨none, 0, 0, [], by rw [HK6.out]; rfl, ⟨Mine.nil _ _ _, by simp⟩, HB1.out, fun h => by rw [HK6.out] at h; cases h⟩
    · have f1 : decide (O < 1) = false := by simpa using h2
      have f2 : ((bn : Int) != O) = true := by simp; omega
      have f3 : decide ((bn : Int) = O) = false := by simp; omega
      clear h1
      go_enter Tryz.func30, Tryz.ntmps30
      go_upto_region 1 with (fail)
      generalize w.alloc (.cells #[.string name, .slice FA fn fc, .int .i64 O, .slice BA bn bc, .slice TA tn tc] 26) = w2 at *
      have e2 : w2.cell? ⟨w.heap.size, 2, none⟩ = some (.int .i64 O) := cell_of_block k1 rfl
      have e3 : w2.cell? ⟨w.heap.size, 3, none⟩ = some (.slice BA bn bc) := cell_of_block k1 rfl
      clear B1 k1
      go_wp2
      go_ret2
      exact ⟨none, 0, 0, [], by rw [HK6.out]; rfl, ⟨Mine.nil _ _ _, by simp⟩, HB1.out, fun h => by rw [HK6.out] at h; cases h⟩
  · have hxf : xn ≠ fn := by omega
    have HK7 := Lib.hid (show K = 72 by rw [← hK]; unfold scoreK; rw [hbl, if_neg h1, if_pos (by omega)])
    have f1 : decide (O < 1) = false := by simp; omega
    have f2 : ((bn : Int) != O) = false := by simp; omega
    have f3 : decide ((bn : Int) = O) = true := by simp; omega
    have f4 : ((xn : Int) != (fn : Int)) = true := by simp; omega
    have f5 : decide ((xn : Int) = (fn : Int)) = false := by simp; omega
    have f6 : decide (xn = fn) = false := by simpa using hxf
    clear hK hbad hbl h1
    go_enter Tryz.func30, Tryz.ntmps30
    go_upto_region 1 with (fail)
    generalize w.alloc (.cells #[.string name, .slice FA fn fc, .int .i64 O, .slice BA bn bc, .slice TA tn tc] 26) = w2 at *
    have e1 : w2.cell? ⟨w.heap.size, 1, none⟩ = some (.slice FA fn fc) := cell_of_block k1 rfl
    have e2 : w2.cell? ⟨w.heap.size, 2, none⟩ = some (.int .i64 O) := cell_of_block k1 rfl
    have e3 : w2.cell? ⟨w.heap.size, 3, none⟩ = some (.slice BA bn bc) := cell_of_block k1 rfl
    clear B1 k1
    go_wp2
    go_ret2
    exact ⟨none, 0, 0, [], by rw [HK7.out]; rfl, ⟨Mine.nil _ _ _, by simp⟩, HB1.out, fun h => by rw [HK7.out] at h; cases h⟩

theorem leafV_lt {nds : List NdV} (xs : List Nat) : ∀ {T : BT} {a : Nat}, Rep nds T a → leafV nds xs T < nds.length
  | .leaf i, a, h => h.2.1
  | .node i l r, a, h => by
    unfold leafV
    split
    · exact leafV_lt xs h.2.2.2.1
    · exact leafV_lt xs h.2.2.2.2
theorem OwnInts.bumped {w : World} {base g n c : Nat} {S : List Int} (h : OwnInts 2 w base (some ⟨g, 0, none⟩) n c S) (o : OpV) (q : Nat) (hq : o.output = (q : Int)) (hn : q < n) :
    OwnInts 2 (w.setCell ⟨g, q, none⟩ (.int .i64 (wrap64 (S.getD q 0 + o.value)))) base (some ⟨g, 0, none⟩) n c (bump S o) := by
  refine ⟨?_, InR.bump h.rng o⟩
  have := h.mine.stored q hn (.int .i64 (wrap64 (S.getD q 0 + o.value)))
  unfold bump
  rw [hq, Int.toNat_natCast]
  simpa [i64s, List.map_set] using this

set_option maxRecDepth 100000 in
set_option maxHeartbeats 4000000 in
theorem Score_good (name : ByteArray) (FA : Option Addr) (fn fc : Nat) (O : Int) (BA : Option Addr) (bn bc : Nat) (TA : Option Addr) (tn tc : Nat) (X : Option Addr) (xc : Nat) (base : List Int) (ts : List TrV) (xs : List Nat) (w : World) (hb : Ints w BA bn bc base) (ht : TrsAt w TA tn tc ts) (hx : Sl w X fn xc (fls xs))
    (h1 : 1 ≤ O) (h3 : (bn : Int) = O) (hbn : bn ≤ 1000000000000) :
    Calls Tryz.prog 30 #[.agg #[.string name, .slice FA fn fc, .int .i64 O, .slice BA bn bc, .slice TA tn tc], .slice X fn xc] w (ScorePost (treesFault (fn : Int) O ts) (treesSum xs ts base) w) := by
  have B1 := (Below.refl w.heap.size w).alloc (Nat.le_refl _) (.cells #[.string name, .slice FA fn fc, .int .i64 O, .slice BA bn bc, .slice TA tn tc] 26)
  have k1 := heap_alloc_new w (.cells #[.string name, .slice FA fn fc, .int .i64 O, .slice BA bn bc, .slice TA tn tc] 26)
  have hbl := hb.len
  have HXL := Lib.hid (show xs.length = fn by have := hx.len; rwa [fls_length] at this)
  obtain ⟨K, hK⟩ : ∃ K, treesFault (fn : Int) O ts = K := ⟨_, rfl⟩
  obtain ⟨L, hL⟩ : ∃ L, treesSum xs ts base = L := ⟨_, rfl⟩
  rw [hK, hL]
  have HK := Lib.hid hK
  have HL := Lib.hid hL
  have HTL := Lib.hid ht.len
  have htb := ht.big
  have hfb := hx.big
  have HB := Lib.hid (hb.below B1)
  have HT := Lib.hid (ht.below B1)
  have HX := Lib.hid (hx.below B1)
  have HBL := Lib.hid hbl
  have HBN := Lib.hid h3
  have hbn1 : 0 < bn := by omega
  clear hK hL hb ht hx hbl
  go_enter Tryz.func30, Tryz.ntmps30
  go_upto_region 1 with (fail)
  generalize w.alloc (.cells #[.string name, .slice FA fn fc, .int .i64 O, .slice BA bn bc, .slice TA tn tc] 26) = w2 at *
  have e1 : w2.cell? ⟨w.heap.size, 1, none⟩ = some (.slice FA fn fc) := cell_of_block k1 rfl
  have e2 : w2.cell? ⟨w.heap.size, 2, none⟩ = some (.int .i64 O) := cell_of_block k1 rfl
  have e3 : w2.cell? ⟨w.heap.size, 3, none⟩ = some (.slice BA bn bc) := cell_of_block k1 rfl
  have f1 : decide (O < 1) = false := by simp; omega
  have f2 : ((bn : Int) != O) = false := by simp; omega
  have f3 : decide ((bn : Int) = O) = true := by simp; omega
  have K1 := Lib.hid k1
  have HB1 := Lib.hid B1
  have HCL := Lib.hid (Clone64_any BA bn bc base w2 HB.out hbn)
  clear k1 B1 h3
  go_wp2_with fail
  refine HCL.out.mono ?_; rintro e w3 ⟨D, d, rfl, ho, b3⟩
  obtain ⟨g, rfl, hg1, hg2⟩ := ho.mine.toK.some_of hbn1
  have k3 := (b3.block _ (lt_of_block K1.out)).trans K1.out
  have e4 : w3.cell? ⟨w.heap.size, 4, none⟩ = some (.slice TA tn tc) := cell_of_block k3 rfl
  clear e1 e2 e3 k3 HCL f1 f2 f3
  go_upto_region 7 with (fail)
  clear e4
  go_loopw [36] (fun ix wr => ∃ (i : Nat), ix = .int .i64 (i : Int) ∧ i ≤ tn ∧ Hid (treesFault (fn : Int) O ts = treesFault (fn : Int) O (ts.drop i)) ∧ OwnInts 2 wr w2.heap.size (some ⟨g, 0, none⟩) bn d (treesSum xs (ts.take i) base) ∧ Below w2.heap.size w2 wr) (fun ix _ => tn - (intOf ix).toNat)
  case atStart => exact ⟨0, rfl, Nat.zero_le _, Lib.hid rfl, by simpa [treesSum] using ho, b3⟩
  case round =>
    clear ho b3 hg1 hg2
    obtain ⟨i, rfl, hi, HTF, hs, hbr⟩ := hrel
    by_cases hlt : i < tn
    · have htr := HT.out.below hbr
      obtain ⟨b, o, rfl, hc⟩ := htr.cells (by omega)
      have hl := HTL.out
      obtain ⟨B, m, dd, hr, hnd, hmb, hor, hnr⟩ := hc i (by omega)
      have htd := treesFault_drop (fn : Int) O ts i (by omega)
      rw [← HTF.out] at htd
      have htk : ts.take (i + 1) = ts.take i ++ [ts[i]'(by omega)] := by rw [List.take_succ_eq_append_getElem (by omega)]
      have htk2 := congrArg (fun l => treesSum xs l base) htk
      simp only [treesSum_snoc] at htk2
      generalize ts[i]'(by omega) = t at hr hnd hor hnr htd htk2
      have r0 : _ = some _ := range_cell (o := o + i * 2) hr 0 rfl
      rw [Nat.add_zero] at r0
      have r1 := range_cell hr 1 rfl
      have HTD := Lib.hid htd
      have HTK := Lib.hid htk2
      have i1 : (i : Int) < (tn : Int) := by omega
      have i2 : decide ((i : Int) < (tn : Int)) = true := by simpa using i1
      clear hc hr hl htd htk htk2 htr
      go_upto_region 9 with (fail)
      have b5 := (Below.refl wr.heap.size wr).alloc (Nat.le_refl _) (.cells #[.int .i64 t.out, .slice B m dd] 65)
      have hO5 := heap_alloc_new wr (.cells #[.int .i64 t.out, .slice B m dd] 65)
      have HSH := Lib.hid (Shape_any t.out B m dd t.nds _ (hnd.below b5) (by omega))
      have hs5 := hs.below b5
      generalize wr.alloc (.cells #[.int .i64 t.out, .slice B m dd] 65) = w5 at b5 hO5 HSH hs5 ⊢
      have t0 : w5.cell? ⟨wr.heap.size, 0, none⟩ = some (.int .i64 t.out) := cell_of_block hO5 rfl
      have t1 : w5.cell? ⟨wr.heap.size, 1, none⟩ = some (.slice B m dd) := cell_of_block hO5 rfl
      have hb5 := below_then hbr hbr.size b5
      obtain ⟨sw, hsw⟩ : ∃ sw, shapeV t.nds = sw := ⟨_, rfl⟩
      rw [hsw] at HSH
      have HSW := Lib.hid hsw
      have HO5 := Lib.hid hO5
      have HN5 := Lib.hid (hnd.below b5)
      clear r0 r1 hsw hO5 hnd b5 hs hbr
      go_wp2_with fail
      refine HSH.out.mono ?_; rintro e w6 ⟨rfl, b6⟩
      have hb6 := below_then hb5 hb5.size b6
      have hO6 := (b6.block _ (lt_of_block HO5.out)).trans HO5.out
      have hn6 := HN5.out.below b6
      have hs6 := hs5.below b6
      unfold shpOf
      clear t0 t1 hb5 HSH hs5 b6 HN5 HO5
      have kE := (hb6.block _ (lt_of_block K1.out)).trans K1.out
      have BF := Lib.hid (below_then HB1.out HB1.out.size hb6)
      obtain ⟨sw1, sw2⟩ := sw
      by_cases hs0 : sw1 = 0
      · subst hs0
        have t0 : w6.cell? ⟨wr.heap.size, 0, none⟩ = some (.int .i64 t.out) := cell_of_block hO6 rfl
        have t1 : w6.cell? ⟨wr.heap.size, 1, none⟩ = some (.slice B m dd) := cell_of_block hO6 rfl
        have e2 : w6.cell? ⟨w.heap.size, 2, none⟩ = some (.int .i64 O) := cell_of_block kE rfl
        by_cases ho1 : t.out < 0
        · have o1 : decide (t.out < 0) = true := by simpa using ho1
          have HRR := Lib.hid (show K = 6 by rw [← HK.out, HTD.out, treeFault_out HSW.out (.inl ho1)]; rfl)
          clear kE hO6 hs6 hb6 hn6
          go_wp2
          go_ret2
          exact ⟨none, 0, 0, [], by rw [HRR.out]; rfl, ⟨Mine.nil _ _ _, by simp⟩, BF.out, fun h => by rw [HRR.out] at h; cases h⟩
        · have o1 : decide (t.out < 0) = false := by simpa using ho1
          by_cases ho2 : O ≤ t.out
          · have o2 : decide (O ≤ t.out) = true := by simpa using ho2
            have HRR := Lib.hid (show K = 6 by rw [← HK.out, HTD.out, treeFault_out HSW.out (.inr ho2)]; rfl)
            clear kE hO6 hs6 hb6 hn6
            go_wp2
            go_ret2
            exact ⟨none, 0, 0, [], by rw [HRR.out]; rfl, ⟨Mine.nil _ _ _, by simp⟩, BF.out, fun h => by rw [HRR.out] at h; cases h⟩
          · have o2 : decide (O ≤ t.out) = false := by simpa using ho2
            have hwy := Way_any t.out B X m dd fn xc t.nds xs w6 hn6 (HX.out.below hb6) (by omega)
            unfold WayPost at hwy
            obtain ⟨ff, hff⟩ : ∃ y, featF (fn : Int) t.nds = y := ⟨_, rfl⟩
            have HS6 := Lib.hid hs6
            have HN6 := Lib.hid hn6
            have HO6 := Lib.hid hO6
            have HB6 := Lib.hid hb6
            have hnb := hn6.big
            clear hs6 hn6 hO6 kE hb6
            cases ff
            · have hk : wayK t.nds xs.length = 0 := by rw [HXL.out, way_feat fn HSW.out, hff]; rfl
              rw [hk] at hwy
              have HWY := Lib.hid hwy
              have HTF2 := Lib.hid (show treesFault (fn : Int) O ts = treesFault (fn : Int) O (ts.drop (i + 1)) by rw [HTD.out, treeFault_feat HSW.out (by omega), hff]; rfl)
              clear hk hwy hff
              go_wp2_with fail
              refine HWY.out.mono ?_; rintro e w7 ⟨SA, sn, sc, l, rfl, hlo, b7, hlast⟩
              obtain ⟨l0, rfl⟩ := hlast trivial
              have hRT := rightT_ok HSW.out
              obtain ⟨lf, hlf⟩ : ∃ lf, leafV t.nds xs (treeOf t.nds) = lf := ⟨_, rfl⟩
              have hlt2 : lf < t.nds.length := by rw [← hlf]; exact leafV_lt xs (treeOf_rep hRT)
              rw [hlf] at hlo
              have hsn := hlo.mine.len
              rw [i64s_length, List.length_append, List.length_singleton] at hsn
              obtain ⟨gl, rfl, -, -⟩ := hlo.mine.toK.some_of (by omega)
              have c1 := hlo.mine.cell l0.length (by omega)
              rw [i64s_getD (by simp), show (l0 ++ [(lf : Int)]).getD l0.length 0 = (lf : Int) by simp [List.getD_eq_getElem?_getD]] at c1
              have hsb := hlo.mine.big
              subst hsn
              generalize l0.length = mm at c1 hsb
              have hn7 := HN6.out.below b7
              have hnl := hn7.len
              obtain ⟨b', o', rfl, hcc⟩ := hn7.cells (by omega)
              obtain ⟨V1, V2, V3, hrr, -, -, -⟩ := hcc lf hlt2
              have hat := ndAt_get (nds := t.nds) (i := lf) hlt2
              generalize t.nds[lf]'hlt2 = v at hrr hat
              have r1 := range_cell hrr 1 rfl
              have hO7 := (b7.block _ (lt_of_block HO6.out)).trans HO6.out
              have hs7 := HS6.out.below b7
              obtain ⟨q, hq⟩ : ∃ q : Nat, t.out = (q : Int) := ⟨t.out.toNat, by omega⟩
              have hqb : q < bn := by have := HBN.out; omega
              have t0' : w7.cell? ⟨wr.heap.size, 0, none⟩ = some (.int .i64 (q : Int)) := by rw [← hq]; exact cell_of_block hO7 rfl
              have t1' : w7.cell? ⟨wr.heap.size, 1, none⟩ = some (.slice (some ⟨b', o', none⟩) m dd) := cell_of_block hO7 rfl
              have c2 := hs7.mine.cell q hqb
              rw [i64s_getD (by rw [treesSum_length, HBL.out]; exact hqb)] at c2
              have fz := hs7.mine.free q
              have hs8 := (hs7.below (Below.refl w7.heap.size w7).drew).bumped (addOp t.out v.value) q hq hqb
              have hgl := (hs7.mine.lt g rfl).1
              rw [show (addOp t.out v.value).value = v.value from rfl] at hs8
              generalize hz : (treesSum xs (ts.take i) base).getD q 0 = z at c2 hs8
              have HS8 := Lib.hid (show OwnInts 2 (w7.drew.setCell ⟨g, q, none⟩ (.int .i64 (wrap64 (z + v.value)))) w2.heap.size (some ⟨g, 0, none⟩) bn d (treesSum xs (ts.take (i + 1)) base) by rw [HTK.out, hlf, hat]; exact hs8)
              have HB8 := Lib.hid ((below_then HB6.out HB6.out.size (show Below w6.heap.size w6 w7.drew from b7.drew)).setCell (p := ⟨g, q, none⟩) hgl (.int .i64 (wrap64 (z + v.value))))
              have k1 : (q : Int) < (bn : Int) := by omega
              have k2 : (mm : Int) < ((mm + 1 : Nat) : Int) := by omega
              have k3 : (lf : Int) < (m : Int) := by omega
              have k4 : IntKind.i64.wrap (((mm + 1 : Nat) : Int) - 1) = (mm : Int) := by rw [IntWalk.i64_in _ (by omega)]; omega
              have k5 : IntKind.i64.wrap (mm : Int) = (mm : Int) := IntWalk.i64_in _ (by omega)
              have k6 : (mm : Int) < (mm : Int) + 1 := by omega
              clear hz hs8 hs7 hO7 hat hrr hn7 hcc hlo hlast hRT hlf hlt2 hq hgl t0 t1 hnl b7 ho1 ho2
              go_upto_region 17 with (fail)
              go_still_tail 18, (by kernel_rfl)
              change wpList _ _ _ _ _ w7.drew
              go_wp2
              go_roundw
              case rel => exact ⟨i + 1, by go_num, hlt, HTF2, HS8.out, HB8.out⟩
              case measure => simp [intOf]; omega
            · have hk : wayK t.nds xs.length = 72 := by rw [HXL.out, way_feat fn HSW.out, hff]; rfl
              rw [hk] at hwy
              have HWY := Lib.hid hwy
              have HRR := Lib.hid (show K = 72 by rw [← HK.out, HTD.out, treeFault_feat HSW.out (by omega), hff]; rfl)
              clear hk hwy hff
              go_wp2_with fail
              refine HWY.out.mono ?_; rintro e w7 ⟨SA, sn, sc, l, rfl, -, b7, -⟩
              have HB7 := Lib.hid (below_then BF.out BF.out.size b7)
              clear b7
              go_wp2
              go_ret2
              exact ⟨none, 0, 0, [], by rw [HRR.out]; rfl, ⟨Mine.nil _ _ _, by simp⟩, HB7.out, fun h => by rw [HRR.out] at h; cases h⟩
      · have f1 : (sw1 != 0) = true := by simpa using hs0
        have f2 : decide (sw1 = 0) = false := by simpa using hs0
        have HRR := Lib.hid (show K = sw1 by rw [← HK.out, HTD.out]; unfold treeFault; rw [HSW.out]; simp [hs0])
        have HS0 := Lib.hid hs0
        clear hs0 kE hO6 hs6 hb6 hn6
        go_wp2
        go_ret2
        exact ⟨none, 0, 0, [], by rw [HRR.out]; rfl, ⟨Mine.nil _ _ _, by simp⟩, BF.out, fun h => by rw [HRR.out] at h; exact absurd h HS0.out⟩
    · obtain rfl : i = tn := by omega
      have i2 : decide ((i : Int) < (i : Int)) = false := by simp
      have HRR := Lib.hid (show K = 0 by rw [← HK.out, HTF.out, List.drop_of_length_le (by rw [HTL.out]; exact Nat.le_refl _)]; rfl)
      rw [List.take_of_length_le (by rw [HTL.out]; exact Nat.le_refl _), HL.out] at hs
      have BF := Lib.hid (below_then HB1.out HB1.out.size hbr)
      have HS := Lib.hid hs
      clear hs hbr
      go_wp2
      go_ret2
      exact ⟨_, bn, d, L, by rw [HRR.out]; rfl, HS.out.mono HB1.out.size, BF.out, fun _ => rfl⟩

end Go.Proofs.YtekcpapkicmckaaGreatDoor
