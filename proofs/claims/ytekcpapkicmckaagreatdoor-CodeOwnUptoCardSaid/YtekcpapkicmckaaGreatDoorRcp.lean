/- The contract of thicketref19.Compile. -/
import Derived.Test.YtekcpapkicmckaaGreatDoorRcd
namespace Go.Proofs.YtekcpapkicmckaaGreatDoor
open Go.RowKit

set_option maxRecDepth 100000 in
set_option maxHeartbeats 4000000 in
/-- an ensemble's sizes are wrong -/
theorem rCompile_size (name : ByteArray) (FA : Option Addr) (fn fc : Nat) (O : Int) (BA : Option Addr) (bn bc : Nat) (TA : Option Addr) (tn tc : Nat) (base : List Int) (ts : List TrV) (w : World) (hbl : base.length = bn)
    (hbad : O < 1 ∨ 64 < O ∨ (bn : Int) ≠ O ∨ 65536 < (fn : Int)) :
    Calls Tryz.prog 14 #[.agg #[.string name, .slice FA fn fc, .int .i64 O, .slice BA bn bc, .slice TA tn tc]] w (CompilePost (fn : Int) O (compileV (fn : Int) O base ts) w) := by
  have hv : compileV (fn : Int) O base ts = ([], 6) := by unfold compileV; rw [hbl, if_pos hbad]
  rw [hv]
  have HBD := Lib.hid hbad
  clear hv hbad
  go_enter Tryz.func14, Tryz.ntmps14
  go_upto_region 1 with (fail)
  have hh : ∀ a b : Obj, ((w.alloc a).alloc b).heap[w.heap.size]? = some a ∧ ((w.alloc a).alloc b).heap[w.heap.size + 1]? = some b ∧ Below w.heap.size w ((w.alloc a).alloc b) := fun a b => by
    refine ⟨?_, ?_, ((Below.refl _ _).alloc (Nat.le_refl _) _).alloc (by simp) _⟩
    all_goals
      show ((w.heap.push a).push b)[_]? = _
      simp only [Array.getElem?_push, Array.size_push]
      repeat (first | rw [if_pos trivial] | rw [if_neg (by omega)] | rw [if_pos (by omega)])
  obtain ⟨k1, k2, b2⟩ := hh (.cells #[.string name, .slice FA fn fc, .int .i64 O, .slice BA bn bc, .slice TA tn tc] 26) (.cells #[.int .i64 0, .int .i64 0, .slice none 0 0] 30)
  clear hh
  generalize (w.alloc (.cells #[.string name, .slice FA fn fc, .int .i64 O, .slice BA bn bc, .slice TA tn tc] 26)).alloc (.cells #[.int .i64 0, .int .i64 0, .slice none 0 0] 30) = w2 at k1 k2 b2 ⊢
  have e1 : w2.cell? ⟨w.heap.size, 1, none⟩ = some (.slice FA fn fc) := cell_of_block k1 rfl
  have e2 : w2.cell? ⟨w.heap.size, 2, none⟩ = some (.int .i64 O) := cell_of_block k1 rfl
  have e3 : w2.cell? ⟨w.heap.size, 3, none⟩ = some (.slice BA bn bc) := cell_of_block k1 rfl
  have s0 : w2.cell? ⟨w.heap.size + 1, 0, none⟩ = some (.int .i64 0) := cell_of_block k2 rfl
  have s1 : w2.cell? ⟨w.heap.size + 1, 1, none⟩ = some (.int .i64 0) := cell_of_block k2 rfl
  have s2 : w2.cell? ⟨w.heap.size + 1, 2, none⟩ = some (.slice none 0 0) := cell_of_block k2 rfl
  have z0 : w2.frozen? ⟨w.heap.size + 1, 0, none⟩ = false := frozen_row (vs := [.int .i64 0, .int .i64 0, .slice none 0 0]) k2 0
  have z1 : w2.frozen? ⟨w.heap.size + 1, 1, none⟩ = false := frozen_row (vs := [.int .i64 0, .int .i64 0, .slice none 0 0]) k2 1
  have z2 : w2.frozen? ⟨w.heap.size + 1, 2, none⟩ = false := frozen_row (vs := [.int .i64 0, .int .i64 0, .slice none 0 0]) k2 2
  have HBB := Lib.hid (((b2.setCell (p := ⟨w.heap.size + 1, 0, none⟩) (by simp) (.int .i64 0)).setCell (p := ⟨w.heap.size + 1, 1, none⟩) (by simp) (.int .i64 0)).setCell (p := ⟨w.heap.size + 1, 2, none⟩) (by simp) (.slice none 0 0))
  clear k1 k2 b2
  go_wp2_with fail
  all_goals first
  | (exfalso; have := HBD.out; simp at *; omega)
  | (refine bodyPost_ret (v := .tuple #[.agg #[.int .i64 0, .int .i64 0, .slice none 0 0], .int .i64 6]) (by simp [results, Tryz.results14, go_sem, *]) rfl ⟨none, 0, 0, rfl, OwnOps.nil _ _, HBB.out⟩)


section
variable {P : Program}
/-- append(s, xs...) at a step of a region that draws -/
theorem step_appAll {ops : Array Oper} {o : Oper} {a : Act} {K : Act → World → Prop} {Q : Exit → Act → World → Prop} {E : Prop} {W : World} (base : Nat) (hgd : o.guard = none) (s x : Operand) (t e : TypeId) (z : Value) (sz bytes : Nat)
    (ho : o.op = .call { callee := .builtin .append, args := #[s, x], argTypes := #[t, t] })
    (ht : P.underlying t = some (.slice e)) (hinfo : (P.info? e).map (fun i => (i.zero, i.size, i.bytes)) = some (some z, sz, bytes)) (hz : z.cells.size = sz) (hb0 : 0 < bytes)
    (A : Option Addr) (n c : Nat) (vs : List Value) (a0 : Addr) (m d : Nat) (news : List Value) (hcs : news.length = m * sz) (hnews : ∀ j u, news[j]? = some u → W.cell? (a0.add j) = some u) (hs : a.eval s = .slice A n c) (hx : a.eval x = .slice (some a0) m d) (h1 : ∀ u ∈ news, u.oneCell' = true)
    (hm : MineK sz e W base A n c vs) (hbase : base ≤ W.heap.size) (hpos : 0 < m) (hl : (n + m) * bytes ≤ 140737488355328)
    (h : ∀ A' c' w', MineK sz e w' base A' (n + m) c' (vs ++ news) → W.grownBy w' (blockOf A) → (blockOf A' = blockOf A ∨ ∃ k, blockOf A' = some k ∧ W.heap.size ≤ k) → K (a.put o.dst (.slice A' (n + m) c')) w') :
    if Region.wanted o (yielded ops a.tmps) = true then Oper.wp P o a W K Q else E := by
  have hw : Region.wanted o (yielded ops a.tmps) = true := by simp [Region.wanted, hgd]
  rw [if_pos hw]
  obtain ⟨A', c', w', hr, h2, h3, h4⟩ := run_append_mineK (P := P) W base t o.type e z sz bytes ht hinfo hz hb0 A n c vs hm a0 m d news hcs hnews h1 hl hbase hpos
  unfold Oper.wp execOp
  simp only [ho, resolve, invoke, builtin, Sem.run_bind, Sem.run_pure, Result.andThen_ok, List.map_toArray, List.map_cons, List.map_nil, hs, hx, hr]
  exact h A' c' w' h2 h3 h4
end
theorem flatOps_one : ∀ (hs : List Hd) (ops : List OpV), ∀ u ∈ flatOps hs ops, u.oneCell' = true
  | [], [], u, hu => by simp [flatOps] at hu
  | [], _ :: _, u, hu => by simp [flatOps] at hu
  | _ :: _, [], u, hu => by simp [flatOps] at hu
  | h :: hs, v :: vs, u, hu => by
    simp only [flatOps, List.mem_append] at hu
    rcases hu with hu | hu
    · exact opRow_one h v u hu
    · exact flatOps_one hs vs u hu
theorem treeCode_pos (t : TrV) (k : Nat) : 0 < (treeCode t k).length := by
  have := treeCode_length t k
  have := (treeOf t.nds).size_pos
  omega

set_option maxRecDepth 100000 in
set_option maxHeartbeats 8000000 in
set_option linter.unusedSimpArgs false in
theorem rCompile_good (name : ByteArray) (FA : Option Addr) (fn fc : Nat) (O : Int) (BA : Option Addr) (bn bc : Nat) (TA : Option Addr) (tn tc : Nat) (base : List Int) (ts : List TrV) (w : World) (hb : Ints w BA bn bc base) (ht : TrsAt w TA tn tc ts)
    (h1 : 1 ≤ O) (h2 : O ≤ 64) (h3 : (bn : Int) = O) (h4 : (fn : Int) ≤ 65536) (hsum : manyNodes ts ≤ 1048576) :
    Calls Tryz.prog 14 #[.agg #[.string name, .slice FA fn fc, .int .i64 O, .slice BA bn bc, .slice TA tn tc]] w (CompilePost (fn : Int) O (compileV (fn : Int) O base ts) w) := by
  have hbl := hb.len
  have HBN := Lib.hid (show (bn : Int) = O from h3)
  have hv : compileV (fn : Int) O base ts = if treesFault (fn : Int) O ts ≠ 0 then ([], treesFault (fn : Int) O ts) else (baseOps 0 base ++ treesCode ts base.length ++ [endOp], 0) := by unfold compileV; rw [if_neg (by omega)]
  have HV := Lib.hid hv
  have HB := Lib.hid hb
  have HT := Lib.hid ht
  have HTL := Lib.hid ht.len
  have HSUM := Lib.hid hsum
  have htb := ht.big
  clear hv hb ht hbl hsum
  obtain ⟨R, hR⟩ : ∃ R, compileV (fn : Int) O base ts = R := ⟨_, rfl⟩
  rw [hR] at HV ⊢
  clear hR
  go_enter Tryz.func14, Tryz.ntmps14
  go_upto_region 1 with (fail)
  have hh : ∀ a b : Obj, ((w.alloc a).alloc b).heap[w.heap.size]? = some a ∧ ((w.alloc a).alloc b).heap[w.heap.size + 1]? = some b ∧ Below w.heap.size w ((w.alloc a).alloc b) := fun a b => by
    refine ⟨?_, ?_, ((Below.refl _ _).alloc (Nat.le_refl _) _).alloc (by simp) _⟩
    all_goals
      show ((w.heap.push a).push b)[_]? = _
      simp only [Array.getElem?_push, Array.size_push]
      repeat (first | rw [if_pos trivial] | rw [if_neg (by omega)] | rw [if_pos (by omega)])
  obtain ⟨k1, k2, b2⟩ := hh (.cells #[.string name, .slice FA fn fc, .int .i64 O, .slice BA bn bc, .slice TA tn tc] 26) (.cells #[.int .i64 0, .int .i64 0, .slice none 0 0] 30)
  clear hh
  generalize (w.alloc (.cells #[.string name, .slice FA fn fc, .int .i64 O, .slice BA bn bc, .slice TA tn tc] 26)).alloc (.cells #[.int .i64 0, .int .i64 0, .slice none 0 0] 30) = w2 at k1 k2 b2 ⊢
  have e1 : w2.cell? ⟨w.heap.size, 1, none⟩ = some (.slice FA fn fc) := cell_of_block k1 rfl
  have e2 : w2.cell? ⟨w.heap.size, 2, none⟩ = some (.int .i64 O) := cell_of_block k1 rfl
  have e3 : w2.cell? ⟨w.heap.size, 3, none⟩ = some (.slice BA bn bc) := cell_of_block k1 rfl
  have e4 : w2.cell? ⟨w.heap.size, 4, none⟩ = some (.slice TA tn tc) := cell_of_block k1 rfl
  have g1 : ¬ O < 1 := by omega
  have g2 : ¬ 64 < O := by omega
  have g3 : ((bn : Int) != O) = false := by simp; omega
  have g4 : ¬ 65536 < (fn : Int) := by omega
  have K1 := Lib.hid k1
  have K2 := Lib.hid k2
  clear h3 k1 k2 e2
  have e2 : w2.cell? ⟨w.heap.size, 2, none⟩ = some (.int .i64 O) := cell_of_block K1.out rfl
  go_upto_region 4 with (fail)
  have b8 := (Below.refl w2.heap.size w2).alloc (Nat.le_refl _) (.cells #[.int .i64 (fn : Int), .int .i64 O, .slice none 0 0] 30)
  have hP8 := heap_alloc_new w2 (.cells #[.int .i64 (fn : Int), .int .i64 O, .slice none 0 0] 30)
  generalize w2.alloc (.cells #[.int .i64 (fn : Int), .int .i64 O, .slice none 0 0] 30) = w8 at b8 hP8 ⊢
  have kE8 := (b8.block _ (lt_of_block K1.out)).trans K1.out
  have E3 : w8.cell? ⟨w.heap.size, 3, none⟩ = some (.slice BA bn bc) := cell_of_block kE8 rfl
  have HB2 := Lib.hid b2
  have KE := Lib.hid (fun (W : World) (hW : Below w2.heap.size w2 W) => (hW.block _ (lt_of_block K1.out)).trans K1.out)
  have KR := Lib.hid (fun (W : World) (hW : Below w2.heap.size w2 W) => (hW.block _ (lt_of_block K2.out)).trans K2.out)
  have HLE := Lib.hid (And.intro (lt_of_block K1.out) (lt_of_block K2.out))
  have hbnl : bn ≤ 64 := by have := HBN.out; omega
  clear e1 e2 e3 e4 g1 g2 g3 g4 kE8 b2 K1 K2
  go_upto_region 5 with (fail)
  clear E3
  go_loopw [43] (fun ix wr => ∃ (j : Nat) (OA : Option Addr) (oc : Nat), ix = .int .i64 (j : Int) ∧ j ≤ bn ∧ wr.heap[w2.heap.size]? = some (.cells #[.int .i64 (fn : Int), .int .i64 O, .slice OA j oc] 30 (0, 0)) ∧ OwnOps wr w2.heap.size OA j oc (baseOps 0 (base.take j)) ∧ Below w2.heap.size w2 wr) (fun ix _ => bn - (intOf ix).toNat)
  case atStart => exact ⟨0, none, 0, rfl, Nat.zero_le _, hP8, OwnOps.nil _ _, b8⟩
  case round =>
    obtain ⟨j, OA, oc, rfl, hj, hP, hown, hbq⟩ := hrel
    by_cases hjt : j < bn
    · obtain ⟨bb, ob, rfl, hc⟩ := (HB.out.below (below_then HB2.out HB2.out.size hbq)).cells (by omega)
      have hcj := hc j hjt
      have hbl := HB.out.len
      have hbt : base.take (j + 1) = base.take j ++ [base.getD j 0] := take_snocD (by omega)
      have hz : -9223372036854775808 ≤ base.getD j 0 ∧ base.getD j 0 ≤ 9223372036854775807 := HB.out.rng _ (by
        rw [List.getD_eq_getElem?_getD, List.getElem?_eq_getElem (by omega)]
        exact List.getElem_mem _)
      generalize base.getD j 0 = z at hcj hbt hz
      have i1' : (j : Int) < (bn : Int) := by omega
      have i2' : decide ((j : Int) < (bn : Int)) = true := by simpa using i1'
      have p2 : wr.cell? ⟨w2.heap.size, 2, none⟩ = some (.slice OA j oc) := cell_of_block hP rfl
      have HBT := Lib.hid hbt
      have HBL := Lib.hid hbl
      clear hc hbt hbl
      go_upto_region 7 with (fail)
      have hn8 := heap_alloc_new wr (.cells #[.int .u8 3, .int .i64 0, .float .f64 0, .slice none 0 0, .int .u8 0, .int .i64 (j : Int), .int .i64 z, .int .i64 0] 75)
      have b9 := (Below.refl wr.heap.size wr).alloc (Nat.le_refl _) (.cells #[.int .u8 3, .int .i64 0, .float .f64 0, .slice none 0 0, .int .u8 0, .int .i64 (j : Int), .int .i64 z, .int .i64 0] 75)
      obtain ⟨hs, hh⟩ := hown.hds
      have hmk8 := hh.2.1.below b9
      have hP9 := (b9.block _ (lt_of_block hP)).trans hP
      have HN8 := Lib.hid hn8
      have HP9 := Lib.hid hP9
      have HB9 := Lib.hid b9
      have hbz := Nat.le_trans hbq.size b9.size
      have hty : ∀ r, blockOf OA = some r → ∃ c2, (wr.alloc (.cells #[.int .u8 3, .int .i64 0, .float .f64 0, .slice none 0 0, .int .u8 0, .int .i64 (j : Int), .int .i64 z, .int .i64 0] 75)).heap[r]? = some (.cells c2 75 (0, 0)) := fun r hr => hmk8.ty hr
      have hlp := lt_of_block hP
      clear hn8 b9 hP9
      go_upto_region 8 with (at_builtin; refine app_boxK w2.heap.size rfl _ _ _ _ _ 8 80 rfl Tryz.underlying28 Tryz.info_op rfl (by omega) OA j oc (flatOps hs (baseOps 0 (base.take j))) wr.heap.size 1 1 _ _ HN8.out rfl rfl rfl (opRow_one (none, 0, 0) (addOp (j : Int) z)) hmk8 hbz (by omega) (by omega) ?_; rintro A' c' w9 hm9 hg9 hA9; have hU9 := keep_ty hg9 HP9.out hty (by decide); have u9 : w9.cell? ⟨w2.heap.size, 2, none⟩ = some (.slice OA j oc) := cell_of_block hU9 rfl; have z9 : w9.frozen? ⟨w2.heap.size, 2, none⟩ = false := frozen_row (vs := [.int .i64 (fn : Int), .int .i64 O, .slice OA j oc]) hU9 2)
      have hU9 := keep_ty hg9 HP9.out hty (by decide)
      have hown9 := OwnOps.snoc (v := addOp (j : Int) z) (hd := (none, 0, 0)) hh hown.rng HB9.out (.inl ⟨rfl, rfl, rfl⟩) (by constructor <;> simp [addOp] <;> omega) (by simp [addOp]) (fun k hk => by simp [hdBlock] at hk) hm9 hg9 hA9
      have hown10 := hown9.kept_ty hU9 (by decide) (by decide) (setCell_grownBy w9 w2.heap.size 2 (.slice A' (j + 1) c'))
      have hU10 : (w9.setCell ⟨w2.heap.size, 2, none⟩ (.slice A' (j + 1) c')).heap[w2.heap.size]? = some (.cells #[.int .i64 (fn : Int), .int .i64 O, .slice A' (j + 1) c'] 30 (0, 0)) := setCell_row (vs := [.int .i64 (fn : Int), .int .i64 O, .slice OA j oc]) hU9 2 _
      have hbs : baseOps 0 (base.take (j + 1)) = baseOps 0 (base.take j) ++ [addOp (j : Int) z] := by
        rw [HBT.out, baseOps_snoc, List.length_take, HBL.out, Nat.min_eq_left (by omega), Nat.zero_add]
      rw [← hbs] at hown10
      have hb10 := (below_grown (below_then hbq hbq.size HB9.out) hbz hg9 (fun k hk => (hmk8.lt k hk).1)).setCell (p := ⟨w2.heap.size, 2, none⟩) (Nat.le_refl _) (.slice A' (j + 1) c')
      generalize w9.setCell ⟨w2.heap.size, 2, none⟩ (.slice A' (j + 1) c') = w10 at hown10 hU10 hb10 ⊢
      clear p2 hown9 hm9 hg9 hA9 hmk8 hbs hty hU9
      go_wp2
      go_roundw
      case rel => exact ⟨j + 1, A', c', by go_num, hjt, hU10, hown10, hb10⟩
      case measure => simp [intOf]; omega
    · obtain rfl : j = bn := by omega
      have i2' : decide ((j : Int) < (j : Int)) = false := by simp
      have E4 : wr.cell? ⟨w.heap.size, 4, none⟩ = some (.slice TA tn tc) := cell_of_block (KE.out _ hbq) rfl
      rw [List.take_of_length_le (by rw [HB.out.len]; exact Nat.le_refl _)] at hown
      go_upto_region 10 with (fail)
      clear E4
      go_loopw [60] (fun ix wr => ∃ (k on : Nat) (OA : Option Addr) (oc : Nat), ix = .int .i64 (k : Int) ∧ k ≤ tn ∧ Hid (treesFault (fn : Int) O ts = treesFault (fn : Int) O (ts.drop k)) ∧ Hid (∀ t ∈ ts.take k, treeFault (fn : Int) O t = 0) ∧ wr.heap[w2.heap.size]? = some (.cells #[.int .i64 (fn : Int), .int .i64 O, .slice OA on oc] 30 (0, 0)) ∧ OwnOps wr w2.heap.size OA on oc (baseOps 0 base ++ treesCode (ts.take k) base.length) ∧ Below w2.heap.size w2 wr) (fun ix _ => tn - (intOf ix).toNat)
      case atStart => exact ⟨0, j, OA, oc, rfl, Nat.zero_le _, Lib.hid rfl, Lib.hid (by simp), hP, by simpa [treesCode] using hown, hbq⟩
      case round =>
        clear hP hown hbq OA oc
        obtain ⟨k, on, OA, oc, rfl, hk, HTF, HOK, hP, hown, hbr⟩ := hrel
        by_cases hkt : k < tn
        · have hbw := below_then HB2.out HB2.out.size hbr
          obtain ⟨b, o, rfl, hc⟩ := (HT.out.below hbw).cells (by omega)
          have hl := HTL.out
          obtain ⟨B, m, d, hr, hnd, hmb, hor, hnr⟩ := hc k (by omega)
          have htd := treesFault_drop (fn : Int) O ts k (by omega)
          rw [← HTF.out] at htd
          have htk : ts.take (k + 1) = ts.take k ++ [ts[k]'(by omega)] := by rw [List.take_succ_eq_append_getElem (by omega)]
          have hmn := manyNodes_take ts k (by omega)
          have hRts : ∀ u ∈ ts.take k, RightT u.nds := fun u hu => rightT_fault (HOK.out u hu)
          have htl := treesCode_length (ts.take k) base.length hRts
          generalize ts[k]'(by omega) = t at hr hnd hor hnr htd htk hmn
          have hlen := hown.len
          have hbl := HB.out.len
          simp only [List.length_append, baseOps_length] at hlen
          have hsm := HSUM.out
          have hon : on ≤ 3000000 := by omega
          have HON := Lib.hid hlen
          have HTD := Lib.hid htd
          have HTK := Lib.hid htk
          have r0 : _ = some _ := range_cell (o := o + k * 2) hr 0 rfl
          rw [Nat.add_zero] at r0
          have r1 := range_cell hr 1 rfl
          have i1 : (k : Int) < (tn : Int) := by omega
          have k2' : decide ((k : Int) < (tn : Int)) = true := by simpa using i1
          clear hc hr hl htd htk hmn hRts htl hlen hbl hbw hsm
          go_upto_region 12 with (fail)
          have b5 := (Below.refl wr.heap.size wr).alloc (Nat.le_refl _) (.cells #[.int .i64 t.out, .slice B m d] 65)
          have hO5 := heap_alloc_new wr (.cells #[.int .i64 t.out, .slice B m d] 65)
          have HSH := Lib.hid (rShape_any t.out B m d t.nds _ (hnd.below b5) (by omega))
          generalize wr.alloc (.cells #[.int .i64 t.out, .slice B m d] 65) = w5 at b5 hO5 HSH ⊢
          have t0 : w5.cell? ⟨wr.heap.size, 0, none⟩ = some (.int .i64 t.out) := cell_of_block hO5 rfl
          have t1 : w5.cell? ⟨wr.heap.size, 1, none⟩ = some (.slice B m d) := cell_of_block hO5 rfl
          have hb5 := below_then hbr hbr.size b5
          obtain ⟨sw, hsw⟩ : ∃ sw, shapeV t.nds = sw := ⟨_, rfl⟩
          rw [hsw] at HSH
          have HSW := Lib.hid hsw
          have HO5 := Lib.hid hO5
          have HN5 := Lib.hid (hnd.below b5)
          have hP5 := (b5.block _ (lt_of_block hP)).trans hP
          have hown5 := hown.below b5
          have hpz := lt_of_block hP
          clear r0 r1 hsw hO5 hnd b5 hP hown hbr
          go_wp2_with fail
          refine HSH.out.mono ?_; rintro e w6 ⟨rfl, b6⟩
          have hb6 := below_then hb5 hb5.size b6
          have hO6 := (b6.block _ (lt_of_block HO5.out)).trans HO5.out
          have hn6 := HN5.out.below b6
          have hP6 := (b6.block _ (lt_of_block hP5)).trans hP5
          have hown6 := hown5.below b6
          unfold shpOf
          clear t0 t1 hb5 HSH hP5 hown5 HN5 HO5 b6
          have kR := KR.out _ hb6
          have kE := KE.out _ hb6
          obtain ⟨s0, s1, s2, z0, z1, z2⟩ := zero_box kR
          have B6 := below_then HB2.out HB2.out.size hb6
          obtain ⟨sw1, sw2⟩ := sw
          by_cases hs0 : sw1 = 0
          · subst hs0
            have t0 : w6.cell? ⟨wr.heap.size, 0, none⟩ = some (.int .i64 t.out) := cell_of_block hO6 rfl
            have t1 : w6.cell? ⟨wr.heap.size, 1, none⟩ = some (.slice B m d) := cell_of_block hO6 rfl
            have e2 : w6.cell? ⟨w.heap.size, 2, none⟩ = some (.int .i64 O) := cell_of_block kE rfl
            by_cases ho1 : t.out < 0
            · have o1 : decide (t.out < 0) = true := by simpa using ho1
              have HRR := Lib.hid (show R = ([], 6) by
                have htf : treesFault (fn : Int) O ts = 6 := by
                  rw [HTD.out, treeFault_out HSW.out (.inl ho1)]; rfl
                rw [HV.out, htf]; rfl)
              have HBB := Lib.hid (((B6.setCell (p := ⟨w.heap.size + 1, 0, none⟩) (by simp) (.int .i64 0)).setCell (p := ⟨w.heap.size + 1, 1, none⟩) (by simp) (.int .i64 0)).setCell (p := ⟨w.heap.size + 1, 2, none⟩) (by simp) (.slice none 0 0))
              clear kR kE hO6 hP6 hown6 hb6 hn6
              go_wp2_with fail
              refine bodyPost_ret (v := .tuple #[.agg #[.int .i64 0, .int .i64 0, .slice none 0 0], .int .i64 6]) (by simp [results, Tryz.results14, go_sem, *]) rfl ?_
              rw [HRR.out]
              exact ⟨none, 0, 0, rfl, OwnOps.nil _ _, HBB.out⟩
            · by_cases ho2 : O ≤ t.out
              · have o1 : decide (t.out < 0) = false := by simpa using ho1
                have o2 : decide (O ≤ t.out) = true := by simpa using ho2
                have HRR := Lib.hid (show R = ([], 6) by
                  have htf : treesFault (fn : Int) O ts = 6 := by
                    rw [HTD.out, treeFault_out HSW.out (.inr ho2)]; rfl
                  rw [HV.out, htf]; rfl)
                have HBB := Lib.hid (((B6.setCell (p := ⟨w.heap.size + 1, 0, none⟩) (by simp) (.int .i64 0)).setCell (p := ⟨w.heap.size + 1, 1, none⟩) (by simp) (.int .i64 0)).setCell (p := ⟨w.heap.size + 1, 2, none⟩) (by simp) (.slice none 0 0))
                clear kR kE hO6 hP6 hown6 hb6 hn6
                go_wp2_with fail
                refine bodyPost_ret (v := .tuple #[.agg #[.int .i64 0, .int .i64 0, .slice none 0 0], .int .i64 6]) (by simp [results, Tryz.results14, go_sem, *]) rfl ?_
                rw [HRR.out]
                exact ⟨none, 0, 0, rfl, OwnOps.nil _ _, HBB.out⟩
              · have o1 : decide (t.out < 0) = false := by simpa using ho1
                have o2 : decide (O ≤ t.out) = false := by simpa using ho2
                have e1 : w6.cell? ⟨w.heap.size, 1, none⟩ = some (.slice FA fn fc) := cell_of_block kE rfl
                obtain ⟨ff, hff⟩ : ∃ y, featF (fn : Int) t.nds = y := ⟨_, rfl⟩
                have hft := Fits_any t.out B m d fn t.nds w6 hn6
                rw [hff] at hft
                have HFT := Lib.hid hft
                have HFF := Lib.hid hff
                have HTD2 := Lib.hid (show treeFault (fn : Int) O t = if ff = true then 72 else 0 by rw [treeFault_feat HSW.out (by omega), hff])
                have HO6 := Lib.hid hO6
                have HN6 := Lib.hid hn6
                have HP6 := Lib.hid hP6
                have HOWN6 := Lib.hid hown6
                have HB6 := Lib.hid hb6
                have HO1 := Lib.hid ho1
                have HO2 := Lib.hid ho2
                clear hff hft kR kE hO6 hn6 hP6 hown6 hb6 B6 s0 s1 s2 z0 z1 z2 ho1 ho2
                go_wp2_with fail
                refine HFT.out.mono ?_; rintro e w7 ⟨rfl, b7⟩
                have hb7 := below_then HB6.out HB6.out.size b7
                clear t0 t1 e1 e2 HFT
                cases ff
                · have hRt : RightT t.nds := rightT_fault (F := (fn : Int)) (O := O) (t := t) (by rw [HTD2.out]; rfl)
                  have HTF2 := Lib.hid (show treesFault (fn : Int) O ts = treesFault (fn : Int) O (ts.drop (k + 1)) by rw [HTD.out, HTD2.out]; rfl)
                  have HOK2 : Hid (∀ u ∈ ts.take (k + 1), treeFault (fn : Int) O u = 0) := Lib.hid (fun u hu => by
                    rw [HTK.out] at hu
                    rcases List.mem_append.1 hu with hu | hu
                    · exact HOK.out u hu
                    · obtain rfl := List.mem_singleton.1 hu
                      rw [HTD2.out]; rfl)
                  have hP7 := (b7.block _ (lt_of_block HP6.out)).trans HP6.out
                  have hO7 := (b7.block _ (lt_of_block HO6.out)).trans HO6.out
                  have hown7 := HOWN6.out.below b7
                  have hn7 := HN6.out.below b7
                  obtain ⟨hs, hh⟩ := hown7.hds
                  have HP7 := Lib.hid hP7
                  have HO7 := Lib.hid hO7
                  have HOWN7 := Lib.hid hown7
                  have HHH := Lib.hid hh
                  have HB7 := Lib.hid hb7
                  have HTY := Lib.hid (fun (W : World) (hW : Below w7.heap.size w7 W) r hr => (hh.2.1.below hW).ty (k := r) hr)
                  have HLTA := Lib.hid (fun q hq => (hh.2.1.lt q hq).1)
                  have HMK := Lib.hid (fun (W : World) (hW : Below w7.heap.size w7 W) => hh.2.1.below hW)
                  have hb7z := hb7.size
                  have HCD := Lib.hid (fun (W : World) (hW : Below w7.heap.size w7 W) => rcode_any t.out B m d on t.nds W (hn7.below hW) hRt hnr hor hmb (by omega))
                  have KSx := Lib.hid (fun (W : World) (hW : Below w7.heap.size w7 W) => show W.cell? ⟨wr.heap.size, 0, none⟩ = some (.int .i64 t.out) ∧ W.cell? ⟨wr.heap.size, 1, none⟩ = some (.slice B m d) from
                    ⟨cell_of_block ((hW.block _ (lt_of_block HO7.out)).trans HO7.out) rfl, cell_of_block ((hW.block _ (lt_of_block HO7.out)).trans HO7.out) rfl⟩)
                  have p2 : w7.cell? ⟨w2.heap.size, 2, none⟩ = some (.slice OA on oc) := cell_of_block hP7 rfl
                  have hcm := treeCode_length t on
                  have hcs := treeOf_size hRt
                  have hml := hn7.len
                  have hcp := treeCode_pos t on
                  have HCL := Lib.hid (show (on + (treeCode t on).length) * 80 ≤ 140737488355328 by omega)
                  have hpo : w2.heap.size ≠ wr.heap.size := by omega
                  have hdr : Below w7.heap.size w7 w7.drew := (Below.refl _ _).drew
                  have HNEW : Hid (baseOps 0 base ++ treesCode (ts.take k) base.length ++ treeCode t on = baseOps 0 base ++ treesCode (ts.take (k + 1)) base.length) := Lib.hid (by rw [HTK.out, treesCode_snoc, List.append_assoc, ← HON.out])
                  clear hP7 hO7 hown7 hn7 hh hb7 b7 hRt hcm hcs hml
                  generalize treeCode t on = tc8 at HCD HCL hcp HNEW
                  go_upto_region 19 with (fail)
                  refine wp_region_noPanic ?_
                  refine wp_region_held_drew (S := (fun W => W.cell? ⟨wr.heap.size, 0, none⟩ = some (.int .i64 t.out) ∧ W.cell? ⟨wr.heap.size, 1, none⟩ = some (.slice B m d))) (by kernel_rfl) ?_ (fun hHeld => ?_)
                  · try dsimp only
                    exact KSx.out _ hdr
                  refine wpAnyH_take (i := 0) (oi := ⟨some 91, _, _, _, _, _⟩) (v := ?v0_1) rfl (by kernel_rfl) (by kernel_rfl) (by kernel_rfl) (fun _ _ _ h => h) (Or.inl ⟨by rfl, ?hy0_1⟩) (by assumption) ?rest0_1
                  case hy0_1 => intro w hSw; (try dsimp only at hSw); go_simp; try with_reducible rfl
                  try simp only [Act.put, List.setIfInBounds_toArray, List.set_cons_zero, List.set_cons_succ]
                  refine wpAnyH_take (i := 2) (oi := ⟨some 93, _, _, _, _, _⟩) (v := ?v2_2) rfl (by kernel_rfl) (by kernel_rfl) (by kernel_rfl) (fun _ _ _ h => h) (Or.inl ⟨by rfl, ?hy2_2⟩) (by assumption) ?rest2_2
                  case hy2_2 => intro w hSw; (try dsimp only at hSw); go_simp; try with_reducible rfl
                  try simp only [Act.put, List.setIfInBounds_toArray, List.set_cons_zero, List.set_cons_succ]
                  refine wpAnyH_take (i := 3) (oi := ⟨some 94, _, _, _, _, _⟩) (v := ?v3_3) rfl (by kernel_rfl) (by kernel_rfl) (by kernel_rfl) (fun _ _ _ h => h) (Or.inl ⟨by rfl, ?hy3_3⟩) (by assumption) ?rest3_3
                  case hy3_3 => intro w hSw; (try dsimp only at hSw); go_simp; try with_reducible rfl
                  try simp only [Act.put, List.setIfInBounds_toArray, List.set_cons_zero, List.set_cons_succ]
                  refine wpAnyH_ready (rs := [1, 4]) (by kernel_rfl) (by simp) ?_
                  refine AllReadyH.cons rfl (fun K hK => ?_) (AllReadyH.cons rfl (fun K hK => ?_) AllReadyH.nil)
                  · go_simp
                    refine hK.out _ _ ?_ (fun hHeld => ?_)
                    · try dsimp only
                      exact KSx.out _ hdr
                    clear hK K
                    try simp only [Act.put, List.setIfInBounds_toArray, List.set_cons_zero, List.set_cons_succ]
                    refine wpAnyH_ready (rs := [4]) (by kernel_rfl) (by simp) ?_
                    refine AllReadyH.cons rfl (fun K hK => ?_) AllReadyH.nil
                    go_simp
                    refine hK.out _ _ ?_ (fun hHeld => ?_)
                    · try dsimp only
                      exact KSx.out _ hdr
                    clear hK K
                    try simp only [Act.put, List.setIfInBounds_toArray, List.set_cons_zero, List.set_cons_succ]
                    refine wpAnyH_take (i := 5) (oi := ⟨some 96, _, _, _, _, _⟩) (v := ?v5_4) rfl (by kernel_rfl) (by kernel_rfl) (by kernel_rfl) (fun _ _ _ h => h) (Or.inl ⟨by rfl, ?hy5_4⟩) (by assumption) ?rest5_4
                    case hy5_4 => intro w hSw; (try dsimp only at hSw); go_simp; try with_reducible rfl
                    try simp only [Act.put, List.setIfInBounds_toArray, List.set_cons_zero, List.set_cons_succ]
                    refine wpAnyH_ready (rs := [6]) (by kernel_rfl) (by simp) ?_
                    refine AllReadyH.cons rfl (fun K hK => ?_) AllReadyH.nil
                    go_simp
                    refine (HCD.out _ hdr).mono ?_
                    rintro e w8 ⟨B8, m8, d8, rfl, ho8, bS⟩
                    have hl8 := ho8.len
                    obtain ⟨hs8, hh8⟩ := ho8.hds
                    subst hl8
                    obtain ⟨g8, rfl, hg81, -⟩ := hh8.2.1.some_of hcp
                    have bS' := chainB (w3 := w7) hdr bS
                    have p2' : w8.cell? ⟨w2.heap.size, 2, none⟩ = some (.slice OA on oc) := cell_of_block ((bS'.block _ (lt_of_block HP7.out)).trans HP7.out) rfl
                    go_simp
                    refine hK.out _ _ ?_ (fun hHeld => ?_)
                    · try dsimp only
                      exact KSx.out _ bS'
                    clear hK K
                    try simp only [Act.put, List.setIfInBounds_toArray, List.set_cons_zero, List.set_cons_succ]
                    refine wpAnyH_ready (rs := [7]) (by kernel_rfl) (by simp) ?_
                    refine AllReadyH.cons rfl (fun K hK => ?_) AllReadyH.nil
                    refine step_appAll w2.heap.size (by rfl) _ _ _ _ _ 8 80 (by rfl) Tryz.underlying28 Tryz.info_op rfl (by omega) OA on oc _ ⟨g8, 0, none⟩ tc8.length d8 (flatOps hs8 tc8) (flatOps_length hs8 tc8 hh8.1) (fun j u hu => by rw [add_row0, hh8.2.1.cell j (by rw [← flatOps_length hs8 tc8 hh8.1]; exact (List.getElem?_eq_some_iff.1 hu).1), List.getD_eq_getElem?_getD, hu]; rfl) (by rfl) (by rfl) (flatOps_one _ _) (HMK.out _ bS') (Nat.le_trans hb7z bS'.size) hcp HCL.out ?_
                    intro A' c' w9 hm9 hg9 hA9
                    have hU9 := keep_ty hg9 ((bS'.block _ (lt_of_block HP7.out)).trans HP7.out) (HTY.out _ bS') (by decide)
                    have hT9 := keep_ty hg9 ((bS'.block _ (lt_of_block HO7.out)).trans HO7.out) (HTY.out _ bS') (by decide)
                    have u9 : w9.cell? ⟨w2.heap.size, 2, none⟩ = some (.slice OA on oc) := cell_of_block hU9 rfl
                    have z9 : w9.frozen? ⟨w2.heap.size, 2, none⟩ = false := frozen_row (vs := [.int .i64 (fn : Int), .int .i64 O, .slice OA on oc]) hU9 2
                    refine hK.out _ _ ?_ (fun hHeld => ?_)
                    · try dsimp only
                      exact ⟨cell_of_block hT9 rfl, cell_of_block hT9 rfl⟩
                    clear hK K
                    try simp only [Act.put, List.setIfInBounds_toArray, List.set_cons_zero, List.set_cons_succ]
                    refine wpAnyH_take (i := 8) (oi := ⟨some 99, _, _, _, _, _⟩) (v := ?v8_5) rfl (by kernel_rfl) (by kernel_rfl) (by kernel_rfl) (fun _ _ _ h => h) (Or.inl ⟨by rfl, ?hy8_5⟩) (by assumption) ?rest8_5
                    case hy8_5 => intro w hSw; (try dsimp only at hSw); go_simp; try with_reducible rfl
                    try simp only [Act.put, List.setIfInBounds_toArray, List.set_cons_zero, List.set_cons_succ]
                    refine wpAnyH_ready (rs := [9]) (by kernel_rfl) (by simp) ?_
                    refine AllReadyH.cons rfl (fun K hK => ?_) AllReadyH.nil
                    go_simp
                    refine hK.out _ _ ?_ (fun hHeld => ?_)
                    · try dsimp only
                      exact ⟨cell_of_block ((setCell_other (Ne.symm hpo) _ _).trans hT9) rfl, cell_of_block ((setCell_other (Ne.symm hpo) _ _).trans hT9) rfl⟩
                    clear hK K
                    try simp only [Act.put, List.setIfInBounds_toArray, List.set_cons_zero, List.set_cons_succ]
                    refine wpAnyH_done (by kernel_rfl) ?_ _
                    refine NoPanic.normal ?_
                    have hheads := Heads.snocs HHH.out bS' hh8.1 (fun j a b => (hh8.2.2.1 j a b).mono hb7z) (fun h hh k hk => by
                      obtain ⟨j, hj, rfl⟩ := List.mem_iff_getElem.1 hh
                      exact ((hh8.2.2.1 j hj (by rw [← hh8.1]; exact hj)).lt k hk).1) hh8.2.2.2.2 hm9 hg9 hA9
                    have hown9 : OwnOps w9 w2.heap.size A' (on + tc8.length) c' (baseOps 0 base ++ treesCode (ts.take k) base.length ++ tc8) := ⟨⟨_, hheads⟩, fun u hu => by
                      rcases List.mem_append.1 hu with hu | hu
                      · exact HOWN7.out.rng u hu
                      · exact ho8.rng u hu⟩
                    have hown10 := hown9.kept_ty hU9 (by decide) (by decide) (setCell_grownBy w9 w2.heap.size 2 (.slice A' (on + tc8.length) c'))
                    rw [HNEW.out] at hown10
                    have hU10 := setCell_row (vs := [.int .i64 (fn : Int), .int .i64 O, .slice OA on oc]) hU9 2 (.slice A' (on + tc8.length) c')
                    have hb10 := (below_grown (below_then HB7.out HB7.out.size bS') (Nat.le_trans hb7z bS'.size) hg9 HLTA.out).setCell (p := ⟨w2.heap.size, 2, none⟩) (Nat.le_refl _) (.slice A' (on + tc8.length) c')
                    generalize w9.setCell ⟨w2.heap.size, 2, none⟩ (.slice A' (on + tc8.length) c') = w10 at hown10 hU10 hb10 ⊢
                    clear hheads hown9 hm9 hg9 hA9 hU9 hT9 u9 z9 hh8 ho8 bS bS' p2 p2' hdr
                    go_wp2
                    go_roundw
                    case rel => exact ⟨k + 1, on + tc8.length, A', c', by go_num, hkt, HTF2, HOK2, hU10, hown10, hb10⟩
                    case measure => simp [intOf]; omega
                  · go_simp
                    refine hK.out _ _ ?_ (fun hHeld => ?_)
                    · try dsimp only
                      exact KSx.out _ hdr
                    clear hK K
                    try simp only [Act.put, List.setIfInBounds_toArray, List.set_cons_zero, List.set_cons_succ]
                    refine wpAnyH_take (i := 5) (oi := ⟨some 96, _, _, _, _, _⟩) (v := ?v5_6) rfl (by kernel_rfl) (by kernel_rfl) (by kernel_rfl) (fun _ _ _ h => h) (Or.inl ⟨by rfl, ?hy5_6⟩) (by assumption) ?rest5_6
                    case hy5_6 => intro w hSw; (try dsimp only at hSw); go_simp; try with_reducible rfl
                    try simp only [Act.put, List.setIfInBounds_toArray, List.set_cons_zero, List.set_cons_succ]
                    refine wpAnyH_ready (rs := [1, 6]) (by kernel_rfl) (by simp) ?_
                    refine AllReadyH.cons rfl (fun K hK => ?_) (AllReadyH.cons rfl (fun K hK => ?_) AllReadyH.nil)
                    · go_simp
                      refine hK.out _ _ ?_ (fun hHeld => ?_)
                      · try dsimp only
                        exact KSx.out _ hdr
                      clear hK K
                      try simp only [Act.put, List.setIfInBounds_toArray, List.set_cons_zero, List.set_cons_succ]
                      refine wpAnyH_ready (rs := [6]) (by kernel_rfl) (by simp) ?_
                      refine AllReadyH.cons rfl (fun K hK => ?_) AllReadyH.nil
                      go_simp
                      refine (HCD.out _ hdr).mono ?_
                      rintro e w8 ⟨B8, m8, d8, rfl, ho8, bS⟩
                      have hl8 := ho8.len
                      obtain ⟨hs8, hh8⟩ := ho8.hds
                      subst hl8
                      obtain ⟨g8, rfl, hg81, -⟩ := hh8.2.1.some_of hcp
                      have bS' := chainB (w3 := w7) hdr bS
                      have p2' : w8.cell? ⟨w2.heap.size, 2, none⟩ = some (.slice OA on oc) := cell_of_block ((bS'.block _ (lt_of_block HP7.out)).trans HP7.out) rfl
                      go_simp
                      refine hK.out _ _ ?_ (fun hHeld => ?_)
                      · try dsimp only
                        exact KSx.out _ bS'
                      clear hK K
                      try simp only [Act.put, List.setIfInBounds_toArray, List.set_cons_zero, List.set_cons_succ]
                      refine wpAnyH_ready (rs := [7]) (by kernel_rfl) (by simp) ?_
                      refine AllReadyH.cons rfl (fun K hK => ?_) AllReadyH.nil
                      refine step_appAll w2.heap.size (by rfl) _ _ _ _ _ 8 80 (by rfl) Tryz.underlying28 Tryz.info_op rfl (by omega) OA on oc _ ⟨g8, 0, none⟩ tc8.length d8 (flatOps hs8 tc8) (flatOps_length hs8 tc8 hh8.1) (fun j u hu => by rw [add_row0, hh8.2.1.cell j (by rw [← flatOps_length hs8 tc8 hh8.1]; exact (List.getElem?_eq_some_iff.1 hu).1), List.getD_eq_getElem?_getD, hu]; rfl) (by rfl) (by rfl) (flatOps_one _ _) (HMK.out _ bS') (Nat.le_trans hb7z bS'.size) hcp HCL.out ?_
                      intro A' c' w9 hm9 hg9 hA9
                      have hU9 := keep_ty hg9 ((bS'.block _ (lt_of_block HP7.out)).trans HP7.out) (HTY.out _ bS') (by decide)
                      have hT9 := keep_ty hg9 ((bS'.block _ (lt_of_block HO7.out)).trans HO7.out) (HTY.out _ bS') (by decide)
                      have u9 : w9.cell? ⟨w2.heap.size, 2, none⟩ = some (.slice OA on oc) := cell_of_block hU9 rfl
                      have z9 : w9.frozen? ⟨w2.heap.size, 2, none⟩ = false := frozen_row (vs := [.int .i64 (fn : Int), .int .i64 O, .slice OA on oc]) hU9 2
                      refine hK.out _ _ ?_ (fun hHeld => ?_)
                      · try dsimp only
                        exact ⟨cell_of_block hT9 rfl, cell_of_block hT9 rfl⟩
                      clear hK K
                      try simp only [Act.put, List.setIfInBounds_toArray, List.set_cons_zero, List.set_cons_succ]
                      refine wpAnyH_take (i := 8) (oi := ⟨some 99, _, _, _, _, _⟩) (v := ?v8_7) rfl (by kernel_rfl) (by kernel_rfl) (by kernel_rfl) (fun _ _ _ h => h) (Or.inl ⟨by rfl, ?hy8_7⟩) (by assumption) ?rest8_7
                      case hy8_7 => intro w hSw; (try dsimp only at hSw); go_simp; try with_reducible rfl
                      try simp only [Act.put, List.setIfInBounds_toArray, List.set_cons_zero, List.set_cons_succ]
                      refine wpAnyH_ready (rs := [9]) (by kernel_rfl) (by simp) ?_
                      refine AllReadyH.cons rfl (fun K hK => ?_) AllReadyH.nil
                      go_simp
                      refine hK.out _ _ ?_ (fun hHeld => ?_)
                      · try dsimp only
                        exact ⟨cell_of_block ((setCell_other (Ne.symm hpo) _ _).trans hT9) rfl, cell_of_block ((setCell_other (Ne.symm hpo) _ _).trans hT9) rfl⟩
                      clear hK K
                      try simp only [Act.put, List.setIfInBounds_toArray, List.set_cons_zero, List.set_cons_succ]
                      refine wpAnyH_done (by kernel_rfl) ?_ _
                      refine NoPanic.normal ?_
                      have hheads := Heads.snocs HHH.out bS' hh8.1 (fun j a b => (hh8.2.2.1 j a b).mono hb7z) (fun h hh k hk => by
                        obtain ⟨j, hj, rfl⟩ := List.mem_iff_getElem.1 hh
                        exact ((hh8.2.2.1 j hj (by rw [← hh8.1]; exact hj)).lt k hk).1) hh8.2.2.2.2 hm9 hg9 hA9
                      have hown9 : OwnOps w9 w2.heap.size A' (on + tc8.length) c' (baseOps 0 base ++ treesCode (ts.take k) base.length ++ tc8) := ⟨⟨_, hheads⟩, fun u hu => by
                        rcases List.mem_append.1 hu with hu | hu
                        · exact HOWN7.out.rng u hu
                        · exact ho8.rng u hu⟩
                      have hown10 := hown9.kept_ty hU9 (by decide) (by decide) (setCell_grownBy w9 w2.heap.size 2 (.slice A' (on + tc8.length) c'))
                      rw [HNEW.out] at hown10
                      have hU10 := setCell_row (vs := [.int .i64 (fn : Int), .int .i64 O, .slice OA on oc]) hU9 2 (.slice A' (on + tc8.length) c')
                      have hb10 := (below_grown (below_then HB7.out HB7.out.size bS') (Nat.le_trans hb7z bS'.size) hg9 HLTA.out).setCell (p := ⟨w2.heap.size, 2, none⟩) (Nat.le_refl _) (.slice A' (on + tc8.length) c')
                      generalize w9.setCell ⟨w2.heap.size, 2, none⟩ (.slice A' (on + tc8.length) c') = w10 at hown10 hU10 hb10 ⊢
                      clear hheads hown9 hm9 hg9 hA9 hU9 hT9 u9 z9 hh8 ho8 bS bS' p2 p2' hdr
                      go_wp2
                      go_roundw
                      case rel => exact ⟨k + 1, on + tc8.length, A', c', by go_num, hkt, HTF2, HOK2, hU10, hown10, hb10⟩
                      case measure => simp [intOf]; omega
                    · go_simp
                      refine (HCD.out _ hdr).mono ?_
                      rintro e w8 ⟨B8, m8, d8, rfl, ho8, bS⟩
                      have hl8 := ho8.len
                      obtain ⟨hs8, hh8⟩ := ho8.hds
                      subst hl8
                      obtain ⟨g8, rfl, hg81, -⟩ := hh8.2.1.some_of hcp
                      have bS' := chainB (w3 := w7) hdr bS
                      have p2' : w8.cell? ⟨w2.heap.size, 2, none⟩ = some (.slice OA on oc) := cell_of_block ((bS'.block _ (lt_of_block HP7.out)).trans HP7.out) rfl
                      go_simp
                      refine hK.out _ _ ?_ (fun hHeld => ?_)
                      · try dsimp only
                        exact KSx.out _ bS'
                      clear hK K
                      try simp only [Act.put, List.setIfInBounds_toArray, List.set_cons_zero, List.set_cons_succ]
                      refine wpAnyH_ready (rs := [1]) (by kernel_rfl) (by simp) ?_
                      refine AllReadyH.cons rfl (fun K hK => ?_) AllReadyH.nil
                      go_simp
                      refine hK.out _ _ ?_ (fun hHeld => ?_)
                      · try dsimp only
                        exact KSx.out _ bS'
                      clear hK K
                      try simp only [Act.put, List.setIfInBounds_toArray, List.set_cons_zero, List.set_cons_succ]
                      refine wpAnyH_ready (rs := [7]) (by kernel_rfl) (by simp) ?_
                      refine AllReadyH.cons rfl (fun K hK => ?_) AllReadyH.nil
                      refine step_appAll w2.heap.size (by rfl) _ _ _ _ _ 8 80 (by rfl) Tryz.underlying28 Tryz.info_op rfl (by omega) OA on oc _ ⟨g8, 0, none⟩ tc8.length d8 (flatOps hs8 tc8) (flatOps_length hs8 tc8 hh8.1) (fun j u hu => by rw [add_row0, hh8.2.1.cell j (by rw [← flatOps_length hs8 tc8 hh8.1]; exact (List.getElem?_eq_some_iff.1 hu).1), List.getD_eq_getElem?_getD, hu]; rfl) (by rfl) (by rfl) (flatOps_one _ _) (HMK.out _ bS') (Nat.le_trans hb7z bS'.size) hcp HCL.out ?_
                      intro A' c' w9 hm9 hg9 hA9
                      have hU9 := keep_ty hg9 ((bS'.block _ (lt_of_block HP7.out)).trans HP7.out) (HTY.out _ bS') (by decide)
                      have hT9 := keep_ty hg9 ((bS'.block _ (lt_of_block HO7.out)).trans HO7.out) (HTY.out _ bS') (by decide)
                      have u9 : w9.cell? ⟨w2.heap.size, 2, none⟩ = some (.slice OA on oc) := cell_of_block hU9 rfl
                      have z9 : w9.frozen? ⟨w2.heap.size, 2, none⟩ = false := frozen_row (vs := [.int .i64 (fn : Int), .int .i64 O, .slice OA on oc]) hU9 2
                      refine hK.out _ _ ?_ (fun hHeld => ?_)
                      · try dsimp only
                        exact ⟨cell_of_block hT9 rfl, cell_of_block hT9 rfl⟩
                      clear hK K
                      try simp only [Act.put, List.setIfInBounds_toArray, List.set_cons_zero, List.set_cons_succ]
                      refine wpAnyH_take (i := 8) (oi := ⟨some 99, _, _, _, _, _⟩) (v := ?v8_8) rfl (by kernel_rfl) (by kernel_rfl) (by kernel_rfl) (fun _ _ _ h => h) (Or.inl ⟨by rfl, ?hy8_8⟩) (by assumption) ?rest8_8
                      case hy8_8 => intro w hSw; (try dsimp only at hSw); go_simp; try with_reducible rfl
                      try simp only [Act.put, List.setIfInBounds_toArray, List.set_cons_zero, List.set_cons_succ]
                      refine wpAnyH_ready (rs := [9]) (by kernel_rfl) (by simp) ?_
                      refine AllReadyH.cons rfl (fun K hK => ?_) AllReadyH.nil
                      go_simp
                      refine hK.out _ _ ?_ (fun hHeld => ?_)
                      · try dsimp only
                        exact ⟨cell_of_block ((setCell_other (Ne.symm hpo) _ _).trans hT9) rfl, cell_of_block ((setCell_other (Ne.symm hpo) _ _).trans hT9) rfl⟩
                      clear hK K
                      try simp only [Act.put, List.setIfInBounds_toArray, List.set_cons_zero, List.set_cons_succ]
                      refine wpAnyH_done (by kernel_rfl) ?_ _
                      refine NoPanic.normal ?_
                      have hheads := Heads.snocs HHH.out bS' hh8.1 (fun j a b => (hh8.2.2.1 j a b).mono hb7z) (fun h hh k hk => by
                        obtain ⟨j, hj, rfl⟩ := List.mem_iff_getElem.1 hh
                        exact ((hh8.2.2.1 j hj (by rw [← hh8.1]; exact hj)).lt k hk).1) hh8.2.2.2.2 hm9 hg9 hA9
                      have hown9 : OwnOps w9 w2.heap.size A' (on + tc8.length) c' (baseOps 0 base ++ treesCode (ts.take k) base.length ++ tc8) := ⟨⟨_, hheads⟩, fun u hu => by
                        rcases List.mem_append.1 hu with hu | hu
                        · exact HOWN7.out.rng u hu
                        · exact ho8.rng u hu⟩
                      have hown10 := hown9.kept_ty hU9 (by decide) (by decide) (setCell_grownBy w9 w2.heap.size 2 (.slice A' (on + tc8.length) c'))
                      rw [HNEW.out] at hown10
                      have hU10 := setCell_row (vs := [.int .i64 (fn : Int), .int .i64 O, .slice OA on oc]) hU9 2 (.slice A' (on + tc8.length) c')
                      have hb10 := (below_grown (below_then HB7.out HB7.out.size bS') (Nat.le_trans hb7z bS'.size) hg9 HLTA.out).setCell (p := ⟨w2.heap.size, 2, none⟩) (Nat.le_refl _) (.slice A' (on + tc8.length) c')
                      generalize w9.setCell ⟨w2.heap.size, 2, none⟩ (.slice A' (on + tc8.length) c') = w10 at hown10 hU10 hb10 ⊢
                      clear hheads hown9 hm9 hg9 hA9 hU9 hT9 u9 z9 hh8 ho8 bS bS' p2 p2' hdr
                      go_wp2
                      go_roundw
                      case rel => exact ⟨k + 1, on + tc8.length, A', c', by go_num, hkt, HTF2, HOK2, hU10, hown10, hb10⟩
                      case measure => simp [intOf]; omega
                · have HRR := Lib.hid (show R = ([], 72) by
                    have htf : treesFault (fn : Int) O ts = 72 := by
                      rw [HTD.out, HTD2.out]; rfl
                    rw [HV.out, htf]; rfl)
                  have B7 := below_then HB2.out HB2.out.size hb7
                  obtain ⟨s0, s1, s2, z0, z1, z2⟩ := zero_box (KR.out _ hb7)
                  have HBB := Lib.hid (((B7.setCell (p := ⟨w.heap.size + 1, 0, none⟩) (by simp) (.int .i64 0)).setCell (p := ⟨w.heap.size + 1, 1, none⟩) (by simp) (.int .i64 0)).setCell (p := ⟨w.heap.size + 1, 2, none⟩) (by simp) (.slice none 0 0))
                  clear hb7 b7 B7
                  go_wp2_with fail
                  refine bodyPost_ret (v := .tuple #[.agg #[.int .i64 0, .int .i64 0, .slice none 0 0], .int .i64 72]) (by simp [results, Tryz.results14, go_sem, *]) rfl ?_
                  rw [HRR.out]
                  exact ⟨none, 0, 0, rfl, OwnOps.nil _ _, HBB.out⟩
          · have f1 : (sw1 != 0) = true := by simpa using hs0
            have f2 : decide (sw1 = 0) = false := by simpa using hs0
            have HRR := Lib.hid (show R = ([], sw1) by
              have htf : treesFault (fn : Int) O ts = sw1 := by
                rw [HTD.out]; unfold treeFault; rw [HSW.out]; simp [hs0]
              rw [HV.out, htf, if_pos hs0])
            have HS0 := Lib.hid hs0
            have HBB := Lib.hid (((B6.setCell (p := ⟨w.heap.size + 1, 0, none⟩) (by simp) (.int .i64 0)).setCell (p := ⟨w.heap.size + 1, 1, none⟩) (by simp) (.int .i64 0)).setCell (p := ⟨w.heap.size + 1, 2, none⟩) (by simp) (.slice none 0 0))
            clear hs0 kR kE hO6 hP6 hown6 hb6 hn6
            go_wp2_with fail
            refine bodyPost_ret (v := .tuple #[.agg #[.int .i64 0, .int .i64 0, .slice none 0 0], .int .i64 sw1]) (by simp [results, Tryz.results14, go_sem, *]) rfl ?_
            rw [HRR.out]
            exact ⟨none, 0, 0, by simp only [if_neg HS0.out], OwnOps.nil _ _, HBB.out⟩
        · obtain rfl : k = tn := by omega
          have k2' : decide ((k : Int) < (k : Int)) = false := by simp
          have htf : treesFault (fn : Int) O ts = 0 := by rw [HTF.out, List.drop_of_length_le (by rw [HTL.out]; exact Nat.le_refl _)]; rfl
          have HRR := Lib.hid (show R = (baseOps 0 base ++ treesCode ts base.length ++ [endOp], 0) by rw [HV.out, htf]; rfl)
          have HOK2 := Lib.hid (show ∀ t ∈ ts, treeFault (fn : Int) O t = 0 by
            have := HOK.out
            rwa [List.take_of_length_le (by rw [HTL.out]; exact Nat.le_refl _)] at this)
          rw [List.take_of_length_le (by rw [HTL.out]; exact Nat.le_refl _)] at hown
          have hbq := hbr
          clear htf
          have hlen := hown.len
          have hbl := HB.out.len
          have htl := treesCode_length ts base.length (fun u hu => rightT_fault (HOK2.out u hu))
          simp only [List.length_append, baseOps_length] at hlen
          have hon : on ≤ 1000000000000 := by have := HSUM.out; omega
          have p2 : wr.cell? ⟨w2.heap.size, 2, none⟩ = some (.slice OA on oc) := cell_of_block hP rfl
          have hn8 := heap_alloc_new wr (.cells #[.int .u8 5, .int .i64 0, .float .f64 0, .slice none 0 0, .int .u8 0, .int .i64 0, .int .i64 0, .int .i64 0] 75)
          have b9 := (Below.refl wr.heap.size wr).alloc (Nat.le_refl _) (.cells #[.int .u8 5, .int .i64 0, .float .f64 0, .slice none 0 0, .int .u8 0, .int .i64 0, .int .i64 0, .int .i64 0] 75)
          obtain ⟨hs, hh⟩ := hown.hds
          have hmk8 := hh.2.1.below b9
          have hP9 := (b9.block _ (lt_of_block hP)).trans hP
          have HN8 := Lib.hid hn8
          have HP9 := Lib.hid hP9
          have HB9 := Lib.hid b9
          have hbz := Nat.le_trans hbq.size b9.size
          have hty : ∀ r, blockOf OA = some r → ∃ c2, (wr.alloc (.cells #[.int .u8 5, .int .i64 0, .float .f64 0, .slice none 0 0, .int .u8 0, .int .i64 0, .int .i64 0, .int .i64 0] 75)).heap[r]? = some (.cells c2 75 (0, 0)) := fun r hr => hmk8.ty hr
          have hlp := lt_of_block hP
          clear hn8 b9 hP9 hlen hbl htl
          go_upto_region 22 with (at_builtin; refine app_boxK w2.heap.size rfl _ _ _ _ _ 8 80 rfl Tryz.underlying28 Tryz.info_op rfl (by omega) OA on oc (flatOps hs (baseOps 0 base ++ treesCode ts base.length)) wr.heap.size 1 1 _ _ HN8.out rfl rfl rfl (opRow_one (none, 0, 0) endOp) hmk8 hbz (by omega) (by omega) ?_; rintro A' c' w9 hm9 hg9 hA9; have hU9 := keep_ty hg9 HP9.out hty (by decide); have u9 : w9.cell? ⟨w2.heap.size, 2, none⟩ = some (.slice OA on oc) := cell_of_block hU9 rfl; have z9 : w9.frozen? ⟨w2.heap.size, 2, none⟩ = false := frozen_row (vs := [.int .i64 (fn : Int), .int .i64 O, .slice OA on oc]) hU9 2)
          have hU9 := keep_ty hg9 HP9.out hty (by decide)
          have hown9 := OwnOps.snoc (v := endOp) (hd := (none, 0, 0)) hh hown.rng HB9.out (.inl ⟨rfl, rfl, rfl⟩) (by constructor <;> simp [endOp]) (by simp [endOp]) (fun k hk => by simp [hdBlock] at hk) hm9 hg9 hA9
          have hown10 := hown9.kept_ty hU9 (by decide) (by decide) (setCell_grownBy w9 w2.heap.size 2 (.slice A' (on + 1) c'))
          have hU10 : (w9.setCell ⟨w2.heap.size, 2, none⟩ (.slice A' (on + 1) c')).heap[w2.heap.size]? = some (.cells #[.int .i64 (fn : Int), .int .i64 O, .slice A' (on + 1) c'] 30 (0, 0)) := setCell_row (vs := [.int .i64 (fn : Int), .int .i64 O, .slice OA on oc]) hU9 2 _
          have hb10 := (below_grown (below_then hbq hbq.size HB9.out) hbz hg9 (fun k hk => (hmk8.lt k hk).1)).setCell (p := ⟨w2.heap.size, 2, none⟩) (Nat.le_refl _) (.slice A' (on + 1) c')
          generalize w9.setCell ⟨w2.heap.size, 2, none⟩ (.slice A' (on + 1) c') = w10 at hown10 hU10 hb10 ⊢
          have kRf := KR.out _ hb10
          obtain ⟨s0, s1, s2, z0, z1, z2⟩ := zero_box kRf
          have v0 : w10.cell? ⟨w2.heap.size, 0, none⟩ = some (.int .i64 (fn : Int)) := cell_of_block hU10 rfl
          have v1 : w10.cell? ⟨w2.heap.size, 1, none⟩ = some (.int .i64 O) := cell_of_block hU10 rfl
          have v2 : w10.cell? ⟨w2.heap.size, 2, none⟩ = some (.slice A' (on + 1) c') := cell_of_block hU10 rfl
          have HFB := Lib.hid ((((below_then HB2.out HB2.out.size hb10).setCell (p := ⟨w.heap.size + 1, 0, none⟩) (by simp) (.int .i64 (fn : Int))).setCell (p := ⟨w.heap.size + 1, 1, none⟩) (by simp) (.int .i64 O)).setCell (p := ⟨w.heap.size + 1, 2, none⟩) (by simp) (.slice A' (on + 1) c'))
          have hgg := World.grownBy.trans (World.grownBy.trans (setCell_grownBy w10 (w.heap.size + 1) 0 (.int .i64 (fn : Int))) (setCell_grownBy _ (w.heap.size + 1) 1 (.int .i64 O))) (setCell_grownBy _ (w.heap.size + 1) 2 (.slice A' (on + 1) c'))
          have HFO := Lib.hid ((hown10.kept_ty kRf (by decide) (by decide) hgg).mono (Nat.le_trans (Nat.le_refl _) HB2.out.size))
          clear p2 hown9 hm9 hg9 hA9 hmk8 hty hU9 hgg hown10 hU10 kRf
          go_wp2_with fail
          refine bodyPost_ret (v := .tuple #[.agg #[.int .i64 (fn : Int), .int .i64 O, .slice A' (on + 1) c'], .int .i64 0]) (by simp [results, Tryz.results14, go_sem, *]) rfl ?_
          rw [HRR.out]
          exact ⟨A', on + 1, c', rfl, HFO.out, HFB.out⟩

theorem rCompile_any (name : ByteArray) (FA : Option Addr) (fn fc : Nat) (O : Int) (BA : Option Addr) (bn bc : Nat) (TA : Option Addr) (tn tc : Nat) (base : List Int) (ts : List TrV) (w : World) (hb : Ints w BA bn bc base) (ht : TrsAt w TA tn tc ts) (hsum : manyNodes ts ≤ 1048576) :
    Calls Tryz.prog 14 #[.agg #[.string name, .slice FA fn fc, .int .i64 O, .slice BA bn bc, .slice TA tn tc]] w (CompilePost (fn : Int) O (compileV (fn : Int) O base ts) w) := by
  by_cases hbad : O < 1 ∨ 64 < O ∨ (bn : Int) ≠ O ∨ 65536 < (fn : Int)
  · exact rCompile_size name FA fn fc O BA bn bc TA tn tc base ts w hb.len hbad
  · exact rCompile_good name FA fn fc O BA bn bc TA tn tc base ts w hb ht (by omega) (by omega) (by omega) (by omega) hsum

end Go.Proofs.YtekcpapkicmckaaGreatDoor
