/- The contract of thicketref19.Copy. -/
import Derived.Test.YtekcpapkicmckaaGreatDoorOpn
import Derived.Test.YtekcpapkicmckaaGreatDoorRnn
namespace Go.Proofs.YtekcpapkicmckaaGreatDoor
open Go.RowKit

section
variable {P : Program}
/-- append(nil, ys...) -/
theorem app_nil_all {ops : Array Oper} {rest : List Oper} {o : Oper} {a : Act} {Q : Exit → Act → World → Prop} {W : World} (base : Nat) (hgd : o.guard = none) (s x : Operand) (t e : TypeId) (z : Value) (bytes : Nat)
    (ho : o.op = .call { callee := .builtin .append, args := #[s, x], argTypes := #[t, t] })
    (ht : P.underlying t = some (.slice e)) (hinfo : (P.info? e).map (fun i => (i.zero, i.size, i.bytes)) = some (some z, 1, bytes)) (hz : z.cells.size = 1) (hb0 : 0 < bytes)
    (B : Option Addr) (m d : Nat) (ys : List Value) (hs : a.eval s = .slice none 0 0) (hx : a.eval x = .slice B m d) (h1 : ∀ u ∈ ys, u.oneCell' = true)
    (hr : Sl W B m d ys) (hbase : base ≤ W.heap.size) (hl : m * bytes ≤ 140737488355328)
    (h : ∀ A' c' w', Mine e w' base A' m c' ys → W.grownBy w' none → (∀ k, blockOf A' = some k → W.heap.size ≤ k) → wpList P ops Q rest (a.put o.dst (.slice A' m c')) w') :
    wpList P ops Q (o :: rest) a W := by
  refine app_all base hgd s x t e z bytes ho ht hinfo hz hb0 none 0 0 [] B m d ys hs hx h1 (Mine.nil _ _ _) hr hbase (by simpa using hl) (fun _ => .inr ⟨rfl, rfl, rfl⟩) (fun h0 => ?_) (fun hp A' c' w' hm hg hA => ?_)
  · subst h0
    have hy : ys = [] := List.eq_nil_of_length_eq_zero hr.len
    subst hy
    exact h none 0 W (Mine.nil _ _ _) ⟨rfl, rfl, rfl, Nat.le_refl _, fun _ _ _ => rfl⟩ (fun k hk => by cases hk)
  · rw [List.nil_append] at hm
    rw [Nat.zero_add] at hm ⊢
    refine h A' c' w' hm hg (fun k hk => ?_)
    rcases hA with e | ⟨k', e, hk'⟩
    · rw [e] at hk; cases hk
    · rw [e] at hk; injection hk with hk; omega
end

theorem i64s_one (zs : List Int) : ∀ u ∈ i64s zs, u.oneCell' = true := by
  intro u hu
  obtain ⟨x, _, rfl⟩ := List.mem_map.1 hu
  rfl
theorem opRow_one (h : Hd) (v : OpV) : ∀ u ∈ opRow h v, u.oneCell' = true := by
  intro u hu
  simp only [opRow, opCells, List.mem_cons, List.not_mem_nil, or_false] at hu
  rcases hu with rfl | rfl | rfl | rfl | rfl | rfl | rfl | rfl <;> rfl
theorem Tryz.info_op : (Tryz.prog.info? 75).map (fun i => (i.zero, i.size, i.bytes)) = some (some (.agg #[.int .u8 0, .int .i64 0, .float .f64 0, .slice none 0 0, .int .u8 0, .int .i64 0, .int .i64 0, .int .i64 0]), 8, 80) := by kernel_rfl

/-- a block below the base written over -/
theorem OwnOps.kept {w w' : World} {base : Nat} {A : Option Addr} {n c : Nat} {ops : List OpV} (h : OwnOps w base A n c ops) {g : Nat} (hg : w.grownBy w' (some g)) (hlt : g < base) : OwnOps w' base A n c ops := by
  obtain ⟨hs, e, hm, hc, h1, h2⟩ := h.hds
  refine ⟨⟨hs, e, hm.kept hg ?_, fun j a b => (hc j a b).kept hg ?_, h1, h2⟩, h.rng⟩
  · cases hA : blockOf A with
    | none => exact .inl rfl
    | some k => have := (hm.lt k hA).1; exact .inr (by intro e; injection e with e; omega)
  · cases hA : hdBlock hs[j] with
    | none => exact .inl rfl
    | some k => have := ((hc j a b).lt k hA).1; exact .inr (by intro e; injection e with e; omega)

/-- what Copy leaves -/
def CopyPost (F O : Int) (ops : List OpV) (w : World) (e : Ending) (w' : World) : Prop :=
  ∃ A n c, e = .returned (.agg #[.int .i64 F, .int .i64 O, .slice A n c]) ∧ OwnOps w' w.heap.size A n c ops ∧ Below w.heap.size w w'

set_option maxRecDepth 100000 in
set_option maxHeartbeats 4000000 in
theorem Copy_any (F O : Int) (A : Option Addr) (n c : Nat) (ops : List OpV) (w : World) (hp : OpsAt w A n c ops) (hn : n ≤ 1000000000000) (hcb : ∀ v ∈ ops, v.cats.length ≤ 1000000000000) :
    Calls Tryz.prog 18 #[.agg #[.int .i64 F, .int .i64 O, .slice A n c]] w (CopyPost F O ops w) := by
  have hlen := hp.len
  have HCB := Lib.hid hcb
  have HLEN := Lib.hid hlen
  have hnb := hp.big
  have hsf : ∀ (W : World) (a : Addr) (b : Nat), (store a (.float .f64 b)).run Tryz.prog W = stored Tryz.prog W a (.float .f64 b) .plain := fun W a b => run_store _ W a _ _ rfl
  clear hcb hlen
  go_enter Tryz.func18, Tryz.ntmps18
  go_upto_region 3 with (fail)
  have B3 := (((Below.refl w.heap.size w).alloc (Nat.le_refl _) (.cells #[.int .i64 F, .int .i64 O, .slice A n c] 30)).alloc (by simp) (.cells #[.int .i64 0, .int .i64 0, .slice none 0 0] 30)).alloc (by simp; omega) (.cells #[.int .i64 F, .int .i64 O, .slice none 0 0] 30)
  have hh : ∀ a b d : Obj, (((w.alloc a).alloc b).alloc d).heap[w.heap.size + 1]? = some b ∧ (((w.alloc a).alloc b).alloc d).heap[w.heap.size + 1 + 1]? = some d ∧ (((w.alloc a).alloc b).alloc d).heap.size = w.heap.size + 3 := fun a b d => by
    refine ⟨?_, ?_, by simp⟩
    · show (((w.heap.push a).push b).push d)[w.heap.size + 1]? = _
      simp only [Array.getElem?_push, Array.size_push]
      rw [if_neg (by omega), if_pos trivial]
    · show (((w.heap.push a).push b).push d)[w.heap.size + 1 + 1]? = _
      simp only [Array.getElem?_push, Array.size_push]
      rw [if_pos trivial]
  obtain ⟨hR3, hU3, hz3⟩ := hh (.cells #[.int .i64 F, .int .i64 O, .slice A n c] 30) (.cells #[.int .i64 0, .int .i64 0, .slice none 0 0] 30) (.cells #[.int .i64 F, .int .i64 O, .slice none 0 0] 30)
  clear hh
  generalize ((w.alloc (.cells #[.int .i64 F, .int .i64 O, .slice A n c] 30)).alloc (.cells #[.int .i64 0, .int .i64 0, .slice none 0 0] 30)).alloc (.cells #[.int .i64 F, .int .i64 O, .slice none 0 0] 30) = w3 at *
  have HP := Lib.hid hp
  have HZ3 := Lib.hid hz3
  have HU3 := Lib.hid hU3
  have HR3 := Lib.hid hR3
  clear hp hz3 hU3 hR3
  go_loopw [15] (fun ix wr => ∃ (i : Nat) (A1 : Option Addr) (c1 : Nat), ix = .int .i64 (i : Int) ∧ i ≤ n ∧ wr.heap[w.heap.size + 1 + 1]? = some (.cells #[.int .i64 F, .int .i64 O, .slice A1 i c1] 30 (0, 0)) ∧ OwnOps wr w3.heap.size A1 i c1 (ops.take i) ∧ w3.grownBy wr (some (w.heap.size + 1 + 1))) (fun ix _ => n - (intOf ix).toNat)
  case atStart => exact ⟨0, none, 0, rfl, Nat.zero_le _, HU3.out, OwnOps.nil _ _, ⟨rfl, rfl, rfl, Nat.le_refl _, fun _ _ _ => rfl⟩⟩
  case round =>
    obtain ⟨i, A1, c1, rfl, hi, hU, hown, hgr⟩ := hrel
    have hbr := below_grown (A := some ⟨w.heap.size + 1 + 1, 0, none⟩) B3 B3.size hgr (fun k hk => by simp [blockOf] at hk; omega)
    by_cases hlt : i < n
    · obtain ⟨b, o, rfl, hc⟩ := HP.out.cells (by omega)
      have hlen := HLEN.out
      obtain ⟨V1, V2, V3, hr', hic', hrg⟩ := hc i (by omega)
      have hr := rangeAt_below hr' hbr
      have hic := hic'.below hbr
      have hts : ops.take (i + 1) = ops.take i ++ [ops[i]'(by omega)] := by rw [List.take_succ_eq_append_getElem (by omega)]
      have hcl := HCB.out _ (List.getElem_mem (show i < ops.length by omega))
      generalize ops[i]'(by omega) = v at hr hic hrg hts hcl hr' hic'
      have HTS := Lib.hid hts
      have r0 : _ = some _ := range_cell (o := o + i * 8) hr 0 rfl
      rw [Nat.add_zero] at r0
      have r1 := range_cell hr 1 rfl
      have r2 := range_cell hr 2 rfl
      have r3 := range_cell hr 3 rfl
      have r4 := range_cell hr 4 rfl
      have r5 := range_cell hr 5 rfl
      have r6 := range_cell hr 6 rfl
      have r7 := range_cell hr 7 rfl
      have hlb : b < wr.heap.size := World.block_lt_of_cell? wr _ r0
      have i1 : (i : Int) < (n : Int) := by omega
      have i2 : decide ((i : Int) < (n : Int)) = true := by simpa using i1
      clear hc hr hr' hic' hlen hts
      go_upto_region 6 with (fail)
      have b5 := (Below.refl wr.heap.size wr).alloc (Nat.le_refl _) (.cells (opCells V1 V2 V3 v).toArray 75)
      have hO5 : (wr.alloc (.cells (opCells V1 V2 V3 v).toArray 75)).heap[wr.heap.size]? = some (.cells (opCells V1 V2 V3 v).toArray 75 (0, 0)) := heap_alloc_new wr _
      unfold opCells at b5 hO5
      have hz5 : (wr.alloc (.cells #[.int .u8 (v.kind : Int), .int .i64 v.feature, .float .f64 v.thr, .slice V1 V2 V3, .int .u8 (v.missing : Int), .int .i64 v.output, .int .i64 v.value, .int .i64 v.dest] 75)).heap.size = wr.heap.size + 1 := by simp
      generalize (wr.alloc (.cells #[.int .u8 (v.kind : Int), .int .i64 v.feature, .float .f64 v.thr, .slice V1 V2 V3, .int .u8 (v.missing : Int), .int .i64 v.output, .int .i64 v.value, .int .i64 v.dest] 75)) = w5 at b5 hO5 hz5 ⊢
      have hic5 := hic.below b5
      have c3 : w5.cell? ⟨wr.heap.size, 3, none⟩ = some (.slice V1 V2 V3) := cell_of_block hO5 rfl
      have HIC := Lib.hid hic5.sl
      have HCR := Lib.hid hic5.rng
      have hml : V2 ≤ 1000000000000 := by have := hic5.len; omega
      have hgz := hgr.size
      have hb5z : w3.heap.size ≤ w5.heap.size := by omega
      have HO5 := Lib.hid hO5
      have HZ5 := Lib.hid hz5
      have HB5 := Lib.hid b5
      clear r0 r1 r2 r3 r4 r5 r6 r7 hlb hic hic5 hO5 hz5 b5
      go_upto_region 7 with (at_builtin; refine app_nil_all w3.heap.size rfl _ _ _ _ (.int .i64 0) 8 rfl Tryz.underlying44 Tryz.info_int rfl (by omega) V1 V2 V3 (i64s v.cats) rfl rfl (i64s_one _) HIC.out hb5z (by omega) ?_; rintro B' d' w6 hm6 hg6 hb6; have hO6 := (hg6.block _ (by have := HZ5.out; omega) (by simp)).trans HO5.out; have c3' : w6.cell? ⟨wr.heap.size, 3, none⟩ = some (.slice V1 V2 V3) := cell_of_block hO6 rfl; have z3 : w6.frozen? ⟨wr.heap.size, 3, none⟩ = false := frozen_row (vs := [.int .u8 (v.kind : Int), .int .i64 v.feature, .float .f64 v.thr, .slice V1 V2 V3, .int .u8 (v.missing : Int), .int .i64 v.output, .int .i64 v.value, .int .i64 v.dest]) hO6 3)
      have b5 := HB5.out
      have hz5 := HZ5.out
      have b6 := below_then b5 b5.size (below_of_grownBy hg6)
      have b7 := b6.setCell (p := ⟨wr.heap.size, 3, none⟩) (Nat.le_refl _) (.slice B' V2 d')
      have hO7 : (w6.setCell ⟨wr.heap.size, 3, none⟩ (.slice B' V2 d')).heap[wr.heap.size]? = some (.cells (opRow (B', V2, d') v).toArray 75 (0, 0)) :=
        setCell_row (vs := [.int .u8 (v.kind : Int), .int .i64 v.feature, .float .f64 v.thr, .slice V1 V2 V3, .int .u8 (v.missing : Int), .int .i64 v.output, .int .i64 v.value, .int .i64 v.dest]) ((hg6.block _ (by omega) (by simp)).trans HO5.out) 3 _
      have hm7 : Mine 3 (w6.setCell ⟨wr.heap.size, 3, none⟩ (.slice B' V2 d')) w3.heap.size B' V2 d' (i64s v.cats) := hm6.kept (setCell_grownBy w6 wr.heap.size 3 _) (by
        cases hB : blockOf B' with
        | none => exact .inl rfl
        | some k => have := hb6 k hB; exact .inr (by intro e; injection e with e; omega))
      generalize w6.setCell ⟨wr.heap.size, 3, none⟩ (.slice B' V2 d') = w7 at b7 hO7 hm7 ⊢
      have hU7 := (b7.block _ (lt_of_block hU)).trans hU
      have u2 : w7.cell? ⟨w.heap.size + 1 + 1, 2, none⟩ = some (.slice A1 i c1) := cell_of_block hU7 rfl
      unfold opRow opCells at hO7
      have q0 : w7.cell? ⟨wr.heap.size, 0, none⟩ = some (.int .u8 (v.kind : Int)) := cell_of_block hO7 rfl
      have q1 : w7.cell? ⟨wr.heap.size, 1, none⟩ = some (.int .i64 v.feature) := cell_of_block hO7 rfl
      have q2 : w7.cell? ⟨wr.heap.size, 2, none⟩ = some (.float .f64 v.thr) := cell_of_block hO7 rfl
      have q3 : w7.cell? ⟨wr.heap.size, 3, none⟩ = some (.slice B' V2 d') := cell_of_block hO7 rfl
      have q4 : w7.cell? ⟨wr.heap.size, 4, none⟩ = some (.int .u8 (v.missing : Int)) := cell_of_block hO7 rfl
      have q5 : w7.cell? ⟨wr.heap.size, 5, none⟩ = some (.int .i64 v.output) := cell_of_block hO7 rfl
      have q6 : w7.cell? ⟨wr.heap.size, 6, none⟩ = some (.int .i64 v.value) := cell_of_block hO7 rfl
      have q7 : w7.cell? ⟨wr.heap.size, 7, none⟩ = some (.int .i64 v.dest) := cell_of_block hO7 rfl
      have hn8 := heap_alloc_new w7 (.cells #[.int .u8 (v.kind : Int), .int .i64 v.feature, .float .f64 v.thr, .slice B' V2 d', .int .u8 (v.missing : Int), .int .i64 v.output, .int .i64 v.value, .int .i64 v.dest] 75)
      have b8 := b7.alloc b7.size (.cells #[.int .u8 (v.kind : Int), .int .i64 v.feature, .float .f64 v.thr, .slice B' V2 d', .int .u8 (v.missing : Int), .int .i64 v.output, .int .i64 v.value, .int .i64 v.dest] 75)
      have hm8 := hm7.below ((Below.refl w7.heap.size w7).alloc (Nat.le_refl _) (.cells #[.int .u8 (v.kind : Int), .int .i64 v.feature, .float .f64 v.thr, .slice B' V2 d', .int .u8 (v.missing : Int), .int .i64 v.output, .int .i64 v.value, .int .i64 v.dest] 75))
      obtain ⟨hs, hh⟩ := hown.hds
      have hmk8 := hh.2.1.below b8
      have hU8 := (b8.block _ (lt_of_block hU)).trans hU
      have HB8 := Lib.hid b8
      have HM8 := Lib.hid hm8
      have HN8 := Lib.hid hn8
      have HU8 := Lib.hid hU8
      have hb8z : w3.heap.size ≤ (w7.alloc (.cells #[.int .u8 (v.kind : Int), .int .i64 v.feature, .float .f64 v.thr, .slice B' V2 d', .int .u8 (v.missing : Int), .int .i64 v.output, .int .i64 v.value, .int .i64 v.dest] 75)).heap.size := Nat.le_trans hgz b8.size
      have hAl := hh.2.1.lt
      have huz : w.heap.size + 1 + 1 < w3.heap.size := by have := HZ3.out; omega
      clear b5 b6 b7 b8 hm7 hm8 hO7 hU7 hU8 hn8 hz5 c3
      go_upto_region 8 with (at_builtin; refine app_boxK w3.heap.size rfl _ _ _ _ _ 8 80 rfl Tryz.underlying28 Tryz.info_op rfl (by omega) A1 i c1 (flatOps hs (ops.take i)) w7.heap.size 1 1 _ _ HN8.out rfl rfl rfl (opRow_one (B', V2, d') v) hmk8 hb8z (by omega) (by omega) ?_; rintro A' c' w9 hm9 hg9 hA9; have hU9 := (hg9.block _ (lt_of_block HU8.out) (fun e => by have := (hAl _ e.symm).1; omega)).trans HU8.out; have u9 : w9.cell? ⟨w.heap.size + 1 + 1, 2, none⟩ = some (.slice A1 i c1) := cell_of_block hU9 rfl; have z9 : w9.frozen? ⟨w.heap.size + 1 + 1, 2, none⟩ = false := frozen_row (vs := [.int .i64 F, .int .i64 O, .slice A1 i c1]) hU9 2)
      have hownC : CatOwn (w7.alloc (.cells #[.int .u8 (v.kind : Int), .int .i64 v.feature, .float .f64 v.thr, .slice B' V2 d', .int .u8 (v.missing : Int), .int .i64 v.output, .int .i64 v.value, .int .i64 v.dest] 75)) w3.heap.size (B', V2, d') v.cats := .inr HM8.out
      have hown9 := OwnOps.snoc hh hown.rng HB8.out hownC hrg HCR.out (fun k hk => by
        unfold hdBlock at hk
        split at hk
        · cases hk
        · have := hb6 k hk; have := HZ5.out; omega) hm9 hg9 hA9
      have hsg := setCell_grownBy w9 (w.heap.size + 1 + 1) 2 (.slice A' (i + 1) c')
      have hown10 := hown9.kept hsg huz
      rw [← HTS.out] at hown10
      have hU10 : (w9.setCell ⟨w.heap.size + 1 + 1, 2, none⟩ (.slice A' (i + 1) c')).heap[w.heap.size + 1 + 1]? = some (.cells #[.int .i64 F, .int .i64 O, .slice A' (i + 1) c'] 30 (0, 0)) :=
        setCell_row (vs := [.int .i64 F, .int .i64 O, .slice A1 i c1]) ((hg9.block _ (lt_of_block HU8.out) (fun e => by have := (hAl _ e.symm).1; omega)).trans HU8.out) 2 _
      have hgr10 : w3.grownBy (w9.setCell ⟨w.heap.size + 1 + 1, 2, none⟩ (.slice A' (i + 1) c')) (some (w.heap.size + 1 + 1)) := by
        refine ⟨hsg.os.trans (hg9.os.trans (HB8.out.os.trans hgr.os)), hsg.tape.trans (hg9.tape.trans (HB8.out.tape.trans hgr.tape)), hsg.output.trans (hg9.output.trans (HB8.out.output.trans hgr.output)), Nat.le_trans (Nat.le_trans hb8z hg9.size) hsg.size, fun k hk hne => ?_⟩
        have hk8 := Nat.lt_of_lt_of_le hk hb8z
        refine (hsg.block k (Nat.lt_of_lt_of_le hk8 hg9.size) hne).trans ((hg9.block k hk8 (fun e => ?_)).trans ((HB8.out.block k (Nat.lt_of_lt_of_le hk hgz)).trans (hgr.block k hk hne)))
        have := (hAl k e.symm).1
        omega
      generalize w9.setCell ⟨w.heap.size + 1 + 1, 2, none⟩ (.slice A' (i + 1) c') = w10 at hown10 hU10 hgr10 ⊢
      clear u2 q0 q1 q2 q3 q4 q5 q6 q7 hsg hown9 hm9 hg9 hA9 hmk8
      go_wp2
      go_roundw
      case rel => exact ⟨i + 1, A', c', by go_num, hlt, hU10, hown10, hgr10⟩
      case measure => simp [intOf]; omega
    · obtain rfl : i = n := by omega
      have m1 : decide ((i : Int) < (i : Int)) = false := by simp
      have hRr := (hgr.block _ (lt_of_block HR3.out) (by simp)).trans HR3.out
      have u0 : wr.cell? ⟨w.heap.size + 1 + 1, 0, none⟩ = some (.int .i64 F) := cell_of_block hU rfl
      have u1 : wr.cell? ⟨w.heap.size + 1 + 1, 1, none⟩ = some (.int .i64 O) := cell_of_block hU rfl
      have u2 : wr.cell? ⟨w.heap.size + 1 + 1, 2, none⟩ = some (.slice A1 i c1) := cell_of_block hU rfl
      have s0 : wr.cell? ⟨w.heap.size + 1, 0, none⟩ = some (.int .i64 0) := cell_of_block hRr rfl
      have s1 : wr.cell? ⟨w.heap.size + 1, 1, none⟩ = some (.int .i64 0) := cell_of_block hRr rfl
      have s2 : wr.cell? ⟨w.heap.size + 1, 2, none⟩ = some (.slice none 0 0) := cell_of_block hRr rfl
      have z0 : wr.frozen? ⟨w.heap.size + 1, 0, none⟩ = false := frozen_row (vs := [.int .i64 0, .int .i64 0, .slice none 0 0]) hRr 0
      have z1 : wr.frozen? ⟨w.heap.size + 1, 1, none⟩ = false := frozen_row (vs := [.int .i64 0, .int .i64 0, .slice none 0 0]) hRr 1
      have z2 : wr.frozen? ⟨w.heap.size + 1, 2, none⟩ = false := frozen_row (vs := [.int .i64 0, .int .i64 0, .slice none 0 0]) hRr 2
      have hR1 := setCell_row (vs := [.int .i64 0, .int .i64 0, .slice none 0 0]) hRr 0 (.int .i64 F)
      have hR2 := setCell_row hR1 1 (.int .i64 O)
      have hR3 := setCell_row hR2 2 (.slice A1 i c1)
      have HR3' := Lib.hid hR3
      have HG3 := Lib.hid (World.grownBy.trans (World.grownBy.trans (setCell_grownBy wr (w.heap.size + 1) 0 (.int .i64 F)) (setCell_grownBy _ (w.heap.size + 1) 1 (.int .i64 O))) (setCell_grownBy _ (w.heap.size + 1) 2 (.slice A1 i c1)))
      have HBB := Lib.hid (((hbr.setCell (p := ⟨w.heap.size + 1, 0, none⟩) (by simp) (.int .i64 F)).setCell (p := ⟨w.heap.size + 1, 1, none⟩) (by simp) (.int .i64 O)).setCell (p := ⟨w.heap.size + 1, 2, none⟩) (by simp) (.slice A1 i c1))
      clear hR1 hR2 hR3
      go_wp2_with fail
      rw [List.take_of_length_le (by rw [HLEN.out]; exact Nat.le_refl _)] at hown
      have hz := HZ3.out
      refine bodyPost_ret (v := .agg #[.int .i64 F, .int .i64 O, .slice A1 i c1]) (results_cell_row (fn := Tryz.f18) (p := 2) (ty := 30) rfl _ _ (w.heap.size + 1) 30 #[.int .i64 F, .int .i64 O, .slice A1 i c1] (0, 0) _ rfl HR3'.out Tryz.underlying30 rfl (by kernel_rfl)) rfl
        ⟨A1, i, c1, rfl, (hown.kept HG3.out (by omega)).mono (by omega), HBB.out⟩

end Go.Proofs.YtekcpapkicmckaaGreatDoor
