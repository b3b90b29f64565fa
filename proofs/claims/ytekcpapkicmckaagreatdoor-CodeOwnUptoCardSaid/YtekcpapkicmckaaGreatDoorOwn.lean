/- thicketlaw19.spoil: it writes only into the lists of the program that it is given. Plain laws for CodeOwn: sizes of what Compile, Tidy and Run make. The walk of thicketlaw19.CodeOwn. -/
import Derived.Test.YtekcpapkicmckaaGreatDoorRcy
import Derived.Deep.RegionHeldLaw
import Derived.Deep.RegionHeld3
import Derived.StillTailTactics
import Derived.IntWalk
import Derived.Test.YtekcpapkicmckaaGreatDoorCpt
import Derived.Test.YtekcpapkicmckaaGreatDoorRwr
import Derived.Test.YtekcpapkicmckaaGreatDoorRtd
import Derived.Test.YtekcpapkicmckaaGreatDoorRcp
import Derived.Test.YtekcpapkicmckaaGreatDoorEns
namespace Go.Proofs.YtekcpapkicmckaaGreatDoor
open Go.RowKit

/-- all blocks but those from base to top are as they were -/
structure Btw (base top : Nat) (w w' : World) : Prop where
  os : w'.os = w.os
  tape : w'.tape = w.tape
  output : w'.output = w.output
  size : w.heap.size ≤ w'.heap.size
  block : ∀ k, k < w.heap.size → (k < base ∨ top ≤ k) → w'.heap[k]? = w.heap[k]?

section
variable {base top : Nat} {w X Y : World}
theorem Btw.refl (base top : Nat) (w : World) : Btw base top w w := ⟨rfl, rfl, rfl, Nat.le_refl _, fun _ _ _ => rfl⟩
theorem Btw.grown (h : Btw base top w X) {row : Option Nat} (hg : X.grownBy Y row) (hr : ∀ q, row = some q → (base ≤ q ∧ q < top) ∨ w.heap.size ≤ q) : Btw base top w Y :=
  ⟨hg.os.trans h.os, hg.tape.trans h.tape, hg.output.trans h.output, Nat.le_trans h.size hg.size, fun k h1 h2 => (hg.block k (Nat.lt_of_lt_of_le h1 h.size) (fun e => by rcases hr k e.symm with a | a <;> omega)).trans (h.block k h1 h2)⟩
theorem Btw.drew (h : Btw base top w X) : Btw base top w X.drew := ⟨h.os, h.tape, h.output, h.size, h.block⟩
theorem Btw.alloc (h : Btw base top w X) (o : Obj) : Btw base top w (X.alloc o) := h.grown (World.grownBy_alloc X o none) (fun q e => by cases e)
theorem Btw.setCell (h : Btw base top w X) {g : Nat} (hg : (base ≤ g ∧ g < top) ∨ w.heap.size ≤ g) (j : Nat) (v : Value) : Btw base top w (X.setCell ⟨g, j, none⟩ v) :=
  h.grown (setCell_grownBy X g j v) (fun q e => by injection e with e; subst e; exact hg)
theorem Btw.below (h : Btw base top w X) (hb : base ≤ w.heap.size) : Below base w X := ⟨h.os, h.tape, h.output, h.size, fun k hk => h.block k (by omega) (.inl hk)⟩

variable {sz : Nat} {T : TypeId} {b' : Nat} {A : Option Addr} {n c : Nat} {vs : List Value} {ops : List OpV}
theorem MineK.above (h : MineK sz T w b' A n c vs) (ht : top ≤ b') (hb : Btw base top w X) : MineK sz T X b' A n c vs :=
  ⟨h.len, h.cap, h.big, h.row.imp id fun ⟨g, rest, e, h1, h2, h3⟩ => ⟨g, rest, e, h1, (hb.block g (lt_of_block h2) (.inr (Nat.le_trans ht h1))).trans h2, h3⟩⟩
theorem Mine.above (h : Mine T w b' A n c vs) (ht : top ≤ b') (hb : Btw base top w X) : Mine T X b' A n c vs :=
  ⟨h.len, h.cap, h.big, h.row.imp id fun ⟨g, rest, e, h1, h2, h3⟩ => ⟨g, rest, e, h1, (hb.block g (lt_of_block h2) (.inr (Nat.le_trans ht h1))).trans h2, h3⟩⟩
theorem OwnOps.above (h : OwnOps w b' A n c ops) (ht : top ≤ b') (hb : Btw base top w X) : OwnOps X b' A n c ops := by
  obtain ⟨hs, e, hm, hc, h1, h2⟩ := h.hds
  exact ⟨⟨hs, e, hm.above ht hb, fun j a b => (hc j a b).imp id fun c => c.above ht hb, h1, h2⟩, h.rng⟩

/-- a program's operations in memory of the call's own, all of it below top -/
def OwnTop (w : World) (base top : Nat) (A : Option Addr) (n c : Nat) (ops : List OpV) : Prop :=
  ∃ hs : List Hd, Heads w base A n c ops hs ∧ (∀ q, blockOf A = some q → q < top) ∧ ∀ h ∈ hs, ∀ q, hdBlock h = some q → q < top
theorem OwnOps.ownTop (h : OwnOps w base A n c ops) : OwnTop w base w.heap.size A n c ops := by
  obtain ⟨hs, hh⟩ := h.hds
  obtain ⟨e, hm, hc, h1, h2⟩ := id hh
  refine ⟨hs, hh, fun q hq => (hm.lt q hq).2, fun u hu q hq => ?_⟩
  obtain ⟨j, hj, rfl⟩ := List.getElem_of_mem hu
  exact ((hc j hj (by omega)).lt q hq).2
theorem OwnTop.below (h : OwnTop w base top A n c ops) (hb : Below w.heap.size w X) : OwnTop X base top A n c ops := by
  obtain ⟨hs, ⟨e, hm, hc, h1, h2⟩, h3, h4⟩ := h
  exact ⟨hs, ⟨e, hm.below hb, fun j a b => (hc j a b).below hb, h1, h2⟩, h3, h4⟩
end

theorem Mine.toK1 {T : TypeId} {w : World} {base : Nat} {A : Option Addr} {n c : Nat} {vs : List Value} (h : Mine T w base A n c vs) : MineK 1 T w base A n c vs :=
  ⟨by rw [h.len]; omega, h.cap, h.big, h.row.imp id fun ⟨g, rest, e, h1, h2, h3⟩ => ⟨g, rest, e, h1, h2, by omega⟩⟩
theorem i64s_put (l : List Int) (i : Nat) (x : Int) : (i64s l).set i (.int .i64 x) = i64s (l.set i x) := by simp [i64s, List.map_set]

section
variable {P : Program}
/-- append to categories of the call's own: only their block is written -/
theorem run_append_cats (W : World) (base : Nat) (t ty : TypeId) (z : Value) (bytes : Nat) (ht : P.underlying t = some (.slice 3))
    (hinfo : (P.info? 3).map (fun i => (i.zero, i.size, i.bytes)) = some (some z, 1, bytes)) (hz : z.cells.size = 1) (hb0 : 0 < bytes)
    (HA : Option Addr) (n d : Nat) (zs : List Int) (hc : CatOwn W base (HA, n, d) zs) (a : Addr) (m c' : Nat) (news : List Value) (hl : news.length = m * 1) (hnews : ∀ j u, news[j]? = some u → W.cell? (a.add j) = some u) (h1 : ∀ u ∈ news, u.oneCell' = true)
    (hbytes : (n + m) * bytes ≤ 140737488355328) (hbase : base ≤ W.heap.size) (hpos : 0 < m) :
    ∃ A' c2 w', (Builtin.append_ #[t, t] ty #[.slice HA n d, .slice (some a) m c']).run P W = .ok (.slice A' (n + m) c2) w' ∧ W.grownBy w' (hdBlock (HA, n, d)) := by
  by_cases h0 : d = 0
  · have hn : n = 0 := by
      rcases hc with ⟨e, _, _⟩ | hc
      · exact e
      · have := hc.cap; simp only at this; omega
    subst h0; subst hn
    rw [show hdBlock (HA, 0, 0) = none by simp [hdBlock]]
    cases HA with
    | none =>
      obtain ⟨A', c2, w', hr, -, hg, -⟩ := run_append_mineK (P := P) W base t ty _ z 1 bytes ht hinfo hz hb0 none 0 0 [] (MineK.nil ..) a m c' news hl hnews h1 hbytes hbase hpos
      exact ⟨A', c2, w', hr, hg⟩
    | some b =>
      obtain ⟨i, hi, hzz⟩ := Option.map_eq_some_iff.1 hinfo
      simp only [Prod.mk.injEq] at hzz
      obtain ⟨hz0, hz1, hz2⟩ := hzz
      have hnm : 0 + m ≤ 140737488355328 := Nat.le_trans (Nat.le_mul_of_pos_right _ hb0) hbytes
      have hr := run_append_grow (P := P) W t ty _ i z ht hi hz0 b 0 0 [] (by simp) (by simp) a m c' news (by rw [hl, hz1]) hnews (by omega) (by omega) (growslice_fits (by omega) (by rw [hz2]; exact hbytes))
      exact ⟨_, _, _, hr, ⟨rfl, rfl, rfl, by simp, fun k hk _ => Below.heap_alloc W.drew _ k hk⟩⟩
  · rw [show hdBlock (HA, n, d) = blockOf HA by simp [hdBlock, h0]]
    rcases hc with ⟨_, h2, _⟩ | hc
    · exact absurd h2 h0
    · obtain ⟨A', c2, w', hr, -, hg, -⟩ := run_append_mineK (P := P) W base t ty _ z 1 bytes ht hinfo hz hb0 HA n d (i64s zs) hc.toK1 a m c' news hl hnews h1 hbytes hbase hpos
      exact ⟨A', c2, w', hr, hg⟩
theorem step_cats {ops : Array Oper} {o : Oper} {a : Act} {K : Act → World → Prop} {Q : Exit → Act → World → Prop} {E : Prop} {W : World} (base : Nat) (hgd : o.guard = none) (s x : Operand) (t : TypeId) (z : Value) (bytes : Nat)
    (ho : o.op = .call { callee := .builtin .append, args := #[s, x], argTypes := #[t, t] })
    (ht : P.underlying t = some (.slice 3)) (hinfo : (P.info? 3).map (fun i => (i.zero, i.size, i.bytes)) = some (some z, 1, bytes)) (hz : z.cells.size = 1) (hb0 : 0 < bytes)
    (HA : Option Addr) (n d : Nat) (zs : List Int) (hc : CatOwn W base (HA, n, d) zs) (g m e : Nat) (cs : Array Value) (T : TypeId) (hg : W.heap[g]? = some (.cells cs T (0, 0))) (hcs : cs.size = m * 1) (hs : a.eval s = .slice HA n d) (hx : a.eval x = .slice (some ⟨g, 0, none⟩) m e) (h1 : ∀ u ∈ cs.toList, u.oneCell' = true)
    (hbase : base ≤ W.heap.size) (hpos : 0 < m) (hl : (n + m) * bytes ≤ 140737488355328)
    (h : ∀ A' c' w', W.grownBy w' (hdBlock (HA, n, d)) → K (a.put o.dst (.slice A' (n + m) c')) w') :
    if Region.wanted o (yielded ops a.tmps) = true then Oper.wp P o a W K Q else E := by
  have hw : Region.wanted o (yielded ops a.tmps) = true := by simp [Region.wanted, hgd]
  rw [if_pos hw]
  obtain ⟨A', c', w', hr, h2⟩ := run_append_cats (P := P) W base t o.type z bytes ht hinfo hz hb0 HA n d zs hc ⟨g, 0, none⟩ m e cs.toList (by simpa using hcs) (World.news_of_block hg) h1 hl hbase hpos
  unfold Oper.wp execOp
  simp only [ho, resolve, invoke, builtin, Sem.run_bind, Sem.run_pure, Result.andThen_ok, List.map_toArray, List.map_cons, List.map_nil, hs, hx, hr]
  exact h A' c' w' h2
end

set_option maxRecDepth 100000 in
set_option maxHeartbeats 8000000 in
set_option linter.unusedSimpArgs false in
theorem spoil_any (F O : Int) (A : Option Addr) (n c : Nat) (ops : List OpV) (base top : Nat) (w : World) (h : OwnTop w base top A n c ops) (htw : top ≤ w.heap.size) (hbt : base ≤ top) (hn : n ≤ 1000000000000) (hcb : ∀ v ∈ ops, v.cats.length ≤ 1000000000000) :
    Calls Tryz.prog 26 #[.agg #[.int .i64 F, .int .i64 O, .slice A n c]] w fun e w' => e = .returned (.tuple #[]) ∧ Btw base top w w' := by
  have b1 := (Below.refl w.heap.size w).alloc (Nat.le_refl _) (.cells #[.int .i64 F, .int .i64 O, .slice A n c] 30)
  have k1 := heap_alloc_new w (.cells #[.int .i64 F, .int .i64 O, .slice A n c] 30)
  have hb1 := (Btw.refl base top w).alloc (.cells #[.int .i64 F, .int .i64 O, .slice A n c] 30)
  obtain ⟨hs, ⟨hsl, hm, hc, hne, hpw⟩, hAt, hHt⟩ := h.below b1
  have hlen : ops.length = n := by have := hm.len; rw [flatOps_length hs ops hsl] at this; omega
  go_enter Tryz.func26, Tryz.ntmps26
  go_upto_region 1 with (fail)
  generalize w.alloc (.cells #[.int .i64 F, .int .i64 O, .slice A n c] 30) = w1 at *
  have p2 : w1.cell? ⟨w.heap.size, 2, none⟩ = some (.slice A n c) := cell_of_block k1 rfl
  have HCB := Lib.hid hcb
  have HNE := Lib.hid hne
  have HPW := Lib.hid hpw
  have HAT := Lib.hid hAt
  have HHT := Lib.hid hHt
  have HM := Lib.hid hm
  have HC := Lib.hid hc
  have HB1 := Lib.hid hb1
  have HK1 := Lib.hid k1
  have HSL := Lib.hid hsl
  have HLN := Lib.hid hlen
  clear h b1 k1 hb1 hm hc hne hpw hAt hHt hcb hsl hlen
  go_upto_region 2 with (fail)
  clear p2
  go_loopw [7] (fun ix wr => ∃ (i : Nat) (vs : List Value), ix = .int .i64 (i : Int) ∧ i ≤ n ∧ Btw base top w wr ∧ wr.heap[w.heap.size]? = some (.cells #[.int .i64 F, .int .i64 O, .slice A n c] 30) ∧ MineK 8 75 wr base A n c vs ∧ (∀ q, i * 8 ≤ q → vs[q]? = (flatOps hs ops)[q]?) ∧
    (∀ j, i ≤ j → ∀ (h1 : j < hs.length) (h2 : j < ops.length), CatOwn wr base hs[j] ops[j].cats)) (fun ix _ => n - (intOf ix).toNat)
  case atStart => exact ⟨0, flatOps hs ops, rfl, Nat.zero_le _, HB1.out, HK1.out, HM.out, fun _ _ => rfl, fun j _ h1 h2 => HC.out j h1 h2⟩
  case round =>
    obtain ⟨i, vs, rfl, hi, hbr, kr, hmr, hvr, hcr⟩ := hrel
    by_cases hlt : i < n
    · obtain ⟨g, rfl, hbg, hgl⟩ := hmr.some_of (by omega)
      have hgt := HAT.out g rfl
      have hln := HLN.out
      have hsl := HSL.out
      have hil : i < ops.length := by omega
      have hih : i < hs.length := by omega
      have hci := hcr i (Nat.le_refl _) hih hil
      have hrow : ∀ k, k < 8 → vs[i * 8 + k]? = (opRow hs[i] ops[i])[k]? := fun k hk => (hvr _ (by omega)).trans (flatOps_get hs ops hsl i hil k hk)
      have hni := HNE.out _ (List.getElem_mem hih)
      have hti := HHT.out _ (List.getElem_mem hih)
      have hpi : ∀ j (h1 : j < hs.length), i < j → ∀ k k', hdBlock hs[i] = some k → hdBlock hs[j] = some k' → k ≠ k' := fun j h1 hij => List.pairwise_iff_getElem.1 HPW.out i j hih h1 hij
      have hcv := HCB.out _ (List.getElem_mem hil)
      have hcj : ∀ j, i < j → ∀ (h1 : j < hs.length) (h2 : j < ops.length), CatOwn wr base hs[j] ops[j].cats := fun j hij => hcr j (Nat.le_of_lt hij)
      obtain ⟨H, hH⟩ : ∃ H, hs[i] = H := ⟨_, rfl⟩
      obtain ⟨v, hv⟩ : ∃ v, ops[i] = v := ⟨_, rfl⟩
      rw [hH, hv] at hci hrow
      rw [hH] at hni hti hpi
      rw [hv] at hcv
      clear hcr hH hv
      obtain ⟨HA, m, d⟩ := H
      have hvl : vs.length = n * 8 := hmr.len
      have hmc : v.cats.length = m := by
        rcases hci with ⟨e1, _, e3⟩ | hci
        · rw [e3]; exact e1.symm
        · have := hci.len; rwa [i64s_length] at this
      have c3 : wr.cell? ⟨g, i * 8 + 3, none⟩ = some (.slice HA m d) := by
        rw [hmr.cell (i * 8 + 3) (by omega), List.getD_eq_getElem?_getD, hrow 3 (by omega)]
        rfl
      have p2 : wr.cell? ⟨w.heap.size, 2, none⟩ = some (.slice (some ⟨g, 0, none⟩) n c) := cell_of_block kr rfl
      have i1 : (i : Int) < (n : Int) := by omega
      have i2 : decide ((i : Int) < (n : Int)) = true := by simpa using i1
      have HMB := Lib.hid (show m ≤ 1000000000000 by omega)
      have HVR := Lib.hid hvr
      have HRW := Lib.hid hrow
      have HNI := Lib.hid hni
      have HTI := Lib.hid hti
      have HPI := Lib.hid hpi
      have HBR := Lib.hid hbr
      have HKR := Lib.hid kr
      have HMR := Lib.hid hmr
      have HCI := Lib.hid hci
      have HCJ := Lib.hid hcj
      have HZS := Lib.hid hmc
      clear hvr hrow hni hti hpi hbr kr hmr hci hcj hmc hcv hln hsl
      go_upto_region 5 with (fail)
      clear p2 c3
      go_loopw [17] (fun kx w2 => ∃ (k : Nat) (zs : List Int), kx = .int .i64 (k : Int) ∧ k ≤ m ∧ zs.length = m ∧ Btw base top w w2 ∧ w2.heap[w.heap.size]? = some (.cells #[.int .i64 F, .int .i64 O, .slice (some ⟨g, 0, none⟩) n c] 30) ∧ MineK 8 75 w2 base (some ⟨g, 0, none⟩) n c vs ∧ CatOwn w2 base (HA, m, d) zs ∧
        (∀ j, i < j → ∀ (h1 : j < hs.length) (h2 : j < ops.length), CatOwn w2 base hs[j] ops[j].cats)) (fun kx _ => m - (intOf kx).toNat)
      case atStart => exact ⟨0, v.cats, rfl, Nat.zero_le _, HZS.out, HBR.out, HKR.out, HMR.out, HCI.out, HCJ.out⟩
      case round =>
        rename World => w2
        obtain ⟨k, zs, rfl, hk, hzl, hb2, k2, hm2, hc2, hj2⟩ := hrel
        have p2 : w2.cell? ⟨w.heap.size, 2, none⟩ = some (.slice (some ⟨g, 0, none⟩) n c) := cell_of_block k2 rfl
        have c3 : w2.cell? ⟨g, i * 8 + 3, none⟩ = some (.slice HA m d) := by
          rw [hm2.cell (i * 8 + 3) (by omega), List.getD_eq_getElem?_getD, HRW.out 3 (by omega)]
          rfl
        by_cases hkt : k < m
        · rcases hc2 with ⟨h1, _, _⟩ | hc2
          · exact absurd h1 (by simp only; omega)
          have hcp := hc2.cap
          rcases hc2.row with ⟨_, h0, _⟩ | ⟨gc, rest, e, hbgc, hgc, _⟩
          · exact absurd h0 (by simp only; omega)
          simp only at e hcp
          subst e
          have hdb : hdBlock (some ⟨gc, 0, none⟩, m, d) = some gc := by
            unfold hdBlock
            rw [if_neg (by simp only; omega)]
            rfl
          have hgct := HTI.out gc hdb
          have hgg : gc ≠ g := by
            rcases HNI.out with h | h
            · rw [hdb] at h; cases h
            · rw [hdb] at h; intro e; exact h (by rw [e]; rfl)
          have c4 := hc2.cell k hkt
          rw [i64s_getD (by omega)] at c4
          generalize zs.getD k 0 = z0 at c4
          have z4 := frozen_row hgc k
          have hst := hc2.stored k hkt (.int .i64 (-1))
          rw [i64s_put] at hst
          have HB3 := Lib.hid (hb2.setCell (.inl ⟨hbgc, hgct⟩) k (.int .i64 (-1)))
          have HK3 := Lib.hid ((setCell_other (show w.heap.size ≠ gc by omega) k (.int .i64 (-1))).trans k2)
          have HM3 := Lib.hid (hm2.kept (setCell_grownBy w2 gc k (.int .i64 (-1))) (.inr (by intro e; injection e with e; exact hgg e.symm)))
          have HC3 := Lib.hid hst
          have HJ3 := Lib.hid (fun j (hij : i < j) (h1 : j < hs.length) (h2 : j < ops.length) => (hj2 j hij h1 h2).kept (setCell_grownBy w2 gc k (.int .i64 (-1))) (by
            cases hB : hdBlock hs[j] with
            | none => exact .inl rfl
            | some q => exact .inr (fun e => HPI.out j h1 hij gc q hdb hB (by injection e with e; exact e.symm))))
          have hml := HMB.out
          have j1 : (k : Int) < (m : Int) := by omega
          have j2 : decide ((k : Int) < (m : Int)) = true := by simpa using j1
          clear hb2 k2 hm2 hc2 hj2 hgc hst
          go_wp2
          go_roundw
          case rel => exact ⟨k + 1, zs.set k (-1), by go_num, hkt, by rw [List.length_set]; exact hzl, HB3.out, HK3.out, HM3.out, .inr HC3.out, HJ3.out⟩
          case measure => simp [intOf]; omega
        · obtain rfl : k = m := by omega
          have j2 : decide ((k : Int) < (k : Int)) = false := by simp
          have hcl := hc2.lt
          have hsz := lt_of_block k2
          have hdr : Below w2.heap.size w2 w2.drew := (Below.refl _ _).drew
          have hal := hdr.alloc (Nat.le_refl _) (.cells #[.int .i64 3, .int .i64 3, .int .i64 3] 3)
          have hba := (hb2.drew).alloc (.cells #[.int .i64 3, .int .i64 3, .int .i64 3] 3)
          have hma := hm2.below hal
          have hca := hc2.below hal
          have KSp := Lib.hid (fun (W : World) (hW : Below w2.heap.size w2 W) => show W.cell? ⟨w.heap.size, 2, none⟩ = some (.slice (some ⟨g, 0, none⟩) n c) from cell_of_block ((hW.block _ hsz).trans k2) rfl)
          have c3d : w2.drew.cell? ⟨g, i * 8 + 3, none⟩ = some (.slice HA k d) := c3
          have c3a : (w2.drew.alloc (.cells #[.int .i64 3, .int .i64 3, .int .i64 3] 3)).cell? ⟨g, i * 8 + 3, none⟩ = some (.slice HA k d) := by
            rw [hma.cell (i * 8 + 3) (by omega), List.getD_eq_getElem?_getD, HRW.out 3 (by omega)]
            rfl
          have c3b : (w2.alloc (.cells #[.int .i64 3, .int .i64 3, .int .i64 3] 3)).cell? ⟨g, i * 8 + 3, none⟩ = some (.slice HA k d) := c3a
          have HAN9 := Lib.hid (heap_alloc_new w2.drew (.cells #[.int .i64 3, .int .i64 3, .int .i64 3] 3))
          have hml := HMB.out
          have hbs : base ≤ (w2.drew.alloc (.cells #[.int .i64 3, .int .i64 3, .int .i64 3] 3)).heap.size := by have := hal.size; omega
          have HBA := Lib.hid hba
          have HMA := Lib.hid hma
          have HCA := Lib.hid hca
          have HJA := Lib.hid (fun j (hij : i < j) (h1 : j < hs.length) (h2 : j < ops.length) => (hj2 j hij h1 h2).below hal)
          have HKA := Lib.hid ((hal.block _ hsz).trans k2)
          have HNB := Lib.hid (show ∀ q, hdBlock (HA, k, d) = some q → base ≤ q ∧ q < top ∧ q ≠ w.heap.size from fun q hq => ⟨(hcl q hq).1, HTI.out q hq, by have := HTI.out q hq; omega⟩)
          have HAL := Lib.hid hal
          clear hb2 k2 hm2 hc2 hj2 hcl hba hma hca hal c3
          go_upto_region 9 with (fail)
          refine wp_region_noPanic ?_
          refine wp_region_held_drew (S := (fun W => W.cell? ⟨w.heap.size, 2, none⟩ = some (.slice (some ⟨g, 0, none⟩) n c))) (by kernel_rfl) ?_ (fun hHeld => ?_)
          · try dsimp only
            exact KSp.out _ hdr
          refine wpAnyH_take (i := 0) (oi := ⟨some 29, _, _, _, _, _⟩) (v := ?v0_1) rfl (by kernel_rfl) (by kernel_rfl) (by kernel_rfl) (fun _ _ _ h => h) (Or.inl ⟨by rfl, ?hy0_1⟩) (by assumption) ?rest0_1
          case hy0_1 => intro w hSw; (try dsimp only at hSw); go_simp; try with_reducible rfl
          try simp only [Act.put, List.setIfInBounds_toArray, List.set_cons_zero, List.set_cons_succ]
          refine wpAnyH_take (i := 1) (oi := ⟨some 30, _, _, _, _, _⟩) (v := ?v1_2) rfl (by kernel_rfl) (by kernel_rfl) (by kernel_rfl) (fun _ _ _ h => h) (Or.inl ⟨by rfl, ?hy1_2⟩) (by assumption) ?rest1_2
          case hy1_2 => intro w hSw; (try dsimp only at hSw); go_simp; try with_reducible rfl
          try simp only [Act.put, List.setIfInBounds_toArray, List.set_cons_zero, List.set_cons_succ]
          refine wpAnyH_take (i := 2) (oi := ⟨some 31, _, _, _, _, _⟩) (v := ?v2_3) rfl (by kernel_rfl) (by kernel_rfl) (by kernel_rfl) (fun _ _ _ h => h) (Or.inl ⟨by rfl, ?hy2_3⟩) (by assumption) ?rest2_3
          case hy2_3 => intro w hSw; (try dsimp only at hSw); go_simp; try with_reducible rfl
          try simp only [Act.put, List.setIfInBounds_toArray, List.set_cons_zero, List.set_cons_succ]
          refine wpAnyH_take (i := 3) (oi := ⟨some 32, _, _, _, _, _⟩) (v := ?v3_4) rfl (by kernel_rfl) (by kernel_rfl) (by kernel_rfl) (fun _ _ _ h => h) (Or.inl ⟨by rfl, ?hy3_4⟩) (by assumption) ?rest3_4
          case hy3_4 => intro w hSw; (try dsimp only at hSw); go_simp; try with_reducible rfl
          try simp only [Act.put, List.setIfInBounds_toArray, List.set_cons_zero, List.set_cons_succ]
          refine wpAnyH_take (i := 4) (oi := ⟨some 33, _, _, _, _, _⟩) (v := ?v4_5) rfl (by kernel_rfl) (by kernel_rfl) (by kernel_rfl) (fun _ _ _ h => h) (Or.inl ⟨by rfl, ?hy4_5⟩) (by assumption) ?rest4_5
          case hy4_5 => intro w hSw; (try dsimp only at hSw); go_simp; try with_reducible rfl
          try simp only [Act.put, List.setIfInBounds_toArray, List.set_cons_zero, List.set_cons_succ]
          refine wpAnyH_take (i := 5) (oi := ⟨some 34, _, _, _, _, _⟩) (v := ?v5_6) rfl (by kernel_rfl) (by kernel_rfl) (by kernel_rfl) (fun _ _ _ h => h) (Or.inl ⟨by rfl, ?hy5_6⟩) (by assumption) ?rest5_6
          case hy5_6 => intro w hSw; (try dsimp only at hSw); go_simp; try with_reducible rfl
          try simp only [Act.put, List.setIfInBounds_toArray, List.set_cons_zero, List.set_cons_succ]
          refine wpAnyH_take (i := 6) (oi := ⟨some 35, _, _, _, _, _⟩) (v := ?v6_7) rfl (by kernel_rfl) (by kernel_rfl) (by kernel_rfl) (fun _ _ _ h => h) (Or.inl ⟨by rfl, ?hy6_7⟩) (by assumption) ?rest6_7
          case hy6_7 => intro w hSw; (try dsimp only at hSw); go_simp; try with_reducible rfl
          try simp only [Act.put, List.setIfInBounds_toArray, List.set_cons_zero, List.set_cons_succ]
          refine wpAnyH_take (i := 7) (oi := ⟨some 36, _, _, _, _, _⟩) (v := ?v7_8) rfl (by kernel_rfl) (by kernel_rfl) (by kernel_rfl) (fun _ _ _ h => h) (Or.inl ⟨by rfl, ?hy7_8⟩) (by assumption) ?rest7_8
          case hy7_8 => intro w hSw; (try dsimp only at hSw); go_simp; try with_reducible rfl
          try simp only [Act.put, List.setIfInBounds_toArray, List.set_cons_zero, List.set_cons_succ]
          refine wpAnyH_ready (rs := [8, 9]) (by kernel_rfl) (by simp) ?_
          refine AllReadyH.cons rfl (fun K hK => ?_) (AllReadyH.cons rfl (fun K hK => ?_) AllReadyH.nil)
          · go_simp
            refine hK.out _ _ ?_ (fun hHeld => ?_)
            · try dsimp only
              exact KSp.out _ hdr
            clear hK K
            try simp only [Act.put, List.setIfInBounds_toArray, List.set_cons_zero, List.set_cons_succ]
            refine wpAnyH_ready (rs := [9]) (by kernel_rfl) (by simp) ?_
            refine AllReadyH.cons rfl (fun K hK => ?_) AllReadyH.nil
            go_simp
            refine hK.out _ _ ?_ (fun hHeld => ?_)
            · try dsimp only
              exact KSp.out _ HAL.out
            clear hK K
            try simp only [Act.put, List.setIfInBounds_toArray, List.set_cons_zero, List.set_cons_succ]
            refine wpAnyH_ready (rs := [10]) (by kernel_rfl) (by simp) ?_
            refine AllReadyH.cons rfl (fun K hK => ?_) AllReadyH.nil
            refine step_cats base (by rfl) _ _ _ (.int .i64 0) 8 (by rfl) Tryz.underlying44 Tryz.info_int rfl (by omega) HA k d zs HCA.out w2.heap.size 3 3 _ _ HAN9.out rfl (by rfl) (by rfl) (by intro u hu; simp at hu; subst hu; rfl) hbs (by omega) (by omega) ?_
            intro A' c' w9 hg9
            have kn9 : some w.heap.size ≠ hdBlock (HA, k, d) := fun e => (HNB.out _ e.symm).2.2 rfl
            have k9 := (hg9.block _ (lt_of_block HKA.out) kn9).trans HKA.out
            have S9 : w9.cell? ⟨w.heap.size, 2, none⟩ = some (.slice (some ⟨g, 0, none⟩) n c) := cell_of_block k9 rfl
            have hm9 := HMA.out.kept hg9 (.inr (by rcases HNI.out with h | h; (rw [h]; intro e; cases e); exact fun e => h e.symm))
            have c39 : w9.cell? ⟨g, i * 8 + 3, none⟩ = some (.slice HA k d) := by rw [hm9.cell (i * 8 + 3) (by omega), List.getD_eq_getElem?_getD, HRW.out 3 (by omega)]; rfl
            have z39 := hm9.free (i * 8 + 3)
            have k10 := (setCell_other (show w.heap.size ≠ g by omega) (i * 8 + 3) (.slice A' (k + 3) c')).trans k9
            have S10 : (w9.setCell ⟨g, i * 8 + 3, none⟩ (.slice A' (k + 3) c')).cell? ⟨w.heap.size, 2, none⟩ = some (.slice (some ⟨g, 0, none⟩) n c) := cell_of_block k10 rfl
            refine hK.out _ _ ?_ (fun hHeld => ?_)
            · try dsimp only
              exact S9
            clear hK K
            try simp only [Act.put, List.setIfInBounds_toArray, List.set_cons_zero, List.set_cons_succ]
            refine wpAnyH_take (i := 11) (oi := ⟨some 40, _, _, _, _, _⟩) (v := ?v11_9) rfl (by kernel_rfl) (by kernel_rfl) (by kernel_rfl) (fun _ _ _ h => h) (Or.inl ⟨by rfl, ?hy11_9⟩) (by assumption) ?rest11_9
            case hy11_9 => intro w hSw; (try dsimp only at hSw); go_simp; try with_reducible rfl
            try simp only [Act.put, List.setIfInBounds_toArray, List.set_cons_zero, List.set_cons_succ]
            refine wpAnyH_take (i := 12) (oi := ⟨some 41, _, _, _, _, _⟩) (v := ?v12_10) rfl (by kernel_rfl) (by kernel_rfl) (by kernel_rfl) (fun _ _ _ h => h) (Or.inl ⟨by rfl, ?hy12_10⟩) (by assumption) ?rest12_10
            case hy12_10 => intro w hSw; (try dsimp only at hSw); go_simp; try with_reducible rfl
            try simp only [Act.put, List.setIfInBounds_toArray, List.set_cons_zero, List.set_cons_succ]
            refine wpAnyH_ready (rs := [13]) (by kernel_rfl) (by simp) ?_
            refine AllReadyH.cons rfl (fun K hK => ?_) AllReadyH.nil
            go_simp
            refine hK.out _ _ ?_ (fun hHeld => ?_)
            · try dsimp only
              exact S10
            clear hK K
            try simp only [Act.put, List.setIfInBounds_toArray, List.set_cons_zero, List.set_cons_succ]
            refine wpAnyH_done (by kernel_rfl) ?_ _
            refine NoPanic.normal ?_
            have hm10 := hm9.stored (i * 8 + 3) (by omega) (.slice A' (k + 3) c')
            have HB10 := Lib.hid ((HBA.out.grown hg9 (fun q hq => .inl ⟨(HNB.out q hq).1, (HNB.out q hq).2.1⟩)).setCell (g := g) (.inl ⟨hbg, hgt⟩) (i * 8 + 3) (.slice A' (k + 3) c'))
            have HJ10 := Lib.hid (fun j (hij : i < j) (h1 : j < hs.length) (h2 : j < ops.length) => ((HJA.out j hij h1 h2).kept hg9 (by
              cases hB : hdBlock hs[j] with
              | none => exact .inl rfl
              | some q => exact .inr (fun e => HPI.out j h1 hij q q e.symm hB rfl))).kept (setCell_grownBy w9 g (i * 8 + 3) (.slice A' (k + 3) c')) (HNE.out _ (List.getElem_mem h1)))
            generalize w9.setCell ⟨g, i * 8 + 3, none⟩ (.slice A' (k + 3) c') = w10 at hm10 k10 S10 HB10 HJ10 ⊢
            have hvl3 : (vs.set (i * 8 + 3) (.slice A' (k + 3) c')).length = n * 8 := by rw [List.length_set]; exact hvl
            have c0 : w10.cell? ⟨g, i * 8, none⟩ = some (.int .u8 (v.kind : Int)) := by
              have h0 := HRW.out 0 (by omega)
              rw [Nat.add_zero] at h0
              rw [hm10.cell (i * 8) (by omega), List.getD_eq_getElem?_getD, List.getElem?_set_ne (by omega), h0]
              rfl
            have z0 := hm10.free (i * 8)
            have HM11 := Lib.hid (hm10.stored (i * 8) (by omega) (.int .u8 0))
            have HB11 := Lib.hid (HB10.out.setCell (g := g) (.inl ⟨hbg, hgt⟩) (i * 8) (.int .u8 0))
            have HK11 := Lib.hid ((setCell_other (show w.heap.size ≠ g by omega) (i * 8) (.int .u8 0)).trans k10)
            have HJ11 := Lib.hid (fun j (hij : i < j) (h1 : j < hs.length) (h2 : j < ops.length) => (HJ10.out j hij h1 h2).kept (setCell_grownBy w10 g (i * 8) (.int .u8 0)) (HNE.out _ (List.getElem_mem h1)))
            have HV11 := Lib.hid (show ∀ q, (i + 1) * 8 ≤ q → ((vs.set (i * 8 + 3) (.slice A' (k + 3) c')).set (i * 8) (.int .u8 0))[q]? = (flatOps hs ops)[q]? from fun q hq => by
              rw [List.getElem?_set_ne (by omega), List.getElem?_set_ne (by omega)]
              exact HVR.out q (by omega))
            clear hm9 hg9 hm10 k9 k10 c39 z39 kn9 S9 hdr c3d c3a c3b
            go_wp2
            go_roundw
            case rel => exact ⟨i + 1, _, by go_num, hlt, HB11.out, HK11.out, HM11.out, HV11.out, fun j hij h1 h2 => HJ11.out j (by omega) h1 h2⟩
            case measure => simp [intOf]; omega
          · go_simp
            refine hK.out _ _ ?_ (fun hHeld => ?_)
            · try dsimp only
              exact KSp.out _ HAL.out
            clear hK K
            try simp only [Act.put, List.setIfInBounds_toArray, List.set_cons_zero, List.set_cons_succ]
            refine wpAnyH_ready (rs := [8]) (by kernel_rfl) (by simp) ?_
            refine AllReadyH.cons rfl (fun K hK => ?_) AllReadyH.nil
            go_simp
            refine hK.out _ _ ?_ (fun hHeld => ?_)
            · try dsimp only
              exact KSp.out _ HAL.out
            clear hK K
            try simp only [Act.put, List.setIfInBounds_toArray, List.set_cons_zero, List.set_cons_succ]
            refine wpAnyH_ready (rs := [10]) (by kernel_rfl) (by simp) ?_
            refine AllReadyH.cons rfl (fun K hK => ?_) AllReadyH.nil
            refine step_cats base (by rfl) _ _ _ (.int .i64 0) 8 (by rfl) Tryz.underlying44 Tryz.info_int rfl (by omega) HA k d zs HCA.out w2.heap.size 3 3 _ _ HAN9.out rfl (by rfl) (by rfl) (by intro u hu; simp at hu; subst hu; rfl) hbs (by omega) (by omega) ?_
            intro A' c' w9 hg9
            have kn9 : some w.heap.size ≠ hdBlock (HA, k, d) := fun e => (HNB.out _ e.symm).2.2 rfl
            have k9 := (hg9.block _ (lt_of_block HKA.out) kn9).trans HKA.out
            have S9 : w9.cell? ⟨w.heap.size, 2, none⟩ = some (.slice (some ⟨g, 0, none⟩) n c) := cell_of_block k9 rfl
            have hm9 := HMA.out.kept hg9 (.inr (by rcases HNI.out with h | h; (rw [h]; intro e; cases e); exact fun e => h e.symm))
            have c39 : w9.cell? ⟨g, i * 8 + 3, none⟩ = some (.slice HA k d) := by rw [hm9.cell (i * 8 + 3) (by omega), List.getD_eq_getElem?_getD, HRW.out 3 (by omega)]; rfl
            have z39 := hm9.free (i * 8 + 3)
            have k10 := (setCell_other (show w.heap.size ≠ g by omega) (i * 8 + 3) (.slice A' (k + 3) c')).trans k9
            have S10 : (w9.setCell ⟨g, i * 8 + 3, none⟩ (.slice A' (k + 3) c')).cell? ⟨w.heap.size, 2, none⟩ = some (.slice (some ⟨g, 0, none⟩) n c) := cell_of_block k10 rfl
            refine hK.out _ _ ?_ (fun hHeld => ?_)
            · try dsimp only
              exact S9
            clear hK K
            try simp only [Act.put, List.setIfInBounds_toArray, List.set_cons_zero, List.set_cons_succ]
            refine wpAnyH_take (i := 11) (oi := ⟨some 40, _, _, _, _, _⟩) (v := ?v11_11) rfl (by kernel_rfl) (by kernel_rfl) (by kernel_rfl) (fun _ _ _ h => h) (Or.inl ⟨by rfl, ?hy11_11⟩) (by assumption) ?rest11_11
            case hy11_11 => intro w hSw; (try dsimp only at hSw); go_simp; try with_reducible rfl
            try simp only [Act.put, List.setIfInBounds_toArray, List.set_cons_zero, List.set_cons_succ]
            refine wpAnyH_take (i := 12) (oi := ⟨some 41, _, _, _, _, _⟩) (v := ?v12_12) rfl (by kernel_rfl) (by kernel_rfl) (by kernel_rfl) (fun _ _ _ h => h) (Or.inl ⟨by rfl, ?hy12_12⟩) (by assumption) ?rest12_12
            case hy12_12 => intro w hSw; (try dsimp only at hSw); go_simp; try with_reducible rfl
            try simp only [Act.put, List.setIfInBounds_toArray, List.set_cons_zero, List.set_cons_succ]
            refine wpAnyH_ready (rs := [13]) (by kernel_rfl) (by simp) ?_
            refine AllReadyH.cons rfl (fun K hK => ?_) AllReadyH.nil
            go_simp
            refine hK.out _ _ ?_ (fun hHeld => ?_)
            · try dsimp only
              exact S10
            clear hK K
            try simp only [Act.put, List.setIfInBounds_toArray, List.set_cons_zero, List.set_cons_succ]
            refine wpAnyH_done (by kernel_rfl) ?_ _
            refine NoPanic.normal ?_
            have hm10 := hm9.stored (i * 8 + 3) (by omega) (.slice A' (k + 3) c')
            have HB10 := Lib.hid ((HBA.out.grown hg9 (fun q hq => .inl ⟨(HNB.out q hq).1, (HNB.out q hq).2.1⟩)).setCell (g := g) (.inl ⟨hbg, hgt⟩) (i * 8 + 3) (.slice A' (k + 3) c'))
            have HJ10 := Lib.hid (fun j (hij : i < j) (h1 : j < hs.length) (h2 : j < ops.length) => ((HJA.out j hij h1 h2).kept hg9 (by
              cases hB : hdBlock hs[j] with
              | none => exact .inl rfl
              | some q => exact .inr (fun e => HPI.out j h1 hij q q e.symm hB rfl))).kept (setCell_grownBy w9 g (i * 8 + 3) (.slice A' (k + 3) c')) (HNE.out _ (List.getElem_mem h1)))
            generalize w9.setCell ⟨g, i * 8 + 3, none⟩ (.slice A' (k + 3) c') = w10 at hm10 k10 S10 HB10 HJ10 ⊢
            have hvl3 : (vs.set (i * 8 + 3) (.slice A' (k + 3) c')).length = n * 8 := by rw [List.length_set]; exact hvl
            have c0 : w10.cell? ⟨g, i * 8, none⟩ = some (.int .u8 (v.kind : Int)) := by
              have h0 := HRW.out 0 (by omega)
              rw [Nat.add_zero] at h0
              rw [hm10.cell (i * 8) (by omega), List.getD_eq_getElem?_getD, List.getElem?_set_ne (by omega), h0]
              rfl
            have z0 := hm10.free (i * 8)
            have HM11 := Lib.hid (hm10.stored (i * 8) (by omega) (.int .u8 0))
            have HB11 := Lib.hid (HB10.out.setCell (g := g) (.inl ⟨hbg, hgt⟩) (i * 8) (.int .u8 0))
            have HK11 := Lib.hid ((setCell_other (show w.heap.size ≠ g by omega) (i * 8) (.int .u8 0)).trans k10)
            have HJ11 := Lib.hid (fun j (hij : i < j) (h1 : j < hs.length) (h2 : j < ops.length) => (HJ10.out j hij h1 h2).kept (setCell_grownBy w10 g (i * 8) (.int .u8 0)) (HNE.out _ (List.getElem_mem h1)))
            have HV11 := Lib.hid (show ∀ q, (i + 1) * 8 ≤ q → ((vs.set (i * 8 + 3) (.slice A' (k + 3) c')).set (i * 8) (.int .u8 0))[q]? = (flatOps hs ops)[q]? from fun q hq => by
              rw [List.getElem?_set_ne (by omega), List.getElem?_set_ne (by omega)]
              exact HVR.out q (by omega))
            clear hm9 hg9 hm10 k9 k10 c39 z39 kn9 S9 hdr c3d c3a c3b
            go_wp2
            go_roundw
            case rel => exact ⟨i + 1, _, by go_num, hlt, HB11.out, HK11.out, HM11.out, HV11.out, fun j hij h1 h2 => HJ11.out j (by omega) h1 h2⟩
            case measure => simp [intOf]; omega
    · obtain rfl : i = n := by omega
      have p2 : wr.cell? ⟨w.heap.size, 2, none⟩ = some (.slice A i c) := cell_of_block kr rfl
      have i2 : decide ((i : Int) < (i : Int)) = false := by simp
      have hsz := lt_of_block kr
      have b2 := (Below.refl wr.heap.size wr).alloc (Nat.le_refl _) (.cells #[.int .u8 0, .int .i64 0, .float .f64 0, .slice none 0 0, .int .u8 0, .int .i64 0, .int .i64 0, .int .i64 0, .int .u8 0, .int .i64 0, .float .f64 0, .slice none 0 0, .int .u8 0, .int .i64 0, .int .i64 0, .int .i64 0, .int .u8 0, .int .i64 0, .float .f64 0, .slice none 0 0, .int .u8 0, .int .i64 0, .int .i64 0, .int .i64 0] 75)
      have HN := Lib.hid (heap_alloc_new wr (.cells #[.int .u8 0, .int .i64 0, .float .f64 0, .slice none 0 0, .int .u8 0, .int .i64 0, .int .i64 0, .int .i64 0, .int .u8 0, .int .i64 0, .float .f64 0, .slice none 0 0, .int .u8 0, .int .i64 0, .int .i64 0, .int .i64 0, .int .u8 0, .int .i64 0, .float .f64 0, .slice none 0 0, .int .u8 0, .int .i64 0, .int .i64 0, .int .i64 0] 75))
      have hma := hmr.below b2
      have HKA := Lib.hid ((b2.block _ hsz).trans kr)
      have HBA := Lib.hid (hbr.alloc (.cells #[.int .u8 0, .int .i64 0, .float .f64 0, .slice none 0 0, .int .u8 0, .int .i64 0, .int .i64 0, .int .i64 0, .int .u8 0, .int .i64 0, .float .f64 0, .slice none 0 0, .int .u8 0, .int .i64 0, .int .i64 0, .int .i64 0, .int .u8 0, .int .i64 0, .float .f64 0, .slice none 0 0, .int .u8 0, .int .i64 0, .int .i64 0, .int .i64 0] 75))
      have hbs : base ≤ (wr.alloc (.cells #[.int .u8 0, .int .i64 0, .float .f64 0, .slice none 0 0, .int .u8 0, .int .i64 0, .int .i64 0, .int .i64 0, .int .u8 0, .int .i64 0, .float .f64 0, .slice none 0 0, .int .u8 0, .int .i64 0, .int .i64 0, .int .i64 0, .int .u8 0, .int .i64 0, .float .f64 0, .slice none 0 0, .int .u8 0, .int .i64 0, .int .i64 0, .int .i64 0] 75)).heap.size := by have := b2.size; omega
      have HAN := Lib.hid (show some w.heap.size ≠ blockOf A from fun e => by have := HAT.out _ e.symm; omega)
      have HAW := Lib.hid (fun q hq => show (base ≤ q ∧ q < top) ∨ w.heap.size ≤ q from .inl ⟨(hmr.lt q hq).1, HAT.out q hq⟩)
      have HSZ2 := Lib.hid (show w.heap.size < (wr.alloc (.cells #[.int .u8 0, .int .i64 0, .float .f64 0, .slice none 0 0, .int .u8 0, .int .i64 0, .int .i64 0, .int .i64 0, .int .u8 0, .int .i64 0, .float .f64 0, .slice none 0 0, .int .u8 0, .int .i64 0, .int .i64 0, .int .i64 0, .int .u8 0, .int .i64 0, .float .f64 0, .slice none 0 0, .int .u8 0, .int .i64 0, .int .i64 0, .int .i64 0] 75)).heap.size by have := b2.size; omega)
      have HVL := Lib.hid (show vs.length = i * 8 from hmr.len)
      clear hbr kr hmr hvr hcr b2
      go_upto_region 13 with (at_builtin; refine app_boxK base rfl _ _ _ _ _ 8 80 rfl Tryz.underlying28 Tryz.info_op rfl (by omega) A i c vs wr.heap.size 3 3 _ _ HN.out rfl rfl rfl (by decide) hma hbs (by omega) (by omega) ?_; rintro A2 c2 w11 hm11 hg11 hA11; have k11 := (hg11.block _ (lt_of_block HKA.out) HAN.out).trans HKA.out; have u2 : w11.cell? ⟨w.heap.size, 2, none⟩ = some (.slice A i c) := cell_of_block k11 rfl; have y2 : w11.frozen? ⟨w.heap.size, 2, none⟩ = false := frozen_row (vs := [.int .i64 F, .int .i64 O, .slice A i c]) k11 2)
      obtain ⟨g2, rfl, hbg2, hgl2⟩ := hm11.some_of (by omega)
      have hgn : g2 ≠ w.heap.size := by
        have hz := HSZ2.out
        rcases hA11 with e | ⟨q, e, hq⟩
        · intro e2; subst e2; exact HAN.out e
        · injection e with e; change g2 = q at e; omega
      have HB12 := Lib.hid (show (base ≤ g2 ∧ g2 < top) ∨ w.heap.size ≤ g2 by
        have hz := HSZ2.out
        rcases hA11 with e | ⟨q, e, hq⟩
        · exact HAW.out g2 e.symm
        · injection e with e; change g2 = q at e; exact .inr (by omega))
      have HBT := Lib.hid ((HBA.out.grown hg11 HAW.out).setCell (g := w.heap.size) (.inr (Nat.le_refl _)) 2 (.slice (some ⟨g2, 0, none⟩) (i + 3) c2))
      have hm12 := hm11.kept (setCell_grownBy w11 w.heap.size 2 (.slice (some ⟨g2, 0, none⟩) (i + 3) c2)) (.inr (by intro e; injection e with e; exact hgn e))
      have k12 := setCell_row (vs := [.int .i64 F, .int .i64 O, .slice A i c]) k11 2 (.slice (some ⟨g2, 0, none⟩) (i + 3) c2)
      generalize w11.setCell ⟨w.heap.size, 2, none⟩ (.slice (some ⟨g2, 0, none⟩) (i + 3) c2) = w12 at *
      obtain ⟨M, hM⟩ : ∃ M, i + 2 = M := ⟨_, rfl⟩
      obtain ⟨N, hN⟩ : ∃ N, i + 3 = N := ⟨_, rfl⟩
      rw [hN] at hm12 k12
      have u2 : w12.cell? ⟨w.heap.size, 2, none⟩ = some (.slice (some ⟨g2, 0, none⟩) N c2) := cell_of_block k12 rfl
      have c0 : w12.cell? ⟨g2, M * 8, none⟩ = some (.int .u8 0) := by
        have hvl := HVL.out
        rw [hm12.cell (M * 8) (by omega), List.getD_eq_getElem?_getD, List.getElem?_append_right (by omega), show M * 8 - vs.length = 16 by omega]
        rfl
      have z0 := hm12.free (M * 8)
      have e1 : IntKind.i64.wrap ((N : Int) - 1) = (M : Int) := by rw [IntWalk.i64_in _ (by omega)]; omega
      have e2 : (0 : Int) ≤ (M : Int) := by omega
      have e3 : (M : Int) < (N : Int) := by omega
      have HBF := Lib.hid (HBT.out.setCell (g := g2) HB12.out (M * 8) (.int .u8 1))
      clear hm11 hg11 hA11 k11 hm12 k12 hma hM
      try rw [hN]
      go_wp2
      go_end0
      exact ⟨rfl, HBF.out⟩

end Go.Proofs.YtekcpapkicmckaaGreatDoor

namespace Go.Proofs.YtekcpapkicmckaaGreatDoor
open Go.RowKit

theorem own_ndAt {nds : List NdV} {N : Nat} (h : ∀ u ∈ nds, u.cats.length ≤ N) (i : Nat) : (ndAt nds i).cats.length ≤ N := by
  by_cases hi : i < nds.length
  · rw [ndAt_get hi]; exact h _ (List.getElem_mem hi)
  · unfold ndAt
    rw [List.getD_eq_getElem?_getD, List.getElem?_eq_none (by omega)]
    exact Nat.zero_le _
theorem own_codeT {nds : List NdV} {N : Nat} (h : ∀ u ∈ nds, u.cats.length ≤ N) (out : Int) (E : Nat) : ∀ (T : BT) (k : Nat) (last : Bool), ∀ u ∈ codeT nds out E T k last, u.cats.length ≤ N
  | .leaf i, k, last, u, hu => by
    simp only [codeT, List.mem_cons] at hu
    rcases hu with rfl | hu
    · exact Nat.zero_le _
    · split at hu
      · simp at hu
      · simp only [List.mem_singleton] at hu; subst hu; exact Nat.zero_le _
  | .node i l r, k, last, u, hu => by
    simp only [codeT, List.mem_cons, List.mem_append] at hu
    rcases hu with rfl | hu | hu
    · exact own_ndAt h i
    · exact own_codeT h out E l _ _ u hu
    · exact own_codeT h out E r _ _ u hu
theorem own_treesCode {N : Nat} : ∀ (ts : List TrV) (k : Nat), (∀ t ∈ ts, ∀ u ∈ t.nds, u.cats.length ≤ N) → ∀ u ∈ treesCode ts k, u.cats.length ≤ N
  | [], _, _, u, hu => by simp [treesCode] at hu
  | t :: l, k, h, u, hu => by
    simp only [treesCode, List.mem_append] at hu
    rcases hu with hu | hu
    · exact own_codeT (h t (List.mem_cons_self ..)) _ _ _ _ _ u hu
    · exact own_treesCode l _ (fun t ht => h t (List.mem_cons_of_mem _ ht)) u hu
theorem own_baseOps {N : Nat} : ∀ (k : Nat) (l : List Int), ∀ u ∈ baseOps k l, u.cats.length ≤ N
  | _, [], u, hu => by simp [baseOps] at hu
  | k, v :: l, u, hu => by
    simp only [baseOps, List.mem_cons] at hu
    rcases hu with rfl | hu
    · exact Nat.zero_le _
    · exact own_baseOps _ l u hu
theorem own_rightT {F O : Int} {t : TrV} (h : treeFault F O t = 0) : RightT t.nds := by
  unfold treeFault at h
  by_cases hs : (shapeV t.nds).1 ≠ 0
  · rw [if_pos hs] at h; exact absurd h hs
  · have hz : shapeV t.nds = (0, 0) := by
      have h0 : (shapeV t.nds).1 = 0 := Classical.byContradiction hs
      unfold shapeV at h0 ⊢
      split
      · next e => rw [if_pos e] at h0; simp at h0
      · next e =>
        rw [if_neg e] at h0
        unfold shapeEnd at h0 ⊢
        split <;> simp_all
    exact rightT_of hz
theorem own_allRight {F O : Int} : ∀ {ts : List TrV}, treesFault F O ts = 0 → ∀ t ∈ ts, RightT t.nds
  | [], _, t, ht => by simp at ht
  | u :: l, h, t, ht => by
    unfold treesFault at h
    by_cases hu : treeFault F O u ≠ 0
    · rw [if_pos hu] at h; exact absurd h hu
    · rw [if_neg hu] at h
      rcases List.mem_cons.1 ht with rfl | ht
      · exact own_rightT (Classical.byContradiction hu)
      · exact own_allRight h t ht
theorem own_compile {F O K : Int} {base : List Int} {ts : List TrV} {T : List OpV} (h : compileV F O base ts = (T, K)) : T = [] ∨ (T = baseOps 0 base ++ treesCode ts base.length ++ [endOp] ∧ (base.length : Int) = O ∧ O ≤ 64 ∧ treesFault F O ts = 0) := by
  unfold compileV at h
  split at h
  · exact .inl (Prod.mk.inj h).1.symm
  · split at h
    · exact .inl (Prod.mk.inj h).1.symm
    · next h1 h2 => exact .inr ⟨(Prod.mk.inj h).1.symm, by omega, by omega, Classical.byContradiction h2⟩
theorem own_cats {F O K : Int} {base : List Int} {ts : List TrV} {T : List OpV} {N : Nat} (h : compileV F O base ts = (T, K)) (hc : ∀ t ∈ ts, ∀ u ∈ t.nds, u.cats.length ≤ N) : ∀ u ∈ T, u.cats.length ≤ N := by
  rcases own_compile h with rfl | ⟨rfl, -⟩
  · intro u hu; simp at hu
  · intro u hu
    simp only [List.mem_append, List.mem_singleton] at hu
    rcases hu with (hu | hu) | rfl
    · exact own_baseOps _ _ u hu
    · exact own_treesCode _ _ hc u hu
    · exact Nat.zero_le _
theorem own_len {F O K : Int} {base : List Int} {ts : List TrV} {T : List OpV} (h : compileV F O base ts = (T, K)) (hm : manyNodes ts ≤ 1048576) : T.length ≤ 3000000 := by
  rcases own_compile h with rfl | ⟨rfl, h1, h2, h3⟩
  · simp
  · have := treesCode_length ts base.length (own_allRight h3)
    simp only [List.length_append, baseOps_length, List.length_singleton]
    omega
theorem own_outT_len (ops : List OpV) (L l pl : List Nat) : ∀ k, (outT ops L l pl k).length ≤ 2 * k
  | 0 => by simp [outT]
  | k + 1 => by
    have hr := own_outT_len ops L l pl k
    simp only [outT, List.length_append, List.length_singleton]
    split <;> simp <;> omega
theorem own_outT (ops : List OpV) (L l pl : List Nat) (N : Nat) (h : ∀ u ∈ ops, u.cats.length ≤ N) : ∀ k, ∀ u ∈ outT ops L l pl k, u.cats.length ≤ N
  | 0, u, hu => by simp [outT] at hu
  | k + 1, u, hu => by
    simp only [outT, List.mem_append] at hu
    have h0 : ∀ i, (opAt ops i).cats.length ≤ N := fun i => by
      by_cases hi : i < ops.length
      · rw [opAt_get hi]; exact h _ (List.getElem_mem hi)
      · unfold opAt
        rw [List.getD_eq_getElem?_getD, List.getElem?_eq_none (by omega)]
        exact Nat.zero_le _
    rcases hu with (hu | hu) | hu
    · exact own_outT ops L l pl N h k u hu
    · simp only [List.mem_singleton] at hu
      subst hu
      split <;> exact h0 _
    · split at hu
      · simp only [List.mem_singleton] at hu
        subst hu
        exact Nat.zero_le _
      · simp at hu
theorem own_tidy {F O K : Int} {ops T : List OpV} (h : tidyV F O ops = (T, K)) : T = [] ∨ T = tidyOps ops := by
  unfold tidyV at h
  split at h
  · exact .inl (Prod.mk.inj h).1.symm
  · exact .inr (Prod.mk.inj h).1.symm
theorem own_tidy_len {F O K : Int} {ops T : List OpV} (h : tidyV F O ops = (T, K)) : T.length ≤ 2 * ops.length := by
  rcases own_tidy h with rfl | rfl
  · simp
  · have hm := stays_many ops
    have := own_outT_len ops (lands ops) (stays ops) (placeT ops (lands ops) (stays ops) (stays ops).length) (stays ops).length
    unfold tidyOps
    simp only
    omega
theorem own_tidy_cats {F O K : Int} {ops T : List OpV} {N : Nat} (h : tidyV F O ops = (T, K)) (hc : ∀ u ∈ ops, u.cats.length ≤ N) : ∀ u ∈ T, u.cats.length ≤ N := by
  rcases own_tidy h with rfl | rfl
  · intro u hu; simp at hu
  · exact own_outT ops _ _ _ N hc _
theorem own_bump (o : OpV) (S : List Int) : (nextSums o S).length = S.length := by
  unfold nextSums
  split
  · simp [bump]
  · rfl
theorem own_runF (ops : List OpV) (xs : List Nat) : ∀ f i S, (runF ops xs f i S).1.length = S.length
  | 0, _, _ => rfl
  | f + 1, i, S => by
    unfold runF
    simp only
    split
    · rfl
    · simp only [own_runF ops xs f, own_bump]
theorem own_run_len {F O : Int} {ops : List OpV} {xs : List Nat} {R1 R2 : List Int} {R3 : Int} (h : runV F O ops xs = (R1, R2, R3)) : R1.length ≤ 64 := by
  unfold runV at h
  split at h
  · rw [← (Prod.mk.inj h).1]; simp
  · next hk =>
    split at h
    · rw [← (Prod.mk.inj h).1]; simp
    · rw [← (Prod.mk.inj h).1]
      rw [own_runF, List.length_replicate]
      have hc : (checkV F O ops).1 = 0 := Classical.byContradiction hk
      unfold checkV at hc
      split at hc
      · simp at hc
      · omega

end Go.Proofs.YtekcpapkicmckaaGreatDoor

namespace Go.Proofs.YtekcpapkicmckaaGreatDoor
open Go.RowKit
theorem own_boxes (w : World) (a b : Obj) : ((w.alloc a).alloc b).heap[w.heap.size]? = some a ∧ ((w.alloc a).alloc b).heap[w.heap.size + 1]? = some b ∧ Below w.heap.size w ((w.alloc a).alloc b) ∧ ((w.alloc a).alloc b).heap.size = w.heap.size + 2 := by
  refine ⟨?_, ?_, ((Below.refl _ _).alloc (Nat.le_refl _) _).alloc (by simp) _, by simp⟩
  all_goals
    show ((w.heap.push a).push b)[_]? = _
    simp only [Array.getElem?_push, Array.size_push]
    repeat (first | rw [if_pos trivial] | rw [if_neg (by omega)] | rw [if_pos (by omega)])
theorem ownCompile_any (name : ByteArray) (FA : Option Addr) (fn fc : Nat) (O : Int) (BA : Option Addr) (bn bc : Nat) (TA : Option Addr) (tn tc : Nat) (base : List Int) (ts : List TrV) (w : World) (hb : Ints w BA bn bc base) (ht : TrsAt w TA tn tc ts) (hsum : manyNodes ts ≤ 1048576) :
    Calls Tryz.prog 13 #[.agg #[.string name, .slice FA fn fc, .int .i64 O, .slice BA bn bc, .slice TA tn tc]] w (CompilePost (fn : Int) O (compileV (fn : Int) O base ts) w) := by
  by_cases hbad : O < 1 ∨ 64 < O ∨ (bn : Int) ≠ O ∨ 65536 < (fn : Int)
  · exact Compile_size name FA fn fc O BA bn bc TA tn tc base ts w hb.len hbad
  · exact Compile_good name FA fn fc O BA bn bc TA tn tc base ts w hb ht (by omega) (by omega) (by omega) (by omega) (by omega)
theorem CompilePost.own {F O K FF OO : Int} {T : List OpV} {w : World} {e : Ending} {w' : World} (h1 : (if K = 0 then F else 0) = FF) (h2 : (if K = 0 then O else 0) = OO) (h : CompilePost F O (T, K) w e w') :
    ∃ A n c, e = .returned (.tuple #[.agg #[.int .i64 FF, .int .i64 OO, .slice A n c], .int .i64 K]) ∧ OwnOps w' w.heap.size A n c T ∧ Below w.heap.size w w' := by
  subst h1 h2
  exact h
theorem chainC {w3 a b : World} (h : Below w3.heap.size w3 a) (k : Below a.heap.size a b) : Below w3.heap.size w3 b := below_then h h.size k

set_option maxHeartbeats 8000000 in
set_option maxRecDepth 100000 in
theorem own_true (name : ByteArray) (FA : Option Addr) (fn fc : Nat) (O : Int) (BA : Option Addr) (bn bc : Nat) (TA : Option Addr) (tn tc : Nat) (feats : List ByteArray) (base : List Int) (ts : List TrV)
    (F2 O2 : Int) (A X : Option Addr) (n c xn xc : Nat) (ops : List OpV) (xs : List Nat) (w : World) (he : EnsAt w name FA fn fc BA bn bc TA tn tc feats base ts) (hp : OpsAt w A n c ops) (hx : Sl w X xn xc (fls xs)) (hn : n ≤ 1048576) (hcb : ∀ u ∈ ops, u.cats.length ≤ 1048576) (hT : TabsS w) :
    Calls Tryz.prog 6 #[.agg #[.string name, .slice FA fn fc, .int .i64 O, .slice BA bn bc, .slice TA tn tc], .agg #[.int .i64 F2, .int .i64 O2, .slice A n c], .slice X xn xc] w fun e w' => e = .returned (.bool true) ∧ Below w.heap.size w w' := by
  have HEB := Lib.hid (fun W (h : Below w.heap.size w W) => he.base.below h)
  have HET := Lib.hid (fun W (h : Below w.heap.size w W) => he.trees.below h)
  have HP := Lib.hid (fun W (h : Below w.heap.size w W) => hp.below h)
  have HX := Lib.hid (fun W (h : Below w.heap.size w W) => hx.below h)
  have HT := Lib.hid (fun W (h : Below w.heap.size w W) => hT.below h)
  have HNM := Lib.hid he.nodes
  have HLN := Lib.hid hp.len
  have HCB := Lib.hid hcb
  have HCC := Lib.hid (fun u hu => Nat.le_trans (hcb u hu) (show 1048576 ≤ 1000000000000 by omega))
  obtain ⟨T, K, hR⟩ : ∃ T K, compileV (fn : Int) O base ts = (T, K) := ⟨_, _, rfl⟩
  obtain ⟨FF, hFF⟩ : ∃ FF, (if K = 0 then (fn : Int) else 0) = FF := ⟨_, rfl⟩
  obtain ⟨OO, hOO⟩ : ∃ OO, (if K = 0 then O else 0) = OO := ⟨_, rfl⟩
  obtain ⟨T2, K2, hR2⟩ : ∃ T K, tidyV F2 O2 ops = (T, K) := ⟨_, _, rfl⟩
  obtain ⟨GG, hGG⟩ : ∃ GG, (if K2 = 0 then F2 else 0) = GG := ⟨_, rfl⟩
  obtain ⟨QQ, hQQ⟩ : ∃ QQ, (if K2 = 0 then O2 else 0) = QQ := ⟨_, rfl⟩
  obtain ⟨R1, R2, R3, hRV⟩ : ∃ R1 R2 R3, runV F2 O2 ops xs = (R1, R2, R3) := ⟨_, _, _, rfl⟩
  have HTL := Lib.hid (own_len hR he.nodes)
  have HTC := Lib.hid (own_cats hR (fun t ht u hu => he.cats t ht u hu))
  have HUL := Lib.hid (own_tidy_len hR2)
  have HUC := Lib.hid (own_tidy_cats hR2 hcb)
  have HRL := Lib.hid (own_run_len hRV)
  have HF := Lib.hid hFF
  have HO := Lib.hid hOO
  have HR := Lib.hid hR
  have HG := Lib.hid hGG
  have HQ := Lib.hid hQQ
  have HR2 := Lib.hid hR2
  have HRV := Lib.hid hRV
  clear he hp hx hT hcb hR hFF hOO hR2 hGG hQQ hRV
  obtain ⟨kE, kP, b2, hz2⟩ := own_boxes w (.cells #[.string name, .slice FA fn fc, .int .i64 O, .slice BA bn bc, .slice TA tn tc] 26) (.cells #[.int .i64 F2, .int .i64 O2, .slice A n c] 30)
  go_enter Tryz.func6, Tryz.ntmps6
  go_upto_region 1 with (fail)
  generalize (w.alloc (.cells #[.string name, .slice FA fn fc, .int .i64 O, .slice BA bn bc, .slice TA tn tc] 26)).alloc (.cells #[.int .i64 F2, .int .i64 O2, .slice A n c] 30) = w2 at *
  have HL := Lib.hid (lives_any w2 (HT.out _ b2))
  have HKE := Lib.hid kE
  have HKP := Lib.hid kP
  have HB2 := Lib.hid b2
  have HZ2 := Lib.hid hz2
  clear kE kP b2 hz2
  go_wp2_with fail
  refine HL.out.mono ?_; rintro e w3 ⟨rfl, b3⟩
  have hk3 := (b3.block _ (lt_of_block HKE.out)).trans HKE.out
  have hl3 := (b3.block _ (lt_of_block HKP.out)).trans HKP.out
  have HB3 := Lib.hid (below_then HB2.out HB2.out.size b3)
  have HW3 := Lib.hid (fun (W : World) (hW : Below w3.heap.size w3 W) => below_then HB3.out HB3.out.size hW)
  have KS3 := Lib.hid (fun (W : World) (hW : Below w3.heap.size w3 W) => And.intro ((hW.block _ (lt_of_block hk3)).trans hk3) ((hW.block _ (lt_of_block hl3)).trans hl3))
  have HLE3 := Lib.hid (show w.heap.size ≤ w3.heap.size from HB3.out.size)
  clear HL b3 hk3 hl3 HKE HKP HZ2 HB2
  have p0 : w3.cell? ⟨w.heap.size, 0, none⟩ = some (.string name) := cell_of_block (KS3.out _ (Below.refl _ _)).1 rfl
  have p1 : w3.cell? ⟨w.heap.size, 1, none⟩ = some (.slice FA fn fc) := cell_of_block (KS3.out _ (Below.refl _ _)).1 rfl
  have p2 : w3.cell? ⟨w.heap.size, 2, none⟩ = some (.int .i64 O) := cell_of_block (KS3.out _ (Below.refl _ _)).1 rfl
  have p3 : w3.cell? ⟨w.heap.size, 3, none⟩ = some (.slice BA bn bc) := cell_of_block (KS3.out _ (Below.refl _ _)).1 rfl
  have p4 : w3.cell? ⟨w.heap.size, 4, none⟩ = some (.slice TA tn tc) := cell_of_block (KS3.out _ (Below.refl _ _)).1 rfl
  have hC := ownCompile_any name FA fn fc O BA bn bc TA tn tc base ts w3 (HEB.out _ (HW3.out _ (Below.refl _ _))) (HET.out _ (HW3.out _ (Below.refl _ _))) HNM.out
  rw [HR.out] at hC
  have HC := Lib.hid (hC.mono fun _ _ h => h.own HF.out HO.out)
  clear hC
  go_wp2_with fail
  refine HC.out.mono ?_; rintro e w4 ⟨A3, n3, c3, rfl, ho4, b4⟩
  have HB4 := Lib.hid b4
  have HO4 := Lib.hid ho4.ownTop
  have HN3 := Lib.hid ho4.len
  clear p0 p1 p2 p3 p4 HC b4 ho4
  go_upto_region 4 with (fail)
  have b5 := (Below.refl w4.heap.size w4).alloc (Nat.le_refl _) (.cells #[.int .i64 FF, .int .i64 OO, .slice A3 n3 c3] 30)
  have h5 := heap_alloc_new w4 (.cells #[.int .i64 FF, .int .i64 OO, .slice A3 n3 c3] 30)
  generalize w4.alloc (.cells #[.int .i64 FF, .int .i64 OO, .slice A3 n3 c3] 30) = w5 at b5 h5 ⊢
  have HB5 := Lib.hid (chainC HB4.out b5)
  have HO5 := Lib.hid (HO4.out.below b5)
  have HS5 := Lib.hid h5
  have HZ5 := Lib.hid b5.size
  clear b5 h5 HO4
  have p0 : w5.cell? ⟨w.heap.size, 0, none⟩ = some (.string name) := cell_of_block (KS3.out _ HB5.out).1 rfl
  have p1 : w5.cell? ⟨w.heap.size, 1, none⟩ = some (.slice FA fn fc) := cell_of_block (KS3.out _ HB5.out).1 rfl
  have p2 : w5.cell? ⟨w.heap.size, 2, none⟩ = some (.int .i64 O) := cell_of_block (KS3.out _ HB5.out).1 rfl
  have p3 : w5.cell? ⟨w.heap.size, 3, none⟩ = some (.slice BA bn bc) := cell_of_block (KS3.out _ HB5.out).1 rfl
  have p4 : w5.cell? ⟨w.heap.size, 4, none⟩ = some (.slice TA tn tc) := cell_of_block (KS3.out _ HB5.out).1 rfl
  have hC := rCompile_any name FA fn fc O BA bn bc TA tn tc base ts w5 (HEB.out _ (HW3.out _ HB5.out)) (HET.out _ (HW3.out _ HB5.out)) HNM.out
  rw [HR.out] at hC
  have HC := Lib.hid (hC.mono fun _ _ h => h.own HF.out HO.out)
  clear hC
  go_wp2_with fail
  refine HC.out.mono ?_; rintro e w6 ⟨A4, n4, c4, rfl, ho6, b6⟩
  have HB6 := Lib.hid (chainC HB5.out b6)
  have HO6 := Lib.hid (HO5.out.below b6)
  have HS6 := Lib.hid ((b6.block _ (lt_of_block HS5.out)).trans HS5.out)
  have HQ6 := Lib.hid ho6
  have HZ6 := Lib.hid b6.size
  clear p0 p1 p2 p3 p4 HC b6 ho6 HO5 HS5 HB5
  go_upto_region 5 with (fail)
  have b7 := (Below.refl w6.heap.size w6).alloc (Nat.le_refl _) (.cells #[.int .i64 FF, .int .i64 OO, .slice A4 n4 c4] 30)
  have h7 := heap_alloc_new w6 (.cells #[.int .i64 FF, .int .i64 OO, .slice A4 n4 c4] 30)
  generalize w6.alloc (.cells #[.int .i64 FF, .int .i64 OO, .slice A4 n4 c4] 30) = w7 at b7 h7 ⊢
  have HB7 := Lib.hid (chainC HB6.out b7)
  have HO7 := Lib.hid (HO6.out.below b7)
  have HS7 := Lib.hid ((b7.block _ (lt_of_block HS6.out)).trans HS6.out)
  have HQ7 := Lib.hid (HQ6.out.below b7)
  have HU7 := Lib.hid h7
  have HZ7 := Lib.hid b7.size
  clear b7 h7 HO6 HS6 HQ6 HB6
  have p0 : w7.cell? ⟨w4.heap.size, 0, none⟩ = some (.int .i64 FF) := cell_of_block (HS7.out) rfl
  have p1 : w7.cell? ⟨w4.heap.size, 1, none⟩ = some (.int .i64 OO) := cell_of_block (HS7.out) rfl
  have p2 : w7.cell? ⟨w4.heap.size, 2, none⟩ = some (.slice A3 n3 c3) := cell_of_block (HS7.out) rfl
  have HSP := Lib.hid (spoil_any FF OO A3 n3 c3 T w3.heap.size w4.heap.size w7 HO7.out (by have := HZ5.out; have := HZ6.out; have := HZ7.out; omega) HB4.out.size (by have := HN3.out; have := HTL.out; omega) (fun u hu => Nat.le_trans (HTC.out u hu) (by omega)))
  go_wp2_with fail
  refine HSP.out.mono ?_; rintro e w8 ⟨rfl, bt⟩
  have HB8 := Lib.hid (HB7.out.trans (bt.below HB7.out.size))
  have HQ8 := Lib.hid (HQ7.out.above (show w4.heap.size ≤ w5.heap.size from HZ5.out) bt)
  have HU8 := Lib.hid ((bt.block w6.heap.size (lt_of_block HU7.out) (.inr (Nat.le_trans HZ5.out HZ6.out))).trans HU7.out)
  clear p0 p1 p2 HSP bt HO7 HS7 HQ7 HU7 HZ5 HZ6 HZ7 HB7 HB4
  have p0 : w8.cell? ⟨w.heap.size, 0, none⟩ = some (.string name) := cell_of_block (KS3.out _ HB8.out).1 rfl
  have p1 : w8.cell? ⟨w.heap.size, 1, none⟩ = some (.slice FA fn fc) := cell_of_block (KS3.out _ HB8.out).1 rfl
  have p2 : w8.cell? ⟨w.heap.size, 2, none⟩ = some (.int .i64 O) := cell_of_block (KS3.out _ HB8.out).1 rfl
  have p3 : w8.cell? ⟨w.heap.size, 3, none⟩ = some (.slice BA bn bc) := cell_of_block (KS3.out _ HB8.out).1 rfl
  have p4 : w8.cell? ⟨w.heap.size, 4, none⟩ = some (.slice TA tn tc) := cell_of_block (KS3.out _ HB8.out).1 rfl
  have hC := ownCompile_any name FA fn fc O BA bn bc TA tn tc base ts w8 (HEB.out _ (HW3.out _ HB8.out)) (HET.out _ (HW3.out _ HB8.out)) HNM.out
  rw [HR.out] at hC
  have HC := Lib.hid (hC.mono fun _ _ h => h.own HF.out HO.out)
  clear hC
  go_wp2_with fail
  refine HC.out.mono ?_; rintro e w9 ⟨A5, n5, c5, rfl, ho9, b9⟩
  have HB9 := Lib.hid (chainC HB8.out b9)
  have HQ9 := Lib.hid (HQ8.out.opsAt.below b9)
  have HU9 := Lib.hid ((b9.block _ (lt_of_block HU8.out)).trans HU8.out)
  have HV9 := Lib.hid ho9.opsAt
  clear p0 p1 p2 p3 p4 HC b9 ho9 HQ8 HU8 HB8
  go_upto_region 7 with (fail)
  have b10 := (Below.refl w9.heap.size w9).alloc (Nat.le_refl _) (.cells #[.int .i64 FF, .int .i64 OO, .slice A5 n5 c5] 30)
  have h10 := heap_alloc_new w9 (.cells #[.int .i64 FF, .int .i64 OO, .slice A5 n5 c5] 30)
  generalize w9.alloc (.cells #[.int .i64 FF, .int .i64 OO, .slice A5 n5 c5] 30) = w10 at b10 h10 ⊢
  have HB10 := Lib.hid (chainC HB9.out b10)
  have hu10 := (b10.block _ (lt_of_block HU9.out)).trans HU9.out
  have hq10 := HQ9.out.below b10
  have hv10 := HV9.out.below b10
  have HW10 := Lib.hid (fun (W : World) (hW : Below w10.heap.size w10 W) => chainC HB10.out hW)
  have KS10 := Lib.hid (fun (W : World) (hW : Below w10.heap.size w10 W) => And.intro ((hW.block _ (lt_of_block hu10)).trans hu10) ((hW.block _ (lt_of_block h10)).trans h10))
  have HQ10 := Lib.hid (fun (W : World) (hW : Below w10.heap.size w10 W) => And.intro (hq10.below hW) (hv10.below hW))
  clear b10 h10 hu10 hq10 hv10 HQ9 HU9 HV9 HB9
  have p0 : w10.cell? ⟨w.heap.size + 1, 0, none⟩ = some (.int .i64 F2) := cell_of_block ((KS3.out _ (HW10.out _ (Below.refl _ _))).2) rfl
  have p1 : w10.cell? ⟨w.heap.size + 1, 1, none⟩ = some (.int .i64 O2) := cell_of_block ((KS3.out _ (HW10.out _ (Below.refl _ _))).2) rfl
  have p2 : w10.cell? ⟨w.heap.size + 1, 2, none⟩ = some (.slice A n c) := cell_of_block ((KS3.out _ (HW10.out _ (Below.refl _ _))).2) rfl
  have hC := Tidy_any F2 O2 A n c ops w10 (HP.out _ (HW3.out _ (HW10.out _ (Below.refl _ _)))) (by omega) HCC.out
  rw [HR2.out] at hC
  have HC := Lib.hid (hC.mono fun _ _ h => h.own HG.out HQ.out)
  clear hC
  go_wp2_with fail
  refine HC.out.mono ?_; rintro e w11 ⟨A6, n6, c6, rfl, ho11, b11⟩
  have HB11 := Lib.hid b11
  have HO11 := Lib.hid ho11.ownTop
  have HN6 := Lib.hid ho11.len
  clear p0 p1 p2 HC b11 ho11
  go_upto_region 8 with (fail)
  have b12 := (Below.refl w11.heap.size w11).alloc (Nat.le_refl _) (.cells #[.int .i64 GG, .int .i64 QQ, .slice A6 n6 c6] 30)
  have h12 := heap_alloc_new w11 (.cells #[.int .i64 GG, .int .i64 QQ, .slice A6 n6 c6] 30)
  generalize w11.alloc (.cells #[.int .i64 GG, .int .i64 QQ, .slice A6 n6 c6] 30) = w12 at b12 h12 ⊢
  have HB12 := Lib.hid (chainC HB11.out b12)
  have HO12 := Lib.hid (HO11.out.below b12)
  have HS12 := Lib.hid h12
  have HZ12 := Lib.hid b12.size
  clear b12 h12 HO11
  have p0 : w12.cell? ⟨w.heap.size + 1, 0, none⟩ = some (.int .i64 F2) := cell_of_block ((KS3.out _ (HW10.out _ HB12.out)).2) rfl
  have p1 : w12.cell? ⟨w.heap.size + 1, 1, none⟩ = some (.int .i64 O2) := cell_of_block ((KS3.out _ (HW10.out _ HB12.out)).2) rfl
  have p2 : w12.cell? ⟨w.heap.size + 1, 2, none⟩ = some (.slice A n c) := cell_of_block ((KS3.out _ (HW10.out _ HB12.out)).2) rfl
  have hC := rTidy_any F2 O2 A n c ops w12 (HP.out _ (HW3.out _ (HW10.out _ HB12.out))) (by omega) HCC.out
  rw [HR2.out] at hC
  have HC := Lib.hid (hC.mono fun _ _ h => h.own HG.out HQ.out)
  clear hC
  go_wp2_with fail
  refine HC.out.mono ?_; rintro e w13 ⟨A7, n7, c7, rfl, ho13, b13⟩
  have HB13 := Lib.hid (chainC HB12.out b13)
  have HO13 := Lib.hid (HO12.out.below b13)
  have HS13 := Lib.hid ((b13.block _ (lt_of_block HS12.out)).trans HS12.out)
  have HQ13 := Lib.hid ho13
  have HZ13 := Lib.hid b13.size
  clear p0 p1 p2 HC b13 ho13 HO12 HS12 HB12
  go_upto_region 9 with (fail)
  have b14 := (Below.refl w13.heap.size w13).alloc (Nat.le_refl _) (.cells #[.int .i64 GG, .int .i64 QQ, .slice A7 n7 c7] 30)
  have h14 := heap_alloc_new w13 (.cells #[.int .i64 GG, .int .i64 QQ, .slice A7 n7 c7] 30)
  generalize w13.alloc (.cells #[.int .i64 GG, .int .i64 QQ, .slice A7 n7 c7] 30) = w14 at b14 h14 ⊢
  have HB14 := Lib.hid (chainC HB13.out b14)
  have HO14 := Lib.hid (HO13.out.below b14)
  have HS14 := Lib.hid ((b14.block _ (lt_of_block HS13.out)).trans HS13.out)
  have HQ14 := Lib.hid (HQ13.out.below b14)
  have HU14 := Lib.hid h14
  have HZ14 := Lib.hid b14.size
  clear b14 h14 HO13 HS13 HQ13 HB13
  have p0 : w14.cell? ⟨w.heap.size + 1, 0, none⟩ = some (.int .i64 F2) := cell_of_block ((KS3.out _ (HW10.out _ HB14.out)).2) rfl
  have p1 : w14.cell? ⟨w.heap.size + 1, 1, none⟩ = some (.int .i64 O2) := cell_of_block ((KS3.out _ (HW10.out _ HB14.out)).2) rfl
  have p2 : w14.cell? ⟨w.heap.size + 1, 2, none⟩ = some (.slice A n c) := cell_of_block ((KS3.out _ (HW10.out _ HB14.out)).2) rfl
  have HC := Lib.hid (Copy_any F2 O2 A n c ops w14 (HP.out _ (HW3.out _ (HW10.out _ HB14.out))) (by omega) HCC.out)
  go_wp2_with fail
  refine HC.out.mono ?_; rintro e w15 ⟨A8, n8, c8, rfl, ho15, b15⟩
  have HB15 := Lib.hid (chainC HB14.out b15)
  have HO15 := Lib.hid (HO14.out.below b15)
  have HS15 := Lib.hid ((b15.block _ (lt_of_block HS14.out)).trans HS14.out)
  have HQ15 := Lib.hid (HQ14.out.below b15)
  have HU15 := Lib.hid ((b15.block _ (lt_of_block HU14.out)).trans HU14.out)
  have HV15 := Lib.hid ho15
  have HZ15 := Lib.hid b15.size
  clear p0 p1 p2 HC b15 ho15 HO14 HS14 HQ14 HU14 HB14
  go_upto_region 10 with (fail)
  have b16 := (Below.refl w15.heap.size w15).alloc (Nat.le_refl _) (.cells #[.int .i64 F2, .int .i64 O2, .slice A8 n8 c8] 30)
  have h16 := heap_alloc_new w15 (.cells #[.int .i64 F2, .int .i64 O2, .slice A8 n8 c8] 30)
  generalize w15.alloc (.cells #[.int .i64 F2, .int .i64 O2, .slice A8 n8 c8] 30) = w16 at b16 h16 ⊢
  have HB16 := Lib.hid (chainC HB15.out b16)
  have HO16 := Lib.hid (HO15.out.below b16)
  have HS16 := Lib.hid ((b16.block _ (lt_of_block HS15.out)).trans HS15.out)
  have HQ16 := Lib.hid (HQ15.out.below b16)
  have HU16 := Lib.hid ((b16.block _ (lt_of_block HU15.out)).trans HU15.out)
  have HV16 := Lib.hid (HV15.out.below b16)
  have HX16 := Lib.hid h16
  have HZ16 := Lib.hid b16.size
  clear b16 h16 HO15 HS15 HQ15 HU15 HV15 HB15
  have p0 : w16.cell? ⟨w11.heap.size, 0, none⟩ = some (.int .i64 GG) := cell_of_block (HS16.out) rfl
  have p1 : w16.cell? ⟨w11.heap.size, 1, none⟩ = some (.int .i64 QQ) := cell_of_block (HS16.out) rfl
  have p2 : w16.cell? ⟨w11.heap.size, 2, none⟩ = some (.slice A6 n6 c6) := cell_of_block (HS16.out) rfl
  have HSP := Lib.hid (spoil_any GG QQ A6 n6 c6 T2 w10.heap.size w11.heap.size w16 HO16.out (by have := HZ12.out; have := HZ13.out; have := HZ14.out; have := HZ15.out; have := HZ16.out; omega) HB11.out.size (by have := HN6.out; have := HUL.out; have := HLN.out; omega) (fun u hu => Nat.le_trans (HUC.out u hu) (by omega)))
  go_wp2_with fail
  refine HSP.out.mono ?_; rintro e w17 ⟨rfl, bt⟩
  have HB17 := Lib.hid (HB16.out.trans (bt.below HB16.out.size))
  have HQ17 := Lib.hid (HQ16.out.above (show w11.heap.size ≤ w12.heap.size from HZ12.out) bt).opsAt
  have HU17 := Lib.hid ((bt.block w13.heap.size (lt_of_block HU16.out) (.inr (by have := HZ12.out; have := HZ13.out; omega))).trans HU16.out)
  have HV17 := Lib.hid (HV16.out.above (show w11.heap.size ≤ w14.heap.size by have := HZ12.out; have := HZ13.out; have := HZ14.out; omega) bt).opsAt
  have HX17 := Lib.hid ((bt.block w15.heap.size (lt_of_block HX16.out) (.inr (by have := HZ12.out; have := HZ13.out; have := HZ14.out; have := HZ15.out; omega))).trans HX16.out)
  clear p0 p1 p2 HSP bt HO16 HS16 HQ16 HU16 HV16 HX16 HZ12 HZ13 HZ14 HZ15 HZ16 HB16 HB11
  have p0 : w17.cell? ⟨w.heap.size + 1, 0, none⟩ = some (.int .i64 F2) := cell_of_block ((KS3.out _ (HW10.out _ HB17.out)).2) rfl
  have p1 : w17.cell? ⟨w.heap.size + 1, 1, none⟩ = some (.int .i64 O2) := cell_of_block ((KS3.out _ (HW10.out _ HB17.out)).2) rfl
  have p2 : w17.cell? ⟨w.heap.size + 1, 2, none⟩ = some (.slice A n c) := cell_of_block ((KS3.out _ (HW10.out _ HB17.out)).2) rfl
  have hC := Tidy_any F2 O2 A n c ops w17 (HP.out _ (HW3.out _ (HW10.out _ HB17.out))) (by omega) HCC.out
  rw [HR2.out] at hC
  have HC := Lib.hid (hC.mono fun _ _ h => h.own HG.out HQ.out)
  clear hC
  go_wp2_with fail
  refine HC.out.mono ?_; rintro e w18 ⟨A9, n9, c9, rfl, ho18, b18⟩
  have HB18 := Lib.hid (chainC HB17.out b18)
  have HQ18 := Lib.hid (HQ17.out.below b18)
  have HU18 := Lib.hid ((b18.block _ (lt_of_block HU17.out)).trans HU17.out)
  have HV18 := Lib.hid (HV17.out.below b18)
  have HX18 := Lib.hid ((b18.block _ (lt_of_block HX17.out)).trans HX17.out)
  have HY18 := Lib.hid ho18.opsAt
  clear p0 p1 p2 HC b18 ho18 HQ17 HU17 HV17 HX17 HB17
  go_upto_region 12 with (fail)
  have b19 := (Below.refl w18.heap.size w18).alloc (Nat.le_refl _) (.cells #[.int .i64 GG, .int .i64 QQ, .slice A9 n9 c9] 30)
  have h19 := heap_alloc_new w18 (.cells #[.int .i64 GG, .int .i64 QQ, .slice A9 n9 c9] 30)
  generalize w18.alloc (.cells #[.int .i64 GG, .int .i64 QQ, .slice A9 n9 c9] 30) = w19 at b19 h19 ⊢
  have HB19 := Lib.hid (chainC HB18.out b19)
  have hu := (b19.block _ (lt_of_block HU18.out)).trans HU18.out
  have hx := (b19.block _ (lt_of_block HX18.out)).trans HX18.out
  have hq := HQ18.out.below b19
  have hv := HV18.out.below b19
  have hy := HY18.out.below b19
  have HW19 := Lib.hid (fun (W : World) (hW : Below w19.heap.size w19 W) => chainC HB19.out hW)
  have KU19 := Lib.hid (fun (W : World) (hW : Below w19.heap.size w19 W) => (hW.block _ (lt_of_block hu)).trans hu)
  have KX19 := Lib.hid (fun (W : World) (hW : Below w19.heap.size w19 W) => (hW.block _ (lt_of_block hx)).trans hx)
  have KH19 := Lib.hid (fun (W : World) (hW : Below w19.heap.size w19 W) => (hW.block _ (lt_of_block h19)).trans h19)
  have HQ19 := Lib.hid (fun (W : World) (hW : Below w19.heap.size w19 W) => And.intro (hq.below hW) (And.intro (hv.below hW) (hy.below hW)))
  clear b19 h19 hu hx hq hv hy HQ18 HU18 HV18 HX18 HY18 HB18
  have p0 : w19.cell? ⟨w.heap.size + 1, 0, none⟩ = some (.int .i64 F2) := cell_of_block ((KS3.out _ (HW10.out _ HB19.out)).2) rfl
  have p1 : w19.cell? ⟨w.heap.size + 1, 1, none⟩ = some (.int .i64 O2) := cell_of_block ((KS3.out _ (HW10.out _ HB19.out)).2) rfl
  have p2 : w19.cell? ⟨w.heap.size + 1, 2, none⟩ = some (.slice A n c) := cell_of_block ((KS3.out _ (HW10.out _ HB19.out)).2) rfl
  have hC := Run_any F2 O2 A X n c xn xc ops xs w19 (HP.out _ (HW3.out _ (HW10.out _ HB19.out))) (HX.out _ (HW3.out _ (HW10.out _ HB19.out))) (by omega)
  rw [HRV.out] at hC
  have HC := Lib.hid (hC.mono fun _ _ h => h.parts)
  clear hC
  go_wp2_with fail
  refine HC.out.mono ?_; rintro e w20 ⟨SA, sn, sc, rfl, hs20, b20⟩
  have HS20 := Lib.hid hs20.mine
  have HB20 := Lib.hid b20
  have HSN := Lib.hid (show R1.length = sn by have := hs20.mine.len; rwa [i64s_length] at this)
  clear p0 p1 p2 HC b20 hs20
  go_upto_region 14 with (fail)
  go_loopw [71] (fun kx wr => ∃ (k : Nat) (zs : List Int), kx = .int .i64 (k : Int) ∧ k ≤ sn ∧ zs.length = sn ∧ Mine 2 wr w19.heap.size SA sn sc (i64s zs) ∧ Below w19.heap.size w19 wr) (fun kx _ => sn - (intOf kx).toNat)
  case atStart => exact ⟨0, R1, rfl, Nat.zero_le _, HSN.out, HS20.out, HB20.out⟩
  case round =>
    obtain ⟨k, zs, rfl, hk, hzl, hm, hbr⟩ := hrel
    have hrl := HRL.out
    have hsn := HSN.out
    by_cases hkt : k < sn
    · rcases hm.row with ⟨_, h0, _⟩ | ⟨g, rest, e, hbg, hg, _⟩
      · exact absurd h0 (by omega)
      subst e
      have c4 := hm.cell k hkt
      rw [i64s_getD (by omega)] at c4
      generalize zs.getD k 0 = z0 at c4
      have z4 := frozen_row hg k
      have hst := hm.stored k hkt (.int .i64 (-1))
      rw [i64s_put] at hst
      have HM3 := Lib.hid hst
      have HB4 := Lib.hid (hbr.setCell (p := ⟨g, k, none⟩) hbg (.int .i64 (-1)))
      have j1 : (k : Int) < (sn : Int) := by omega
      have j2 : decide ((k : Int) < (sn : Int)) = true := by simpa using j1
      clear hm hbr hg hst
      go_wp2
      go_roundw
      case rel => exact ⟨k + 1, zs.set k (-1), by go_num, hkt, by rw [List.length_set]; exact hzl, HM3.out, HB4.out⟩
      case measure => simp [intOf]; omega
    · obtain rfl : k = sn := by omega
      have j2 : decide ((k : Int) < (k : Int)) = false := by simp
      have b2 := (Below.refl wr.heap.size wr).alloc (Nat.le_refl _) (.cells #[.int .i64 1, .int .i64 2] 2)
      have HN := Lib.hid (heap_alloc_new wr (.cells #[.int .i64 1, .int .i64 2] 2))
      have hma := (hm.below b2).toK1
      have HBA := Lib.hid (chainC hbr b2)
      have hbs : w19.heap.size ≤ (wr.alloc (.cells #[.int .i64 1, .int .i64 2] 2)).heap.size := by have := b2.size; have := hbr.size; omega
      have HLT := Lib.hid (fun q hq => (hm.lt q hq).1)
      clear hm hbr b2
      rename World => wl
      go_upto_region 19 with (at_builtin; refine app_boxK w19.heap.size rfl _ _ _ _ (.int .i64 0) 1 8 rfl Tryz.underlying23 Tryz.info_i64 rfl (by omega) SA k sc (i64s zs) wl.heap.size 2 2 _ _ HN.out rfl rfl rfl (by decide) hma hbs (by omega) (by omega) ?_; rintro SB cB w22 hm22 hg22 hA22)
      have HB22 := Lib.hid (below_grown HBA.out hbs hg22 HLT.out)
      clear hm22 hg22 hA22 hma hbs HN HBA HLT
      generalize hN2 : k + 2 = N
      have i1 : (1 : Int) < (N : Int) := by omega
      have i2 : decide ((1 : Int) < (N : Int)) = true := by simpa using i1
      have B22 := HB22.out
      have b10 := HW19.out _ B22
      clear hN2 j2
      have p0 : w22.cell? ⟨w9.heap.size, 0, none⟩ = some (.int .i64 FF) := cell_of_block ((KS10.out _ b10).2) rfl
      have p1 : w22.cell? ⟨w9.heap.size, 1, none⟩ = some (.int .i64 OO) := cell_of_block ((KS10.out _ b10).2) rfl
      have p2 : w22.cell? ⟨w9.heap.size, 2, none⟩ = some (.slice A5 n5 c5) := cell_of_block ((KS10.out _ b10).2) rfl
      have r0 : w22.cell? ⟨w6.heap.size, 0, none⟩ = some (.int .i64 FF) := cell_of_block ((KS10.out _ b10).1) rfl
      have r1 : w22.cell? ⟨w6.heap.size, 1, none⟩ = some (.int .i64 OO) := cell_of_block ((KS10.out _ b10).1) rfl
      have r2 : w22.cell? ⟨w6.heap.size, 2, none⟩ = some (.slice A4 n4 c4) := cell_of_block ((KS10.out _ b10).1) rfl
      have hS := rSame_any FF OO FF OO A5 A4 n5 c5 n4 c4 T T w22 (HQ10.out _ b10).2 (HQ10.out _ b10).1
      rw [sameR_refl] at hS
      have HS := Lib.hid hS
      clear hS B22 b10
      go_wp2_with fail
      refine HS.out.mono ?_; rintro e w23 ⟨rfl, b23⟩
      have B23 := chainC HB22.out b23
      clear p0 p1 p2 r0 r1 r2 HS b23
      have p0 : w23.cell? ⟨w18.heap.size, 0, none⟩ = some (.int .i64 GG) := cell_of_block (KH19.out _ B23) rfl
      have p1 : w23.cell? ⟨w18.heap.size, 1, none⟩ = some (.int .i64 QQ) := cell_of_block (KH19.out _ B23) rfl
      have p2 : w23.cell? ⟨w18.heap.size, 2, none⟩ = some (.slice A9 n9 c9) := cell_of_block (KH19.out _ B23) rfl
      have r0 : w23.cell? ⟨w13.heap.size, 0, none⟩ = some (.int .i64 GG) := cell_of_block (KU19.out _ B23) rfl
      have r1 : w23.cell? ⟨w13.heap.size, 1, none⟩ = some (.int .i64 QQ) := cell_of_block (KU19.out _ B23) rfl
      have r2 : w23.cell? ⟨w13.heap.size, 2, none⟩ = some (.slice A7 n7 c7) := cell_of_block (KU19.out _ B23) rfl
      have hS := rSame_any GG QQ GG QQ A9 A7 n9 c9 n7 c7 T2 T2 w23 (HQ19.out _ B23).2.2 (HQ19.out _ B23).1
      rw [sameR_refl] at hS
      have HS := Lib.hid hS
      have HB23 := Lib.hid B23
      clear hS B23
      go_wp2_with fail
      refine HS.out.mono ?_; rintro e w24 ⟨rfl, b24⟩
      have B24 := chainC HB23.out b24
      clear p0 p1 p2 r0 r1 r2 HS b24
      have p0 : w24.cell? ⟨w.heap.size + 1, 0, none⟩ = some (.int .i64 F2) := cell_of_block ((KS3.out _ (HW10.out _ (HW19.out _ B24))).2) rfl
      have p1 : w24.cell? ⟨w.heap.size + 1, 1, none⟩ = some (.int .i64 O2) := cell_of_block ((KS3.out _ (HW10.out _ (HW19.out _ B24))).2) rfl
      have p2 : w24.cell? ⟨w.heap.size + 1, 2, none⟩ = some (.slice A n c) := cell_of_block ((KS3.out _ (HW10.out _ (HW19.out _ B24))).2) rfl
      have r0 : w24.cell? ⟨w15.heap.size, 0, none⟩ = some (.int .i64 F2) := cell_of_block (KX19.out _ B24) rfl
      have r1 : w24.cell? ⟨w15.heap.size, 1, none⟩ = some (.int .i64 O2) := cell_of_block (KX19.out _ B24) rfl
      have r2 : w24.cell? ⟨w15.heap.size, 2, none⟩ = some (.slice A8 n8 c8) := cell_of_block (KX19.out _ B24) rfl
      have hS := rSame_any F2 O2 F2 O2 A A8 n c n8 c8 ops ops w24 (HP.out _ (HW3.out _ (HW10.out _ (HW19.out _ B24)))) (HQ19.out _ B24).2.1
      rw [sameR_refl] at hS
      have HS := Lib.hid hS
      have HB24 := Lib.hid B24
      clear hS B24
      go_wp2_with fail
      refine HS.out.mono ?_; rintro e w25 ⟨rfl, b25⟩
      have B25 := chainC HB24.out b25
      clear p0 p1 p2 r0 r1 r2 HS b25
      have p0 : w25.cell? ⟨w.heap.size + 1, 0, none⟩ = some (.int .i64 F2) := cell_of_block ((KS3.out _ (HW10.out _ (HW19.out _ B25))).2) rfl
      have p1 : w25.cell? ⟨w.heap.size + 1, 1, none⟩ = some (.int .i64 O2) := cell_of_block ((KS3.out _ (HW10.out _ (HW19.out _ B25))).2) rfl
      have p2 : w25.cell? ⟨w.heap.size + 1, 2, none⟩ = some (.slice A n c) := cell_of_block ((KS3.out _ (HW10.out _ (HW19.out _ B25))).2) rfl
      have HS := Lib.hid (runs_true F2 O2 A X n c xn xc ops xs w25 (HP.out _ (HW3.out _ (HW10.out _ (HW19.out _ B25)))) (HX.out _ (HW3.out _ (HW10.out _ (HW19.out _ B25)))) hn HCB.out (HT.out _ (HW3.out _ (HW10.out _ (HW19.out _ B25)))))
      have HB25 := Lib.hid B25
      clear B25
      go_wp2_with fail
      refine HS.out.mono ?_; rintro e w26 ⟨rfl, b26⟩
      have HBF := Lib.hid (HW3.out _ (HW10.out _ (HW19.out _ (chainC HB25.out b26))))
      clear p0 p1 p2 HS b26
      go_wp2
      go_ret
      exact ⟨rfl, HBF.out⟩

end Go.Proofs.YtekcpapkicmckaaGreatDoor
