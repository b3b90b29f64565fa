/- The contracts of limbs.Gcd, right and Over. -/
import Derived.Test.YtgdgdifnpdcgkaaGreatDoorDiv
import Derived.Laws.ResultCell
namespace Go.Proofs.YtgdgdifnpdcgkaaGreatDoor
open Go.RowKit

set_option maxHeartbeats 1000000 in
theorem Gcd_any (A B : Option Addr) (n c m d : Nat) (xs ys : List Nat) (w : World) (hx : Num w A n c xs) (hy : Num w B m d ys) (hn : n < 35184372088831) (hm : m < 35184372088831) :
    Calls Tryz.prog 63 #[.slice A n c, .slice B m d] w fun e w' => ∃ A' c', e = .returned (.slice A' (limbs (Nat.gcd (val xs) (val ys))).length c') ∧
      Own w' w.heap.size A' (limbs (Nat.gcd (val xs) (val ys))).length c' (limbs (Nat.gcd (val xs) (val ys))) ∧ Below w.heap.size w w' := by
  have N1 := Lib.hid (Norm_any _ _ _ _ w hx (by omega))
  have N2 := Lib.hid (fun W (hW : Below w.heap.size w W) => Norm_any _ _ _ _ W (hy.below hW) (by omega))
  have l1 : (limbs (val xs)).length < 35184372088831 := by have := limbs_length_val hx.lim; rw [hx.len] at this; omega
  have l2 : (limbs (val ys)).length < 35184372088831 := by have := limbs_length_val hy.lim; rw [hy.len] at this; omega
  go_enter Tryz.func63, Tryz.ntmps63
  go_wp2_with fail
  refine N1.out.mono ?_; rintro e w1 ⟨A1, c1, rfl, h1, hb1⟩
  go_wp2_with fail
  refine (N2.out _ hb1).mono ?_; rintro e w2 ⟨A2, c2, rfl, h2, hb2⟩
  have h1' := h1.below hb2
  have h2' := h2.mono hb1.size
  have hb := below_then hb1 hb1.size hb2
  clear h1 h2 hb1 hb2
  go_wp2
  go_loopg [0, 1] (val ys) (fun k av bv wr => ∃ (x : Nat) (A : Option Addr) (p c : Nat) (B : Option Addr) (q d : Nat), av = .slice A p c ∧ bv = .slice B q d ∧ Own wr w.heap.size A p c (limbs x) ∧ Own wr w.heap.size B q d (limbs k) ∧ Below w.heap.size w wr ∧
    Hid (Nat.gcd x k = Nat.gcd (val xs) (val ys)) ∧ p < 35184372088831 ∧ q < 35184372088831)
  case atStart => exact ⟨val xs, A1, _, c1, A2, _, c2, rfl, rfl, h1', h2', hb, Lib.hid rfl, l1, l2⟩
  case round =>
    obtain ⟨x, A, p, c, B, q, d, rfl, rfl, ha, hb', hbw, HG, hp, hq⟩ := hrel
    clear h1' h2' hb l1 l2
    have hbs := hbw.size
    by_cases hk : gk = 0
    · subst hk
      obtain rfl : q = 0 := by have := hb'.len; rw [limbs_zero] at this; exact this.symm
      have HG' := Lib.hid (show x = Nat.gcd (val xs) (val ys) by rw [← HG.out]; simp)
      have hpl := Lib.hid ha.len
      go_wp2
      go_ret
      rw [← HG'.out, hpl.out]
      exact ⟨A, c, rfl, ha, hbw⟩
    · have hq0 : 0 < q := by
        rw [← hb'.len]
        exact Nat.pos_of_ne_zero (fun e => hk (limbs_length_zero.1 e))
      have hdec : decide ((0 : Int) < (q : Int)) = true := by simp; omega
      have HD := DivMod_any _ _ _ _ _ _ _ _ wr ha.num hb'.num (by rw [val_limbs]; exact hk) hp
      rw [val_limbs, val_limbs] at HD
      have HDV := Lib.hid HD
      have hlt := Nat.mod_lt x (Nat.pos_of_ne_zero hk)
      have HL : Hid ((limbs (x % gk)).length ≤ q) := Lib.hid (by rw [← hb'.len]; exact limbs_length_mono (by omega))
      have HG2 : Hid (Nat.gcd gk (x % gk) = Nat.gcd (val xs) (val ys)) := Lib.hid (by rw [← HG.out, Nat.gcd_comm x gk, Nat.gcd_rec gk x, Nat.gcd_comm])
      clear HD
      go_wp2_with fail
      refine HDV.out.mono ?_
      rintro e w3 ⟨A3, c3, A4, c4, rfl, h3, h4, hb3⟩
      have hb4 := hb'.below hb3
      have h5 := h4.mono hbs
      have hb6 := below_then hbw hbs hb3
      go_wp2
      go_roundg (x % gk)
      case measure => exact hlt
      case rel => exact ⟨gk, _, _, _, _, _, _, rfl, rfl, hb4, h5, hb6, HG2, hq, by have := HL.out; omega⟩

/-- a quotient in lowest terms, in new memory -/
def RatPost (w : World) (neg : Bool) (X Y : Nat) (v : Value) (w' : World) : Prop :=
  ∃ A1 c1 A2 c2, v = .agg #[.bool neg, .slice A1 (limbs X).length c1, .slice A2 (limbs Y).length c2] ∧
    Own w' w.heap.size A1 (limbs X).length c1 (limbs X) ∧ Own w' w.heap.size A2 (limbs Y).length c2 (limbs Y) ∧ blockOf A1 ≠ blockOf A2 ∧ Below w.heap.size w w'

set_option maxHeartbeats 1000000 in
theorem right_zero (neg : Bool) (A B : Option Addr) (n c m d : Nat) (xs : List Nat) (w : World) (hx : Num w A n c xs) (h0 : val xs = 0) :
    Calls Tryz.prog 33 #[.bool neg, .slice A n c, .slice B m d] w fun e w' => ∃ v, e = .returned v ∧ RatPost w false 0 1 v w' := by
  have T1 := Lib.hid (fun W (hW : Below w.heap.size w W) => trim_any _ _ _ _ W (hx.below hW))
  rw [h0, limbs_zero] at T1
  have hB := (Below.refl w.heap.size w).alloc (Nat.le_refl _)
  clear h0
  go_enter Tryz.func33, Tryz.ntmps33
  go_wp2_with fail
  refine (T1.out _ (hB _)).mono ?_; rintro e w' ⟨rfl, rfl⟩
  go_wp2
  have e1 : limbs 1 = [1] := by rw [limbs_pos (by omega)]; simp [limbs_zero]
  refine bodyPost_ret (v := .agg #[.bool false, .slice none 0 0, .slice (some ⟨w.heap.size + 1, 0, none⟩) 1 1]) (by simp [results, Tryz.results33, go_sem]) rfl ⟨_, rfl, ?_⟩
  unfold RatPost
  rw [limbs_zero, e1]
  refine ⟨none, 0, _, 1, rfl, Own.nil _ _, ?_, by simp [blockOf], (hB _).alloc (by simp) _⟩
  have := own_block (w.alloc (.cells #[.bool false, .slice none 0 0, .slice (some ⟨w.heap.size + 1, 0, none⟩) 1 1] 28)) w.heap.size [1] (Lim.cons (by omega) Lim.nil) (by simp) (by simp)
  simpa [u32s] using this

set_option maxHeartbeats 2000000 in
theorem right_some (neg : Bool) (A B : Option Addr) (n c m d : Nat) (xs ys : List Nat) (w : World) (hx : Num w A n c xs) (hy : Num w B m d ys) (h0 : val xs ≠ 0) (h1 : val ys ≠ 0) (hn : n < 35184372088831) (hm : m < 35184372088831) :
    Calls Tryz.prog 33 #[.bool neg, .slice A n c, .slice B m d] w fun e w' => ∃ v, e = .returned v ∧ RatPost w neg (val xs / Nat.gcd (val xs) (val ys)) (val ys / Nat.gcd (val xs) (val ys)) v w' := by
  have T1 := Lib.hid (fun W (hW : Below w.heap.size w W) => trim_any _ _ _ _ W (hx.below hW))
  have G1 := Lib.hid (fun W (hW : Below w.heap.size w W) => Gcd_any _ _ _ _ _ _ _ _ W (hx.below hW) (hy.below hW) hn hm)
  have hg0 : Nat.gcd (val xs) (val ys) ≠ 0 := fun e => h0 (Nat.eq_zero_of_gcd_eq_zero_left e)
  have D1 := Lib.hid (fun (A' : Option Addr) (n' c' : Nat) W (hW : Below w.heap.size w W) (hg : Num W A' n' c' (limbs (Nat.gcd (val xs) (val ys)))) => DivMod_any _ _ _ _ _ _ _ _ W (hx.below hW) hg (by rw [val_limbs]; exact hg0) hn)
  have D2 := Lib.hid (fun (A' : Option Addr) (n' c' : Nat) W (hW : Below w.heap.size w W) (hg : Num W A' n' c' (limbs (Nat.gcd (val xs) (val ys)))) => DivMod_any _ _ _ _ _ _ _ _ W (hy.below hW) hg (by rw [val_limbs]; exact hg0) hm)
  rw [val_limbs] at D1 D2
  have hl : (limbs (val xs)).length ≠ 0 := fun e => h0 (limbs_length_zero.1 e)
  have hlb := hx.trim.sl.big
  generalize (limbs (val xs)).length = l at T1 hl hlb
  have hl0 : ((l : Int) == 0) = false := by simpa using hl
  have HNZ := Lib.hid h1
  have HGD := Lib.hid (Nat.gcd_dvd_right (val xs) (val ys))
  generalize Nat.gcd (val xs) (val ys) = g at G1 D1 D2 HGD ⊢
  generalize hX : val xs = X at *
  generalize hY : val ys = Y at *
  clear hX hY h0 h1 hg0
  have hB := (Below.refl w.heap.size w).alloc (Nat.le_refl _)
  go_enter Tryz.func33, Tryz.ntmps33
  go_wp2_with fail
  refine (T1.out _ (hB _)).mono ?_; rintro e w' ⟨rfl, rfl⟩
  go_wp2_with fail
  refine (G1.out _ (hB _)).mono ?_; rintro e w1 ⟨A1, c1, rfl, hg, hb1⟩
  have hblk : (w.alloc (.cells #[.bool false, .slice none 0 0, .slice none 0 0] 28)).heap[w.heap.size]? = some (.cells #[.bool false, .slice none 0 0, .slice none 0 0] 28 (0, 0)) := heap_alloc_new w _
  have hsz : (w.alloc (.cells #[.bool false, .slice none 0 0, .slice none 0 0] 28)).heap.size = w.heap.size + 1 := by simp
  have hB0 := hB (.cells #[.bool false, .slice none 0 0, .slice none 0 0] 28)
  have hk1 := hb1.block w.heap.size (by omega)
  rw [hblk] at hk1
  have hB1 := below_then hB0 hB0.size hb1
  have hs1 := hb1.size
  rw [hsz] at hs1
  have hg' : Num w1 A1 (limbs g).length c1 (limbs g) := hg.num
  clear hg hblk hsz hB0 hB hb1
  go_wp2_with fail
  refine (D1.out _ _ _ _ hB1 hg').mono ?_
  rintro e w2 ⟨A2, c2, A3, c3, rfl, hn2, -, hb2⟩
  have hg2 := hg'.below hb2
  have hB2 := below_then hB1 hB1.size hb2
  have hk2 := (hb2.block w.heap.size (by omega)).trans hk1
  have hs2 := hb2.size
  clear hg' hB1 hk1
  go_wp2_with fail
  refine (D2.out _ _ _ _ hB2 hg2).mono ?_
  rintro e w3 ⟨A4, c4, A5, c5, rfl, hd3, -, hb3⟩
  have hn3 := hn2.below hb3
  have hB3 := below_then hB2 hB2.size hb3
  have hk3 := (hb3.block w.heap.size (by omega)).trans hk2
  have hs3 := hb3.size
  have hapart : blockOf A2 ≠ blockOf A4 := fun e => by
    have hyg : Y / g ≠ 0 := fun e0 => by
      have h5 := Nat.div_mul_cancel HGD.out
      rw [e0, Nat.zero_mul] at h5
      exact HNZ.out h5.symm
    have h4 : 0 < (limbs (Y / g)).length := Nat.pos_of_ne_zero (fun e1 => hyg (limbs_length_zero.1 e1))
    obtain ⟨g4, rfl, h6, _⟩ := hd3.some_of h4
    have := (hn2.mine.lt g4 (by rw [e]; rfl)).2
    omega
  clear hg2 hB2 hk2 hn2
  have hc0 : w3.cell? ⟨w.heap.size, 0, none⟩ = some (.bool false) := by simp [World.cell?, hk3]
  have hc1 : w3.cell? ⟨w.heap.size, 1, none⟩ = some (.slice none 0 0) := by simp [World.cell?, hk3]
  have hc2 : w3.cell? ⟨w.heap.size, 2, none⟩ = some (.slice none 0 0) := by simp [World.cell?, hk3]
  have hf0 : ∀ j, w3.frozen? ⟨w.heap.size, j, none⟩ = false := fun j => by simp [World.frozen?, hk3]
  go_wp2
  have hk4 := setCell_row (setCell_row (setCell_row (vs := [.bool false, .slice none 0 0, .slice none 0 0]) hk3 0 (.bool neg)) 1 (.slice A2 (limbs (X / g)).length c2)) 2 (.slice A4 (limbs (Y / g)).length c4)
  refine bodyPost_ret (v := .agg #[.bool neg, .slice A2 (limbs (X / g)).length c2, .slice A4 (limbs (Y / g)).length c4]) (results_cell_row rfl _ _ w.heap.size 28 #[.bool neg, .slice A2 (limbs (X / g)).length c2, .slice A4 (limbs (Y / g)).length c4] (0, 0) _ rfl hk4 Tryz.underlying28 rfl (by kernel_rfl)) rfl ⟨_, rfl, ?_⟩
  unfold RatPost
  have keep : ∀ (W : World) (A' : Option Addr) (n' c' : Nat) (zs : List Nat) (j : Nat) (v : Value), Own W (w.heap.size + 1) A' n' c' zs → Own (W.setCell ⟨w.heap.size, j, none⟩ v) (w.heap.size + 1) A' n' c' zs := fun W A' n' c' zs j v h =>
    h.kept (setCell_grownBy W w.heap.size j v) (by
      cases hA : blockOf A' with
      | none => exact .inl rfl
      | some k => refine .inr (fun e => ?_); simp only [Option.some.injEq] at e; have := (h.mine.lt k hA).1; omega)
  exact ⟨A2, c2, A4, c4, rfl, (keep _ _ _ _ _ _ _ (keep _ _ _ _ _ _ _ (keep _ _ _ _ _ _ _ (hn3.mono hs1)))).mono (by omega), (keep _ _ _ _ _ _ _ (keep _ _ _ _ _ _ _ (keep _ _ _ _ _ _ _ (hd3.mono (by omega))))).mono (by omega), hapart,
    ((hB3.setCell (Nat.le_refl _) _).setCell (Nat.le_refl _) _).setCell (Nat.le_refl _) _⟩

/-- the sign that is kept: nought has none -/
def sgn (neg : Bool) (X : Nat) : Bool := if X = 0 then false else neg

theorem right_any (neg : Bool) (A B : Option Addr) (n c m d : Nat) (xs ys : List Nat) (w : World) (hx : Num w A n c xs) (hy : Num w B m d ys) (h1 : val ys ≠ 0) (hn : n < 35184372088831) (hm : m < 35184372088831) :
    Calls Tryz.prog 33 #[.bool neg, .slice A n c, .slice B m d] w fun e w' => ∃ v, e = .returned v ∧ RatPost w (sgn neg (val xs)) (val xs / Nat.gcd (val xs) (val ys)) (val ys / Nat.gcd (val xs) (val ys)) v w' := by
  by_cases h0 : val xs = 0
  · have := right_zero neg A B n c m d xs w hx h0
    unfold sgn
    rw [if_pos h0, h0, Nat.gcd_zero_left, Nat.zero_div, Nat.div_self (by omega)]
    exact this
  · unfold sgn
    rw [if_neg h0]
    exact right_some neg A B n c m d xs ys w hx hy h0 h1 hn hm

theorem results_row_tmp {P : Program} {fn : Func} {p u : Tmp} {ty : TypeId} (h : fn.results = #[.cell p ty, .tmp u]) (tmps : Array Value) (w : World) (g : Nat) (t : TypeId) (cs : Array Value) (fr : Nat × Nat) (d : TypeDesc)
    (hp : tmps.getD p undef = .pointer (some ⟨g, 0, none⟩)) (hg : w.heap[g]? = some (.cells cs t fr))
    (hu : P.underlying ty = some d) (hd : (match d with | .struct _ | .array _ _ => true | _ => false) = true) (hi : (P.info? ty).map (·.size) = some cs.size) :
    (results fn tmps).run P w = .ok (.tuple #[.agg cs, tmps.getD u undef]) w := by
  rw [results_cell_tmp h, hp]
  simp [asAddr, run_loadVar_row w g t ty cs fr d hg hu hd hi]

theorem agg_cells (v : Value) (neg : Bool) (X Y : Nat) (w w' : World) (h : RatPost w neg X Y v w') : ∃ a b c, v = .agg #[a, b, c] ∧ a.oneCell' = true := by
  obtain ⟨A1, c1, A2, c2, rfl, _⟩ := h
  exact ⟨_, _, _, rfl, rfl⟩

theorem RatPost.of {w w0 w' : World} {neg : Bool} {X Y : Nat} {v : Value} (h : RatPost w0 neg X Y v w') (hb : Below w.heap.size w w0) : RatPost w neg X Y v w' := by
  obtain ⟨A1, c1, A2, c2, rfl, h1, h2, h3, h4⟩ := h
  exact ⟨A1, c1, A2, c2, rfl, h1.mono hb.size, h2.mono hb.size, h3, below_then hb hb.size h4⟩

/-- what is written into a block below leaves a quotient as it is -/
theorem RatPost.stored {w w0 w' : World} {neg : Bool} {X Y : Nat} {v : Value} {k : Nat} (h : RatPost w0 neg X Y v w') (hb : Below w.heap.size w w0) (hk : w.heap.size ≤ k) (hk0 : k < w0.heap.size) (a b c : Value) :
    RatPost w neg X Y v (((w'.setCell ⟨k, 0, none⟩ a).setCell ⟨k, 1, none⟩ b).setCell ⟨k, 2, none⟩ c) := by
  obtain ⟨A1, c1, A2, c2, rfl, h1, h2, h3, h4⟩ := h
  have keep : ∀ (W : World) (A' : Option Addr) (n' c' : Nat) (zs : List Nat) (j : Nat) (v : Value), Own W w0.heap.size A' n' c' zs → Own (W.setCell ⟨k, j, none⟩ v) w0.heap.size A' n' c' zs := fun W A' n' c' zs j v h =>
    h.kept (setCell_grownBy W k j v) (by
      cases hA : blockOf A' with
      | none => exact .inl rfl
      | some q => refine .inr (fun e => ?_); simp only [Option.some.injEq] at e; have := (h.mine.lt q hA).1; omega)
  exact ⟨A1, c1, A2, c2, rfl, (keep _ _ _ _ _ _ _ (keep _ _ _ _ _ _ _ (keep _ _ _ _ _ _ _ h1))).mono hb.size, (keep _ _ _ _ _ _ _ (keep _ _ _ _ _ _ _ (keep _ _ _ _ _ _ _ h2))).mono hb.size, h3,
    (((below_then hb hb.size h4).setCell hk _).setCell hk _).setCell hk _⟩

set_option maxHeartbeats 1000000 in
theorem Over_zero (neg : Bool) (A B : Option Addr) (n c m d : Nat) (ys : List Nat) (w : World) (hy : Num w B m d ys) (h0 : val ys = 0) :
    Calls Tryz.prog 13 #[.bool neg, .slice A n c, .slice B m d] w fun e w' => e = .returned (.tuple #[.agg #[.bool false, .slice none 0 0, .slice none 0 0], .int .i64 11]) ∧ Below w.heap.size w w' := by
  have T1 := Lib.hid (fun W (hW : Below w.heap.size w W) => trim_any _ _ _ _ W (hy.below hW))
  rw [h0, limbs_zero] at T1
  have hB := (Below.refl w.heap.size w).alloc (Nat.le_refl _)
  clear h0
  go_enter Tryz.func13, Tryz.ntmps13
  go_wp2_with fail
  refine (T1.out _ (hB _)).mono ?_; rintro e w' ⟨rfl, rfl⟩
  go_wp2
  refine bodyPost_ret (v := .tuple #[.agg #[.bool false, .slice none 0 0, .slice none 0 0], .int .i64 11]) (by simp [results, Tryz.results13, go_sem]) rfl ⟨rfl, hB _⟩

set_option maxHeartbeats 2000000 in
theorem Over_some (neg : Bool) (A B : Option Addr) (n c m d : Nat) (xs ys : List Nat) (w : World) (hx : Num w A n c xs) (hy : Num w B m d ys) (h1 : val ys ≠ 0) (hn : n < 35184372088831) (hm : m < 35184372088831) :
    Calls Tryz.prog 13 #[.bool neg, .slice A n c, .slice B m d] w fun e w' => ∃ v, e = .returned (.tuple #[v, .int .i64 0]) ∧ RatPost w (sgn neg (val xs)) (val xs / Nat.gcd (val xs) (val ys)) (val ys / Nat.gcd (val xs) (val ys)) v w' := by
  have T1 := Lib.hid (fun W (hW : Below w.heap.size w W) => trim_any _ _ _ _ W (hy.below hW))
  have R1 := Lib.hid (fun W (hW : Below w.heap.size w W) => right_any neg _ _ _ _ _ _ _ _ W (hx.below hW) (hy.below hW) h1 hn hm)
  have hl : (limbs (val ys)).length ≠ 0 := fun e => h1 (limbs_length_zero.1 e)
  have hlb := hy.trim.sl.big
  generalize (limbs (val ys)).length = l at T1 hl hlb
  have hl0 : ((l : Int) == 0) = false := by simpa using hl
  have hB := (Below.refl w.heap.size w).alloc (Nat.le_refl _)
  generalize sgn neg (val xs) = sg at R1 ⊢
  generalize val xs / Nat.gcd (val xs) (val ys) = X at R1 ⊢
  generalize val ys / Nat.gcd (val xs) (val ys) = Y at R1 ⊢
  clear h1
  go_enter Tryz.func13, Tryz.ntmps13
  go_wp2_with fail
  refine (T1.out _ (hB _)).mono ?_; rintro e w' ⟨rfl, rfl⟩
  go_wp2_with fail
  refine (R1.out _ (hB _)).mono ?_; rintro e w3 ⟨v, rfl, hR⟩
  have hblk : (w.alloc (.cells #[.bool false, .slice none 0 0, .slice none 0 0] 28)).heap[w.heap.size]? = some (.cells #[.bool false, .slice none 0 0, .slice none 0 0] 28 (0, 0)) := heap_alloc_new w _
  have hsz : (w.alloc (.cells #[.bool false, .slice none 0 0, .slice none 0 0] 28)).heap.size = w.heap.size + 1 := by simp
  have hB0 := hB (.cells #[.bool false, .slice none 0 0, .slice none 0 0] 28)
  obtain ⟨A1, c1, A2, c2, rfl, r1, r2, r3, r4⟩ := hR
  have hk3 := r4.block w.heap.size (by omega)
  rw [hblk] at hk3
  have HS := Lib.hid ((show RatPost _ sg X Y (.agg #[.bool sg, .slice A1 (limbs X).length c1, .slice A2 (limbs Y).length c2]) w3 from ⟨A1, c1, A2, c2, rfl, r1, r2, r3, r4⟩).stored hB0 (Nat.le_refl _) (by omega) (.bool sg) (.slice A1 (limbs X).length c1) (.slice A2 (limbs Y).length c2))
  clear r1 r2 r3 r4 hblk hsz hB0 hB
  have hc0 : w3.cell? ⟨w.heap.size, 0, none⟩ = some (.bool false) := by simp [World.cell?, hk3]
  have hc1 : w3.cell? ⟨w.heap.size, 1, none⟩ = some (.slice none 0 0) := by simp [World.cell?, hk3]
  have hc2 : w3.cell? ⟨w.heap.size, 2, none⟩ = some (.slice none 0 0) := by simp [World.cell?, hk3]
  have hf0 : ∀ j, w3.frozen? ⟨w.heap.size, j, none⟩ = false := fun j => by simp [World.frozen?, hk3]
  go_wp2
  have hk4 := setCell_row (setCell_row (setCell_row (vs := [.bool false, .slice none 0 0, .slice none 0 0]) hk3 0 (.bool sg)) 1 (.slice A1 (limbs X).length c1)) 2 (.slice A2 (limbs Y).length c2)
  refine bodyPost_ret (v := .tuple #[.agg #[.bool sg, .slice A1 (limbs X).length c1, .slice A2 (limbs Y).length c2], .int .i64 0]) ?_ rfl ⟨_, rfl, HS.out⟩
  exact results_row_tmp (fn := Tryz.f13) (p := 6) (u := 7) (ty := 28) rfl _ _ w.heap.size 28 #[.bool sg, .slice A1 (limbs X).length c1, .slice A2 (limbs Y).length c2] (0, 0) _ rfl hk4 Tryz.underlying28 rfl (by kernel_rfl)

end Go.Proofs.YtgdgdifnpdcgkaaGreatDoor
