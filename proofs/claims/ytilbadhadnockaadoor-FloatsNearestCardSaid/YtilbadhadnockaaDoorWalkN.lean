/- The walk of FloatsNearest. -/
import Derived.Test.YtilbadhadnockaaDoorTop
import Derived.Test.YtilbadhadnockaaDoorRefB
import Derived.Test.YtilbadhadnockaaDoorCopy
namespace Go.Proofs.YtilbadhadnockaaDoor
open Go.RowKit

set_option maxRecDepth 100000 in
set_option maxHeartbeats 2000000 in
theorem is_any (b : Nat) (neg I : Bool) (M : Nat) (E : Int) (w : World) (hM : M < 9007199254740992) (h1 : -1074 ≤ E) (h2 : E ≤ 971) :
    Calls Tryd.prog 8 #[.float .f64 b, .agg #[.bool neg, .bool I, .bool false, .int .u64 M, .int .i64 E]] w fun e w' => e = .returned (.bool (decide (b = withSign neg (amount I M E)))) ∧ Below w.heap.size w w' := by
  have hB : ∀ o, Below w.heap.size w (w.alloc o) := fun o => (Below.refl _ _).alloc (Nat.le_refl _) o
  have HW := Lib.hid (fun W => Wide_any W)
  have HX := Lib.hid (fun W => rBits_any neg I M E W hM h1 h2)
  have e0 := Tryd.f64bitsN
  have h3 : (((b : Nat) : Int) == (((withSign neg (amount I M E) : Nat)) : Int)) = decide (b = withSign neg (amount I M E)) := by
    by_cases h : b = withSign neg (amount I M E)
    · simp [h]
    · rw [decide_eq_false h]; simp; omega
  generalize withSign neg (amount I M E) = r at *
  clear hM h1 h2
  go_enter Tryd.func8, Tryd.ntmps8
  go_wp2
  have hk := heap_alloc_new w (.cells #[.bool neg, .bool I, .bool false, .int .u64 M, .int .i64 E] 31)
  have hw := hB (.cells #[.bool neg, .bool I, .bool false, .int .u64 M, .int .i64 E] 31)
  have hlt : w.heap.size < (w.alloc (.cells #[.bool neg, .bool I, .bool false, .int .u64 M, .int .i64 E] 31)).heap.size := by simp
  generalize w.alloc (.cells #[.bool neg, .bool I, .bool false, .int .u64 M, .int .i64 E] 31) = w0 at *
  have hc0 : w0.cell? ⟨w.heap.size, 0, none⟩ = some (.bool neg) := by simp [World.cell?, hk]
  have hc1 : w0.cell? ⟨w.heap.size, 1, none⟩ = some (.bool I) := by simp [World.cell?, hk]
  have hc2 : w0.cell? ⟨w.heap.size, 2, none⟩ = some (.bool false) := by simp [World.cell?, hk]
  have hc3 : w0.cell? ⟨w.heap.size, 3, none⟩ = some (.int .u64 M) := by simp [World.cell?, hk]
  have hc4 : w0.cell? ⟨w.heap.size, 4, none⟩ = some (.int .i64 E) := by simp [World.cell?, hk]
  have HBW := Lib.hid hw
  clear hB hk hw
  generalize hG : w.heap.size = g at *
  have HG := Lib.hid hG
  clear hG
  go_region_with (first
    | (go_at_call 6; refine (HW.out _).mono ?_; rintro ex w1 ⟨rfl, hb1⟩; have f0 := (hb1.cell (p := ⟨g, 0, none⟩) hlt).trans hc0; have f1 := (hb1.cell (p := ⟨g, 1, none⟩) hlt).trans hc1; have f2 := (hb1.cell (p := ⟨g, 2, none⟩) hlt).trans hc2; have f3 := (hb1.cell (p := ⟨g, 3, none⟩) hlt).trans hc3; have f4 := (hb1.cell (p := ⟨g, 4, none⟩) hlt).trans hc4)
    | (go_at_call 17; refine (HX.out _).mono ?_; rintro ex w2 ⟨rfl, hb2⟩))
  all_goals
    have hh0 : Below w.heap.size w w0 := by rw [HG.out]; exact HBW.out
    have hh : Below w.heap.size w w0.drew := hh0.trans ⟨rfl, rfl, rfl, Nat.le_refl _, fun _ _ => rfl⟩
    clear hh0
    have HF := Lib.hid (below_then (below_then hh hh.size hb1) (below_then hh hh.size hb1).size hb2)
    clear hh hb1 hb2 f0 f1 f2 f3 f4
    go_wp2
    go_ret
    exact ⟨rfl, HF.out⟩

def nearPost (w : World) (n m : Nat) (neg : Bool) (xs ys : List Nat) (b : Nat) (k : Int) : Prop :=
  ∀ W A' c' B' d', Below w.heap.size w W → Num W A' n c' xs → Num W B' m d' ys → Calls Tryd.prog 4 #[.agg #[.bool neg, .slice A' n c', .slice B' m d']] W fun e w' => e = .returned (.tuple #[.float .f64 b, .int .i64 k]) ∧ Below W.heap.size W w'
def refPost (w : World) (A : Option Addr) (n c : Nat) (B : Option Addr) (m d : Nat) (neg : Bool) (v : Value) (ok : Bool) : Prop :=
  ∀ W, Below w.heap.size w W → Calls Tryd.prog 5 #[.bool neg, .slice A n c, .slice B m d, .agg #[.int .i64 53, .int .i64 (-1074), .int .i64 971]] W fun e w' => e = .returned (.tuple #[v, .bool ok]) ∧ Below W.heap.size W w'

set_option maxRecDepth 100000 in
set_option maxHeartbeats 2000000 in
theorem Nearest_core (neg : Bool) (A B : Option Addr) (n c m d : Nat) (xs ys : List Nat) (w : World) (hx : Num w A n c xs) (hy : Num w B m d ys) (hn : n ≤ 35184372087808) (hm : m ≤ 35184372087808)
    (b : Nat) (ng I : Bool) (M : Nat) (E : Int) (HN : nearPost w n m neg xs ys b 0) (HR : refPost w A n c B m d neg (.agg #[.bool ng, .bool I, .bool false, .int .u64 M, .int .i64 E]) true)
    (hb : b = withSign ng (amount I M E)) (hM : M < 9007199254740992) (h1 : -1074 ≤ E) (h2 : E ≤ 971) :
    Calls Tryd.prog 3 #[.bool neg, .slice A n c, .slice B m d] w fun e w' => e = .returned (.bool true) ∧ Below w.heap.size w w' := by
  have HI : Hid (∀ W, Calls Tryd.prog 8 #[.float .f64 b, .agg #[.bool ng, .bool I, .bool false, .int .u64 M, .int .i64 E]] W fun e w' => e = .returned (.bool true) ∧ Below W.heap.size W w') := Lib.hid (fun W => by
    have := is_any b ng I M E W hM h1 h2
    rwa [decide_eq_true hb] at this)
  have HW := Lib.hid (fun W => Wide_any W)
  have HNN := Lib.hid HN
  have HRR := Lib.hid HR
  have hB : ∀ o, Below w.heap.size w (w.alloc o) := fun o => (Below.refl _ _).alloc (Nat.le_refl _) o
  have hown0 := own_block w w.heap.size [] Lim.nil (Nat.le_refl _) (by simp)
  have hcs : (u32s []).toArray = #[] := rfl
  rw [hcs] at hown0
  have hw0 := hB (.cells #[] 50)
  have HX := Lib.hid hx
  have HY := Lib.hid hy
  clear HN HR hb hM h1 h2 hcs hB
  go_enter Tryd.func3, Tryd.ntmps3
  have hx0 := (hx.below hw0).sl
  have HLX := Lib.hid hx.lim
  have HLY := Lib.hid hy.lim
  have hm0 := hown0.mine
  clear hx hy hown0
  go_wp2_with (first
    | (at_builtin; refine app_copy w.heap.size rfl _ _ _ _ (.int .u32 0) 4 rfl Tryd.under_sl Tryd.info_u32 rfl (by omega) (some ⟨w.heap.size, 0, none⟩) 0 0 [] A n c (u32s xs) rfl rfl (u32s_one _) hm0 hx0 hw0.size (by omega) ?_
       intro A1 c1 w1 hm1 hg1
       have hb1 := below_grown hw0 hw0.size hg1 (fun k hk => by cases hk; exact Nat.le_refl _)
       have hown1 : Own w1 w.heap.size A1 (0 + n) c1 xs := ⟨hm1, HLX.out⟩
       have hw2 := hb1.alloc hb1.size (.cells #[] 50)
       have hm2 := (own_block w1 w.heap.size [] Lim.nil hb1.size (by simp)).mine
       have hy2 := (HY.out.below hw2).sl
       have hown2 := hown1.below ((Below.refl w1.heap.size w1).alloc (Nat.le_refl _) (.cells #[] 50))
       clear hm0 hx0 hm1 hg1)
    | (at_builtin; refine app_copy w.heap.size rfl _ _ _ _ (.int .u32 0) 4 rfl Tryd.under_sl Tryd.info_u32 rfl (by omega) (some ⟨w1.heap.size, 0, none⟩) 0 0 [] B m d (u32s ys) rfl rfl (u32s_one _) hm2 hy2 hw2.size (by omega) ?_
       intro A2 c2 w2 hm3 hg2))
  have hb3 := below_grown hw2 hw2.size hg2 (fun k hk => by cases hk; exact hb1.size)
  have hown3 : Own w2 w.heap.size A2 m c2 ys := ⟨by simpa using hm3, HLY.out⟩
  have hown4 : Own w2 w.heap.size A1 n c1 xs := by
    have h := hown2.kept hg2 (by
      cases hA : blockOf A1 with
      | none => exact .inl rfl
      | some k =>
        refine .inr (fun e => ?_)
        simp only [blockOf, Option.some.injEq] at e
        have := (hown1.mine.lt k hA).2
        omega)
    rwa [Nat.zero_add] at h
  have hxn := HX.out.below hb3
  have hyn := HY.out.below hb3
  clear hw2 hm2 hy2 hown2 hm3 hg2 hown1 hb1 hw0 hn hm
  refine (HNN.out w2 _ _ _ _ hb3 hown4.num hown3.num).mono ?_
  rintro ex w3 ⟨rfl, hb4⟩
  have hb5 := below_then hb3 hb3.size hb4
  have q1 := hown4.num.below hb4
  have q2 := hown3.num.below hb4
  have p1 := hxn.below hb4
  have p2 := hyn.below hb4
  clear hown4 hown3 hxn hyn hb4 hb3 HNN
  go_wp2_with (first
    | (go_at_call 6; refine (HW.out _).mono ?_; rintro x1 w4 ⟨rfl, hb6⟩)
    | (go_at_call 5; refine (HRR.out _ (below_then hb5 hb5.size hb6)).mono ?_; rintro x2 w5 ⟨rfl, hb7⟩))
  have hb8 := below_then hb6 hb6.size hb7
  have hb9 := hb8.alloc hb8.size (.cells #[.bool ng, .bool I, .bool false, .int .u64 M, .int .i64 E] 31)
  refine (HI.out _).mono ?_
  rintro x3 w6 ⟨rfl, hb10⟩
  have hb11 := below_then hb9 hb9.size hb10
  have HF := Lib.hid (below_then hb5 hb5.size hb11)
  have q1 := q1.below hb11
  have q2 := q2.below hb11
  have p1 := p1.below hb11
  have p2 := p2.below hb11
  clear hb5 hb6 hb7 hb8 hb9 hb10 hb11 HRR HI HW
  go_wp2_with fail
  refine (same_any _ _ _ _ _ _ xs xs _ q1 p1).mono ?_
  rintro e w7 ⟨rfl, n6, rfl⟩
  rw [decide_eq_true rfl]
  go_wp2_with fail
  refine (same_any _ _ _ _ _ _ ys ys _ (q2.drewN _) (p2.drewN _)).mono ?_
  rintro e w8 ⟨rfl, n7, rfl⟩
  rw [decide_eq_true rfl]
  go_wp2
  go_ret
  exact ⟨rfl, below_drawn HF.out _⟩

set_option maxRecDepth 100000 in
set_option maxHeartbeats 2000000 in
theorem Nearest_by_zero (neg : Bool) (A B : Option Addr) (n c m d : Nat) (xs ys : List Nat) (w : World) (hx : Num w A n c xs) (hy : Num w B m d ys) (hn : n ≤ 35184372087808) (hm : m ≤ 35184372087808)
    (HN : nearPost w n m neg xs ys 0 11) (HR : refPost w A n c B m d neg (.agg #[.bool false, .bool false, .bool false, .int .u64 0, .int .i64 0]) false) :
    Calls Tryd.prog 3 #[.bool neg, .slice A n c, .slice B m d] w fun e w' => e = .returned (.bool true) ∧ Below w.heap.size w w' := by
  have HW := Lib.hid (fun W => Wide_any W)
  have HNN := Lib.hid HN
  have HRR := Lib.hid HR
  have hB : ∀ o, Below w.heap.size w (w.alloc o) := fun o => (Below.refl _ _).alloc (Nat.le_refl _) o
  have hown0 := own_block w w.heap.size [] Lim.nil (Nat.le_refl _) (by simp)
  have hcs : (u32s []).toArray = #[] := rfl
  rw [hcs] at hown0
  have hw0 := hB (.cells #[] 50)
  have HX := Lib.hid hx
  have HY := Lib.hid hy
  have e0 := Tryd.f64bitsN
  clear HN HR hcs hB
  go_enter Tryd.func3, Tryd.ntmps3
  have hx0 := (hx.below hw0).sl
  have HLX := Lib.hid hx.lim
  have HLY := Lib.hid hy.lim
  have hm0 := hown0.mine
  clear hx hy hown0
  go_wp2_with (first
    | (at_builtin; refine app_copy w.heap.size rfl _ _ _ _ (.int .u32 0) 4 rfl Tryd.under_sl Tryd.info_u32 rfl (by omega) (some ⟨w.heap.size, 0, none⟩) 0 0 [] A n c (u32s xs) rfl rfl (u32s_one _) hm0 hx0 hw0.size (by omega) ?_
       intro A1 c1 w1 hm1 hg1
       have hb1 := below_grown hw0 hw0.size hg1 (fun k hk => by cases hk; exact Nat.le_refl _)
       have hown1 : Own w1 w.heap.size A1 (0 + n) c1 xs := ⟨hm1, HLX.out⟩
       have hw2 := hb1.alloc hb1.size (.cells #[] 50)
       have hm2 := (own_block w1 w.heap.size [] Lim.nil hb1.size (by simp)).mine
       have hy2 := (HY.out.below hw2).sl
       have hown2 := hown1.below ((Below.refl w1.heap.size w1).alloc (Nat.le_refl _) (.cells #[] 50))
       clear hm0 hx0 hm1 hg1)
    | (at_builtin; refine app_copy w.heap.size rfl _ _ _ _ (.int .u32 0) 4 rfl Tryd.under_sl Tryd.info_u32 rfl (by omega) (some ⟨w1.heap.size, 0, none⟩) 0 0 [] B m d (u32s ys) rfl rfl (u32s_one _) hm2 hy2 hw2.size (by omega) ?_
       intro A2 c2 w2 hm3 hg2))
  have hb3 := below_grown hw2 hw2.size hg2 (fun k hk => by cases hk; exact hb1.size)
  have hown3 : Own w2 w.heap.size A2 m c2 ys := ⟨by simpa using hm3, HLY.out⟩
  have hown4 : Own w2 w.heap.size A1 n c1 xs := by
    have h := hown2.kept hg2 (by
      cases hA : blockOf A1 with
      | none => exact .inl rfl
      | some k =>
        refine .inr (fun e => ?_)
        simp only [blockOf, Option.some.injEq] at e
        have := (hown1.mine.lt k hA).2
        omega)
    rwa [Nat.zero_add] at h
  have hxn := HX.out.below hb3
  have hyn := HY.out.below hb3
  clear hw2 hm2 hy2 hown2 hm3 hg2 hown1 hb1 hw0 hn hm
  refine (HNN.out w2 _ _ _ _ hb3 hown4.num hown3.num).mono ?_
  rintro ex w3 ⟨rfl, hb4⟩
  have hb5 := below_then hb3 hb3.size hb4
  clear hown4 hown3 hxn hyn hb4 hb3 HNN
  go_wp2_with (first
    | (go_at_call 6; refine (HW.out _).mono ?_; rintro x1 w4 ⟨rfl, hb6⟩)
    | (go_at_call 5; refine (HRR.out _ (below_then hb5 hb5.size hb6)).mono ?_; rintro x2 w5 ⟨rfl, hb7⟩))
  go_ret
  have hb8 := below_then hb5 hb5.size (below_then hb6 hb6.size hb7)
  exact ⟨rfl, hb8.alloc hb8.size _⟩

/-- FloatsNearest answers true. -/
theorem Nearest_true (neg : Bool) (A B : Option Addr) (n c m d : Nat) (xs ys : List Nat) (w : World) (hg : WideAt w) (hx : Num w A n c xs) (hy : Num w B m d ys) (hn : n ≤ 35184372087808) (hm : m ≤ 35184372087808) :
    Calls Tryd.prog 3 #[.bool neg, .slice A n c, .slice B m d] w fun e w' => e = .returned (.bool true) ∧ Below w.heap.size w w' := by
  by_cases h0 : val ys = 0
  · exact Nearest_by_zero neg A B n c m d xs ys w hx hy hn hm
      (fun W A' c' B' d' _ _ h2 => Nearest_zero neg A' B' n c' m d' ys W h2 h0)
      (fun W hb => rNearest_none neg A B n c m d xs ys W (hx.below hb) (hy.below hb) h0)
  · by_cases h1 : val xs = 0
    · exact Nearest_core neg A B n c m d xs ys w hx hy hn hm 0 false false 0 0
        (fun W A' c' B' d' _ g1 g2 => Nearest_nought neg A' B' n c' m d' xs ys W g1 g2 h0 h1 hn hm)
        (fun W hb => rNearest_nought neg A B n c m d xs ys W (hx.below hb) (hy.below hb) h0 h1)
        rfl (by omega) (by omega) (by omega)
    · obtain ⟨e0, hE⟩ := IsE.exist (N := val xs) h0
      obtain ⟨b1, b2, b3⟩ := nearNum_bd h0 hE
      exact Nearest_core neg A B n c m d xs ys w hx hy hn hm _ neg (nearNum (val xs) (val ys) e0).1 (nearNum (val xs) (val ys) e0).2.1 (nearNum (val xs) (val ys) e0).2.2
        (fun W A' c' B' d' hb g1 g2 => (Nearest_some neg A' B' n c' m d' xs ys W (hg.below hb) g1 g2 h0 h1 hn hm).mono (fun e w' ⟨e1, k1, k2, k3⟩ => by rw [k1.unique hE] at k2; exact ⟨k2, k3⟩))
        (fun W hb => (rNearest_some neg A B n c m d xs ys W (hx.below hb) (hy.below hb) h0 h1 hn hm).mono (fun e w' ⟨e1, k1, k2, k3⟩ => by rw [k1.unique hE] at k2; exact ⟨k2, k3⟩))
        rfl b1 b2 b3

end Go.Proofs.YtilbadhadnockaaDoor
