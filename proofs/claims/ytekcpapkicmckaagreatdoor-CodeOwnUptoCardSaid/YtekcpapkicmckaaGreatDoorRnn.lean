/- The contracts of trees.Goes and of thicketref07.Goes. The contracts of the steps of code.kinds' table. The contract of code.run. The contracts of code.Run and code.Trace. -/
import Derived.Test.YtekcpapkicmckaaGreatDoorOpn
import Derived.Test.YtekcpapkicmckaaGreatDoorPlc
import Derived.StillTailTactics
import Derived.Test.YtekcpapkicmckaaGreatDoorCck
namespace Go.Proofs.YtekcpapkicmckaaGreatDoor
open Go.RowKit

theorem below_drawn {B : Nat} {a w : World} (h : Below B a w) (q : Nat) : Below B a (w.drewN q) := ⟨h.os, h.tape, h.output, h.size, h.block⟩

set_option maxRecDepth 100000 in
set_option maxHeartbeats 1000000 in
theorem numGoes_any (thr m x : Nat) (w : World) :
    Calls Tryz.prog 269 #[.agg #[.float .f64 thr, .int .u8 (m : Int)], .float .f64 x] w fun e w' => e = .returned (.int .u8 (sideV false thr [] m x : Nat)) ∧ Below w.heap.size w w' := by
  have B1 := (Below.refl w.heap.size w).alloc (Nat.le_refl _) (.cells #[.float .f64 thr, .int .u8 (m : Int)] 208)
  obtain ⟨R, hR⟩ : ∃ R, sideV false thr [] m x = R := ⟨_, rfl⟩
  rw [hR]
  unfold sideV nanF leF at hR
  obtain ⟨c1, h1⟩ : ∃ c, FloatKind.f64.format.order x x = c := ⟨_, rfl⟩
  obtain ⟨c2, h2⟩ : ∃ c, FloatKind.f64.format.order x thr = c := ⟨_, rfl⟩
  rw [h1, h2] at hR
  have HR := Lib.hid hR
  clear hR
  rcases c1 with _ | c1
  all_goals (try cases c1)
  all_goals rcases c2 with _ | c2
  all_goals (try cases c2)
  all_goals
    go_enter Tryz.func269, Tryz.ntmps269
    go_wp2
    go_ret
    refine ⟨congrArg (fun x => Ending.returned (Value.int .u8 x)) ?_, B1⟩
    have := HR.out
    simp at this
    omega

set_option maxRecDepth 100000 in
set_option maxHeartbeats 1000000 in
theorem cat1_any (c : Int) (g x : Nat) (w : World) (hg : w.cell? ⟨g, 0, none⟩ = some (.float .f64 x)) :
    Calls Tryz.prog 272 #[.int .i64 c, .pointer (some ⟨g, 0, none⟩)] w fun e w' => e = .returned (.bool (FloatKind.f64.format.order (floatOfInt FloatKind.f64 c) x == some Ordering.eq)) ∧ w = w' := by
  go_enter Tryz.func272, Tryz.ntmps272
  go_wp2
  go_ret
  exact ⟨rfl, rfl⟩

theorem isCat_drop (zs : List Int) (x i : Nat) (h : i < zs.length) : isCat (zs.drop i) x = ((FloatKind.f64.format.order (floatOfInt FloatKind.f64 (zs.getD i 0)) x == some Ordering.eq) || isCat (zs.drop (i + 1)) x) := by
  rw [List.drop_eq_getElem_cons h, List.getD_eq_getElem?_getD, List.getElem?_eq_getElem h]; rfl

/-- an index, or none -/
def IdxIs (b : Bool) (w : World) (e : Ending) (w' : World) : Prop := ∃ k : Int, e = .returned (.int .i64 k) ∧ decide (0 ≤ k) = b ∧ ∃ q, w' = w.drewN q

set_option maxRecDepth 100000 in
set_option maxHeartbeats 1000000 in
theorem index_any (A : Option Addr) (n c g x : Nat) (zs : List Int) (w : World) (hx : Ints w A n c zs) (hg : w.cell? ⟨g, 0, none⟩ = some (.float .f64 x)) :
    Calls Tryz.prog 273 #[.slice A n c, .func (.func 272) #[] #[.pointer (some ⟨g, 0, none⟩)]] w (IdxIs (isCat zs x) w) := by
  have hn := hx.sl.big
  have hlen := hx.len
  have HC := Lib.hid (fun (h : 0 < n) => hx.cells h)
  have HZ := Lib.hid hlen
  have HG := Lib.hid hg
  clear hx hlen hg
  go_enter Tryz.func273, Tryz.ntmps273
  go_wp2
  go_loopw [8] (fun ix wr => ∃ (i q : Nat), ix = .int .i64 (i : Int) ∧ i ≤ n ∧ Hid (isCat zs x = isCat (zs.drop i) x) ∧ wr = w.drewN q) (fun ix _ => n - (intOf ix).toNat)
  case atStart => exact ⟨0, 0, rfl, Nat.zero_le _, Lib.hid rfl, rfl⟩
  case round =>
    obtain ⟨i, q, rfl, hi, HR, rfl⟩ := hrel
    by_cases hlt : i < n
    · obtain ⟨b, o, rfl, hc⟩ := HC.out (by omega)
      have h0 : (w.drewN q).cell? ⟨b, o + i, none⟩ = some (.int .i64 (zs.getD i 0)) := hc i hlt
      have hs := isCat_drop zs x i (by rw [HZ.out]; exact hlt)
      rw [← HR.out] at hs
      generalize zs.getD i 0 = z at h0 hs
      clear hc
      have m1 : decide ((i : Int) < (n : Int)) = true := by simp; omega
      have m2 : (i : Int) < (n : Int) := by omega
      obtain ⟨y, hy⟩ : ∃ y, (FloatKind.f64.format.order (floatOfInt FloatKind.f64 z) x == some Ordering.eq) = y := ⟨_, rfl⟩
      have HCL := cat1_any z g x (w.drewN q) HG.out
      rw [hy] at HCL hs
      have HS := Lib.hid hs
      replace HCL := Lib.hid HCL
      clear hs hy
      go_wp2_with fail
      refine HCL.out.mono ?_; rintro e w1 ⟨rfl, rfl⟩
      cases y
      · go_wp2
        go_roundw
        case rel => exact ⟨i + 1, q, by go_num, hlt, Lib.hid (by rw [HS.out]; rfl), rfl⟩
        case measure => simp [intOf]; omega
      · go_wp2
        go_ret
        exact ⟨(i : Int), rfl, by rw [HS.out]; simp, q, rfl⟩
    · obtain rfl : i = n := by omega
      have m1 : decide ((i : Int) < (i : Int)) = false := by simp
      go_wp2
      go_ret
      exact ⟨-1, rfl, by rw [HR.out, List.drop_of_length_le (by rw [HZ.out]; exact Nat.le_refl _)]; rfl, q, rfl⟩

set_option maxRecDepth 100000 in
set_option maxHeartbeats 1000000 in
theorem contains_any (A : Option Addr) (n c g x : Nat) (zs : List Int) (w : World) (hx : Ints w A n c zs) (hg : w.cell? ⟨g, 0, none⟩ = some (.float .f64 x)) :
    Calls Tryz.prog 271 #[.slice A n c, .func (.func 272) #[] #[.pointer (some ⟨g, 0, none⟩)]] w fun e w' => e = .returned (.bool (isCat zs x)) ∧ ∃ q, w' = w.drewN q := by
  have HI := Lib.hid (index_any A n c g x zs w hx hg)
  generalize isCat zs x = b at HI ⊢
  clear hx hg
  go_enter Tryz.func271, Tryz.ntmps271
  go_wp2_with fail
  refine HI.out.mono ?_; rintro e w1 ⟨k, rfl, hk, q, rfl⟩
  go_wp2
  go_ret
  exact ⟨rfl, q, rfl⟩

set_option maxRecDepth 100000 in
set_option maxHeartbeats 1000000 in
theorem catGoes_any (A : Option Addr) (n c m x : Nat) (zs : List Int) (w : World) (hx : Ints w A n c zs) :
    Calls Tryz.prog 270 #[.agg #[.slice A n c, .int .u8 (m : Int)], .float .f64 x] w fun e w' => e = .returned (.int .u8 (sideV true 0 zs m x : Nat)) ∧ Below w.heap.size w w' := by
  obtain ⟨R, hR⟩ : ∃ R, sideV true 0 zs m x = R := ⟨_, rfl⟩
  rw [hR]
  unfold sideV nanF at hR
  have B2 := ((Below.refl w.heap.size w).alloc (Nat.le_refl _) (.cells #[.slice A n c, .int .u8 (m : Int)] 210)).alloc (by simp) (.cells #[.float .f64 x] 69)
  have HX := hx.below B2
  obtain ⟨b, hb⟩ : ∃ b, isCat zs x = b := ⟨_, rfl⟩
  have HCN := contains_any A n c (w.heap.size + 1) x zs _ HX (cell_of_block (by simpa using heap_alloc_new (w.alloc (.cells #[.slice A n c, .int .u8 (m : Int)] 210)) (.cells #[.float .f64 x] 69)) rfl)
  rw [hb] at hR HCN
  obtain ⟨c1, h1⟩ : ∃ c, FloatKind.f64.format.order x x = c := ⟨_, rfl⟩
  rw [h1] at hR
  have HR := Lib.hid hR
  replace HCN := Lib.hid HCN
  clear hR hb HX hx
  rcases c1 with _ | c1
  all_goals (try cases c1)
  all_goals cases b
  all_goals
    go_enter Tryz.func270, Tryz.ntmps270
    go_wp2_with fail
    first
    | (go_ret
       refine ⟨congrArg (fun x => Ending.returned (Value.int .u8 x)) ?_, B2⟩
       have := HR.out
       simp at this
       omega)
    | (refine HCN.out.mono ?_; rintro e w1 ⟨rfl, q, rfl⟩
       go_wp2
       go_ret
       refine ⟨congrArg (fun x => Ending.returned (Value.int .u8 x)) ?_, below_drawn B2 q⟩
       have := HR.out
       simp at this
       omega)

/-- where a node sends a number -/
def nodeSide (v : NdV) (x : Nat) : Nat := if v.kind = 2 then sideV false v.thr [] v.missing x else if v.kind = 3 then sideV true 0 v.cats v.missing x else 0

set_option maxHeartbeats 1000000 in
theorem leafGoes_any (x : Nat) (w : World) : Calls Tryz.prog 274 #[.agg #[], .float .f64 x] w fun e w' => e = .returned (.int .u8 0) ∧ Below w.heap.size w w' := by
  have B := (Below.refl w.heap.size w).alloc (Nat.le_refl _) (.cells #[] 212)
  go_enter Tryz.func274, Tryz.ntmps274
  go_wp2
  go_ret
  exact ⟨rfl, B⟩

/-- what a node does, as a value -/
def kindVal (A : Option Addr) (n c : Nat) (v : NdV) (y2 y3 : Bool) : Value :=
  if y2 then .iface 208 (.agg #[.float .f64 v.thr, .int .u8 (v.missing : Int)])
  else if y3 then .iface 210 (.agg #[.slice A n c, .int .u8 (v.missing : Int)]) else .iface 212 (.agg #[])

set_option maxRecDepth 100000 in
set_option maxHeartbeats 1000000 in
theorem kind_any (A : Option Addr) (n c : Nat) (v : NdV) (y2 y3 : Bool) (w : World) (h2 : ((v.kind : Int) == 2) = y2) (h3 : ((v.kind : Int) == 3) = y3) :
    Calls Tryz.prog 98 #[.agg (ndCells A n c v).toArray] w fun e w' => e = .returned (kindVal A n c v y2 y3) ∧ w.alloc (.cells (ndCells A n c v).toArray 72) = w' := by
  unfold ndCells kindVal
  cases y2
  all_goals cases y3
  all_goals
    go_enter Tryz.func98, Tryz.ntmps98
    go_wp2
    go_ret
    exact ⟨rfl, rfl⟩

set_option maxRecDepth 100000 in
set_option maxHeartbeats 1000000 in
theorem Goes_any (A : Option Addr) (n c x : Nat) (v : NdV) (w : World) (hx : Ints w A n c v.cats) :
    Calls Tryz.prog 74 #[.agg (ndCells A n c v).toArray, .float .f64 x] w fun e w' => e = .returned (.int .u8 (nodeSide v x : Nat)) ∧ Below w.heap.size w w' := by
  have B1 := (Below.refl w.heap.size w).alloc (Nat.le_refl _) (.cells (ndCells A n c v).toArray 72)
  have B2 := B1.alloc B1.size (.cells (ndCells A n c v).toArray 72)
  have HCG := Lib.hid (catGoes_any A n c v.missing x v.cats _ (hx.below B2))
  have HNG := Lib.hid (fun W => numGoes_any v.thr v.missing x W)
  have B2' := Lib.hid B2
  clear B2 B1
  unfold ndCells at B2' HCG ⊢
  have h2 : ((v.kind : Int) == 2) = decide (v.kind = 2) := by by_cases h : v.kind = 2 <;> simp [h]; omega
  have h3 : ((v.kind : Int) == 3) = decide (v.kind = 3) := by by_cases h : v.kind = 3 <;> simp [h]; omega
  have HS := Lib.hid (show nodeSide v x = if decide (v.kind = 2) then sideV false v.thr [] v.missing x else if decide (v.kind = 3) then sideV true 0 v.cats v.missing x else 0 by unfold nodeSide; simp)
  obtain ⟨y2, hy2⟩ : ∃ y, ((v.kind : Int) == 2) = y := ⟨_, rfl⟩
  obtain ⟨y3, hy3⟩ : ∃ y, ((v.kind : Int) == 3) = y := ⟨_, rfl⟩
  rw [← h2, ← h3, hy2, hy3] at HS
  clear h2 h3 hx
  obtain ⟨R, hR⟩ : ∃ R, nodeSide v x = R := ⟨_, rfl⟩
  rw [hR] at HS ⊢
  clear hR
  have HK := Lib.hid (fun W => kind_any A n c v y2 y3 W hy2 hy3)
  unfold ndCells kindVal at HK
  clear hy2 hy3
  cases y2
  · cases y3
    · go_enter Tryz.func74, Tryz.ntmps74
      go_wp2_with fail
      refine (HK.out _).mono ?_; rintro e w1 ⟨rfl, rfl⟩
      go_wp2_with fail
      refine (leafGoes_any _ _).mono ?_; rintro e w1 ⟨rfl, b1⟩
      go_wp2
      go_ret
      exact ⟨congrArg (fun x => Ending.returned (Value.int .u8 x)) (by rw [HS.out]; simp), below_then B2'.out B2'.out.size b1⟩
    · go_enter Tryz.func74, Tryz.ntmps74
      go_wp2_with fail
      refine (HK.out _).mono ?_; rintro e w1 ⟨rfl, rfl⟩
      go_wp2_with fail
      refine HCG.out.mono ?_; rintro e w1 ⟨rfl, b1⟩
      go_wp2
      go_ret
      exact ⟨congrArg (fun x => Ending.returned (Value.int .u8 x)) (by rw [HS.out]; simp), below_then B2'.out B2'.out.size b1⟩
  · go_enter Tryz.func74, Tryz.ntmps74
    go_wp2_with fail
    refine (HK.out _).mono ?_; rintro e w1 ⟨rfl, rfl⟩
    go_wp2_with fail
    refine (HNG.out _).mono ?_; rintro e w1 ⟨rfl, b1⟩
    go_wp2
    go_ret
    exact ⟨congrArg (fun x => Ending.returned (Value.int .u8 x)) (by rw [HS.out]; simp), below_then B2'.out B2'.out.size b1⟩

set_option maxRecDepth 100000 in
set_option maxHeartbeats 1000000 in
theorem nan_any (x : Nat) (w : World) : Calls Tryz.prog 97 #[.float .f64 x] w fun e w' => e = .returned (.bool (nanF x)) ∧ w' = w := by
  go_enter Tryz.func97, Tryz.ntmps97
  go_wp2
  go_ret
  exact ⟨rfl, rfl⟩

theorem order_symm (a b : Nat) : (FloatKind.f64.format.order a b == some Ordering.eq) = (FloatKind.f64.format.order b a == some Ordering.eq) := by
  unfold Ieee.Format.order
  generalize FloatKind.f64.format.read a = p
  generalize FloatKind.f64.format.read b = q
  have hc : ∀ x y : Int, (compare x y == Ordering.eq) = (compare y x == Ordering.eq) := fun x y => by
    rw [← Int.compare_swap]
    cases compare y x <;> rfl
  have hn : ∀ x y : Nat, (compare x y == Ordering.eq) = (compare y x == Ordering.eq) := fun x y => by
    rw [← Nat.compare_swap]
    cases compare y x <;> rfl
  cases p <;> cases q <;> first
  | rfl
  | (simp only [Ieee.Datum.order]; exact hn _ _)
  | (simp only [Ieee.Datum.order]; rw [Int.min_comm]; exact hc _ _)
  | (simp only [Ieee.Datum.order]; split <;> rfl)

set_option maxRecDepth 100000 in
set_option maxHeartbeats 1000000 in
theorem rGoes_any (A : Option Addr) (n c x : Nat) (v : NdV) (w : World) (hx : Ints w A n c v.cats) :
    Calls Tryz.prog 71 #[.agg (ndCells A n c v).toArray, .float .f64 x] w fun e w' => e = .returned (.int .u8 (nodeSide v x : Nat)) ∧ Below w.heap.size w w' := by
  have B1 := (Below.refl w.heap.size w).alloc (Nat.le_refl _) (.cells (ndCells A n c v).toArray 72)
  have hx1 := hx.below B1
  have HB := Lib.hid B1
  unfold ndCells at HB hx1 ⊢
  have h2 : ((v.kind : Int) == 2) = decide (v.kind = 2) := by by_cases h : v.kind = 2 <;> simp [h]; omega
  have h3 : ((v.kind : Int) == 3) = decide (v.kind = 3) := by by_cases h : v.kind = 3 <;> simp [h]; omega
  have h2' : ((v.kind : Int) != 2) = !decide (v.kind = 2) := by rw [bne, h2]
  have h3' : ((v.kind : Int) != 3) = !decide (v.kind = 3) := by rw [bne, h3]
  have HS := Lib.hid (show nodeSide v x = if decide (v.kind = 2) then sideV false v.thr [] v.missing x else if decide (v.kind = 3) then sideV true 0 v.cats v.missing x else 0 by unfold nodeSide; simp)
  obtain ⟨y2, hy2⟩ : ∃ y, ((v.kind : Int) == 2) = y := ⟨_, rfl⟩
  obtain ⟨y3, hy3⟩ : ∃ y, ((v.kind : Int) == 3) = y := ⟨_, rfl⟩
  rw [← h2, ← h3, hy2, hy3] at HS
  rw [← h2, hy2] at h2'
  rw [← h3, hy3] at h3'
  clear h2 h3 hx B1
  obtain ⟨R, hR⟩ : ∃ R, nodeSide v x = R := ⟨_, rfl⟩
  rw [hR] at HS ⊢
  clear hR
  have HN := Lib.hid (fun W => nan_any x W)
  cases y2
  · cases y3
    · go_enter Tryz.func71, Tryz.ntmps71
      go_wp2_with fail
      go_ret
      exact ⟨congrArg (fun x => Ending.returned (Value.int .u8 x)) (by rw [HS.out]; simp), HB.out⟩
    · have hlen := hx1.len
      have hnb := hx1.sl.big
      have HC := Lib.hid (fun (h : 0 < n) => hx1.cells h)
      have HZ := Lib.hid hlen
      clear hx1 hlen
      unfold sideV at HS
      obtain ⟨yn, hyn⟩ : ∃ y, nanF x = y := ⟨_, rfl⟩
      rw [hyn] at HN HS
      have HS' := Lib.hid (show (R : Nat) = if yn then v.missing else if isCat v.cats x then 1 else 2 by rw [HS.out]; simp)
      clear HS hyn
      cases yn
      · go_enter Tryz.func71, Tryz.ntmps71
        go_wp2_with fail
        refine (HN.out _).mono ?_; rintro e w1 ⟨rfl, rfl⟩
        go_wp2_with fail
        obtain ⟨w1, hw1⟩ : ∃ w1, w.alloc (.cells #[.int .u8 (v.kind : Int), .int .i64 v.value, .int .i64 v.feature, .float .f64 v.thr, .slice A n c, .int .u8 (v.missing : Int), .int .i64 v.left, .int .i64 v.right] 72) = w1 := ⟨_, rfl⟩
        rw [hw1] at HB HC ⊢
        have HW1 := Lib.hid hw1
        clear hw1
        go_loopw [29] (fun ix wr => ∃ (i q : Nat), ix = .int .i64 (i : Int) ∧ i ≤ n ∧ Hid (isCat v.cats x = isCat (v.cats.drop i) x) ∧ wr = w1.drewN q) (fun ix _ => n - (intOf ix).toNat)
        case atStart => exact ⟨0, 0, rfl, Nat.zero_le _, Lib.hid rfl, rfl⟩
        case round =>
          obtain ⟨i, q, rfl, hi, HR, rfl⟩ := hrel
          by_cases hlt : i < n
          · obtain ⟨b, o, rfl, hc⟩ := HC.out (by omega)
            have h0 : (w1.drewN q).cell? ⟨b, o + i, none⟩ = some (.int .i64 (v.cats.getD i 0)) := hc i hlt
            have hs := isCat_drop v.cats x i (by rw [HZ.out]; exact hlt)
            rw [← HR.out, order_symm] at hs
            generalize v.cats.getD i 0 = z at h0 hs
            clear hc
            have m1 : decide ((i : Int) < (n : Int)) = true := by simp; omega
            have m2 : (i : Int) < (n : Int) := by omega
            obtain ⟨c3, hc3⟩ : ∃ c, FloatKind.f64.format.order x (floatOfInt FloatKind.f64 z) = c := ⟨_, rfl⟩
            rw [hc3] at hs
            have HS2 := Lib.hid hs
            clear hs
            rcases c3 with _ | c3
            all_goals (try cases c3)
            all_goals
              go_wp2
              first
              | (go_roundw
                 case rel => exact ⟨i + 1, q, by go_num, hlt, Lib.hid (by rw [HS2.out]; rfl), rfl⟩
                 case measure => simp [intOf]; omega)
              | (go_ret
                 exact ⟨congrArg (fun x => Ending.returned (Value.int .u8 x)) (by rw [HS'.out, HS2.out]; simp), below_drawn HB.out q⟩)
          · obtain rfl : i = n := by omega
            have m1 : decide ((i : Int) < (i : Int)) = false := by simp
            go_wp2
            go_ret
            exact ⟨congrArg (fun x => Ending.returned (Value.int .u8 x)) (by rw [HS'.out, HR.out, List.drop_of_length_le (by rw [HZ.out]; exact Nat.le_refl _)]; simp [isCat]), below_drawn HB.out q⟩
      · go_enter Tryz.func71, Tryz.ntmps71
        go_wp2_with fail
        refine (HN.out _).mono ?_; rintro e w1 ⟨rfl, rfl⟩
        go_wp2
        go_ret
        exact ⟨congrArg (fun x => Ending.returned (Value.int .u8 x)) (by rw [HS'.out]; simp), HB.out⟩
  · clear hx1
    unfold sideV leF at HS
    obtain ⟨yn, hyn⟩ : ∃ y, nanF x = y := ⟨_, rfl⟩
    obtain ⟨c2, hc2⟩ : ∃ c, FloatKind.f64.format.order x v.thr = c := ⟨_, rfl⟩
    rw [hyn] at HN HS
    rw [hc2] at HS
    clear hyn
    cases yn
    · rcases c2 with _ | c2
      all_goals (try cases c2)
      all_goals
        go_enter Tryz.func71, Tryz.ntmps71
        go_wp2_with fail
        refine (HN.out _).mono ?_; rintro e w1 ⟨rfl, rfl⟩
        go_wp2
        go_ret
        refine ⟨congrArg (fun x => Ending.returned (Value.int .u8 x)) ?_, HB.out⟩
        have := HS.out
        simp at this
        omega
    · clear hc2
      go_enter Tryz.func71, Tryz.ntmps71
      go_wp2_with fail
      refine (HN.out _).mono ?_; rintro e w1 ⟨rfl, rfl⟩
      go_wp2
      go_ret
      refine ⟨congrArg (fun x => Ending.returned (Value.int .u8 x)) ?_, HB.out⟩
      have := HS.out
      simp at this
      omega

end Go.Proofs.YtekcpapkicmckaaGreatDoor

namespace Go.Proofs.YtekcpapkicmckaaGreatDoor
open Go.RowKit

def fls (xs : List Nat) : List Value := xs.map fun x => .float .f64 x
theorem fls_length (xs : List Nat) : (fls xs).length = xs.length := by simp [fls]
theorem fls_getD {xs : List Nat} {j : Nat} (h : j < xs.length) : (fls xs).getD j undef = .float .f64 (xs.getD j 0) := by
  simp [fls, List.getD, List.getElem?_eq_getElem h]

/-- a program being run -/
def MachAt (w : World) (mb : Nat) (X : Option Addr) (xn xc : Nat) (i : Nat) (S : Option Addr) (sn sc : Nat) : Prop :=
  w.heap[mb]? = some (.cells #[.slice X xn xc, .int .i64 (i : Int), .slice S sn sc] 123 (0, 0))

theorem nodeSide_op (o : OpV) (a x : Nat) (ha : a = if o.kind = 2 then 3 else 2) : nodeSide ⟨a, 0, 0, o.thr, o.cats, o.missing, 0, 0⟩ x = sideV (decide (o.kind = 2)) o.thr o.cats o.missing x := by
  subst ha
  unfold nodeSide sideV
  by_cases h : o.kind = 2 <;> simp [h]

set_option maxRecDepth 100000 in
set_option maxHeartbeats 1000000 in
theorem step1_any (B : Option Addr) (m d : Nat) (v : OpV) (mb g a i : Nat) (X S : Option Addr) (xn xc sn sc : Nat) (xs : List Nat) (w : World) (hm : MachAt w mb X xn xc i S sn sc) (hx : Sl w X xn xc (fls xs))
    (hg : w.heap[g]? = some (.cells #[.int .u8 (a : Int)] 68 (0, 0))) (ha : a = if v.kind = 2 then 3 else 2) (hc : Ints w B m d v.cats) (hf0 : 0 ≤ v.feature) (hf1 : v.feature < xn) (hi : i < 281474976710656) :
    Calls Tryz.prog 73 #[.pointer (some ⟨mb, 0, none⟩), .agg (opCells B m d v).toArray, .pointer (some ⟨g, 0, none⟩)] w fun e w' => e = .returned (.int .i64 (if goesOn v xs then (i : Int) + 1 else v.dest)) ∧ Below w.heap.size w w' := by
  have hxl : xs.length = xn := by have := hx.len; rwa [fls_length] at this
  have hnb := hx.big
  obtain ⟨b, o, rfl, hcl⟩ := hx.cells (by omega)
  obtain ⟨f, hf⟩ := Int.eq_ofNat_of_zero_le hf0
  have hfc := hcl f (by omega)
  rw [fls_getD (by omega)] at hfc
  have hfd : v.feature.toNat = f := by omega
  obtain ⟨x, hxx⟩ : ∃ x, xs.getD f 0 = x := ⟨_, rfl⟩
  rw [hxx] at hfc
  have HG := Lib.hid (show goesOn v xs = decide (nodeSide ⟨a, 0, 0, v.thr, v.cats, v.missing, 0, 0⟩ x = 1) by unfold goesOn; rw [nodeSide_op v a x ha, hfd, hxx])
  have HC := Lib.hid (fun W (h : Below w.heap.size w W) => Goes_any B m d x ⟨a, 0, 0, v.thr, v.cats, v.missing, 0, 0⟩ W (hc.below h))
  unfold ndCells at HC
  simp only at HC
  obtain ⟨s, hs⟩ : ∃ s, nodeSide ⟨a, 0, 0, v.thr, v.cats, v.missing, 0, 0⟩ x = s := ⟨_, rfl⟩
  rw [hs] at HC HG
  have B2 := ((Below.refl w.heap.size w).alloc (Nat.le_refl _) (.cells (opCells B m d v).toArray 75)).alloc (by simp) (.cells (ndCells B m d ⟨a, 0, 0, v.thr, v.cats, v.missing, 0, 0⟩).toArray 72)
  have HB2 := Lib.hid B2
  unfold opCells ndCells at HB2
  unfold opCells
  simp only at HB2
  have p0 : w.cell? ⟨mb, 0, none⟩ = some (.slice (some ⟨b, o, none⟩) xn xc) := cell_of_block hm rfl
  have p1 : w.cell? ⟨mb, 1, none⟩ = some (.int .i64 (i : Int)) := cell_of_block hm rfl
  have q0 : w.cell? ⟨g, 0, none⟩ = some (.int .u8 (a : Int)) := cell_of_block hg rfl
  have hmb := lt_of_block hm
  have hgb := lt_of_block hg
  have hbb := World.block_lt_of_cell? w _ hfc
  simp only at hbb
  have HM := Lib.hid hm
  obtain ⟨r, hr⟩ : ∃ r, (if goesOn v xs then (i : Int) + 1 else v.dest) = r := ⟨_, rfl⟩
  rw [hr]
  have HRR := Lib.hid (show r = if s = 1 then (i : Int) + 1 else v.dest by rw [← hr, HG.out]; simp)
  obtain ⟨vf, hvf⟩ : ∃ y, v.feature = y := ⟨_, rfl⟩
  rw [hvf] at hf hf0 hf1 HB2 ⊢
  subst hf
  have k1 : (f : Int) < (xn : Int) := by omega
  clear hs hx hcl hxx hxl hfd B2 hc hm hvf hg ha hr HG
  have hsf : ∀ (W : World) (a : Addr) (b : Nat), (store a (.float .f64 b)).run Tryz.prog W = stored Tryz.prog W a (.float .f64 b) .plain := fun W a b => run_store _ W a _ _ rfl
  go_enter Tryz.func73, Tryz.ntmps73
  go_upto_region 2 with (fail)
  have hO : ∀ ob ob', ((w.alloc ob).alloc ob').heap[w.heap.size]? = some ob := fun ob ob' => by
    show ((w.heap.push _).push _)[w.heap.size]? = _
    simp only [Array.getElem?_push, Array.size_push]
    rw [if_neg (by omega), if_pos trivial]
  have hN : ∀ ob ob', ((w.alloc ob).alloc ob').heap[w.heap.size + 1]? = some ob' := fun ob ob' => by
    show ((w.heap.push _).push _)[w.heap.size + 1]? = _
    simp only [Array.getElem?_push, Array.size_push]
    rw [if_pos trivial]
  have hO1 := hO (.cells #[.int .u8 (v.kind : Int), .int .i64 (f : Int), .float .f64 v.thr, .slice B m d, .int .u8 (v.missing : Int), .int .i64 v.output, .int .i64 v.value, .int .i64 v.dest] 75) (.cells #[.int .u8 (a : Int), .int .i64 0, .int .i64 0, .float .f64 v.thr, .slice B m d, .int .u8 (v.missing : Int), .int .i64 0, .int .i64 0] 72)
  have hN1 := hN (.cells #[.int .u8 (v.kind : Int), .int .i64 (f : Int), .float .f64 v.thr, .slice B m d, .int .u8 (v.missing : Int), .int .i64 v.output, .int .i64 v.value, .int .i64 v.dest] 75) (.cells #[.int .u8 (a : Int), .int .i64 0, .int .i64 0, .float .f64 v.thr, .slice B m d, .int .u8 (v.missing : Int), .int .i64 0, .int .i64 0] 72)
  generalize (w.alloc (.cells #[.int .u8 (v.kind : Int), .int .i64 (f : Int), .float .f64 v.thr, .slice B m d, .int .u8 (v.missing : Int), .int .i64 v.output, .int .i64 v.value, .int .i64 v.dest] 75)).alloc (.cells #[.int .u8 (a : Int), .int .i64 0, .int .i64 0, .float .f64 v.thr, .slice B m d, .int .u8 (v.missing : Int), .int .i64 0, .int .i64 0] 72) = W1 at *
  have hm1 : MachAt W1 mb (some ⟨b, o, none⟩) xn xc i S sn sc := (HB2.out.block _ hmb).trans HM.out
  have p0' : W1.cell? ⟨mb, 0, none⟩ = some (.slice (some ⟨b, o, none⟩) xn xc) := cell_of_block hm1 rfl
  have x1 : W1.cell? ⟨b, o + f, none⟩ = some (.float .f64 x) := (HB2.out.cell (p := ⟨b, o + f, none⟩) hbb).trans hfc
  have n0 : W1.cell? ⟨w.heap.size + 1, 0, none⟩ = some (.int .u8 (a : Int)) := cell_of_block hN1 rfl
  have n1 : W1.cell? ⟨w.heap.size + 1, 1, none⟩ = some (.int .i64 0) := cell_of_block hN1 rfl
  have n2 : W1.cell? ⟨w.heap.size + 1, 2, none⟩ = some (.int .i64 0) := cell_of_block hN1 rfl
  have n3 : W1.cell? ⟨w.heap.size + 1, 3, none⟩ = some (.float .f64 v.thr) := cell_of_block hN1 rfl
  have n4 : W1.cell? ⟨w.heap.size + 1, 4, none⟩ = some (.slice B m d) := cell_of_block hN1 rfl
  have n5 : W1.cell? ⟨w.heap.size + 1, 5, none⟩ = some (.int .u8 (v.missing : Int)) := cell_of_block hN1 rfl
  have n6 : W1.cell? ⟨w.heap.size + 1, 6, none⟩ = some (.int .i64 0) := cell_of_block hN1 rfl
  have n7 : W1.cell? ⟨w.heap.size + 1, 7, none⟩ = some (.int .i64 0) := cell_of_block hN1 rfl
  have o1 : W1.cell? ⟨w.heap.size, 1, none⟩ = some (.int .i64 (f : Int)) := cell_of_block hO1 rfl
  clear p0 p1 q0 hfc hO hN
  have HW := Lib.hid (HC.out W1.drew (HB2.out.drew))
  go_still_tail 9, (by kernel_rfl)
  change wpList _ _ _ _ _ W1.drew
  go_wp2_with fail
  refine HW.out.mono ?_; rintro e w2 ⟨rfl, b2⟩
  have hm2 : MachAt w2 mb (some ⟨b, o, none⟩) xn xc i S sn sc := (b2.block mb (lt_of_block hm1)).trans hm1
  have p1 : w2.cell? ⟨mb, 1, none⟩ = some (.int .i64 (i : Int)) := cell_of_block hm2 rfl
  have hO2 := (b2.block _ (lt_of_block hO1)).trans hO1
  have o7 : w2.cell? ⟨w.heap.size, 7, none⟩ = some (.int .i64 v.dest) := cell_of_block hO2 rfl
  have BF := below_then HB2.out HB2.out.size (show Below W1.heap.size W1 w2 from (Below.refl W1.heap.size W1).drew.trans b2)
  clear hm1 hm2 hO2 hO1 hN1 p0' x1 n0 n1 n2 n3 n4 n5 n6 n7 o1
  by_cases hs1 : s = 1
  · subst hs1
    go_wp2
    go_ret
    exact ⟨congrArg (fun x => Ending.returned (Value.int .i64 x)) (by rw [HRR.out]; simp), BF⟩
  · have s1 : ((s : Int) == 1) = false := by simp; omega
    have s2 : decide ((s : Int) = 1) = false := by simp; omega
    have HS1 := Lib.hid hs1
    clear hs1
    go_wp2
    go_ret
    exact ⟨congrArg (fun x => Ending.returned (Value.int .i64 x)) (by rw [HRR.out, if_neg HS1.out]), BF⟩

set_option maxRecDepth 100000 in
set_option maxHeartbeats 1000000 in
theorem step3_any (B : Option Addr) (m d : Nat) (v : OpV) (mb i : Nat) (X : Option Addr) (g xn xc sn sc : Nat) (zs : List Int) (base : Nat) (w : World) (hm : MachAt w mb X xn xc i (some ⟨g, 0, none⟩) sn sc)
    (hs : Mine 2 w base (some ⟨g, 0, none⟩) sn sc (i64s zs)) (hne : mb ≠ g) (hf0 : 0 ≤ v.output) (hf1 : v.output < sn) (hi : i < 281474976710656) :
    Calls Tryz.prog 75 #[.pointer (some ⟨mb, 0, none⟩), .agg (opCells B m d v).toArray] w fun e w' => e = .returned (.int .i64 ((i : Int) + 1)) ∧
      ∃ W1, Below w.heap.size w W1 ∧ W1.setCell ⟨g, v.output.toNat, none⟩ (.int .i64 (wrap64 (zs.getD v.output.toNat 0 + v.value))) = w' := by
  have hzl : zs.length = sn := by have := hs.len; rwa [i64s_length] at this
  obtain ⟨f, hf⟩ := Int.eq_ofNat_of_zero_le hf0
  have hfd : v.output.toNat = f := by omega
  rw [hfd]
  have c1 := hs.cell f (by omega)
  rw [i64s_getD (by omega)] at c1
  have fr := hs.free f
  obtain ⟨z, hz⟩ : ∃ z, zs.getD f 0 = z := ⟨_, rfl⟩
  rw [hz] at c1 ⊢
  have p1 : w.cell? ⟨mb, 1, none⟩ = some (.int .i64 (i : Int)) := cell_of_block hm rfl
  have p2 : w.cell? ⟨mb, 2, none⟩ = some (.slice (some ⟨g, 0, none⟩) sn sc) := cell_of_block hm rfl
  have hmb := lt_of_block hm
  have hgb := World.block_lt_of_cell? w _ c1
  simp only at hgb
  unfold opCells
  obtain ⟨vo, hvo⟩ : ∃ y, v.output = y := ⟨_, rfl⟩
  rw [hvo] at hf hf0 hf1 hfd ⊢
  subst hf
  have k1 : (f : Int) < (sn : Int) := by omega
  have hnb := hs.big
  clear hs hm hz hzl hvo hfd
  go_enter Tryz.func75, Tryz.ntmps75
  go_upto_region 1 with (fail)
  have hO1 := heap_alloc_new w (.cells #[.int .u8 (v.kind : Int), .int .i64 v.feature, .float .f64 v.thr, .slice B m d, .int .u8 (v.missing : Int), .int .i64 (f : Int), .int .i64 v.value, .int .i64 v.dest] 75)
  have B1 := (Below.refl w.heap.size w).alloc (Nat.le_refl _) (.cells #[.int .u8 (v.kind : Int), .int .i64 v.feature, .float .f64 v.thr, .slice B m d, .int .u8 (v.missing : Int), .int .i64 (f : Int), .int .i64 v.value, .int .i64 v.dest] 75)
  generalize w.alloc (.cells #[.int .u8 (v.kind : Int), .int .i64 v.feature, .float .f64 v.thr, .slice B m d, .int .u8 (v.missing : Int), .int .i64 (f : Int), .int .i64 v.value, .int .i64 v.dest] 75) = W1 at *
  have q1 : W1.cell? ⟨mb, 1, none⟩ = some (.int .i64 (i : Int)) := (B1.cell (p := ⟨mb, 1, none⟩) hmb).trans p1
  have q2 : W1.cell? ⟨mb, 2, none⟩ = some (.slice (some ⟨g, 0, none⟩) sn sc) := (B1.cell (p := ⟨mb, 2, none⟩) hmb).trans p2
  have q3 : W1.cell? ⟨g, f, none⟩ = some (.int .i64 z) := (B1.cell (p := ⟨g, f, none⟩) hgb).trans c1
  have fr1 : W1.frozen? ⟨g, f, none⟩ = false := (B1.frozen (p := ⟨g, f, none⟩) hgb).trans fr
  have o5 : W1.cell? ⟨w.heap.size, 5, none⟩ = some (.int .i64 (f : Int)) := cell_of_block hO1 rfl
  have o6 : W1.cell? ⟨w.heap.size, 6, none⟩ = some (.int .i64 v.value) := cell_of_block hO1 rfl
  have HB1 := Lib.hid B1
  clear p1 p2 c1 fr hO1 B1
  go_still_tail 12, (by kernel_rfl)
  change wpList _ _ _ _ _ W1.drew
  go_wp2
  go_ret
  exact ⟨rfl, W1.drew, HB1.out.drew, rfl⟩

set_option maxRecDepth 100000 in
set_option maxHeartbeats 1000000 in
theorem step4_any (B : Option Addr) (m d : Nat) (v : OpV) (a : Value) (w : World) :
    Calls Tryz.prog 76 #[a, .agg (opCells B m d v).toArray] w fun e w' => e = .returned (.int .i64 v.dest) ∧ Below w.heap.size w w' := by
  have B1 := (Below.refl w.heap.size w).alloc (Nat.le_refl _) (.cells (opCells B m d v).toArray 75)
  unfold opCells at B1 ⊢
  go_enter Tryz.func76, Tryz.ntmps76
  go_wp2
  go_ret
  exact ⟨rfl, B1⟩

end Go.Proofs.YtekcpapkicmckaaGreatDoor

namespace Go.Proofs.YtekcpapkicmckaaGreatDoor
open Go.RowKit

theorem Tryz.info_int : (Tryz.prog.info? 3).map (fun i => (i.zero, i.size, i.bytes)) = some (some (.int .i64 0), 1, 8) := by kernel_rfl
theorem Tryz.info_i64 : (Tryz.prog.info? 2).map (fun i => (i.zero, i.size, i.bytes)) = some (some (.int .i64 0), 1, 8) := by kernel_rfl

/-- whole numbers of the call's own -/
structure OwnInts (T : TypeId) (w : World) (base : Nat) (A : Option Addr) (n c : Nat) (zs : List Int) : Prop where
  mine : Mine T w base A n c (i64s zs)
  rng : ∀ z ∈ zs, -9223372036854775808 ≤ z ∧ z ≤ 9223372036854775807
theorem OwnInts.ints {T : TypeId} {w : World} {base : Nat} {A : Option Addr} {n c : Nat} {zs : List Int} (h : OwnInts T w base A n c zs) : Ints w A n c zs := ⟨h.mine.sl, h.rng⟩
theorem OwnInts.below {T : TypeId} {w w' : World} {base : Nat} {A : Option Addr} {n c : Nat} {zs : List Int} (h : OwnInts T w base A n c zs) (hb : Below w.heap.size w w') : OwnInts T w' base A n c zs := ⟨h.mine.below hb, h.rng⟩
theorem OwnInts.mono {T : TypeId} {w : World} {base base' : Nat} {A : Option Addr} {n c : Nat} {zs : List Int} (h : OwnInts T w base A n c zs) (hb : base' ≤ base) : OwnInts T w base' A n c zs := ⟨h.mine.mono hb, h.rng⟩

/-- what a run leaves -/
def RunPost (R : List Int × List Int × Int) (w : World) (e : Ending) (w' : World) : Prop :=
  ∃ SA sn sc DA dn dc, e = .returned (.tuple #[.slice SA sn sc, .slice DA dn dc, .int .i64 R.2.2]) ∧ OwnInts 2 w' w.heap.size SA sn sc R.1 ∧ OwnInts 3 w' w.heap.size DA dn dc R.2.1 ∧ Below w.heap.size w w'

/-- in a run -/
structure AtRun (w : World) (base mb sg : Nat) (X : Option Addr) (xn xc on i : Nat) (S D : List Int) (DA : Option Addr) (dn dc : Nat) : Prop where
  mach : MachAt w mb X xn xc i (some ⟨sg, 0, none⟩) on on
  sums : OwnInts 2 w base (some ⟨sg, 0, none⟩) on on S
  done : OwnInts 3 w base DA dn dc D
  few : dn ≤ i
  mbase : base ≤ mb
  ne : mb ≠ sg
  apart : blockOf DA ≠ some mb ∧ blockOf DA ≠ some sg

theorem runF_succ (ops : List OpV) (xs : List Nat) (f i : Nat) (S : List Int) (h : (opAt ops i).kind ≠ 5) : runF ops xs (f + 1) i S = ((runF ops xs f (nextAt (opAt ops i) xs i) (nextSums (opAt ops i) S)).1, (i : Int) :: (runF ops xs f (nextAt (opAt ops i) xs i) (nextSums (opAt ops i) S)).2) := by
  simp only [runF, if_neg h]
theorem runF_end (ops : List OpV) (xs : List Nat) (f i : Nat) (S : List Int) (h : (opAt ops i).kind = 5) : runF ops xs (f + 1) i S = (S, [(i : Int)]) := by
  simp only [runF, if_pos h]

/-- one more operation is noted -/
theorem AtRun.noted {w w' : World} {base mb sg : Nat} {X : Option Addr} {xn xc on i : Nat} {S D : List Int} {DA : Option Addr} {dn dc : Nat} (h : AtRun w base mb sg X xn xc on i S D DA dn dc) {A' : Option Addr} {c' : Nat}
    (hm : Mine 3 w' base A' (dn + 1) c' (i64s D ++ [.int .i64 (i : Int)])) (hg : w.grownBy w' (blockOf DA)) (hA : blockOf A' = blockOf DA ∨ ∃ k, blockOf A' = some k ∧ w.heap.size ≤ k) (hi : (i : Int) ≤ 9223372036854775807) :
    MachAt w' mb X xn xc i (some ⟨sg, 0, none⟩) on on ∧ OwnInts 2 w' base (some ⟨sg, 0, none⟩) on on S ∧ OwnInts 3 w' base A' (dn + 1) c' (D ++ [(i : Int)]) ∧ dn + 1 ≤ i + 1 ∧ (blockOf A' ≠ some mb ∧ blockOf A' ≠ some sg) := by
  have h1 := lt_of_block h.mach
  have h2 := (h.sums.mine.lt sg rfl).2
  refine ⟨(hg.block mb h1 (fun e => h.apart.1 e.symm)).trans h.mach, ⟨h.sums.mine.kept hg (.inr (fun e => h.apart.2 e.symm)), h.sums.rng⟩, ⟨by simpa [i64s] using hm, fun z hz => ?_⟩, by have := h.few; omega, ?_⟩
  · rcases List.mem_append.1 hz with hz | hz
    · exact h.done.rng z hz
    · simp at hz; subst hz; omega
  · rcases hA with e | ⟨k, e, hk⟩
    · rw [e]; exact h.apart
    · rw [e]; exact ⟨by simp; omega, by simp; omega⟩

/-- the next operation's number is laid -/
theorem AtRun.next {w : World} {base mb sg : Nat} {X : Option Addr} {xn xc on i nx : Nat} {S D : List Int} {DA : Option Addr} {dn dc : Nat} (hm : MachAt w mb X xn xc i (some ⟨sg, 0, none⟩) on on) (hs : OwnInts 2 w base (some ⟨sg, 0, none⟩) on on S)
    (hd : OwnInts 3 w base DA dn dc D) (hf : dn ≤ nx) (hb : base ≤ mb) (hne : mb ≠ sg) (hap : blockOf DA ≠ some mb ∧ blockOf DA ≠ some sg) :
    AtRun (w.setCell ⟨mb, 1, none⟩ (.int .i64 (nx : Int))) base mb sg X xn xc on nx S D DA dn dc := by
  have hg := setCell_grownBy w mb 1 (.int .i64 (nx : Int))
  refine ⟨setCell_row (vs := [.slice X xn xc, .int .i64 (i : Int), .slice (some ⟨sg, 0, none⟩) on on]) hm 1 _, ⟨hs.mine.kept hg (.inr ?_), hs.rng⟩, ⟨hd.mine.kept hg ?_, hd.rng⟩, hf, hb, hne, hap⟩
  · simp [blockOf]; omega
  · exact .inr hap.1

/-- more fuel than is needed -/
theorem runF_fuel {F O : Int} {ops : List OpV} (h : RightP F O ops) (xs : List Nat) : ∀ (f g i : Nat) (S : List Int), i < ops.length → ops.length ≤ i + f → ops.length ≤ i + g → runF ops xs f i S = runF ops xs g i S
  | 0, _, i, S, hi, hf, _ => by omega
  | f + 1, 0, i, S, hi, _, hg => by omega
  | f + 1, g + 1, i, S, hi, hf, hg => by
    by_cases h5 : (opAt ops i).kind = 5
    · rw [runF_end _ _ _ _ _ h5, runF_end _ _ _ _ _ h5]
    · obtain ⟨h1, h2⟩ := h.nextAt hi h5 xs
      rw [runF_succ _ _ _ _ _ h5, runF_succ _ _ _ _ _ h5, runF_fuel h xs f g _ _ h2 (by omega) (by omega)]

set_option maxRecDepth 100000 in
set_option maxHeartbeats 4000000 in
theorem run_any (F O : Int) (A X : Option Addr) (n c xn xc : Nat) (ops : List OpV) (xs : List Nat) (w : World) (hp : OpsAt w A n c ops) (hx : Sl w X xn xc (fls xs)) (hn : n ≤ 1000000000000) :
    Calls Tryz.prog 44 #[.agg #[.int .i64 F, .int .i64 O, .slice A n c], .slice X xn xc] w (RunPost (runV F O ops xs) w) := by
  have B1 := (Below.refl w.heap.size w).alloc (Nat.le_refl _) (.cells #[.int .i64 F, .int .i64 O, .slice A n c] 30)
  have hP := heap_alloc_new w (.cells #[.int .i64 F, .int .i64 O, .slice A n c] 30)
  have hp1 := hp.below B1
  have hx1 := hx.below B1
  have hlen := hp.len
  have hxl : xs.length = xn := by have := hx.len; rwa [fls_length] at this
  have hxb := hx.big
  obtain ⟨R, hR⟩ : ∃ R, runV F O ops xs = R := ⟨_, rfl⟩
  rw [hR]
  have HR := Lib.hid hR
  clear hp hx hR
  go_enter Tryz.func44, Tryz.ntmps44
  go_upto_region 1 with (fail)
  generalize w.alloc (.cells #[.int .i64 F, .int .i64 O, .slice A n c] 30) = W at *
  have p0 : W.cell? ⟨w.heap.size, 0, none⟩ = some (.int .i64 F) := cell_of_block hP rfl
  have p1 : W.cell? ⟨w.heap.size, 1, none⟩ = some (.int .i64 O) := cell_of_block hP rfl
  have p2 : W.cell? ⟨w.heap.size, 2, none⟩ = some (.slice A n c) := cell_of_block hP rfl
  have HC := Lib.hid (Check_any F O A n c ops W hp1)
  obtain ⟨K, hK⟩ : ∃ K, checkV F O ops = K := ⟨_, rfl⟩
  rw [hK] at HC
  have HK := Lib.hid hK
  clear hK
  go_wp2_with fail
  refine HC.out.mono ?_; rintro e w1 ⟨rfl, b1⟩
  have hP1 := (b1.block w.heap.size (lt_of_block hP)).trans hP
  have hp2 := hp1.below b1
  have hx2 := hx1.below b1
  have B2 := below_then B1 B1.size b1
  clear p0 p1 p2 hP hp1 hx1 B1 b1
  unfold chkOf
  obtain ⟨k1, k2⟩ := K
  by_cases hk : k1 = 0
  · have p0 : w1.cell? ⟨w.heap.size, 0, none⟩ = some (.int .i64 F) := cell_of_block hP1 rfl
    have p1 : w1.cell? ⟨w.heap.size, 1, none⟩ = some (.int .i64 O) := cell_of_block hP1 rfl
    have p2 : w1.cell? ⟨w.heap.size, 2, none⟩ = some (.slice A n c) := cell_of_block hP1 rfl
    have hK0 : checkV F O ops = (0, 0) := wrong_first (by rw [HK.out]; exact hk)
    have hRP := rightP_of hK0
    subst hk
    by_cases hxF : (xn : Int) = F
    · have HRT := Lib.hid (show R = ((runF ops xs n 0 (List.replicate O.toNat 0)).1, (runF ops xs n 0 (List.replicate O.toNat 0)).2, 0) by rw [← HR.out]; unfold runV; rw [hK0, if_neg (by simp), if_neg (by rw [hxl]; simpa using hxF), hlen])
      have f1 : ((xn : Int) != F) = false := by simpa using hxF
      have f2 : decide ((xn : Int) = F) = true := by simpa using hxF
      have HRP := Lib.hid hRP
      have HK2 := Lib.hid kinds_any
      obtain ⟨on, hon⟩ : ∃ on : Nat, O = (on : Int) := Int.eq_ofNat_of_zero_le (by have := hRP.outs; omega)
      have hob : on ≤ 64 := by have := hRP.outs; omega
      have HON := Lib.hid hon
      have HXF := Lib.hid hxF
      have HLEN := Lib.hid hlen
      have HXL := Lib.hid hxl
      clear HR HK hK0 hRP hxF hlen hxl hon
      go_wp2_with fail
      refine (HK2.out w1).mono ?_; rintro e w2 ⟨g1, g2, g, rfl, hk, b2⟩
      have hP2 := (b2.block w.heap.size (lt_of_block hP1)).trans hP1
      have hp3 := hp2.below b2
      have hx3 := hx2.below b2
      have B3 := below_then B2 B2.size b2
      clear p0 p1 p2 hP1 hp2 hx2 B2 b2 HK2 HC
      have p1 : w2.cell? ⟨w.heap.size, 1, none⟩ = some (.int .i64 O) := cell_of_block hP2 rfl
      rw [HON.out] at p1
      have HMK := make_row (P := Tryz.prog) 23 2 (.int .i64 0) 8 Tryz.underlying23 Tryz.info_i64 rfl (by omega) on on (Nat.le_refl _) (by omega)
      go_upto_region 8 with (fail)
      have b3 := ((Below.refl w2.heap.size w2).alloc (Nat.le_refl _) (.cells (Array.replicate on (.int .i64 0)) 2)).alloc (by simp) (.cells #[.slice X xn xc, .int .i64 0, .slice (some ⟨w2.heap.size, 0, none⟩) on on] 123)
      have hat : AtRun ((w2.alloc (.cells (Array.replicate on (.int .i64 0)) 2)).alloc (.cells #[.slice X xn xc, .int .i64 0, .slice (some ⟨w2.heap.size, 0, none⟩) on on] 123)) w2.heap.size (w2.heap.size + 1) w2.heap.size X xn xc on 0 (List.replicate on 0) [] none 0 0 := by
        have hm1 := Mine.made 2 w2 w2.heap.size (.int .i64 0) on on (Nat.le_refl _) (Nat.le_refl _) (by omega)
        refine ⟨by simpa [MachAt] using heap_alloc_new (w2.alloc (.cells (Array.replicate on (.int .i64 0)) 2)) (.cells #[.slice X xn xc, .int .i64 0, .slice (some ⟨w2.heap.size, 0, none⟩) on on] 123), ⟨?_, fun z hz => ?_⟩, ⟨Mine.nil _ _ _, by simp⟩, Nat.le_refl _, by omega, by omega, ⟨by simp [blockOf], by simp [blockOf]⟩⟩
        · rw [show i64s (List.replicate on 0) = List.replicate on (.int .i64 0) by simp [i64s]]
          exact hm1.below ((Below.refl _ _).alloc (Nat.le_refl _) _)
        · have := List.eq_of_mem_replicate hz
          omega
      generalize (w2.alloc (.cells (Array.replicate on (.int .i64 0)) 2)).alloc (.cells #[.slice X xn xc, .int .i64 0, .slice (some ⟨w2.heap.size, 0, none⟩) on on] 123) = w3 at b3 hat ⊢
      clear HMK p1
      go_wp2_with fail
      go_loopw [11] (fun dx wr => ∃ (i : Nat) (S D : List Int) (DA : Option Addr) (dn dc : Nat), dx = .slice DA dn dc ∧ i < n ∧ AtRun wr w2.heap.size (w2.heap.size + 1) w2.heap.size X xn xc on i S D DA dn dc ∧
        Hid (runF ops xs n 0 (List.replicate O.toNat 0) = ((runF ops xs (n - i) i S).1, D ++ (runF ops xs (n - i) i S).2)) ∧ Below w2.heap.size w2 wr) (fun _ wr => n - (intOf ((wr.cell? ⟨w2.heap.size + 1, 1, none⟩).getD undef)).toNat)
      case atStart => exact ⟨0, _, _, none, 0, 0, rfl, by have := HRP.out.some; have := HLEN.out; omega, hat, Lib.hid (by rw [HON.out]; rfl), b3⟩
      case round =>
        obtain ⟨i, S, D, DA, dn, dc, rfl, hi, hatr, HF, hbr⟩ := hrel
        have hPr := (hbr.block w.heap.size (lt_of_block hP2)).trans hP2
        have hpr := hp3.below hbr
        have hxr := hx3.below hbr
        have hkr := hk.below hbr
        have m0 : wr.cell? ⟨w2.heap.size + 1, 0, none⟩ = some (.slice X xn xc) := cell_of_block hatr.mach rfl
        have m1 : wr.cell? ⟨w2.heap.size + 1, 1, none⟩ = some (.int .i64 (i : Int)) := cell_of_block hatr.mach rfl
        have HMR := Lib.hid m1
        have hlm := lt_of_block hatr.mach
        have hdf := hatr.few
        have hdm := hatr.done.mine
        have hbz := hbr.size
        go_upto_region 10 with (at_builtin; refine app_one w2.heap.size rfl _ _ _ _ (.int .i64 0) 8 rfl Tryz.underlying44 Tryz.info_int rfl (by omega) DA _ _ _ (.int .i64 (i : Int)) rfl rfl rfl hdm hbz (by omega) ?_; rintro A' c' w4 hm4 hg4 hA4)
        obtain ⟨hma4, hsu4, hdo4, hfe4, hap4⟩ := hatr.noted hm4 hg4 hA4 (by omega)
        have hb4 := below_grown hbr hbz hg4 (fun k hk => (hdm.lt k hk).1)
        clear hPr hpr hxr hkr m0 m1 hlm hdf hdm hbz hm4 hg4 hA4 hatr hbr
        have hP4 := (hb4.block w.heap.size (lt_of_block hP2)).trans hP2
        have hp4 := hp3.below hb4
        have p2 : w4.cell? ⟨w.heap.size, 2, none⟩ = some (.slice A n c) := cell_of_block hP4 rfl
        have m1 : w4.cell? ⟨w2.heap.size + 1, 1, none⟩ = some (.int .i64 (i : Int)) := cell_of_block hma4 rfl
        have hnb := hp4.big
        obtain ⟨b, o, rfl, hc⟩ := hp4.cells (by omega)
        have hlen := HLEN.out
        obtain ⟨V1, V2, V3, hr, hic, hrg⟩ := hc i (by omega)
        have hro := HRP.out.at (i := i) (by omega)
        rw [opAt_get (by omega)] at hro
        have hoa := opAt_get (ops := ops) (i := i) (by omega)
        generalize ops[i]'(by omega) = v at hr hic hrg hro hoa
        have HOA := Lib.hid hoa
        have r0 : _ = some _ := range_cell (o := o + i * 8) hr 0 rfl
        rw [Nat.add_zero] at r0
        have r1 := range_cell hr 1 rfl
        have r2 := range_cell hr 2 rfl
        have r3 := range_cell hr 3 rfl
        have r4 := range_cell hr 4 rfl
        have r5 := range_cell hr 5 rfl
        have r6 := range_cell hr 6 rfl
        have r7 := range_cell hr 7 rfl
        have hlb : b < w4.heap.size := World.block_lt_of_cell? w4 _ r0
        have hlm := lt_of_block hma4
        have hlp := lt_of_block hP4
        have hsf : ∀ (W : World) (a : Addr) (b : Nat), (store a (.float .f64 b)).run Tryz.prog W = stored Tryz.prog W a (.float .f64 b) .plain := fun W a b => run_store _ W a _ _ rfl
        have i1 : (i : Int) < (n : Int) := by omega
        clear hc hr hlen hoa hp4 hP4
        go_region
        go_upto_region 11 with (fail)
        have b5 := ((Below.refl w4.heap.size w4).alloc (Nat.le_refl _) (.cells (opCells V1 V2 V3 v).toArray 75)).drew
        have hO5 : ((w4.alloc (.cells (opCells V1 V2 V3 v).toArray 75)).drew).heap[w4.heap.size]? = some (.cells (opCells V1 V2 V3 v).toArray 75 (0, 0)) := heap_alloc_new w4 _
        unfold opCells at b5 hO5
        generalize ((w4.alloc (.cells #[.int .u8 (v.kind : Int), .int .i64 v.feature, .float .f64 v.thr, .slice V1 V2 V3, .int .u8 (v.missing : Int), .int .i64 v.output, .int .i64 v.value, .int .i64 v.dest] 75)).drew) = w5 at b5 hO5 ⊢
        have q0 : w5.cell? ⟨w4.heap.size, 0, none⟩ = some (.int .u8 (v.kind : Int)) := cell_of_block hO5 rfl
        have q1 : w5.cell? ⟨w4.heap.size, 1, none⟩ = some (.int .i64 v.feature) := cell_of_block hO5 rfl
        have q2 : w5.cell? ⟨w4.heap.size, 2, none⟩ = some (.float .f64 v.thr) := cell_of_block hO5 rfl
        have q3 : w5.cell? ⟨w4.heap.size, 3, none⟩ = some (.slice V1 V2 V3) := cell_of_block hO5 rfl
        have q4 : w5.cell? ⟨w4.heap.size, 4, none⟩ = some (.int .u8 (v.missing : Int)) := cell_of_block hO5 rfl
        have q5 : w5.cell? ⟨w4.heap.size, 5, none⟩ = some (.int .i64 v.output) := cell_of_block hO5 rfl
        have q6 : w5.cell? ⟨w4.heap.size, 6, none⟩ = some (.int .i64 v.value) := cell_of_block hO5 rfl
        have q7 : w5.cell? ⟨w4.heap.size, 7, none⟩ = some (.int .i64 v.dest) := cell_of_block hO5 rfl
        have hb5 := below_then hb4 hb4.size b5
        have hk5 := hk.below hb5
        have hx5 := hx3.below hb5
        have hic5 := hic.below b5
        have hma5 : MachAt w5 (w2.heap.size + 1) X xn xc i (some ⟨w2.heap.size, 0, none⟩) on on := (b5.block _ hlm).trans hma4
        have hsu5 := hsu4.below b5
        have hdo5 := hdo4.below b5
        clear r0 r1 r2 r3 r4 r5 r6 r7 p2 m1 b5 hO5 hma4 hsu4 hdo4 hb4 hic hlb hlm hlp
        by_cases hk5' : v.kind = 5
        · have hend := runF_end ops xs (n - i - 1) i S (by rw [HOA.out]; exact hk5')
          rw [show n - i - 1 + 1 = n - i by omega] at hend
          have HRR := Lib.hid (show R = (S, D ++ [(i : Int)], 0) by
            rw [HRT.out]
            have := HF.out
            rw [HON.out, Int.toNat_natCast] at this ⊢
            rw [this, hend])
          have f1 : ((v.kind : Int) == 5) = true := by simp; omega
          have f2 : decide ((v.kind : Int) = 5) = true := by simp; omega
          have m2 : w5.cell? ⟨w2.heap.size + 1, 2, none⟩ = some (.slice (some ⟨w2.heap.size, 0, none⟩) on on) := cell_of_block hma5 rfl
          clear hk5' hend hro
          go_wp2
          refine bodyPost_ret (v := .tuple #[.slice (some ⟨w2.heap.size, 0, none⟩) on on, .slice A' (dn + 1) c', .int .i64 0]) (by simp [results, Tryz.results44, go_sem]) rfl ?_
          have hBB := below_then B3 B3.size hb5
          rw [HRR.out]
          exact ⟨_, _, _, _, _, _, rfl, hsu5.mono B3.size, hdo5.mono B3.size, hBB⟩
        · have hnx := HRP.out.nextAt (i := i) (by have := HLEN.out; omega) (by rw [HOA.out]; exact hk5') xs
          have hsc := runF_succ ops xs (n - i - 1) i S (by rw [HOA.out]; exact hk5')
          rw [show n - i - 1 + 1 = n - i by omega] at hsc
          rw [HOA.out, HLEN.out] at hnx
          obtain ⟨nx, hnxe⟩ : ∃ nx, nextAt v xs i = nx := ⟨_, rfl⟩
          obtain ⟨S', hS'⟩ : ∃ S', nextSums v S = S' := ⟨_, rfl⟩
          rw [hnxe] at hnx
          have hff := runF_fuel HRP.out xs (n - i - 1) (n - nx) nx S' (by have := HLEN.out; omega) (by have := HLEN.out; omega) (by have := HLEN.out; omega)
          rw [HOA.out, hnxe, hS', hff] at hsc
          have HF2 : Hid (runF ops xs n 0 (List.replicate O.toNat 0) = ((runF ops xs (n - nx) nx S').1, (D ++ [(i : Int)]) ++ (runF ops xs (n - nx) nx S').2)) := Lib.hid (by
            rw [HF.out, hsc, List.append_assoc]; rfl)
          have HNX := Lib.hid hnxe
          have HS' := Lib.hid hS'
          have HH5 := Lib.hid hk5'
          have f1 : ((v.kind : Int) == 5) = false := by simp; omega
          have f2 : decide ((v.kind : Int) = 5) = false := by simp; omega
          clear hff hsc hnxe hS' hk5'
          have hkk := hro.kind
          by_cases h3 : v.kind = 3
          · have hkc : (v.kind : Int) = 3 := by omega
            have hou := hro.output h3
            have hde : (i : Int) + 1 = (nx : Int) := by
              rw [← HNX.out]; unfold nextAt; rw [if_pos h3]; omega
            rw [hkc] at q0
            have t0 : w5.cell? ⟨g, 23, none⟩ = some (.func (.func 75) #[] #[]) := cell_of_block hk5.t rfl
            have HST := Lib.hid (fun W (h : Below w5.heap.size w5 W) => step3_any V1 V2 V3 v (w2.heap.size + 1) i X w2.heap.size xn xc on on S w2.heap.size W ((h.block _ (lt_of_block hma5)).trans hma5) (hsu5.mine.below h) (by omega) hou.1 (by have := HON.out; omega) (by omega))
            unfold opCells at HST
            rw [hkc, hde] at HST
            have HSE := Lib.hid (show S' = S.set v.output.toNat (wrap64 (S.getD v.output.toNat 0 + v.value)) by rw [← HS'.out]; unfold nextSums; rw [if_pos h3]; rfl)
            have hoo : v.output.toNat < on := by have := HON.out; omega
            have HMA := Lib.hid hma5
            have hlm := lt_of_block hma5
            have HZR := Lib.hid (show -9223372036854775808 ≤ wrap64 (S.getD v.output.toNat 0 + v.value) ∧ wrap64 (S.getD v.output.toNat 0 + v.value) ≤ 9223372036854775807 by unfold wrap64; omega)
            generalize wrap64 (S.getD v.output.toNat 0 + v.value) = z at HST HSE HZR
            clear hkc h3 f1 f2 hkk hro hma5 hde hou
            go_upto_region 13 with (fail)
            go_region_with (refine (HST.out w5.drew (Below.refl _ _).drew).mono ?_; rintro e w6 ⟨rfl, W1, b6, hw6⟩; have b6' : Below w5.heap.size w5 W1 := ⟨b6.os, b6.tape, b6.output, b6.size, b6.block⟩; have mm : w6.heap[w2.heap.size + 1]? = _ := (hw6 ▸ (setCell_other (by omega) _ _).trans ((b6'.block _ hlm).trans HMA.out)); have m1 : w6.cell? ⟨w2.heap.size + 1, 1, none⟩ = some (.int .i64 (i : Int)) := cell_of_block mm rfl; have z1 : w6.frozen? ⟨w2.heap.size + 1, 1, none⟩ = false := frozen_row mm 1)
            all_goals
              have b6' : Below w5.heap.size w5 W1 := ⟨b6.os, b6.tape, b6.output, b6.size, b6.block⟩
              have hsg := setCell_grownBy W1 w2.heap.size v.output.toNat (.int .i64 z)
              rw [hw6] at hsg
              have hma6 : MachAt w6 (w2.heap.size + 1) X xn xc i (some ⟨w2.heap.size, 0, none⟩) on on := (hsg.block _ (by have := b6'.size; omega) (by simp)).trans ((b6'.block _ hlm).trans HMA.out)
              have hsu6 : OwnInts 2 w6 w2.heap.size (some ⟨w2.heap.size, 0, none⟩) on on S' := by
                rw [HSE.out]
                refine ⟨?_, fun u hu => ?_⟩
                · have := (hsu5.mine.below b6').stored v.output.toNat hoo (.int .i64 z)
                  rw [hw6] at this
                  simpa [i64s, List.map_set] using this
                · rcases List.mem_or_eq_of_mem_set hu with hu | rfl
                  · exact hsu5.rng u hu
                  · exact HZR.out
              have hdo6 : OwnInts 3 w6 w2.heap.size A' (dn + 1) c' (D ++ [(i : Int)]) := ⟨(hdo5.mine.below b6').kept hsg (.inr hap4.2), hdo5.rng⟩
              have hat6 := AtRun.next (nx := nx) hma6 hsu6 hdo6 (by omega) (Nat.le_add_right _ 1) (by omega) hap4
              have hb6 : Below w2.heap.size w2 w6 := by
                rw [← hw6]
                exact (below_then hb5 hb5.size b6').setCell (p := ⟨w2.heap.size, v.output.toNat, none⟩) (Nat.le_refl _) _
              have hb7 := hb6.setCell (p := ⟨w2.heap.size + 1, 1, none⟩) (by simp) (.int .i64 (nx : Int))
              have hm7 : ((w6.setCell ⟨w2.heap.size + 1, 1, none⟩ (.int .i64 (nx : Int))).cell? ⟨w2.heap.size + 1, 1, none⟩) = some (.int .i64 (nx : Int)) := cell_of_block hat6.mach rfl
              clear hw6 hma6 hsg hsu6 hdo6
              go_wp2
              go_roundw
              case rel => exact ⟨nx, S', D ++ [(i : Int)], A', dn + 1, c', rfl, hnx.2, hat6, HF2, hb7⟩
              case measure => rw [hm7, HMR.out]; simp [intOf]; omega
          · by_cases h4 : v.kind = 4
            · have hkc : (v.kind : Int) = 4 := by omega
              rw [hkc] at q0
              have t0 : w5.cell? ⟨g, 29, none⟩ = some (.func (.func 76) #[] #[]) := cell_of_block hk5.t rfl
              have hde : v.dest = (nx : Int) := by
                have := hro.dest h3 (by omega)
                rw [← HNX.out]; unfold nextAt; rw [if_neg h3, if_pos h4]; omega
              have HST := Lib.hid (fun W => step4_any V1 V2 V3 v (.pointer (some ⟨w2.heap.size + 1, 0, none⟩)) W)
              unfold opCells at HST
              rw [hkc, hde] at HST
              rw [hde] at q7
              have HSE := Lib.hid (show S' = S by rw [← HS'.out]; unfold nextSums; rw [if_neg h3])
              have HMA := Lib.hid hma5
              have hlm := lt_of_block hma5
              clear hkc h3 h4 f1 f2 hkk hro hma5 hde
              go_upto_region 13 with (fail)
              go_region_with (refine (HST.out _).mono ?_; rintro e w6 ⟨rfl, b6⟩; have b6' : Below w5.heap.size w5 w6 := ⟨b6.os, b6.tape, b6.output, b6.size, b6.block⟩; have mm : w6.heap[w2.heap.size + 1]? = _ := (b6'.block _ hlm).trans HMA.out; have m1 : w6.cell? ⟨w2.heap.size + 1, 1, none⟩ = some (.int .i64 (i : Int)) := cell_of_block mm rfl; have z1 : w6.frozen? ⟨w2.heap.size + 1, 1, none⟩ = false := frozen_row mm 1)
              all_goals
                have b6' : Below w5.heap.size w5 w6 := ⟨b6.os, b6.tape, b6.output, b6.size, b6.block⟩
                have hat6 := AtRun.next (nx := nx) ((b6'.block _ hlm).trans HMA.out) (hsu5.below b6') (hdo5.below b6') (by omega) (Nat.le_add_right _ 1) (by omega) hap4
                have hb6 := below_then hb5 hb5.size b6'
                have hb7 := hb6.setCell (p := ⟨w2.heap.size + 1, 1, none⟩) (by simp) (.int .i64 (nx : Int))
                have hm7 : ((w6.setCell ⟨w2.heap.size + 1, 1, none⟩ (.int .i64 (nx : Int))).cell? ⟨w2.heap.size + 1, 1, none⟩) = some (.int .i64 (nx : Int)) := cell_of_block hat6.mach rfl
                rw [← HSE.out] at hat6
                go_wp2
                go_roundw
                case rel => exact ⟨nx, S', D ++ [(i : Int)], A', dn + 1, c', rfl, hnx.2, hat6, HF2, hb7⟩
                case measure => rw [hm7, HMR.out]; simp [intOf]; omega
            · by_cases h1 : v.kind = 1
              · have hkc : (v.kind : Int) = 1 := by have := HH5.out; omega
                have hrf := hro.feature (by omega)
                have hde : (if goesOn v xs then (i : Int) + 1 else v.dest) = (nx : Int) := by
                  have := hro.dest h3 (by omega)
                  rw [← HNX.out]; unfold nextAt; rw [if_neg h3, if_neg h4]
                  split <;> omega
                rw [hkc] at q0
                have t0 : w5.cell? ⟨g, 11, none⟩ = some (.func (.func 73) #[] #[.pointer (some ⟨g1, 0, none⟩)]) := cell_of_block hk5.t rfl
                have HST := Lib.hid (fun W (h : Below w5.heap.size w5 W) => step1_any V1 V2 V3 v (w2.heap.size + 1) g1 2 i X (some ⟨w2.heap.size, 0, none⟩) xn xc on on xs W ((h.block _ (lt_of_block hma5)).trans hma5) (hx5.below h) ((h.block _ (lt_of_block hk5.t1)).trans hk5.t1) (by rw [if_neg (by omega)]) (hic5.below h) hrf.1 (by have := HXF.out; omega) (by omega))
                unfold opCells at HST
                rw [hkc, hde] at HST
                have HSE := Lib.hid (show S' = S by rw [← HS'.out]; unfold nextSums; rw [if_neg h3])
                have HMA := Lib.hid hma5
                have hlm := lt_of_block hma5
                clear hkc h1 h3 h4 f1 f2 hkk hro hma5 hde hrf
                go_upto_region 13 with (fail)
                go_region_with (refine (HST.out w5.drew (Below.refl _ _).drew).mono ?_; rintro e w6 ⟨rfl, b6⟩; have b6' : Below w5.heap.size w5 w6 := ⟨b6.os, b6.tape, b6.output, b6.size, b6.block⟩; have mm : w6.heap[w2.heap.size + 1]? = _ := (b6'.block _ hlm).trans HMA.out; have m1 : w6.cell? ⟨w2.heap.size + 1, 1, none⟩ = some (.int .i64 (i : Int)) := cell_of_block mm rfl; have z1 : w6.frozen? ⟨w2.heap.size + 1, 1, none⟩ = false := frozen_row mm 1)
                all_goals
                  have b6' : Below w5.heap.size w5 w6 := ⟨b6.os, b6.tape, b6.output, b6.size, b6.block⟩
                  have hat6 := AtRun.next (nx := nx) ((b6'.block _ hlm).trans HMA.out) (hsu5.below b6') (hdo5.below b6') (by omega) (Nat.le_add_right _ 1) (by omega) hap4
                  have hb6 := below_then hb5 hb5.size b6'
                  have hb7 := hb6.setCell (p := ⟨w2.heap.size + 1, 1, none⟩) (by simp) (.int .i64 (nx : Int))
                  have hm7 : ((w6.setCell ⟨w2.heap.size + 1, 1, none⟩ (.int .i64 (nx : Int))).cell? ⟨w2.heap.size + 1, 1, none⟩) = some (.int .i64 (nx : Int)) := cell_of_block hat6.mach rfl
                  rw [← HSE.out] at hat6
                  go_wp2
                  go_roundw
                  case rel => exact ⟨nx, S', D ++ [(i : Int)], A', dn + 1, c', rfl, hnx.2, hat6, HF2, hb7⟩
                  case measure => rw [hm7, HMR.out]; simp [intOf]; omega
              · have hkc : (v.kind : Int) = 2 := by have := HH5.out; omega
                have hrf := hro.feature (by omega)
                have hde : (if goesOn v xs then (i : Int) + 1 else v.dest) = (nx : Int) := by
                  have := hro.dest h3 (by omega)
                  rw [← HNX.out]; unfold nextAt; rw [if_neg h3, if_neg h4]
                  split <;> omega
                rw [hkc] at q0
                have t0 : w5.cell? ⟨g, 17, none⟩ = some (.func (.func 73) #[] #[.pointer (some ⟨g2, 0, none⟩)]) := cell_of_block hk5.t rfl
                have HST := Lib.hid (fun W (h : Below w5.heap.size w5 W) => step1_any V1 V2 V3 v (w2.heap.size + 1) g2 3 i X (some ⟨w2.heap.size, 0, none⟩) xn xc on on xs W ((h.block _ (lt_of_block hma5)).trans hma5) (hx5.below h) ((h.block _ (lt_of_block hk5.t2)).trans hk5.t2) (by rw [if_pos (by omega)]) (hic5.below h) hrf.1 (by have := HXF.out; omega) (by omega))
                unfold opCells at HST
                rw [hkc, hde] at HST
                have HSE := Lib.hid (show S' = S by rw [← HS'.out]; unfold nextSums; rw [if_neg h3])
                have HMA := Lib.hid hma5
                have hlm := lt_of_block hma5
                clear hkc h1 h3 h4 f1 f2 hkk hro hma5 hde hrf
                go_upto_region 13 with (fail)
                go_region_with (refine (HST.out w5.drew (Below.refl _ _).drew).mono ?_; rintro e w6 ⟨rfl, b6⟩; have b6' : Below w5.heap.size w5 w6 := ⟨b6.os, b6.tape, b6.output, b6.size, b6.block⟩; have mm : w6.heap[w2.heap.size + 1]? = _ := (b6'.block _ hlm).trans HMA.out; have m1 : w6.cell? ⟨w2.heap.size + 1, 1, none⟩ = some (.int .i64 (i : Int)) := cell_of_block mm rfl; have z1 : w6.frozen? ⟨w2.heap.size + 1, 1, none⟩ = false := frozen_row mm 1)
                all_goals
                  have b6' : Below w5.heap.size w5 w6 := ⟨b6.os, b6.tape, b6.output, b6.size, b6.block⟩
                  have hat6 := AtRun.next (nx := nx) ((b6'.block _ hlm).trans HMA.out) (hsu5.below b6') (hdo5.below b6') (by omega) (Nat.le_add_right _ 1) (by omega) hap4
                  have hb6 := below_then hb5 hb5.size b6'
                  have hb7 := hb6.setCell (p := ⟨w2.heap.size + 1, 1, none⟩) (by simp) (.int .i64 (nx : Int))
                  have hm7 : ((w6.setCell ⟨w2.heap.size + 1, 1, none⟩ (.int .i64 (nx : Int))).cell? ⟨w2.heap.size + 1, 1, none⟩) = some (.int .i64 (nx : Int)) := cell_of_block hat6.mach rfl
                  rw [← HSE.out] at hat6
                  go_wp2
                  go_roundw
                  case rel => exact ⟨nx, S', D ++ [(i : Int)], A', dn + 1, c', rfl, hnx.2, hat6, HF2, hb7⟩
                  case measure => rw [hm7, HMR.out]; simp [intOf]; omega
    · have HRT := Lib.hid (show R = ([], [], 72) by rw [← HR.out]; unfold runV; rw [hK0, if_neg (by simp), if_pos (by rw [hxl]; exact hxF)])
      have f1 : ((xn : Int) != F) = true := by simpa using hxF
      have f2 : decide ((xn : Int) = F) = false := by simpa using hxF
      clear hxF HR HK hK0 hRP
      go_wp2
      refine bodyPost_ret (v := .tuple #[.slice none 0 0, .slice none 0 0, .int .i64 72]) (by simp [results, Tryz.results44, go_sem]) rfl ?_
      rw [HRT.out]
      exact ⟨none, 0, 0, none, 0, 0, rfl, ⟨Mine.nil _ _ _, by simp⟩, ⟨Mine.nil _ _ _, by simp⟩, B2⟩
  · have HRT := Lib.hid (show R = ([], [], k1) by rw [← HR.out]; unfold runV; rw [HK.out, if_pos hk])
    have f1 : (k1 != 0) = true := by simpa using hk
    have f2 : decide (k1 = 0) = false := by simpa using hk
    clear hk HR HK
    go_wp2
    refine bodyPost_ret (v := .tuple #[.slice none 0 0, .slice none 0 0, .int .i64 k1]) (by simp [results, Tryz.results44, go_sem]) rfl ?_
    rw [HRT.out]
    exact ⟨none, 0, 0, none, 0, 0, rfl, ⟨Mine.nil _ _ _, by simp⟩, ⟨Mine.nil _ _ _, by simp⟩, B2⟩

end Go.Proofs.YtekcpapkicmckaaGreatDoor

namespace Go.Proofs.YtekcpapkicmckaaGreatDoor
open Go.RowKit

/-- what Run leaves -/
def RunsPost (R : List Int × List Int × Int) (w : World) (e : Ending) (w' : World) : Prop :=
  ∃ SA sn sc, e = .returned (.tuple #[.slice SA sn sc, .int .i64 (R.2.1.length : Int), .int .i64 R.2.2]) ∧ OwnInts 2 w' w.heap.size SA sn sc R.1 ∧ Below w.heap.size w w'
/-- what Trace leaves -/
def TracePost (R : List Int × List Int × Int) (w : World) (e : Ending) (w' : World) : Prop :=
  ∃ DA dn dc, e = .returned (.tuple #[.slice DA dn dc, .int .i64 R.2.2]) ∧ OwnInts 3 w' w.heap.size DA dn dc R.2.1 ∧ Below w.heap.size w w'

theorem OwnInts.len {T : TypeId} {w : World} {base : Nat} {A : Option Addr} {n c : Nat} {zs : List Int} (h : OwnInts T w base A n c zs) : zs.length = n := h.ints.len

set_option maxRecDepth 100000 in
set_option maxHeartbeats 1000000 in
theorem Run_any (F O : Int) (A X : Option Addr) (n c xn xc : Nat) (ops : List OpV) (xs : List Nat) (w : World) (hp : OpsAt w A n c ops) (hx : Sl w X xn xc (fls xs)) (hn : n ≤ 1000000000000) :
    Calls Tryz.prog 21 #[.agg #[.int .i64 F, .int .i64 O, .slice A n c], .slice X xn xc] w (RunsPost (runV F O ops xs) w) := by
  have B1 := (Below.refl w.heap.size w).alloc (Nat.le_refl _) (.cells #[.int .i64 F, .int .i64 O, .slice A n c] 30)
  have HR := Lib.hid (run_any F O A X n c xn xc ops xs _ (hp.below B1) (hx.below B1) hn)
  generalize runV F O ops xs = R at HR ⊢
  have HB := Lib.hid B1
  clear hp hx B1
  go_enter Tryz.func21, Tryz.ntmps21
  go_wp2_with fail
  refine HR.out.mono ?_; rintro e w1 ⟨SA, sn, sc, DA, dn, dc, rfl, h1, h2, b1⟩
  have hl := h2.len
  have HB2 := Lib.hid (below_then HB.out HB.out.size b1)
  have H1 := Lib.hid (h1.mono HB.out.size)
  have HL := Lib.hid hl
  clear h1 h2 b1 hl
  go_wp2
  refine bodyPost_ret (v := .tuple #[.slice SA sn sc, .int .i64 (dn : Int), .int .i64 R.2.2]) (by simp [results, Tryz.results21, go_sem]) rfl ?_
  exact ⟨_, _, _, by rw [HL.out], H1.out, HB2.out⟩

set_option maxRecDepth 100000 in
set_option maxHeartbeats 1000000 in
theorem Trace_any (F O : Int) (A X : Option Addr) (n c xn xc : Nat) (ops : List OpV) (xs : List Nat) (w : World) (hp : OpsAt w A n c ops) (hx : Sl w X xn xc (fls xs)) (hn : n ≤ 1000000000000) :
    Calls Tryz.prog 22 #[.agg #[.int .i64 F, .int .i64 O, .slice A n c], .slice X xn xc] w (TracePost (runV F O ops xs) w) := by
  have B1 := (Below.refl w.heap.size w).alloc (Nat.le_refl _) (.cells #[.int .i64 F, .int .i64 O, .slice A n c] 30)
  have HR := Lib.hid (run_any F O A X n c xn xc ops xs _ (hp.below B1) (hx.below B1) hn)
  generalize runV F O ops xs = R at HR ⊢
  have HB := Lib.hid B1
  clear hp hx B1
  go_enter Tryz.func22, Tryz.ntmps22
  go_wp2_with fail
  refine HR.out.mono ?_; rintro e w1 ⟨SA, sn, sc, DA, dn, dc, rfl, h1, h2, b1⟩
  have HB2 := Lib.hid (below_then HB.out HB.out.size b1)
  have H1 := Lib.hid (h2.mono HB.out.size)
  clear h1 h2 b1
  go_wp2
  go_ret2
  exact ⟨_, _, _, rfl, H1.out, HB2.out⟩

end Go.Proofs.YtekcpapkicmckaaGreatDoor
