/- Go's float printing: fmtEFG, the form 'e'. -/
import Derived.Test.YtgdgdifnpdcgkaaGreatDoorRyuE
namespace Go.Proofs.YtgdgdifnpdcgkaaGreatDoor
open Go.RowKit

theorem Tryz.under_b8 : Tryz.prog.underlying 86 = some (.slice 5) := Tryz.underlying86
theorem Tryz.info_u8 : (Tryz.prog.info? 5).map (fun i => (i.zero, i.size, i.bytes)) = some (some (.int .u8 0), 1, 1) := by kernel_rfl

def u8s (xs : List Nat) : List Value := xs.map fun (x : Nat) => .int .u8 (x : Int)
theorem u8s_length (xs : List Nat) : (u8s xs).length = xs.length := by simp [u8s]
theorem u8s_one (xs : List Nat) : ∀ u ∈ u8s xs, u.oneCell' = true := by
  intro u hu
  simp only [u8s, List.mem_map] at hu
  obtain ⟨x, _, rfl⟩ := hu
  rfl
theorem u8s_append (xs ys : List Nat) : u8s (xs ++ ys) = u8s xs ++ u8s ys := by simp [u8s]

theorem sl_two (w : World) (a b : Value) : Sl (w.alloc (.cells #[a, b] 5)) (some ⟨w.heap.size, 0, none⟩) 2 2 [a, b] :=
  ⟨rfl, Nat.le_refl _, by omega, fun _ => ⟨w.heap.size, 0, rfl, fun j hj => by
    have hk := heap_alloc_new w (.cells #[a, b] 5)
    obtain rfl | rfl : j = 0 ∨ j = 1 := by omega
    · exact cell_of_block hk rfl
    · exact cell_of_block hk rfl⟩⟩

/-- an exponent's text -/
def expText (x : Int) : List Nat :=
  (if x < 0 then 45 else 43) :: (if x.natAbs < 10 then [48, 48 + x.natAbs] else if x.natAbs < 100 then [48 + x.natAbs / 10, 48 + x.natAbs % 10] else [48 + x.natAbs / 100, 48 + x.natAbs / 10 % 10, 48 + x.natAbs % 10])

/-- what is appended to what has been appended -/
theorem grown_then {w w1 w2 : World} {G A1 A2 : Option Addr} (h1 : w.grownBy w1 (blockOf G)) (hA : blockOf A1 = blockOf G ∨ ∃ k, blockOf A1 = some k ∧ w.heap.size ≤ k) (h2 : w1.grownBy w2 (blockOf A1)) (hB : blockOf A2 = blockOf A1 ∨ ∃ k, blockOf A2 = some k ∧ w1.heap.size ≤ k) :
    w.grownBy w2 (blockOf G) ∧ (blockOf A2 = blockOf G ∨ ∃ k, blockOf A2 = some k ∧ w.heap.size ≤ k) := by
  refine ⟨⟨by rw [h2.os, h1.os], by rw [h2.tape, h1.tape], by rw [h2.output, h1.output], Nat.le_trans h1.size h2.size, fun i hi hne => ?_⟩, ?_⟩
  · rw [h2.block i (Nat.lt_of_lt_of_le hi h1.size) (fun e => ?_), h1.block i hi hne]
    rcases hA with h | ⟨k, h, hk⟩
    · exact hne (by rw [← h]; exact e)
    · rw [h] at e
      simp only [Option.some.injEq] at e
      omega
  · rcases hB with h | ⟨k, h, hk⟩
    · rw [h]; exact hA
    · exact .inr ⟨k, h, Nat.le_trans h1.size hk⟩

set_option maxRecDepth 100000 in
set_option maxHeartbeats 1000000 in
/-- one digit, a small negative exponent -/
theorem fmtE_one (base n c blk L cS ch x : Nat) (G : Option Addr) (ys : List Nat) (dp : Int) (w : World) (hbase : base ≤ w.heap.size) (hm : Mine 5 w base G n c (u8s ys)) (hn : n ≤ 1000)
    (hc : w.cell? ⟨blk, 0, none⟩ = some (.int .u8 ch)) (hL : 1 ≤ L) (hx : dp - 1 = -(x : Int)) (hx1 : 1 ≤ x) (hx2 : x < 10) :
    Calls Tryz.prog 146 #[.slice G n c, .bool false, .slice (some ⟨blk, 0, none⟩) L cS, .int .i64 dp, .int .i64 1, .int .i64 0, .int .u8 101, .bool true] w fun e w' =>
      ∃ G' c', e = .returned (.slice G' (n + 5) c') ∧ Mine 5 w' base G' (n + 5) c' (u8s (ys ++ [ch, 101, 45, 48, 48 + x])) ∧ w.grownBy w' (blockOf G) := by
  go_enter Tryz.func146, Tryz.ntmps146
  go_wp2_with (first
    | (at_builtin; refine app_one base rfl _ _ _ _ (.int .u8 0) 1 rfl Tryz.under_b8 Tryz.info_u8 rfl (by omega) G _ _ _ (.int .u8 (ch : Int)) rfl rfl rfl hm hbase (by omega) ?_
       intro A1 c1 w1 hm1 hg1 ho1
       have hb1 := Nat.le_trans hbase hg1.size)
    | (at_builtin; refine app_one base rfl _ _ _ _ (.int .u8 0) 1 rfl Tryz.under_b8 Tryz.info_u8 rfl (by omega) A1 _ _ _ (.int .u8 101) rfl rfl rfl hm1 hb1 (by omega) ?_
       intro A2 c2 w2 hm2 hg2 ho2
       have hb2 := Nat.le_trans hb1 hg2.size
       obtain ⟨hg3, ho3⟩ := grown_then hg1 ho1 hg2 ho2)
    | (at_builtin; refine app_one base rfl _ _ _ _ (.int .u8 0) 1 rfl Tryz.under_b8 Tryz.info_u8 rfl (by omega) A2 _ _ _ (.int .u8 45) rfl rfl rfl hm2 hb2 (by omega) ?_
       intro A3 c3 w3 hm3 hg4 ho4
       have hb3 := Nat.le_trans hb2 hg4.size
       obtain ⟨hg5, ho5⟩ := grown_then hg3 ho3 hg4 ho4
       have hal := (Below.refl w3.heap.size w3).alloc (Nat.le_refl _) (.cells #[.int .u8 48, .int .u8 ((x : Int) + 48)] 5)
       have hm4 := hm3.below hal
       have hsl : Sl (w3.alloc (.cells #[.int .u8 48, .int .u8 ((x : Int) + 48)] 5)) (some ⟨w3.heap.size, 0, none⟩) 2 2 [.int .u8 48, .int .u8 ((x : Int) + 48)] := sl_two _ _ _
       have hb4 := Nat.le_trans hb3 hal.size)
    | (at_builtin; refine app_all base rfl _ _ _ _ (.int .u8 0) 1 rfl Tryz.under_b8 Tryz.info_u8 rfl (by omega) A3 _ _ _ (some ⟨w3.heap.size, 0, none⟩) 2 2 _ rfl rfl (by intro u hu; simp at hu; rcases hu with rfl | rfl <;> rfl) hm4 hsl hb4 (by omega) (fun h => by cases h) (fun h => by cases h) ?_
       intro _ A5 c5 w5 hm5 hg6 ho6))
  go_ret
  have g7 := (grown_then hg5 ho5 (grownBy_of_below hal (blockOf A3)) (.inl rfl)).1
  have g8 := (grown_then g7 ho5 hg6 (ho6.imp id (fun ⟨k, h1, h2⟩ => ⟨k, h1, h2⟩))).1
  have e : u8s ys ++ [.int .u8 (ch : Int)] ++ [.int .u8 101] ++ [.int .u8 45] ++ [.int .u8 48, .int .u8 ((x : Int) + 48)] = u8s (ys ++ [ch, 101, 45, 48, 48 + x]) := by
    simp [u8s, Int.add_comm]
  rw [e] at hm5
  exact ⟨A5, c5, rfl, hm5, g8⟩

end Go.Proofs.YtgdgdifnpdcgkaaGreatDoor
