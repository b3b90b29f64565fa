/- Go's float printing: setDigits. Go's float printing: fmtEFG, the form 'e'. Go's float printing: ftoa64 of a positive number whose shortest text has one digit, the form 'e'. Go's float printing: strconv.FormatFloat of a positive number whose shortest text has one digit, the form 'e'. -/
import Derived.Test.YtbcpfdeklglknaaGreatDoorRyuD
import Derived.Test.YtbcpfdeklglknaaGreatDoorShelf
import Derived.Test.YtbcpfdeklglknaaGreatDoorMem
import Derived.Laws.IdiomStrings
namespace Go.Proofs.YtbcpfdeklglknaaGreatDoor
open Go.RowKit Go.Sort Go.Lib

/-- the place's digit, counted from the right -/
def dig (u j : Nat) : Nat := 48 + u / 10 ^ j % 10
theorem dg_toNat (u j : Nat) : (dg u j).toNat = dig u j := by
  unfold dg dig
  have : u / 10 ^ j % 10 < 10 := Nat.mod_lt _ (by omega)
  rw [UInt8.toNat_ofNat']
  omega

theorem dig_zero {v t j : Nat} (h : j < t) : dig (v * 10 ^ t) j = 48 := by
  unfold dig
  obtain ⟨k, rfl⟩ : ∃ k, t = j + 1 + k := ⟨t - (j + 1), by omega⟩
  rw [Nat.pow_add, Nat.pow_add, Nat.pow_one, Nat.mul_assoc (10 ^ j), Nat.mul_left_comm v, Nat.mul_div_cancel_left _ (Nat.pow_pos (by omega)), Nat.mul_left_comm v, Nat.mul_mod_right]
theorem dig_last {v t : Nat} : dig (v * 10 ^ t) t = 48 + v % 10 := by
  unfold dig
  rw [Nat.mul_div_cancel _ (Nat.pow_pos (by omega))]

/-- the row holds the digits -/
def Digs (w : World) (blk nd u : Nat) : Prop := ∀ j, j < nd → w.cell? ⟨blk, j, none⟩ = some (.int .u8 (dig u (nd - 1 - j) : Nat))

theorem putRow_grownBy (enc : UInt8 → Value) (w : World) (blk off : Nat) (d : Array UInt8) (n : Nat) : w.grownBy ((putRow enc w blk off d).drewN n) (some blk) :=
  ⟨rfl, rfl, rfl, by simp, fun i hi hne => by
    have e : blk ≠ i := fun e => hne (by rw [e])
    show (putRow enc w blk off d).heap[i]? = w.heap[i]?
    simp [putRow, mapBlock, Array.getElem?_modify, e]⟩

set_option maxHeartbeats 1000000 in
theorem setDigits_any (blk L c v t nd : Nat) (p : Int) (d : Array UInt8) (w : World) (hd : d.size = nd) (hH : Holds (fun (b : UInt8) => Value.int .u8 (b.toNat : Int)) w blk 0 d) (hL : nd ≤ L) (hLc : L ≤ c) (hL2 : L ≤ 1000000) (hv : v % 10 ≠ 0) (ht : t < nd) (hu : v * 10 ^ t < 10 ^ nd) (hu64 : v * 10 ^ t < 18446744073709551616) (hp1 : -100000 ≤ p) (hp2 : p ≤ 100000) :
    Calls Tryz.prog 129 #[.slice (some ⟨blk, 0, none⟩) L c, .int .u64 (v * 10 ^ t : Nat), .int .i64 p, .int .i64 nd] w fun e w' =>
      e = .returned (.tuple #[.int .i64 (nd + p), .int .i64 ((nd - t : Nat) : Int)]) ∧ Digs w' blk nd (v * 10 ^ t) ∧ w.grownBy w' (some blk) := by
  have HF := Lib.hid (Tryz.internal_strconv_formatBase10 blk 0 c (v * 10 ^ t) d w hH (by rw [hd]; exact hu) hu64 (by omega))
  rw [hd] at HF
  have HZ := Lib.hid (fun j (h : j < t) => dig_zero (v := v) h)
  have HN := Lib.hid (dig_last (v := v) (t := t))
  generalize v * 10 ^ t = u at *
  clear hu hu64
  go_enter Tryz.func129, Tryz.ntmps129
  go_wp2_with (first | (go_at_call 82; refine HF.out.mono ?_; rintro ex w1 ⟨rfl, n1, v', dk, rfl, hinv⟩))
  have hsz : dk.size = nd := hinv.size
  have hG := putRow_grownBy (fun (b : UInt8) => Value.int .u8 (b.toNat : Int)) w blk 0 dk n1
  have hD : Digs ((putRow (fun (b : UInt8) => Value.int .u8 (b.toNat : Int)) w blk 0 dk).drewN n1) blk nd u := fun j hj => by
    have h1 := cell?_putRow (fun (b : UInt8) => Value.int .u8 (b.toNat : Int)) w blk 0 d dk hH (by rw [hsz, hd]) j (by omega)
    rw [Nat.zero_add] at h1
    rw [hinv.done j (by omega) hj, dg_toNat] at h1
    exact h1
  generalize (putRow (fun (b : UInt8) => Value.int .u8 (b.toNat : Int)) w blk 0 dk).drewN n1 = w1 at *
  have HD := Lib.hid hD
  have HG := Lib.hid hG
  clear hD hG hinv hsz hH hd
  go_loop [3] (fun x => ∃ i : Nat, nd - t ≤ i ∧ i ≤ nd ∧ x = .int .i64 i) (fun x => (RowKit.intOf x).toNat)
  case atStart => exact ⟨nd, by omega, Nat.le_refl _, rfl⟩
  case round =>
    obtain ⟨i, hi1, hi2, rfl⟩ := hrel
    have hpos : (0 : Int) < (i : Int) := by omega
    have hpos2 : decide ((0 : Int) < (i : Int)) = true := decide_eq_true hpos
    have hpos3 : decide (0 < i) = true := decide_eq_true (by omega)
    have hc := HD.out (i - 1) (by omega)
    obtain ⟨k, rfl⟩ : ∃ k, i = k + 1 := ⟨i - 1, by omega⟩
    rw [Nat.add_sub_cancel] at hc
    by_cases hk : nd - 1 - k < t
    · rw [HZ.out _ hk] at hc
      go_wp2
      go_round
      case rel => exact ⟨k, by omega, by omega, by go_num⟩
      case measure => simp [RowKit.intOf]
    · have hk2 : nd - 1 - k = t := by omega
      rw [hk2, HN.out] at hc
      have hv2 : v % 10 < 10 := Nat.mod_lt _ (by omega)
      generalize v % 10 = z at *
      have hz1 : (((48 + z : Nat) : Int) == 48) = false := by simp; omega
      have HK := Lib.hid (show k + 1 = nd - t by omega)
      go_wp2
      go_ret2
      exact ⟨by rw [← HK.out]; rfl, HD.out, HG.out⟩


end Go.Proofs.YtbcpfdeklglknaaGreatDoor

namespace Go.Proofs.YtbcpfdeklglknaaGreatDoor
open Go.RowKit

theorem Tryz.under_b8 : Tryz.prog.underlying 22 = some (.slice 5) := Tryz.underlying22
theorem Tryz.info_u8 : (Tryz.prog.info? 5).map (fun i => (i.zero, i.size, i.bytes)) = some (some (.int .u8 0), 1, 1) := by kernel_rfl

def u8s (xs : List Nat) : List Value := xs.map fun (x : Nat) => .int .u8 (x : Int)
theorem u8s_length (xs : List Nat) : (u8s xs).length = xs.length := by simp [u8s]
theorem u8s_one (xs : List Nat) : ∀ u ∈ u8s xs, u.oneCell' = true := by
  intro u hu
  simp only [u8s, List.mem_map] at hu
  obtain ⟨x, _, rfl⟩ := hu
  rfl
theorem u8s_append (xs ys : List Nat) : u8s (xs ++ ys) = u8s xs ++ u8s ys := by simp [u8s]

theorem sl_two (w : World) (a b : Value) : Sl (w.alloc (.cells #[a, b] 5)) (some ⟨w.heap.size, 0, none⟩) 2 2 [a, b] :=
  ⟨rfl, Nat.le_refl _, by omega, fun _ => ⟨w.heap.size, 0, rfl, fun j hj => by
    have hk := heap_alloc_new w (.cells #[a, b] 5)
    obtain rfl | rfl : j = 0 ∨ j = 1 := by omega
    · exact cell_of_block hk rfl
    · exact cell_of_block hk rfl⟩⟩

/-- an exponent's text -/
def expText (x : Int) : List Nat :=
  (if x < 0 then 45 else 43) :: (if x.natAbs < 10 then [48, 48 + x.natAbs] else if x.natAbs < 100 then [48 + x.natAbs / 10, 48 + x.natAbs % 10] else [48 + x.natAbs / 100, 48 + x.natAbs / 10 % 10, 48 + x.natAbs % 10])

/-- what is appended to what has been appended -/
theorem grown_then {w w1 w2 : World} {G A1 A2 : Option Addr} (h1 : w.grownBy w1 (blockOf G)) (hA : blockOf A1 = blockOf G ∨ ∃ k, blockOf A1 = some k ∧ w.heap.size ≤ k) (h2 : w1.grownBy w2 (blockOf A1)) (hB : blockOf A2 = blockOf A1 ∨ ∃ k, blockOf A2 = some k ∧ w1.heap.size ≤ k) :
    w.grownBy w2 (blockOf G) ∧ (blockOf A2 = blockOf G ∨ ∃ k, blockOf A2 = some k ∧ w.heap.size ≤ k) := by
  refine ⟨⟨by rw [h2.os, h1.os], by rw [h2.tape, h1.tape], by rw [h2.output, h1.output], Nat.le_trans h1.size h2.size, fun i hi hne => ?_⟩, ?_⟩
  · rw [h2.block i (Nat.lt_of_lt_of_le hi h1.size) (fun e => ?_), h1.block i hi hne]
    rcases hA with h | ⟨k, h, hk⟩
    · exact hne (by rw [← h]; exact e)
    · rw [h] at e
      simp only [Option.some.injEq] at e
      omega
  · rcases hB with h | ⟨k, h, hk⟩
    · rw [h]; exact hA
    · exact .inr ⟨k, h, Nat.le_trans h1.size hk⟩

set_option maxRecDepth 100000 in
set_option maxHeartbeats 1000000 in
/-- one digit, a small negative exponent -/
theorem fmtE_one (base n c blk L cS ch x : Nat) (G : Option Addr) (ys : List Nat) (dp : Int) (w : World) (hbase : base ≤ w.heap.size) (hm : Mine 5 w base G n c (u8s ys)) (hn : n ≤ 1000)
    (hc : w.cell? ⟨blk, 0, none⟩ = some (.int .u8 ch)) (hL : 1 ≤ L) (hx : dp - 1 = -(x : Int)) (hx1 : 1 ≤ x) (hx2 : x < 10) :
    Calls Tryz.prog 127 #[.slice G n c, .bool false, .slice (some ⟨blk, 0, none⟩) L cS, .int .i64 dp, .int .i64 1, .int .i64 0, .int .u8 101, .bool true] w fun e w' =>
      ∃ G' c', e = .returned (.slice G' (n + 5) c') ∧ Mine 5 w' base G' (n + 5) c' (u8s (ys ++ [ch, 101, 45, 48, 48 + x])) ∧ w.grownBy w' (blockOf G) := by
  go_enter Tryz.func127, Tryz.ntmps127
  go_wp2_with (first
    | (at_builtin; refine app_one base rfl _ _ _ _ (.int .u8 0) 1 rfl Tryz.under_b8 Tryz.info_u8 rfl (by omega) G _ _ _ (.int .u8 (ch : Int)) rfl rfl rfl hm hbase (by omega) ?_
       intro A1 c1 w1 hm1 hg1 ho1
       have hb1 := Nat.le_trans hbase hg1.size)
    | (at_builtin; refine app_one base rfl _ _ _ _ (.int .u8 0) 1 rfl Tryz.under_b8 Tryz.info_u8 rfl (by omega) A1 _ _ _ (.int .u8 101) rfl rfl rfl hm1 hb1 (by omega) ?_
       intro A2 c2 w2 hm2 hg2 ho2
       have hb2 := Nat.le_trans hb1 hg2.size
       obtain ⟨hg3, ho3⟩ := grown_then hg1 ho1 hg2 ho2)
    | (at_builtin; refine app_one base rfl _ _ _ _ (.int .u8 0) 1 rfl Tryz.under_b8 Tryz.info_u8 rfl (by omega) A2 _ _ _ (.int .u8 45) rfl rfl rfl hm2 hb2 (by omega) ?_
       intro A3 c3 w3 hm3 hg4 ho4
       have hb3 := Nat.le_trans hb2 hg4.size
       obtain ⟨hg5, ho5⟩ := grown_then hg3 ho3 hg4 ho4
       have hal := (Below.refl w3.heap.size w3).alloc (Nat.le_refl _) (.cells #[.int .u8 48, .int .u8 ((x : Int) + 48)] 5)
       have hm4 := hm3.below hal
       have hsl : Sl (w3.alloc (.cells #[.int .u8 48, .int .u8 ((x : Int) + 48)] 5)) (some ⟨w3.heap.size, 0, none⟩) 2 2 [.int .u8 48, .int .u8 ((x : Int) + 48)] := sl_two _ _ _
       have hb4 := Nat.le_trans hb3 hal.size)
    | (at_builtin; refine app_all base rfl _ _ _ _ (.int .u8 0) 1 rfl Tryz.under_b8 Tryz.info_u8 rfl (by omega) A3 _ _ _ (some ⟨w3.heap.size, 0, none⟩) 2 2 _ rfl rfl (by intro u hu; simp at hu; rcases hu with rfl | rfl <;> rfl) hm4 hsl hb4 (by omega) (fun h => by cases h) (fun h => by cases h) ?_
       intro _ A5 c5 w5 hm5 hg6 ho6))
  go_ret
  have g7 := (grown_then hg5 ho5 (grownBy_of_below hal (blockOf A3)) (.inl rfl)).1
  have g8 := (grown_then g7 ho5 hg6 (ho6.imp id (fun ⟨k, h1, h2⟩ => ⟨k, h1, h2⟩))).1
  have e : u8s ys ++ [.int .u8 (ch : Int)] ++ [.int .u8 101] ++ [.int .u8 45] ++ [.int .u8 48, .int .u8 ((x : Int) + 48)] = u8s (ys ++ [ch, 101, 45, 48, 48 + x]) := by
    simp [u8s, Int.add_comm]
  rw [e] at hm5
  exact ⟨A5, c5, rfl, hm5, g8⟩

end Go.Proofs.YtbcpfdeklglknaaGreatDoor

namespace Go.Proofs.YtbcpfdeklglknaaGreatDoor
open Go.RowKit

theorem Tryz.sf64bits (b : Nat) (W : World) : (callFunc 124 #[.float .f64 b]).run Tryz.prog W = .ok (.value (.int .u64 (b : Int))) W := by kernel_rfl

theorem bitLen_zero (f : Nat) : Lib.bitLenAux f 0 = 0 := by cases f <;> simp [Lib.bitLenAux]
theorem bitLen_of : ∀ (f k : Nat) (x : Nat), 2 ^ k ≤ x → x < 2 ^ (k + 1) → x < 2 ^ f → Lib.bitLenAux f x = k + 1 := by
  intro f
  induction f with
  | zero => intro k x h1 h2 h3; have := Nat.pow_pos (n := k) (show 0 < 2 by omega); rw [Nat.pow_zero] at h3; omega
  | succ f ih =>
    intro k x h1 h2 h3
    have hx : x ≠ 0 := by have := Nat.pow_pos (n := k) (show 0 < 2 by omega); omega
    unfold Lib.bitLenAux
    rw [if_neg hx]
    cases k with
    | zero =>
      rw [Nat.pow_zero] at h1
      rw [show x / 2 = 0 by rw [Nat.pow_succ, Nat.pow_zero] at h2; omega, bitLen_zero]
    | succ k =>
      rw [Nat.pow_succ] at h1 h2 h3
      rw [ih k (x / 2) (by omega) (by omega) (by omega), Nat.add_comm]

theorem holds_zeros {W : World} {g : Nat} {t : TypeId} (hk : W.heap[g]? = some (.cells (Array.replicate 32 (.int .u8 0)) t (0, 0))) : Go.Sort.Holds (fun (b : UInt8) => Value.int .u8 (b.toNat : Int)) W g 0 (Array.replicate 16 0) := by
  intro j hj
  have hj2 : j < 16 := by simpa using hj
  refine ⟨?_, frozen_of_block hk⟩
  have e : (Array.replicate 16 (0 : UInt8))[j]! = 0 := by rw [getElem!_pos _ j hj]; simp
  rw [e, Nat.zero_add]
  refine cell_of_block hk ?_
  rw [Array.getElem?_replicate, if_pos (by omega)]; rfl

theorem orU (i : Nat) (a b : Nat) (hb : b < 2 ^ i) (hs : a * 2 ^ i + b < 18446744073709551616) :
    Go.bits .or .u64 (b : Int) ((a * 2 ^ i : Nat) : Int) = ((a * 2 ^ i + b : Nat) : Int) := by
  rw [u64_or_nat b (a * 2 ^ i) (by omega) (by omega), Nat.or_comm, nat_join i (a * 2 ^ i) b (Nat.mul_mod_left _ _) hb]

set_option maxRecDepth 100000 in
set_option maxHeartbeats 4000000 in
theorem ftoa64_one (base b E M0 c cd : Nat) (D : Option Addr) (w : World) (hbase : base ≤ w.heap.size) (hD : Mine 5 w base D 0 cd (u8s []))
    (hb : b < 9223372036854775808) (hE : b / 4503599627370496 = E) (hE1 : 0 < E) (hE2 : E < 2047) (hM : b % 4503599627370496 = M0) (hc1 : 1 ≤ c) (hc2 : c ≤ 9)
    (HSF : ∀ W, Below w.heap.size w W → Calls Tryz.prog 134 #[.int .u64 ((M0 + 4503599627370496) * 2048 : Nat), .int .i64 ((E : Int) - 1086)] W fun ex W' => ex = .returned (.tuple #[.int .u64 (c * 1000000000000000 : Nat), .int .i64 (-16)]) ∧ Below W.heap.size W W')
    (HND : ∀ W, Below w.heap.size w W → Calls Tryz.prog 81 #[.int .u64 (c * 1000000000000000 : Nat)] W fun ex W' => ex = .returned (.int .i64 16) ∧ W = W') :
    Calls Tryz.prog 101 #[.slice D 0 cd, .float .f64 b, .int .u8 101, .int .i64 (-1)] w fun ex w' =>
      ∃ G c', ex = .returned (.slice G 5 c') ∧ Mine 5 w' base G 5 c' (u8s [48 + c, 101, 45, 48, 49]) ∧ w.grownBy w' (blockOf D) := by
  have e0 := Tryz.sf64bits b
  have e1 : ((b : Int) / 9223372036854775808 != 0) = false := by have : (b : Int) / 9223372036854775808 = 0 := by omega
                                                                 simp [this]
  have e2 : (b : Int) / 4503599627370496 = (E : Int) := by omega
  have e3 := maskI 11 (by omega) E (by omega)
  rw [show ((2 : Int) ^ 11 - 1) = 2047 from rfl, show (2 : Nat) ^ 11 = 2048 from rfl, Nat.mod_eq_of_lt (by omega)] at e3
  have e4 := maskU 52 (by omega) b (by omega)
  rw [show ((2 : Int) ^ 52 - 1) = 4503599627370495 from rfl, show (2 : Nat) ^ 52 = 4503599627370496 from rfl, hM] at e4
  have hMb : M0 < 4503599627370496 := by omega
  have e5 := orU 52 1 M0 (by rw [show (2 : Nat) ^ 52 = 4503599627370496 from rfl]; exact hMb) (by rw [show (2 : Nat) ^ 52 = 4503599627370496 from rfl]; omega)
  rw [show (1 * 2 ^ 52 : Nat) = 4503599627370496 from rfl] at e5
  obtain ⟨mant, hmant⟩ : ∃ mant, M0 + 4503599627370496 = mant := ⟨_, rfl⟩
  rw [show 4503599627370496 + M0 = mant by omega] at e5
  have e6 : Go.bits .or .u64 (M0 : Int) 4503599627370496 = (mant : Int) := e5
  rw [hmant] at HSF
  have hm1 : 4503599627370496 ≤ mant := by omega
  have hm2 : mant < 9007199254740992 := by omega
  have HL : Hid (∀ W : World, Calls Tryz.prog 112 #[.int .u64 mant] W fun ex W' => ex = .returned (.int .i64 53) ∧ W = W') := Lib.hid (fun W => (Tryz.bits_Len64 mant W (by omega) (by omega)).mono (by
    rintro ex W' ⟨rfl, rfl⟩
    refine ⟨?_, rfl⟩
    rw [Int.toNat_natCast, show Lib.bitLen mant = 53 from bitLen_of 64 52 mant (by rw [show (2 : Nat) ^ 52 = 4503599627370496 from rfl]; exact hm1) (by rw [show (2 : Nat) ^ (52 + 1) = 9007199254740992 from rfl]; exact hm2) (by rw [show (2 : Nat) ^ 64 = 18446744073709551616 from rfl]; omega)]
    rfl))
  have HE : ((E : Int) == 2047) = false := by simp; omega
  have HE0 : ((E : Int) == 0) = false := by simp; omega
  have hmz : ((mant : Int) == 0) = false := by simp; omega
  obtain ⟨u, hu⟩ : ∃ u, c * 1000000000000000 = u := ⟨_, rfl⟩
  rw [hu] at HSF HND
  have hee : (E : Int) - 1086 = (E : Int) + -1023 - 11 - 52 := by omega
  have hmm : ((mant * 2048 : Nat) : Int) = (mant : Int) * 2048 := by rw [Int.natCast_mul]; rfl
  rw [hee, hmm] at HSF
  have HDL := Lib.hid (fun k h => (hD.lt k h).2)
  have HSF2 := Lib.hid HSF
  have HND2 := Lib.hid HND
  have HU := Lib.hid hu
  clear hee hmm hu
  clear HSF HND hb hE hM e5 hmant
  go_enter Tryz.func101, Tryz.ntmps101
  go_wp2_with (first
    | (go_at_call 112; refine (HL.out _).mono ?_; rintro ex w1 ⟨rfl, rfl⟩))
  go_quiet (fail)
  have hq : Below w.heap.size w (w.drewN nq) := ⟨rfl, rfl, rfl, Nat.le_refl _, fun _ _ => rfl⟩
  have hDq := hD.below hq
  have HQ := Lib.hid hq
  have hsz : (w.drewN nq).heap.size = w.heap.size := rfl
  clear hD hq e1 e2 e3
  generalize w.drewN nq = w1 at *
  go_wp2_with (first
    | (go_at_call 112; refine (HL.out _).mono ?_; rintro ex w2 ⟨rfl, rfl⟩))
  have hal := (Below.refl w1.heap.size w1).alloc (Nat.le_refl _) (.cells (Array.replicate 32 (.int .u8 0)) 163)
  have hk0 := heap_alloc_new w1 (.cells (Array.replicate 32 (.int .u8 0)) 163)
  have hlt0 : w1.heap.size < (w1.alloc (.cells (Array.replicate 32 (.int .u8 0)) 163)).heap.size := by simp
  refine (HSF2.out _ (below_then HQ.out HQ.out.size hal)).mono ?_
  rintro ex w2 ⟨rfl, hb2⟩
  have hk2 := (hb2.block w1.heap.size hlt0).trans hk0
  have hlt2 : w1.heap.size < w2.heap.size := Nat.lt_of_lt_of_le hlt0 hb2.size
  have hb3 := below_then hal hal.size hb2
  have hD2 := hDq.below hb3
  have hb4 := below_then HQ.out HQ.out.size hb3
  rw [hsz] at hk2 hlt2
  clear hb2 hk0 hlt0 hal
  have hsd := fun (W : World) (hk : W.heap[w.heap.size]? = some (.cells (Array.replicate 32 (.int .u8 0)) 163 (0, 0))) => setDigits_any w.heap.size 32 32 c 15 16 (-16) (Array.replicate 16 0) W (by simp) (holds_zeros hk) (by omega) (by omega) (by omega) (by omega) (by omega) (by omega) (by omega) (by omega) (by omega)
  have hu10 : c * 10 ^ 15 = u := by rw [← HU.out]
  rw [hu10] at hsd
  have HSD := Lib.hid hsd
  have HN2 := Lib.hid (fun W (h : Below w2.heap.size w2 W) => HND2.out W (below_then hb4 hb4.size h))
  have HB4 := Lib.hid hb4
  have HD2 := Lib.hid hD2
  have hbr : Below w2.heap.size w2 w2.drew := ⟨rfl, rfl, rfl, Nat.le_refl _, fun _ _ => rfl⟩
  clear hsd hu10 hb3 hb4 hD2 hDq
  go_wp2
  go_region_with (first
    | (go_at_call 81; refine (HN2.out _ hbr).mono ?_; rintro ex w3 ⟨rfl, rfl⟩)
    | (go_at_call 129; refine (HSD.out w2.drew hk2).mono ?_; rintro ex w4 ⟨rfl, hdg, hgr⟩))
  have hsz4 : w.heap.size ≤ w4.heap.size := Nat.le_trans HB4.out.size hgr.size
  have HGA : Hid (w.grownBy w4 (blockOf D)) := Lib.hid ⟨by rw [hgr.os]; exact HB4.out.os, by rw [hgr.tape]; exact HB4.out.tape, by rw [hgr.output]; exact HB4.out.output, hsz4, fun i hi _ =>
    (hgr.block i (Nat.lt_trans hi hlt2) (fun e => by simp only [Option.some.injEq] at e; omega)).trans (HB4.out.block i hi)⟩
  have hm4 : Mine 5 w4 base D 0 cd (u8s []) := (HD2.out.below hbr).kept hgr (by
    cases hA : blockOf D with
    | none => exact .inl rfl
    | some k =>
      refine .inr (fun e => ?_)
      simp only [Option.some.injEq] at e
      have := HDL.out k hA
      omega)
  have hc0 := hdg 0 (by omega)
  rw [show 16 - 1 - 0 = 15 from rfl, ← HU.out, show c * 1000000000000000 = c * 10 ^ 15 from rfl, dig_last, Nat.mod_eq_of_lt (by omega)] at hc0
  have HFM := Lib.hid (fmtE_one base 0 cd w.heap.size 32 32 (48 + c) 1 D [] 0 w4 (Nat.le_trans hbase hsz4) hm4 (by omega) hc0 (by omega) rfl (by omega) (by omega))
  clear hdg hgr hm4 hc0 hbr HSD HN2 HB4 HD2 hk2 hlt2
  go_wp2_with (first | (go_at_call 127; refine HFM.out.mono ?_; rintro ex w5 ⟨G5, c5, rfl, hm5, hg5⟩))
  go_ret
  exact ⟨G5, c5, rfl, hm5, (grown_then (A1 := D) (A2 := D) HGA.out (.inl rfl) hg5 (.inl rfl)).1⟩

end Go.Proofs.YtbcpfdeklglknaaGreatDoor

namespace Go.Proofs.YtbcpfdeklglknaaGreatDoor
open Go.RowKit

theorem u8s_text (W : World) (base : Nat) (G : Option Addr) (c : Nat) (l : List UInt8) (hl : 0 < l.length) (h : Mine 5 W base G l.length c (u8s (l.map UInt8.toNat))) (q : Nat) :
    (convert 22 9 (.slice G l.length c)).run Tryz.prog (W.drewN q) = .ok (.string ⟨l.toArray⟩) (W.drewN q) := by
  obtain ⟨b, o, rfl, hc⟩ := h.sl.cells hl
  refine run_convert_bytes_back (W.drewN q) _ _ 5 ⟨b, o, none⟩ c l Tryz.under_b8 Tryz.underlying5 Tryz.underlying9 (fun j hj => ?_)
  rw [add_row]
  have h1 := hc j hj
  have h2 : (u8s (l.map UInt8.toNat)).getD j undef = .int .u8 (l[j].toNat : Int) := by
    simp [u8s, List.getD, List.getElem?_eq_getElem (show j < l.length from hj)]
  rw [h2] at h1
  exact h1

set_option maxRecDepth 100000 in
set_option maxHeartbeats 4000000 in
theorem formatInner_one (b E M0 c : Nat) (ch : UInt8) (hch : ch.toNat = 48 + c) (w : World)
    (hb : b < 9223372036854775808) (hE : b / 4503599627370496 = E) (hE1 : 0 < E) (hE2 : E < 2047) (hM : b % 4503599627370496 = M0) (hc1 : 1 ≤ c) (hc2 : c ≤ 9)
    (HSF : ∀ W, Below w.heap.size w W → Calls Tryz.prog 134 #[.int .u64 ((M0 + 4503599627370496) * 2048 : Nat), .int .i64 ((E : Int) - 1086)] W fun ex W' => ex = .returned (.tuple #[.int .u64 (c * 1000000000000000 : Nat), .int .i64 (-16)]) ∧ Below W.heap.size W W')
    (HND : ∀ W, Below w.heap.size w W → Calls Tryz.prog 81 #[.int .u64 (c * 1000000000000000 : Nat)] W fun ex W' => ex = .returned (.int .i64 16) ∧ W = W') :
    Calls Tryz.prog 73 #[.float .f64 b, .int .u8 101, .int .i64 (-1), .int .i64 64] w fun ex w' =>
      ex = .returned (.string ⟨#[ch, 101, 45, 48, 49]⟩) ∧ Below w.heap.size w w' := by
  have hmake := make_row (P := Tryz.prog) 22 5 (.int .u8 0) 1 Tryz.under_b8 Tryz.info_u8 rfl (by omega) 0 24 (by omega) (by omega)
  push_cast at hmake
  have HFT := Lib.hid (fun (W : World) (hq : Below w.heap.size w W) => by
    have hal := (Below.refl W.heap.size W).alloc (Nat.le_refl _) (.cells (Array.replicate 24 (.int .u8 0)) 5)
    have hal2 := below_then hq hq.size hal
    exact ftoa64_one W.heap.size b E M0 c 24 (some ⟨W.heap.size, 0, none⟩) (W.alloc (.cells (Array.replicate 24 (.int .u8 0)) 5)) (by simp) (Mine.made 5 W W.heap.size (.int .u8 0) 0 24 (Nat.le_refl _) (by omega) (by omega))
      hb hE hE1 hE2 hM hc1 hc2 (fun W2 h2 => HSF W2 (below_then hal2 hal2.size h2)) (fun W2 h2 => HND W2 (below_then hal2 hal2.size h2)))
  have hconv := fun (W : World) (G : Option Addr) (c' : Nat) (h : Mine 5 W w.heap.size G 5 c' (u8s [48 + c, 101, 45, 48, 49])) (q : Nat) =>
    u8s_text W w.heap.size G c' [ch, 101, 45, 48, 49] (by simp) (by
      have e2 : [ch, 101, 45, 48, 49].map UInt8.toNat = [48 + c, 101, 45, 48, 49] := by rw [List.map_cons, hch]; rfl
      rw [e2]
      exact h) q
  have HCV := Lib.hid hconv
  clear HSF HND hconv hE hM
  go_enter Tryz.func73, Tryz.ntmps73
  have hmx : max (3 : Int) 24 = 24 := rfl
  go_wp2_with (first | (go_at_call 101; refine (HFT.out w (Below.refl _ _)).mono ?_; rintro ex w1 ⟨G, c', rfl, hm, hg⟩))
  have hal := (Below.refl w.heap.size w).alloc (Nat.le_refl _) (.cells (Array.replicate 24 (.int .u8 0)) 5)
  have hb1 : Below w.heap.size w w1 := below_grown hal (by simp) hg (by simp [blockOf])
  have hcv : (convert 22 9 (.slice G 5 c')).run Tryz.prog w1 = .ok (.string ⟨#[ch, 101, 45, 48, 49]⟩) w1 := HCV.out w1 G c' hm 0
  go_wp2
  rw [hcv]
  go_wp2
  go_ret
  exact ⟨rfl, hb1⟩

set_option maxRecDepth 100000 in
set_option maxHeartbeats 4000000 in
theorem FormatFloat_one (b E M0 c : Nat) (ch : UInt8) (hch : ch.toNat = 48 + c) (w : World)
    (hb : b < 9223372036854775808) (hE : b / 4503599627370496 = E) (hE1 : 0 < E) (hE2 : E < 2047) (hM : b % 4503599627370496 = M0) (hc1 : 1 ≤ c) (hc2 : c ≤ 9)
    (HSF : ∀ W, Below w.heap.size w W → Calls Tryz.prog 134 #[.int .u64 ((M0 + 4503599627370496) * 2048 : Nat), .int .i64 ((E : Int) - 1086)] W fun ex W' => ex = .returned (.tuple #[.int .u64 (c * 1000000000000000 : Nat), .int .i64 (-16)]) ∧ Below W.heap.size W W')
    (HND : ∀ W, Below w.heap.size w W → Calls Tryz.prog 81 #[.int .u64 (c * 1000000000000000 : Nat)] W fun ex W' => ex = .returned (.int .i64 16) ∧ W = W') :
    Calls Tryz.prog 38 #[.float .f64 b, .int .u8 101, .int .i64 (-1), .int .i64 64] w fun ex w' =>
      ex = .returned (.string ⟨#[ch, 101, 45, 48, 49]⟩) ∧ Below w.heap.size w w' := by
  have H := Lib.hid (formatInner_one b E M0 c ch hch w hb hE hE1 hE2 hM hc1 hc2 HSF HND)
  clear HSF HND hE hM
  go_enter Tryz.func38, Tryz.ntmps38
  go_wp2_with (first | (go_at_call 73; refine H.out.mono ?_; rintro ex w1 ⟨rfl, hb1⟩))
  go_ret
  exact ⟨rfl, hb1⟩

/-! ### numDigits of such a number, out of the table -/
theorem nDigits_tab (c : Nat) (h1 : 1 ≤ c) (h2 : c ≤ 9) : Lib.nDigits (c * 1000000000000000) = 16 :=
  Lib.nDigits_unique 15 _ (by omega) (by omega)

end Go.Proofs.YtbcpfdeklglknaaGreatDoor
