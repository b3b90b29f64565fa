/- Go's float printing: ftoa64 of a positive number whose shortest text has one digit, the form 'e'. -/
import Derived.Test.YtgdgdifnpdcgkaaGreatDoorRyuF
namespace Go.Proofs.YtgdgdifnpdcgkaaGreatDoor
open Go.RowKit

theorem Tryz.sf64bits (b : Nat) (W : World) : (callFunc 143 #[.float .f64 b]).run Tryz.prog W = .ok (.value (.int .u64 (b : Int))) W := by kernel_rfl

theorem bitLen_zero (f : Nat) : Lib.bitLenAux f 0 = 0 := by cases f <;> simp [Lib.bitLenAux]
theorem bitLen_of : ∀ (f k : Nat) (x : Nat), 2 ^ k ≤ x → x < 2 ^ (k + 1) → x < 2 ^ f → Lib.bitLenAux f x = k + 1 := by
  intro f
  induction f with
  | zero => intro k x h1 h2 h3; have := Nat.pow_pos (n := k) (show 0 < 2 by omega); rw [Nat.pow_zero] at h3; omega
  | succ f ih =>
    intro k x h1 h2 h3
    have hx : x ≠ 0 := by have := Nat.pow_pos (n := k) (show 0 < 2 by omega); omega
    unfold Lib.bitLenAux
    rw [if_neg hx]
    cases k with
    | zero =>
      rw [Nat.pow_zero] at h1
      rw [show x / 2 = 0 by rw [Nat.pow_succ, Nat.pow_zero] at h2; omega, bitLen_zero]
    | succ k =>
      rw [Nat.pow_succ] at h1 h2 h3
      rw [ih k (x / 2) (by omega) (by omega) (by omega), Nat.add_comm]

theorem holds_zeros {W : World} {g : Nat} {t : TypeId} (hk : W.heap[g]? = some (.cells (Array.replicate 32 (.int .u8 0)) t (0, 0))) : Go.Sort.Holds (fun (b : UInt8) => Value.int .u8 (b.toNat : Int)) W g 0 (Array.replicate 16 0) := by
  intro j hj
  have hj2 : j < 16 := by simpa using hj
  refine ⟨?_, frozen_of_block hk⟩
  have e : (Array.replicate 16 (0 : UInt8))[j]! = 0 := by rw [getElem!_pos _ j hj]; simp
  rw [e, Nat.zero_add]
  refine cell_of_block hk ?_
  rw [Array.getElem?_replicate, if_pos (by omega)]; rfl

theorem orU (i : Nat) (a b : Nat) (hb : b < 2 ^ i) (hs : a * 2 ^ i + b < 18446744073709551616) :
    Go.bits .or .u64 (b : Int) ((a * 2 ^ i : Nat) : Int) = ((a * 2 ^ i + b : Nat) : Int) := by
  rw [u64_or_nat b (a * 2 ^ i) (by omega) (by omega), Nat.or_comm, nat_join i (a * 2 ^ i) b (Nat.mul_mod_left _ _) hb]

set_option maxRecDepth 100000 in
set_option maxHeartbeats 4000000 in
theorem ftoa64_one (base b E M0 c cd : Nat) (D : Option Addr) (w : World) (hbase : base ≤ w.heap.size) (hD : Mine 5 w base D 0 cd (u8s []))
    (hb : b < 9223372036854775808) (hE : b / 4503599627370496 = E) (hE1 : 0 < E) (hE2 : E < 2047) (hM : b % 4503599627370496 = M0) (hc1 : 1 ≤ c) (hc2 : c ≤ 9)
    (HSF : ∀ W, Below w.heap.size w W → Calls Tryz.prog 153 #[.int .u64 ((M0 + 4503599627370496) * 2048 : Nat), .int .i64 ((E : Int) - 1086)] W fun ex W' => ex = .returned (.tuple #[.int .u64 (c * 1000000000000000 : Nat), .int .i64 (-16)]) ∧ Below W.heap.size W W')
    (HND : ∀ W, Below w.heap.size w W → Calls Tryz.prog 110 #[.int .u64 (c * 1000000000000000 : Nat)] W fun ex W' => ex = .returned (.int .i64 16) ∧ W = W') :
    Calls Tryz.prog 122 #[.slice D 0 cd, .float .f64 b, .int .u8 101, .int .i64 (-1)] w fun ex w' =>
      ∃ G c', ex = .returned (.slice G 5 c') ∧ Mine 5 w' base G 5 c' (u8s [48 + c, 101, 45, 48, 49]) ∧ w.grownBy w' (blockOf D) := by
  have e0 := Tryz.sf64bits b
  have e1 : ((b : Int) / 9223372036854775808 != 0) = false := by have : (b : Int) / 9223372036854775808 = 0 := by omega
                                                                 simp [this]
  have e2 : (b : Int) / 4503599627370496 = (E : Int) := by omega
  have e3 := maskI 11 (by omega) E (by omega)
  rw [show ((2 : Int) ^ 11 - 1) = 2047 from rfl, show (2 : Nat) ^ 11 = 2048 from rfl, Nat.mod_eq_of_lt (by omega)] at e3
  have e4 := maskU 52 (by omega) b (by omega)
  rw [show ((2 : Int) ^ 52 - 1) = 4503599627370495 from rfl, show (2 : Nat) ^ 52 = 4503599627370496 from rfl, hM] at e4
  have hMb : M0 < 4503599627370496 := by omega
  have e5 := orU 52 1 M0 (by rw [show (2 : Nat) ^ 52 = 4503599627370496 from rfl]; exact hMb) (by rw [show (2 : Nat) ^ 52 = 4503599627370496 from rfl]; omega)
  rw [show (1 * 2 ^ 52 : Nat) = 4503599627370496 from rfl] at e5
  obtain ⟨mant, hmant⟩ : ∃ mant, M0 + 4503599627370496 = mant := ⟨_, rfl⟩
  rw [show 4503599627370496 + M0 = mant by omega] at e5
  have e6 : Go.bits .or .u64 (M0 : Int) 4503599627370496 = (mant : Int) := e5
  rw [hmant] at HSF
  have hm1 : 4503599627370496 ≤ mant := by omega
  have hm2 : mant < 9007199254740992 := by omega
  have HL : Hid (∀ W : World, Calls Tryz.prog 133 #[.int .u64 mant] W fun ex W' => ex = .returned (.int .i64 53) ∧ W = W') := Lib.hid (fun W => (Tryz.bits_Len64 mant W (by omega) (by omega)).mono (by
    rintro ex W' ⟨rfl, rfl⟩
    refine ⟨?_, rfl⟩
    rw [Int.toNat_natCast, show Lib.bitLen mant = 53 from bitLen_of 64 52 mant (by rw [show (2 : Nat) ^ 52 = 4503599627370496 from rfl]; exact hm1) (by rw [show (2 : Nat) ^ (52 + 1) = 9007199254740992 from rfl]; exact hm2) (by rw [show (2 : Nat) ^ 64 = 18446744073709551616 from rfl]; omega)]
    rfl))
  have HE : ((E : Int) == 2047) = false := by simp; omega
  have HE0 : ((E : Int) == 0) = false := by simp; omega
  have hmz : ((mant : Int) == 0) = false := by simp; omega
  obtain ⟨u, hu⟩ : ∃ u, c * 1000000000000000 = u := ⟨_, rfl⟩
  rw [hu] at HSF HND
  have hee : (E : Int) - 1086 = (E : Int) + -1023 - 11 - 52 := by omega
  have hmm : ((mant * 2048 : Nat) : Int) = (mant : Int) * 2048 := by rw [Int.natCast_mul]; rfl
  rw [hee, hmm] at HSF
  have HDL := Lib.hid (fun k h => (hD.lt k h).2)
  have HSF2 := Lib.hid HSF
  have HND2 := Lib.hid HND
  have HU := Lib.hid hu
  clear hee hmm hu
  clear HSF HND hb hE hM e5 hmant
  go_enter Tryz.func122, Tryz.ntmps122
  go_wp2_with (first
    | (go_at_call 133; refine (HL.out _).mono ?_; rintro ex w1 ⟨rfl, rfl⟩))
  go_quiet (fail)
  have hq : Below w.heap.size w (w.drewN nq) := ⟨rfl, rfl, rfl, Nat.le_refl _, fun _ _ => rfl⟩
  have hDq := hD.below hq
  have HQ := Lib.hid hq
  have hsz : (w.drewN nq).heap.size = w.heap.size := rfl
  clear hD hq e1 e2 e3
  generalize w.drewN nq = w1 at *
  go_wp2_with (first
    | (go_at_call 133; refine (HL.out _).mono ?_; rintro ex w2 ⟨rfl, rfl⟩))
  have hal := (Below.refl w1.heap.size w1).alloc (Nat.le_refl _) (.cells (Array.replicate 32 (.int .u8 0)) 181)
  have hk0 := heap_alloc_new w1 (.cells (Array.replicate 32 (.int .u8 0)) 181)
  have hlt0 : w1.heap.size < (w1.alloc (.cells (Array.replicate 32 (.int .u8 0)) 181)).heap.size := by simp
  refine (HSF2.out _ (below_then HQ.out HQ.out.size hal)).mono ?_
  rintro ex w2 ⟨rfl, hb2⟩
  have hk2 := (hb2.block w1.heap.size hlt0).trans hk0
  have hlt2 : w1.heap.size < w2.heap.size := Nat.lt_of_lt_of_le hlt0 hb2.size
  have hb3 := below_then hal hal.size hb2
  have hD2 := hDq.below hb3
  have hb4 := below_then HQ.out HQ.out.size hb3
  rw [hsz] at hk2 hlt2
  clear hb2 hk0 hlt0 hal
  have hsd := fun (W : World) (hk : W.heap[w.heap.size]? = some (.cells (Array.replicate 32 (.int .u8 0)) 181 (0, 0))) => setDigits_any w.heap.size 32 32 c 15 16 (-16) (Array.replicate 16 0) W (by simp) (holds_zeros hk) (by omega) (by omega) (by omega) (by omega) (by omega) (by omega) (by omega) (by omega) (by omega)
  have hu10 : c * 10 ^ 15 = u := by rw [← HU.out]
  rw [hu10] at hsd
  have HSD := Lib.hid hsd
  have HN2 := Lib.hid (fun W (h : Below w2.heap.size w2 W) => HND2.out W (below_then hb4 hb4.size h))
  have HB4 := Lib.hid hb4
  have HD2 := Lib.hid hD2
  have hbr : Below w2.heap.size w2 w2.drew := ⟨rfl, rfl, rfl, Nat.le_refl _, fun _ _ => rfl⟩
  clear hsd hu10 hb3 hb4 hD2 hDq
  go_wp2
  go_region_with (first
    | (go_at_call 110; refine (HN2.out _ hbr).mono ?_; rintro ex w3 ⟨rfl, rfl⟩)
    | (go_at_call 148; refine (HSD.out w2.drew hk2).mono ?_; rintro ex w4 ⟨rfl, hdg, hgr⟩))
  have hsz4 : w.heap.size ≤ w4.heap.size := Nat.le_trans HB4.out.size hgr.size
  have HGA : Hid (w.grownBy w4 (blockOf D)) := Lib.hid ⟨by rw [hgr.os]; exact HB4.out.os, by rw [hgr.tape]; exact HB4.out.tape, by rw [hgr.output]; exact HB4.out.output, hsz4, fun i hi _ =>
    (hgr.block i (Nat.lt_trans hi hlt2) (fun e => by simp only [Option.some.injEq] at e; omega)).trans (HB4.out.block i hi)⟩
  have hm4 : Mine 5 w4 base D 0 cd (u8s []) := (HD2.out.below hbr).kept hgr (by
    cases hA : blockOf D with
    | none => exact .inl rfl
    | some k =>
      refine .inr (fun e => ?_)
      simp only [Option.some.injEq] at e
      have := HDL.out k hA
      omega)
  have hc0 := hdg 0 (by omega)
  rw [show 16 - 1 - 0 = 15 from rfl, ← HU.out, show c * 1000000000000000 = c * 10 ^ 15 from rfl, dig_last, Nat.mod_eq_of_lt (by omega)] at hc0
  have HFM := Lib.hid (fmtE_one base 0 cd w.heap.size 32 32 (48 + c) 1 D [] 0 w4 (Nat.le_trans hbase hsz4) hm4 (by omega) hc0 (by omega) rfl (by omega) (by omega))
  clear hdg hgr hm4 hc0 hbr HSD HN2 HB4 HD2 hk2 hlt2
  go_wp2_with (first | (go_at_call 146; refine HFM.out.mono ?_; rintro ex w5 ⟨G5, c5, rfl, hm5, hg5⟩))
  go_ret
  exact ⟨G5, c5, rfl, hm5, (grown_then (A1 := D) (A2 := D) HGA.out (.inl rfl) hg5 (.inl rfl)).1⟩

end Go.Proofs.YtgdgdifnpdcgkaaGreatDoor
