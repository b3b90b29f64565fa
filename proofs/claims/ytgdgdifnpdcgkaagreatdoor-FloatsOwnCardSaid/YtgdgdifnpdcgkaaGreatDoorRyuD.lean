/- Go's float printing: shortFloat of a power of two. -/
import Derived.Test.YtgdgdifnpdcgkaaGreatDoorRyuC
namespace Go.Proofs.YtgdgdifnpdcgkaaGreatDoor
open Go.RowKit

theorem skewed_any (x : Int) (w : World) (h1 : -100000 ≤ x) (h2 : x ≤ 100000) : Calls Tryz.prog 164 #[.int .i64 x] w fun e w' => e = .returned (.int .i64 ((x * 631305 - 261663) / 2097152)) ∧ w = w' := by
  go_enter Tryz.func164, Tryz.ntmps164
  go_wp2
  go_ret
  exact ⟨rfl, rfl⟩

set_option maxRecDepth 100000 in
set_option maxHeartbeats 2000000 in
theorem short_skew (m : Nat) (e p lp : Int) (k s H L U1 U2 U3 V1 V2 odd d : Nat) (r : Int) (w : World)
    (hm2 : m = 9223372036854775808) (he1 : -1085 < e) (he2 : e ≤ 2000)
    (hp : -(((e + 11) * 631305 - 261663) / 2097152) = p) (hlp : p * 108853 / 32768 = lp) (hk : p + 348 = k) (hk2 : k < 696) (hT : PowAt w k H L) (hs : -(e + lp + 3) = s) (hs2 : s < 64) (hH : H < 18446744073709551616) (hL : L < 18446744073709551616)
    (hodd : m / 2048 % 2 = odd) (h1 : uscaleN (m - 512) H L s = U1) (h2 : uscaleN (m + 1024) H L s = U2) (h3 : uscaleN m H L s = U3)
    (hU1 : U1 < 9223372036854775808) (hU2 : U2 < 9223372036854775808) (hU2' : 1 ≤ U2) (hU3 : U3 < 9223372036854775808)
    (hV1 : (U1 + odd + 3) / 4 = V1) (hV2 : (U2 - odd) / 4 = V2)
    (hd : (V1 ≤ V2 / 10 * 10 ∧ d = V2 / 10 ∧ r = -(p - 1)) ∨ (V2 / 10 * 10 < V1 ∧ V1 < V2 ∧ d = (U3 + 1 + U3 / 4 % 2) / 4 ∧ r = -p) ∨ (V2 / 10 * 10 < V1 ∧ V2 ≤ V1 ∧ d = V1 ∧ r = -p)) :
    Calls Tryz.prog 153 #[.int .u64 m, .int .i64 e] w fun ex w' => ex = .returned (.tuple #[.int .u64 d, .int .i64 r]) ∧ Below w.heap.size w w' := by
  have hw := (Below.refl w.heap.size w).alloc (Nat.le_refl _) (.cells #[.int .u64 0, .int .u64 0, .int .i64 0] 206)
  have hne : ((m : Int) == 9223372036854775808) = true := by simp; omega
  have g1 : (m : Int) / 2048 = ((m / 2048 : Nat) : Int) := by rw [Int.natCast_ediv]; rfl
  have g2 := maskI 1 (by omega) (m / 2048) (by omega)
  rw [show ((2 : Int) ^ 1 - 1) = 1 from rfl, Nat.pow_one, hodd] at g2
  have g3 : m / 2048 < 9007199254740992 := by omega
  generalize m / 2048 = mq at *
  have hee : decide (-1085 < e) = true := decide_eq_true he1
  have hmb : m ≤ 9223372036854775808 := by omega
  have hmc : 9223372036854775808 ≤ m := by omega
  clear hm2
  have HD := Lib.hid hd
  have HT := Lib.hid hT
  have HS := Lib.hid hs
  have HK := Lib.hid hk
  have H1 := Lib.hid h1
  have H2 := Lib.hid h2
  have H3 := Lib.hid h3
  have HV1 := Lib.hid hV1
  have HV2 := Lib.hid hV2
  have hpb : -1000 ≤ p ∧ p ≤ 1000 := by omega
  obtain ⟨hpb1, hpb2⟩ := hpb
  have hlb : -100000 ≤ lp ∧ lp ≤ 100000 := by omega
  obtain ⟨hlb1, hlb2⟩ := hlb
  have HODD := Lib.hid hodd
  have hob : odd ≤ 1 := by omega
  clear hd hT hs hk h1 h2 h3 hV1 hV2 hodd
  go_enter Tryz.func153, Tryz.ntmps153
  go_wp2_with (first
    | (go_at_call 164; refine (skewed_any _ _ (by omega) (by omega)).mono ?_; rintro ex w1 ⟨rfl, rfl⟩)
    | (go_at_call 166; refine (log2_any _ _ (by omega) (by omega)).mono ?_; rintro ex w1 ⟨rfl, rfl⟩))
  have hk0 := heap_alloc_new w (.cells #[.int .u64 0, .int .u64 0, .int .i64 0] 206)
  refine (prescale_any w.heap.size e p lp k H L _ HK.out hk2 (HT.out.below hw) (by omega) (by omega) (by omega) (by omega) ⟨_, cell_of_block hk0 rfl⟩ ⟨_, cell_of_block hk0 rfl⟩ ⟨_, cell_of_block hk0 rfl⟩ (fun j => frozen_of_block hk0)).mono ?_
  rintro ex w1 ⟨rfl, hw1⟩
  have hw2 : w1 = w.alloc (.cells #[.int .u64 H, .int .u64 L, .int .i64 s] 206) := by
    rw [hw1, HS.out, World.setCell_alloc_at _ _ _ _ _ rfl, World.setCell_alloc_at _ _ _ _ _ rfl, World.setCell_alloc_at _ _ _ _ _ rfl]
    rfl
  subst hw2
  have hk := heap_alloc_new w (.cells #[.int .u64 H, .int .u64 L, .int .i64 s] 206)
  have hB := (Below.refl w.heap.size w).alloc (Nat.le_refl _) (.cells #[.int .u64 H, .int .u64 L, .int .i64 s] 206)
  generalize w.alloc (.cells #[.int .u64 H, .int .u64 L, .int .i64 s] 206) = w2 at *
  have HU1 := Lib.hid (uscale_at (m - 512) ((m : Int) - 512) H L s w.heap.size U1 w2 (by omega) (by omega) hH hL hs2 H1.out hk)
  have HU2 := Lib.hid (fun q => uscale_at (m + 1024) ((m : Int) + 1024) H L s w.heap.size U2 (w2.drewN q) (by omega) (by omega) hH hL hs2 H2.out hk)
  have HU3 := Lib.hid (fun q => uscale_at m (m : Int) H L s w.heap.size U3 (w2.drewN q) rfl (by omega) hH hL hs2 H3.out hk)
  have HB := Lib.hid (fun q => (show Below w.heap.size w (w2.drewN q) from hB.trans ⟨rfl, rfl, rfl, Nat.le_refl _, fun _ _ => rfl⟩))
  obtain ⟨N1, hN1⟩ : ∃ N1, U1 + odd = N1 := ⟨_, rfl⟩
  obtain ⟨N2, hN2⟩ : ∃ N2, U2 - odd = N2 := ⟨_, rfl⟩
  have hV1 := HV1.out
  have hV2 := HV2.out
  rw [hN1] at hV1
  rw [hN2] at hV2
  have hn1 : N1 < 18446744073709551613 := by omega
  have hn2 : N2 < 18446744073709551616 := by omega
  have K1 := Lib.hid (fun W => nudge_any U1 odd N1 W (by omega) (by omega))
  have K2 := Lib.hid (fun W => nudge_any U2 (-(odd : Int)) N2 W (by omega) (by omega))
  have C1 := Lib.hid (fun W => ceil_any N1 W hn1)
  have C2 := Lib.hid (fun W => floor_any N2 W hn2)
  have C3 := Lib.hid (fun W => round_any U3 W (by omega))
  rw [hV1] at C1
  rw [hV2] at C2
  have hv1 : V1 < 9223372036854775808 := by omega
  have hv2 : V2 < 9223372036854775808 := by omega
  obtain ⟨D, hD⟩ : ∃ D, V2 / 10 = D := ⟨_, rfl⟩
  obtain ⟨R3, hR3⟩ : ∃ R3, (U3 + 1 + U3 / 4 % 2) / 4 = R3 := ⟨_, rfl⟩
  rw [hR3] at C3
  have hd := HD.out
  rw [hD, hR3] at hd
  have hD2 : (V2 : Int) / 10 = (D : Int) := by rw [← hD, Int.natCast_ediv]; rfl
  have hdb : D ≤ 922337203685477580 := by omega
  clear hk hw hw1 hB H1 H2 H3 HV1 HV2 HD hV1 hV2 hN1 hN2 hD hR3 hmb hmc hH hL hU1 hU2 hU2' hU3 hn1 hn2 g1 g2 g3 hne hee hk0 hp hlp
  rcases hd with ⟨t1, rfl, rfl⟩ | ⟨t1, t2, rfl, rfl⟩ | ⟨t1, t2, rfl, rfl⟩
  · have u1 := decide_eq_true t1
    have u2 : decide ((V1 : Int) ≤ (d : Int) * 10) = true := decide_eq_true (by omega)
    have u3 : (V1 : Int) ≤ (d : Int) * 10 := by omega
    go_wp2_with (first
      | (go_at_call 167; first | (with_reducible refine HU1.out.mono ?_; rintro ex w3 ⟨rfl, q1, rfl⟩) | (with_reducible refine (HU2.out _).mono ?_; rintro ex w3 ⟨rfl, q1, rfl⟩) | (with_reducible refine (HU3.out _).mono ?_; rintro ex w3 ⟨rfl, q1, rfl⟩))
      | (go_at_call 168; first | (with_reducible refine (K1.out _).mono ?_; rintro ex w3 ⟨rfl, rfl⟩) | (with_reducible refine (K2.out _).mono ?_; rintro ex w3 ⟨rfl, rfl⟩))
      | (go_at_call 169; refine (C1.out _).mono ?_; rintro ex w3 ⟨rfl, rfl⟩)
      | (go_at_call 170; refine (C2.out _).mono ?_; rintro ex w3 ⟨rfl, rfl⟩)
      | (go_at_call 171; refine (C3.out _).mono ?_; rintro ex w3 ⟨rfl, rfl⟩))
    go_ret2
    exact ⟨rfl, HB.out _⟩
  · have t1' : ¬ V1 ≤ D * 10 := by omega
    have u1 := decide_eq_false t1'
    have u2 : decide ((V1 : Int) ≤ (D : Int) * 10) = false := decide_eq_false (by omega)
    have u3 : ¬ (V1 : Int) ≤ (D : Int) * 10 := by omega
    have v1 := decide_eq_true t2
    have v2 : decide ((V1 : Int) < V2) = true := decide_eq_true (by omega)
    have v3 : (V1 : Int) < V2 := by omega
    go_wp2_with (first
      | (go_at_call 167; first | (with_reducible refine HU1.out.mono ?_; rintro ex w3 ⟨rfl, q1, rfl⟩) | (with_reducible refine (HU2.out _).mono ?_; rintro ex w3 ⟨rfl, q1, rfl⟩) | (with_reducible refine (HU3.out _).mono ?_; rintro ex w3 ⟨rfl, q1, rfl⟩))
      | (go_at_call 168; first | (with_reducible refine (K1.out _).mono ?_; rintro ex w3 ⟨rfl, rfl⟩) | (with_reducible refine (K2.out _).mono ?_; rintro ex w3 ⟨rfl, rfl⟩))
      | (go_at_call 169; refine (C1.out _).mono ?_; rintro ex w3 ⟨rfl, rfl⟩)
      | (go_at_call 170; refine (C2.out _).mono ?_; rintro ex w3 ⟨rfl, rfl⟩)
      | (go_at_call 171; refine (C3.out _).mono ?_; rintro ex w3 ⟨rfl, rfl⟩))
    go_ret2
    exact ⟨rfl, HB.out _⟩
  · have t1' : ¬ d ≤ D * 10 := by omega
    have u1 := decide_eq_false t1'
    have u2 : decide ((d : Int) ≤ (D : Int) * 10) = false := decide_eq_false (by omega)
    have u3 : ¬ (d : Int) ≤ (D : Int) * 10 := by omega
    have t2' : ¬ d < V2 := by omega
    have v1 := decide_eq_false t2'
    have v2 : decide ((d : Int) < V2) = false := decide_eq_false (by omega)
    have v3 : ¬ (d : Int) < V2 := by omega
    go_wp2_with (first
      | (go_at_call 167; first | (with_reducible refine HU1.out.mono ?_; rintro ex w3 ⟨rfl, q1, rfl⟩) | (with_reducible refine (HU2.out _).mono ?_; rintro ex w3 ⟨rfl, q1, rfl⟩) | (with_reducible refine (HU3.out _).mono ?_; rintro ex w3 ⟨rfl, q1, rfl⟩))
      | (go_at_call 168; first | (with_reducible refine (K1.out _).mono ?_; rintro ex w3 ⟨rfl, rfl⟩) | (with_reducible refine (K2.out _).mono ?_; rintro ex w3 ⟨rfl, rfl⟩))
      | (go_at_call 169; refine (C1.out _).mono ?_; rintro ex w3 ⟨rfl, rfl⟩)
      | (go_at_call 170; refine (C2.out _).mono ?_; rintro ex w3 ⟨rfl, rfl⟩)
      | (go_at_call 171; refine (C3.out _).mono ?_; rintro ex w3 ⟨rfl, rfl⟩))
    go_ret2
    exact ⟨rfl, HB.out _⟩

end Go.Proofs.YtgdgdifnpdcgkaaGreatDoor
