/- Go's float printing: strconv.FormatFloat of a positive number whose shortest text has one digit, the form 'e'. -/
import Derived.Test.YtgdgdifnpdcgkaaGreatDoorRyuG
import Derived.Laws.IdiomStrings
namespace Go.Proofs.YtgdgdifnpdcgkaaGreatDoor
open Go.RowKit

theorem u8s_text (W : World) (base : Nat) (G : Option Addr) (c : Nat) (l : List UInt8) (hl : 0 < l.length) (h : Mine 5 W base G l.length c (u8s (l.map UInt8.toNat))) (q : Nat) :
    (convert 86 9 (.slice G l.length c)).run Tryz.prog (W.drewN q) = .ok (.string ⟨l.toArray⟩) (W.drewN q) := by
  obtain ⟨b, o, rfl, hc⟩ := h.sl.cells hl
  refine run_convert_bytes_back (W.drewN q) _ _ 5 ⟨b, o, none⟩ c l Tryz.under_b8 Tryz.underlying5 Tryz.underlying9 (fun j hj => ?_)
  rw [add_row]
  have h1 := hc j hj
  have h2 : (u8s (l.map UInt8.toNat)).getD j undef = .int .u8 (l[j].toNat : Int) := by
    simp [u8s, List.getD, List.getElem?_eq_getElem (show j < l.length from hj)]
  rw [h2] at h1
  exact h1

set_option maxRecDepth 100000 in
set_option maxHeartbeats 4000000 in
theorem formatInner_one (b E M0 c : Nat) (ch : UInt8) (hch : ch.toNat = 48 + c) (w : World)
    (hb : b < 9223372036854775808) (hE : b / 4503599627370496 = E) (hE1 : 0 < E) (hE2 : E < 2047) (hM : b % 4503599627370496 = M0) (hc1 : 1 ≤ c) (hc2 : c ≤ 9)
    (HSF : ∀ W, Below w.heap.size w W → Calls Tryz.prog 153 #[.int .u64 ((M0 + 4503599627370496) * 2048 : Nat), .int .i64 ((E : Int) - 1086)] W fun ex W' => ex = .returned (.tuple #[.int .u64 (c * 1000000000000000 : Nat), .int .i64 (-16)]) ∧ Below W.heap.size W W')
    (HND : ∀ W, Below w.heap.size w W → Calls Tryz.prog 110 #[.int .u64 (c * 1000000000000000 : Nat)] W fun ex W' => ex = .returned (.int .i64 16) ∧ W = W') :
    Calls Tryz.prog 102 #[.float .f64 b, .int .u8 101, .int .i64 (-1), .int .i64 64] w fun ex w' =>
      ex = .returned (.string ⟨#[ch, 101, 45, 48, 49]⟩) ∧ Below w.heap.size w w' := by
  have hmake := make_row (P := Tryz.prog) 86 5 (.int .u8 0) 1 Tryz.under_b8 Tryz.info_u8 rfl (by omega) 0 24 (by omega) (by omega)
  push_cast at hmake
  have HFT := Lib.hid (fun (W : World) (hq : Below w.heap.size w W) => by
    have hal := (Below.refl W.heap.size W).alloc (Nat.le_refl _) (.cells (Array.replicate 24 (.int .u8 0)) 5)
    have hal2 := below_then hq hq.size hal
    exact ftoa64_one W.heap.size b E M0 c 24 (some ⟨W.heap.size, 0, none⟩) (W.alloc (.cells (Array.replicate 24 (.int .u8 0)) 5)) (by simp) (Mine.made 5 W W.heap.size (.int .u8 0) 0 24 (Nat.le_refl _) (by omega) (by omega))
      hb hE hE1 hE2 hM hc1 hc2 (fun W2 h2 => HSF W2 (below_then hal2 hal2.size h2)) (fun W2 h2 => HND W2 (below_then hal2 hal2.size h2)))
  have hconv := fun (W : World) (G : Option Addr) (c' : Nat) (h : Mine 5 W w.heap.size G 5 c' (u8s [48 + c, 101, 45, 48, 49])) (q : Nat) =>
    u8s_text W w.heap.size G c' [ch, 101, 45, 48, 49] (by simp) (by
      have e2 : [ch, 101, 45, 48, 49].map UInt8.toNat = [48 + c, 101, 45, 48, 49] := by rw [List.map_cons, hch]; rfl
      rw [e2]
      exact h) q
  have HCV := Lib.hid hconv
  clear HSF HND hconv hE hM
  go_enter Tryz.func102, Tryz.ntmps102
  have hmx : max (3 : Int) 24 = 24 := rfl
  go_wp2_with (first | (go_at_call 122; refine (HFT.out w (Below.refl _ _)).mono ?_; rintro ex w1 ⟨G, c', rfl, hm, hg⟩))
  have hal := (Below.refl w.heap.size w).alloc (Nat.le_refl _) (.cells (Array.replicate 24 (.int .u8 0)) 5)
  have hb1 : Below w.heap.size w w1 := below_grown hal (by simp) hg (by simp [blockOf])
  have hcv : (convert 86 9 (.slice G 5 c')).run Tryz.prog w1 = .ok (.string ⟨#[ch, 101, 45, 48, 49]⟩) w1 := HCV.out w1 G c' hm 0
  go_wp2
  rw [hcv]
  go_wp2
  go_ret
  exact ⟨rfl, hb1⟩

set_option maxRecDepth 100000 in
set_option maxHeartbeats 4000000 in
theorem FormatFloat_one (b E M0 c : Nat) (ch : UInt8) (hch : ch.toNat = 48 + c) (w : World)
    (hb : b < 9223372036854775808) (hE : b / 4503599627370496 = E) (hE1 : 0 < E) (hE2 : E < 2047) (hM : b % 4503599627370496 = M0) (hc1 : 1 ≤ c) (hc2 : c ≤ 9)
    (HSF : ∀ W, Below w.heap.size w W → Calls Tryz.prog 153 #[.int .u64 ((M0 + 4503599627370496) * 2048 : Nat), .int .i64 ((E : Int) - 1086)] W fun ex W' => ex = .returned (.tuple #[.int .u64 (c * 1000000000000000 : Nat), .int .i64 (-16)]) ∧ Below W.heap.size W W')
    (HND : ∀ W, Below w.heap.size w W → Calls Tryz.prog 110 #[.int .u64 (c * 1000000000000000 : Nat)] W fun ex W' => ex = .returned (.int .i64 16) ∧ W = W') :
    Calls Tryz.prog 71 #[.float .f64 b, .int .u8 101, .int .i64 (-1), .int .i64 64] w fun ex w' =>
      ex = .returned (.string ⟨#[ch, 101, 45, 48, 49]⟩) ∧ Below w.heap.size w w' := by
  have H := Lib.hid (formatInner_one b E M0 c ch hch w hb hE hE1 hE2 hM hc1 hc2 HSF HND)
  clear HSF HND hE hM
  go_enter Tryz.func71, Tryz.ntmps71
  go_wp2_with (first | (go_at_call 102; refine H.out.mono ?_; rintro ex w1 ⟨rfl, hb1⟩))
  go_ret
  exact ⟨rfl, hb1⟩

/-! ### numDigits of such a number, out of the table -/
theorem nDigits_tab (c : Nat) (h1 : 1 ≤ c) (h2 : c ≤ 9) : Lib.nDigits (c * 1000000000000000) = 16 :=
  Lib.nDigits_unique 15 _ (by omega) (by omega)

end Go.Proofs.YtgdgdifnpdcgkaaGreatDoor
