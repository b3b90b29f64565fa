/- floats.Read of "0.1": the scanner's methods at this text. -/
import Derived.Test.YtbcpfdeklglknaaGreatDoorHex
import Derived.Laws.RangeString
namespace Go.Proofs.YtbcpfdeklglknaaGreatDoor
open Go.RowKit

/-- the text -/
def tenth : ByteArray := ⟨#[48, 46, 49]⟩

/-- a scanner of the text, at a place -/
structure ScanAt (w : World) (S i : Nat) : Prop where
  lt : S < w.heap.size
  s : w.cell? ⟨S, 0, none⟩ = some (.string ⟨#[48, 46, 49]⟩)
  i : w.cell? ⟨S, 1, none⟩ = some (.int .i64 (i : Int))
  f : w.frozen? ⟨S, 1, none⟩ = false

theorem frozen_below {w w' : World} {a : Addr} (hb : Below w.heap.size w w') (hl : a.block < w.heap.size) (hf : w.frozen? a = false) : w'.frozen? a = false := by
  unfold World.frozen? at hf ⊢
  rw [hb.block _ hl]
  exact hf

theorem ScanAt.below {w w' : World} {S i : Nat} (h : ScanAt w S i) (hb : Below w.heap.size w w') : ScanAt w' S i :=
  ⟨Nat.lt_of_lt_of_le h.lt hb.size, (hb.cell h.lt).trans h.s, (hb.cell h.lt).trans h.i, frozen_below hb h.lt h.f⟩

theorem ScanAt.moved {w : World} {S i : Nat} (h : ScanAt w S i) (k : Nat) : ScanAt (w.setCell ⟨S, 1, none⟩ (.int .i64 (k : Int))) S k :=
  ⟨by rw [setCell_size]; exact h.lt, (World.cell?_setCell_other _ _ _ _ (by simp)).trans h.s, World.cell?_setCell_same' _ _ _ (by rw [h.i]; rfl), by rw [World.frozen?_setCell]; exact h.f⟩

theorem iter_below (w W0 : World) (s : ByteArray) (p : Nat) (h : Below w.heap.size w W0) : Below w.heap.size w (W0.iter s p) :=
  below_then h h.size ((Below.refl _ _).alloc (Nat.le_refl _) _)

theorem pos_of (W0 : World) (s : ByteArray) (p n : Nat) (h : W0.heap.size = n) : (W0.iter s p).iterPos n = p := by subst h; exact World.iterPos_iter W0 s p

theorem at0 : ((⟨#[48, 46, 49]⟩ : ByteArray)[0]'(by decide)).toNat = 48 := rfl
theorem at1 : ((⟨#[48, 46, 49]⟩ : ByteArray)[1]'(by decide)).toNat = 46 := rfl
theorem at2 : ((⟨#[48, 46, 49]⟩ : ByteArray)[2]'(by decide)).toNat = 49 := rfl

set_option maxRecDepth 100000 in
set_option maxHeartbeats 1000000 in
theorem takes_minus (S : Nat) (w : World) (h : ScanAt w S 0) : Calls Tryz.prog 58 #[.pointer (some ⟨S, 0, none⟩), .string ⟨#[45]⟩] w fun e w' => e = .returned (.bool false) ∧ Below w.heap.size w w' := by
  have hnx := fun (W : World) (ty : TypeId) => run_next_ascii (P := Tryz.prog) W ⟨#[45]⟩ 0 ty (by decide) (by decide)
  have hne := fun (W : World) (ty : TypeId) => run_next_end (P := Tryz.prog) W ⟨#[45]⟩ 1 ty (by decide)
  have b0 := at0
  go_enter Tryz.func58, Tryz.ntmps58
  go_wp2
  go_loopw [] (fun wr => ∃ (pos : Nat) (W0 : World), pos ≤ 1 ∧ W0.heap.size = w.heap.size ∧ Below w.heap.size w W0 ∧ wr = W0.iter ⟨#[45]⟩ pos) (fun wr => 1 - wr.iterPos w.heap.size)
  case atStart => exact ⟨0, w, by omega, rfl, Below.refl _ _, rfl⟩
  case round =>
    obtain ⟨pos, W0, hp, hs0, hb0, rfl⟩ := hrel
    by_cases h0 : pos = 0
    · subst h0
      have hsc := h.below (iter_below w W0 ⟨#[45]⟩ 1 hb0)
      have hn : ∀ ty, (Instr.next (.pointer (some ⟨w.heap.size, 0, none⟩)) true ty).run Tryz.prog (W0.iter ⟨#[45]⟩ 0) = .ok (.tuple #[.bool true, .int .i64 0, .int .i32 45]) (W0.iter ⟨#[45]⟩ 1) := fun ty => by rw [← hs0]; exact hnx W0 ty
      have hs := hsc.s
      have hi := hsc.i
      clear hnx hne
      go_wp2
      go_quiet (fail)
      go_wp2
      go_roundw
      case rel => exact ⟨1, W0.drewN nq, by omega, hs0, hb0.trans ⟨rfl, rfl, rfl, Nat.le_refl _, fun _ _ => rfl⟩, rfl⟩
      case measure =>
        have e1 := pos_of (W0.drewN nq) ⟨#[45]⟩ 1 w.heap.size hs0
        have e2 := pos_of W0 ⟨#[45]⟩ 0 w.heap.size hs0
        rw [e2]
        exact (show 1 - ((W0.drewN nq).iter ⟨#[45]⟩ 1).iterPos w.heap.size < 1 - 0 by rw [e1]; omega)
    · obtain rfl : pos = 1 := by omega
      have hn : ∀ ty, (Instr.next (.pointer (some ⟨w.heap.size, 0, none⟩)) true ty).run Tryz.prog (W0.iter ⟨#[45]⟩ 1) = .ok (.tuple #[.bool false]) (W0.iter ⟨#[45]⟩ 1) := fun ty => by rw [← hs0]; exact hne W0 ty
      go_wp2
      go_ret
      exact ⟨rfl, iter_below w W0 _ _ hb0⟩

set_option maxRecDepth 100000 in
set_option maxHeartbeats 1000000 in
theorem takes_dot (S : Nat) (w : World) (h : ScanAt w S 1) : Calls Tryz.prog 58 #[.pointer (some ⟨S, 0, none⟩), .string ⟨#[46]⟩] w fun e w' => e = .returned (.bool true) ∧ ScanAt w' S 2 ∧ w.grownBy w' (some S) := by
  have hnx := fun (W : World) (ty : TypeId) => run_next_ascii (P := Tryz.prog) W ⟨#[46]⟩ 0 ty (by decide) (by decide)
  have b0 := at1
  go_enter Tryz.func58, Tryz.ntmps58
  go_wp2
  go_loopw [] (fun wr => wr = w.iter ⟨#[46]⟩ 0) (fun wr => 0)
  case atStart => exact rfl
  case round =>
    subst hrel
    have hb := iter_below w w ⟨#[46]⟩ 1 (Below.refl _ _)
    have hsc := h.below hb
    have hn : ∀ ty, (Instr.next (.pointer (some ⟨w.heap.size, 0, none⟩)) true ty).run Tryz.prog (w.iter ⟨#[46]⟩ 0) = .ok (.tuple #[.bool true, .int .i64 0, .int .i32 46]) (w.iter ⟨#[46]⟩ 1) := fun ty => hnx w ty
    have hs := hsc.s
    have hi := hsc.i
    clear hnx
    go_wp2
    go_quiet (fail)
    generalize w.iter ⟨#[46]⟩ 1 = w1 at *
    have hb2 : Below w.heap.size w (w1.drewN nq) := hb.trans ⟨rfl, rfl, rfl, Nat.le_refl _, fun _ _ => rfl⟩
    have hsc2 := h.below hb2
    generalize w1.drewN nq = w2 at *
    have hf := hsc2.f
    have hi2 := hsc2.i
    have hm := hsc2.moved 2
    have hg : w.grownBy (w2.setCell ⟨S, 1, none⟩ (.int .i64 2)) (some S) := (grownBy_of_below hb2 (some S)).trans (setCell_grownBy w2 S 1 _)
    go_wp2
    go_ret
    exact ⟨rfl, hm, hg⟩

set_option maxRecDepth 100000 in
set_option maxHeartbeats 1000000 in
theorem takes_end (S : Nat) (w : World) (h : ScanAt w S 3) : Calls Tryz.prog 58 #[.pointer (some ⟨S, 0, none⟩), .string ⟨#[101, 69]⟩] w fun e w' => e = .returned (.bool false) ∧ Below w.heap.size w w' := by
  have hnx := fun (W : World) (ty : TypeId) => run_next_ascii (P := Tryz.prog) W ⟨#[101, 69]⟩ 0 ty (by decide) (by decide)
  have hnx1 := fun (W : World) (ty : TypeId) => run_next_ascii (P := Tryz.prog) W ⟨#[101, 69]⟩ 1 ty (by decide) (by decide)
  have hne := fun (W : World) (ty : TypeId) => run_next_end (P := Tryz.prog) W ⟨#[101, 69]⟩ 2 ty (by decide)
  go_enter Tryz.func58, Tryz.ntmps58
  go_wp2
  go_loopw [] (fun wr => ∃ (pos : Nat) (W0 : World), pos ≤ 2 ∧ W0.heap.size = w.heap.size ∧ Below w.heap.size w W0 ∧ wr = W0.iter ⟨#[101, 69]⟩ pos) (fun wr => 2 - wr.iterPos w.heap.size)
  case atStart => exact ⟨0, w, by omega, rfl, Below.refl _ _, rfl⟩
  case round =>
    obtain ⟨pos, W0, hp, hs0, hb0, rfl⟩ := hrel
    have h3 : pos = 0 ∨ pos = 1 ∨ pos = 2 := by omega
    rcases h3 with rfl | rfl | rfl
    · have hsc := h.below (iter_below w W0 ⟨#[101, 69]⟩ 1 hb0)
      have hn : ∀ ty, (Instr.next (.pointer (some ⟨w.heap.size, 0, none⟩)) true ty).run Tryz.prog (W0.iter ⟨#[101, 69]⟩ 0) = .ok (.tuple #[.bool true, .int .i64 0, .int .i32 101]) (W0.iter ⟨#[101, 69]⟩ 1) := fun ty => by rw [← hs0]; exact hnx W0 ty
      have hs := hsc.s
      have hi := hsc.i
      clear hnx hne hnx1
      go_wp2
      go_quiet (fail)
      go_wp2
      go_roundw
      case rel => exact ⟨1, W0.drewN nq, by omega, hs0, hb0.trans ⟨rfl, rfl, rfl, Nat.le_refl _, fun _ _ => rfl⟩, rfl⟩
      case measure =>
        have e1 := pos_of (W0.drewN nq) ⟨#[101, 69]⟩ 1 w.heap.size hs0
        have e2 := pos_of W0 ⟨#[101, 69]⟩ 0 w.heap.size hs0
        rw [e2]
        exact (show 2 - ((W0.drewN nq).iter ⟨#[101, 69]⟩ 1).iterPos w.heap.size < 2 - 0 by rw [e1]; omega)
    · have hsc := h.below (iter_below w W0 ⟨#[101, 69]⟩ 2 hb0)
      have hn : ∀ ty, (Instr.next (.pointer (some ⟨w.heap.size, 0, none⟩)) true ty).run Tryz.prog (W0.iter ⟨#[101, 69]⟩ 1) = .ok (.tuple #[.bool true, .int .i64 1, .int .i32 69]) (W0.iter ⟨#[101, 69]⟩ 2) := fun ty => by rw [← hs0]; exact hnx1 W0 ty
      have hs := hsc.s
      have hi := hsc.i
      clear hnx hne hnx1
      go_wp2
      go_quiet (fail)
      go_wp2
      go_roundw
      case rel => exact ⟨2, W0.drewN nq, by omega, hs0, hb0.trans ⟨rfl, rfl, rfl, Nat.le_refl _, fun _ _ => rfl⟩, rfl⟩
      case measure =>
        have e1 := pos_of (W0.drewN nq) ⟨#[101, 69]⟩ 2 w.heap.size hs0
        have e2 := pos_of W0 ⟨#[101, 69]⟩ 1 w.heap.size hs0
        rw [e2]
        exact (show 2 - ((W0.drewN nq).iter ⟨#[101, 69]⟩ 2).iterPos w.heap.size < 2 - 1 by rw [e1]; omega)
    · have hn : ∀ ty, (Instr.next (.pointer (some ⟨w.heap.size, 0, none⟩)) true ty).run Tryz.prog (W0.iter ⟨#[101, 69]⟩ 2) = .ok (.tuple #[.bool false]) (W0.iter ⟨#[101, 69]⟩ 2) := fun ty => by rw [← hs0]; exact hne W0 ty
      go_wp2
      go_ret
      exact ⟨rfl, iter_below w W0 _ _ hb0⟩

set_option maxRecDepth 100000 in
theorem byte_zero (S : Nat) (w : World) (h : ScanAt w S 0) : Calls Tryz.prog 59 #[.pointer (some ⟨S, 0, none⟩)] w fun e w' => e = .returned (.int .u8 48) ∧ ∃ q, w' = w.drewN q := by
  have b0 := at0
  have hs := h.s
  have hi := h.i
  go_enter Tryz.func59, Tryz.ntmps59
  go_wp2
  go_quiet (fail)
  go_wp2
  go_quiet (fail)
  go_wp2
  go_ret
  exact ⟨rfl, _, World.drewN_drewN _ _ _⟩

end Go.Proofs.YtbcpfdeklglknaaGreatDoor
