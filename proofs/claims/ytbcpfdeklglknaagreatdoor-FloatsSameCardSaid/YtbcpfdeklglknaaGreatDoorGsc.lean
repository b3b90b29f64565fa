/- floats.Read: the scanner's methods at any text. -/
import Derived.Test.YtbcpfdeklglknaaGreatDoorScr
namespace Go.Proofs.YtbcpfdeklglknaaGreatDoor
open Go.RowKit

/-- a scanner of a text, at a place -/
structure ScanOf (s : ByteArray) (w : World) (S i : Nat) : Prop where
  lt : S < w.heap.size
  s : w.cell? ⟨S, 0, none⟩ = some (.string s)
  i : w.cell? ⟨S, 1, none⟩ = some (.int .i64 (i : Int))
  f : w.frozen? ⟨S, 1, none⟩ = false

theorem ScanOf.below {s : ByteArray} {w w' : World} {S i : Nat} (h : ScanOf s w S i) (hb : Below w.heap.size w w') : ScanOf s w' S i :=
  ⟨Nat.lt_of_lt_of_le h.lt hb.size, (hb.cell h.lt).trans h.s, (hb.cell h.lt).trans h.i, frozen_below hb h.lt h.f⟩

theorem ScanOf.moved {s : ByteArray} {w : World} {S i : Nat} (h : ScanOf s w S i) (k : Nat) : ScanOf s (w.setCell ⟨S, 1, none⟩ (.int .i64 (k : Int))) S k :=
  ⟨by rw [setCell_size]; exact h.lt, (World.cell?_setCell_other _ _ _ _ (by simp)).trans h.s, World.cell?_setCell_same' _ _ _ (by rw [h.i]; rfl), by rw [World.frozen?_setCell]; exact h.f⟩

theorem ScanOf.other {s : ByteArray} {w : World} {S i T k : Nat} (h : ScanOf s w S i) (hne : S ≠ T) (v : Value) : ScanOf s (w.setCell ⟨T, k, none⟩ v) S i :=
  ⟨by rw [setCell_size]; exact h.lt, (World.cell?_setCell_other _ _ _ _ (by simp)).trans h.s, (World.cell?_setCell_other _ _ _ _ (by simp)).trans h.i, by rw [World.frozen?_setCell]; exact h.f⟩

/-- what stands at a place: none behind the end -/
def chr (s : ByteArray) (i : Nat) : Option Nat := if h : i < s.size then some s[i].toNat else none

theorem chr_end {s : ByteArray} : chr s s.size = none := by unfold chr; simp

set_option maxRecDepth 100000 in
set_option maxHeartbeats 1000000 in
/-- nothing of the set stands there -/
theorem takes_no (s t : ByteArray) (S i : Nat) (w : World) (h : ScanOf s w S i) (hi : i ≤ s.size) (_hs : s.size ≤ 4096) (ht : ∀ k (hk : k < t.size), t[k].toNat < 128) (hn : ∀ k (hk : k < t.size), chr s i ≠ some t[k].toNat) :
    Calls Tryz.prog 58 #[.pointer (some ⟨S, 0, none⟩), .string t] w fun e w' => e = .returned (.bool false) ∧ Below w.heap.size w w' := by
  have HN := Lib.hid hn
  have hnx := Lib.hid (fun (W : World) (pos : Nat) (h : pos < t.size) (ty : TypeId) => run_next_ascii (P := Tryz.prog) W t pos ty h (ht pos h))
  have hne := Lib.hid (fun (W : World) (ty : TypeId) => run_next_end (P := Tryz.prog) W t t.size ty (Nat.lt_irrefl _))
  clear hn ht
  go_enter Tryz.func58, Tryz.ntmps58
  go_wp2
  go_loopw [] (fun wr => ∃ (pos : Nat) (W0 : World), pos ≤ t.size ∧ W0.heap.size = w.heap.size ∧ Below w.heap.size w W0 ∧ wr = W0.iter t pos) (fun wr => t.size - wr.iterPos w.heap.size)
  case atStart => exact ⟨0, w, Nat.zero_le _, rfl, Below.refl _ _, rfl⟩
  case round =>
    obtain ⟨pos, W0, hp, hs0, hb0, rfl⟩ := hrel
    by_cases h0 : pos < t.size
    · have hsc := h.below (iter_below w W0 t (pos + 1) hb0)
      have hn : ∀ ty, (Instr.next (.pointer (some ⟨w.heap.size, 0, none⟩)) true ty).run Tryz.prog (W0.iter t pos) = .ok (.tuple #[.bool true, .int .i64 (pos : Int), .int .i32 (t[pos].toNat : Int)]) (W0.iter t (pos + 1)) := fun ty => by rw [← hs0]; exact hnx.out W0 pos h0 ty
      have hs1 := hsc.s
      have hi1 := hsc.i
      have HC := HN.out pos h0
      generalize t[pos].toNat = ch at hn HC
      clear hnx hne HN
      by_cases hlt : i < s.size
      · have hc : s[i].toNat ≠ ch := by unfold chr at HC; rw [dif_pos hlt] at HC; simpa using HC
        have hx1 : (0 : Int) ≤ (s[i].toNat : Int) := by omega
        have hx2 : (s[i].toNat : Int) < 256 := by have := s[i].toNat_lt; omega
        have hd : decide (((s[i].toNat : Int)) = (ch : Int)) = false := by simp; omega
        have hd2 : ((s[i].toNat : Int) == (ch : Int)) = false := by simp; omega
        have hl1 : decide ((i : Int) < (s.size : Int)) = true := by simp; omega
        have hl2 : (i : Int) < (s.size : Int) := by omega
        go_wp2
        go_quiet (fail)
        go_wp2
        go_roundw
        case rel => exact ⟨pos + 1, W0.drewN nq, by omega, hs0, hb0.trans ⟨rfl, rfl, rfl, Nat.le_refl _, fun _ _ => rfl⟩, rfl⟩
        case measure =>
          have e1 := pos_of (W0.drewN nq) t (pos + 1) w.heap.size hs0
          have e2 := pos_of W0 t pos w.heap.size hs0
          rw [e2]
          exact (show t.size - ((W0.drewN nq).iter t (pos + 1)).iterPos w.heap.size < t.size - pos by rw [e1]; omega)
      · have hl1 : decide ((i : Int) < (s.size : Int)) = false := by simp; omega
        have hl2 : ¬ (i : Int) < (s.size : Int) := by omega
        go_wp2
        go_quiet (fail)
        go_wp2
        go_roundw
        case rel => exact ⟨pos + 1, W0.drewN nq, by omega, hs0, hb0.trans ⟨rfl, rfl, rfl, Nat.le_refl _, fun _ _ => rfl⟩, rfl⟩
        case measure =>
          have e1 := pos_of (W0.drewN nq) t (pos + 1) w.heap.size hs0
          have e2 := pos_of W0 t pos w.heap.size hs0
          rw [e2]
          exact (show t.size - ((W0.drewN nq).iter t (pos + 1)).iterPos w.heap.size < t.size - pos by rw [e1]; omega)
    · obtain rfl : pos = t.size := by omega
      have hn : ∀ ty, (Instr.next (.pointer (some ⟨w.heap.size, 0, none⟩)) true ty).run Tryz.prog (W0.iter t t.size) = .ok (.tuple #[.bool false]) (W0.iter t t.size) := fun ty => by rw [← hs0]; exact hne.out W0 ty
      go_wp2
      go_ret
      exact ⟨rfl, iter_below w W0 _ _ hb0⟩

set_option maxRecDepth 100000 in
set_option maxHeartbeats 1000000 in
/-- the set's first byte stands there -/
theorem takes_yes (s t : ByteArray) (S i : Nat) (w : World) (h : ScanOf s w S i) (hs : s.size ≤ 4096) (h0 : 0 < t.size) (ht : t[0].toNat < 128) (hn : chr s i = some t[0].toNat) :
    Calls Tryz.prog 58 #[.pointer (some ⟨S, 0, none⟩), .string t] w fun e w' => e = .returned (.bool true) ∧ ScanOf s w' S (i + 1) ∧ w.grownBy w' (some S) := by
  have hlt : i < s.size := by unfold chr at hn; split at hn <;> simp_all
  have hnx := Lib.hid (fun (W : World) (ty : TypeId) => run_next_ascii (P := Tryz.prog) W t 0 ty h0 ht)
  have hc : s[i].toNat = t[0].toNat := by unfold chr at hn; rw [dif_pos hlt] at hn; simpa using hn
  generalize t[0].toNat = ch at hnx hc
  clear hn
  go_enter Tryz.func58, Tryz.ntmps58
  go_wp2
  go_loopw [] (fun wr => wr = w.iter t 0) (fun wr => 0)
  case atStart => exact rfl
  case round =>
    subst hrel
    have hb := iter_below w w t 1 (Below.refl _ _)
    have hsc := h.below hb
    have hn : ∀ ty, (Instr.next (.pointer (some ⟨w.heap.size, 0, none⟩)) true ty).run Tryz.prog (w.iter t 0) = .ok (.tuple #[.bool true, .int .i64 0, .int .i32 (ch : Int)]) (w.iter t 1) := fun ty => hnx.out w ty
    have hs1 := hsc.s
    have hi1 := hsc.i
    have hx1 : (0 : Int) ≤ (s[i].toNat : Int) := by omega
    have hx2 : (s[i].toNat : Int) < 256 := by have := s[i].toNat_lt; omega
    have hd : decide (((s[i].toNat : Int)) = (ch : Int)) = true := by simp; omega
    have hd2 : ((s[i].toNat : Int) == (ch : Int)) = true := by simp; omega
    have hl1 : decide ((i : Int) < (s.size : Int)) = true := by simp; omega
    have hl2 : (i : Int) < (s.size : Int) := by omega
    clear hnx
    go_wp2
    go_quiet (fail)
    generalize w.iter t 1 = w1 at *
    have hb2 : Below w.heap.size w (w1.drewN nq) := hb.trans ⟨rfl, rfl, rfl, Nat.le_refl _, fun _ _ => rfl⟩
    have hsc2 := h.below hb2
    generalize w1.drewN nq = w2 at *
    have hf := hsc2.f
    have hi2 := hsc2.i
    have hm := hsc2.moved (i + 1)
    have hg : w.grownBy (w2.setCell ⟨S, 1, none⟩ (.int .i64 ((i + 1 : Nat) : Int))) (some S) := (grownBy_of_below hb2 (some S)).trans (setCell_grownBy w2 S 1 _)
    have hw : IntKind.i64.wrap ((i : Int) + 1) = ((i + 1 : Nat) : Int) := by rw [← Int.natCast_succ]; exact IntWalk.i64_in _ (by omega)
    clear hsc hs1 hi1 hb
    go_wp2
    go_ret
    exact ⟨rfl, hm, hg⟩

set_option maxRecDepth 100000 in
theorem byte_at (s : ByteArray) (S i c : Nat) (w : World) (h : ScanOf s w S i) (_hs : s.size ≤ 4096) (hc : chr s i = some c) :
    Calls Tryz.prog 59 #[.pointer (some ⟨S, 0, none⟩)] w fun e w' => e = .returned (.int .u8 (c : Int)) ∧ ∃ q, w' = w.drewN q := by
  have hlt : i < s.size := by unfold chr at hc; split at hc <;> simp_all
  have hx : (s[i].toNat : Int) = (c : Int) := by unfold chr at hc; rw [dif_pos hlt] at hc; simp at hc; omega
  have hl1 : decide ((i : Int) < (s.size : Int)) = true := by simp; omega
  have hl2 : (i : Int) < (s.size : Int) := by omega
  have hs1 := h.s
  have hi1 := h.i
  go_enter Tryz.func59, Tryz.ntmps59
  go_wp2
  go_quiet (fail)
  go_wp2
  go_quiet (fail)
  go_wp2
  go_ret
  exact ⟨rfl, _, World.drewN_drewN _ _ _⟩

/-- is it a decimal digit? -/
def isDig (c : Nat) : Bool := decide (48 ≤ c ∧ c ≤ 57)

theorem digit_any (c : Nat) (w : World) (hc : c < 256) : Calls Tryz.prog 120 #[.int .u8 (c : Int), .bool false] w fun e w' => e = .returned (.bool (isDig c)) ∧ w = w' := by
  by_cases h1 : (48 : Int) ≤ (c : Int)
  · by_cases h2 : (c : Int) ≤ 57
    · rw [show isDig c = true by unfold isDig; simp; omega]
      go_enter Tryz.func120, Tryz.ntmps120
      go_wp2
      go_ret
      exact ⟨rfl, rfl⟩
    · rw [show isDig c = false by unfold isDig; simp; omega]
      go_enter Tryz.func120, Tryz.ntmps120
      go_wp2
      go_ret
      exact ⟨rfl, rfl⟩
  · rw [show isDig c = false by unfold isDig; simp; omega]
    go_enter Tryz.func120, Tryz.ntmps120
    go_wp2
    go_ret
    exact ⟨rfl, rfl⟩

theorem digit_q (c : Nat) (b : Bool) (hb : isDig c = b) (w : World) (q : Nat) (hc : c < 256) : Calls Tryz.prog 120 #[.int .u8 (c : Int), .bool false] (w.drewN q) fun e w' => e = .returned (.bool b) ∧ w' = w.drewN q :=
  (digit_any c (w.drewN q) hc).mono (by rintro e w' ⟨rfl, rfl⟩; exact ⟨by rw [hb], rfl⟩)

/-- no digit stands there -/
def NoDig (s : ByteArray) (z : Nat) : Prop := ∀ c, chr s z = some c → isDig c = false

set_option maxRecDepth 100000 in
set_option maxHeartbeats 1000000 in
/-- digits from a place to another one -/
theorem run_any (s : ByteArray) (S a z : Nat) (w : World) (h : ScanOf s w S a) (hs : s.size ≤ 4096) (haz : a < z) (hz : z ≤ s.size) (hd : ∀ k (hk : k < s.size), a ≤ k → k < z → isDig s[k].toNat = true) (he : NoDig s z) :
    Calls Tryz.prog 93 #[.pointer (some ⟨S, 0, none⟩), .bool false] w fun e w' => e = .returned (.tuple #[.string (s.extract a z), .bool true]) ∧ ScanOf s w' S z ∧ w.grownBy w' (some S) := by
  have hi0 := h.i
  have HD := Lib.hid hd
  have HE := Lib.hid he
  clear hd he
  go_enter Tryz.func93, Tryz.ntmps93
  go_wp2
  go_loopg [] (z - a) (fun k wr => k ≤ z - a ∧ ScanOf s wr S (z - k) ∧ w.grownBy wr (some S))
  case atStart => exact ⟨Nat.le_refl _, by rw [show z - (z - a) = a by omega]; exact h, Go.World.grownBy.refl _ _⟩
  case round =>
    obtain ⟨hk, hsc, hg⟩ := hrel
    by_cases hk0 : gk = 0
    · subst hk0
      replace hsc : ScanOf s wr S z := hsc
      have hs1 := hsc.s
      have hi1 := hsc.i
      by_cases hlt : z < s.size
      · have hnd : isDig s[z].toNat = false := HE.out _ (by unfold chr; rw [dif_pos hlt])
        have HG := Lib.hid (fun q => digit_q s[z].toNat false hnd wr q (by have := s[z].toNat_lt; omega))
        have hl1 : decide ((z : Int) < (s.size : Int)) = true := by simp; omega
        have hl2 : (z : Int) < (s.size : Int) := by omega
        go_wp2
        go_quiet (first | (go_at_call 120; with_reducible refine Calls.quiet_of_same (HG.out _)))
        have hsc2 := hsc.below (show Below wr.heap.size wr (wr.drewN nq) from ⟨rfl, rfl, rfl, Nat.le_refl _, fun _ _ => rfl⟩)
        have hg2 := grownBy_drewN hg nq
        generalize wr.drewN nq = w3 at *
        clear hsc hg hs1 hi1 HG
        have hs1 := hsc2.s
        have hi1 := hsc2.i
        have hc1 : decide ((a : Int) < (z : Int)) = true := by simp; omega
        have hc2 : (a : Int) < (z : Int) := by omega
        have hc3 : (a : Int) ≤ (z : Int) := by omega
        have hc4 : (z : Int) ≤ (s.size : Int) := by omega
        go_wp2
        go_quiet (fail)
        go_wp2
        refine bodyPost_ret (v := .tuple #[.string (s.extract a z), .bool true]) (by simp [results, Tryz.results93, go_sem]) rfl ⟨rfl, hsc2.below ⟨rfl, rfl, rfl, Nat.le_refl _, fun _ _ => rfl⟩, grownBy_drewN hg2 _⟩
      · have hl1 : decide ((z : Int) < (s.size : Int)) = false := by simp; omega
        have hl2 : ¬ (z : Int) < (s.size : Int) := by omega
        go_wp2
        go_quiet (fail)
        have hsc2 := hsc.below (show Below wr.heap.size wr (wr.drewN nq) from ⟨rfl, rfl, rfl, Nat.le_refl _, fun _ _ => rfl⟩)
        have hg2 := grownBy_drewN hg nq
        generalize wr.drewN nq = w3 at *
        clear hsc hg hs1 hi1
        have hs1 := hsc2.s
        have hi1 := hsc2.i
        have hc1 : decide ((a : Int) < (z : Int)) = true := by simp; omega
        have hc2 : (a : Int) < (z : Int) := by omega
        have hc3 : (a : Int) ≤ (z : Int) := by omega
        have hc4 : (z : Int) ≤ (s.size : Int) := by omega
        go_wp2
        go_quiet (fail)
        go_wp2
        refine bodyPost_ret (v := .tuple #[.string (s.extract a z), .bool true]) (by simp [results, Tryz.results93, go_sem]) rfl ⟨rfl, hsc2.below ⟨rfl, rfl, rfl, Nat.le_refl _, fun _ _ => rfl⟩, grownBy_drewN hg2 _⟩
    · obtain ⟨j, hj⟩ : ∃ j, z - gk = j := ⟨_, rfl⟩
      rw [hj] at hsc
      have hlt : j < s.size := by omega
      have hs1 := hsc.s
      have hi1 := hsc.i
      have hdg : isDig s[j].toNat = true := HD.out j hlt (by omega) (by omega)
      have HG := Lib.hid (fun q => digit_q s[j].toNat true hdg wr q (by have := s[j].toNat_lt; omega))
      have hl1 : decide ((j : Int) < (s.size : Int)) = true := by simp; omega
      have hl2 : (j : Int) < (s.size : Int) := by omega
      go_wp2
      go_quiet (first | (go_at_call 120; with_reducible refine Calls.quiet_of_same (HG.out _)))
      have hsc2 := hsc.below (show Below wr.heap.size wr (wr.drewN nq) from ⟨rfl, rfl, rfl, Nat.le_refl _, fun _ _ => rfl⟩)
      have hg2 := grownBy_drewN hg nq
      generalize wr.drewN nq = w3 at *
      clear hsc hg hs1 hi1 HG
      have hi1 := hsc2.i
      have hf := hsc2.f
      have hm := hsc2.moved (j + 1)
      have hg3 := hg2.trans (setCell_grownBy w3 S 1 (.int .i64 ((j + 1 : Nat) : Int)))
      have hw : IntKind.i64.wrap ((j : Int) + 1) = ((j + 1 : Nat) : Int) := by rw [← Int.natCast_succ]; exact IntWalk.i64_in _ (by omega)
      go_wp2
      go_roundg (gk - 1)
      case measure => omega
      case rel => exact ⟨by omega, by rw [show z - (gk - 1) = j + 1 by omega]; exact hm, hg3⟩

end Go.Proofs.YtbcpfdeklglknaaGreatDoor
