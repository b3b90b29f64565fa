/- floats.Read: the parts of a decimal text. -/
import Derived.Test.YtbcpfdeklglknaaGreatDoorGsc
import Derived.Test.YtbcpfdeklglknaaGreatDoorScf
namespace Go.Proofs.YtbcpfdeklglknaaGreatDoor
open Go.RowKit

/-- a text's parts -/
def TextOf (w : World) (T : Nat) (d : ByteArray) (b : Nat) (pw : ByteArray) : Prop :=
  w.heap[T]? = some (.cells #[.bool false, .bool false, .bool false, .string d, .bool false, .int .i64 (b : Int), .string pw] 35 (0, 0))

theorem TextOf.kept {w w' : World} {T S : Nat} {d pw : ByteArray} {b : Nat} (h : TextOf w T d b pw) (hg : w.grownBy w' (some S)) (hne : T ≠ S) : TextOf w' T d b pw :=
  (hg.block T (lt_of_block h) (by simpa using hne)).trans h
theorem TextOf.below {w w' : World} {T : Nat} {d pw : ByteArray} {b : Nat} (h : TextOf w T d b pw) (hb : Below w.heap.size w w') : TextOf w' T d b pw := (hb.block T (lt_of_block h)).trans h
theorem TextOf.setD {w : World} {T : Nat} {d pw : ByteArray} {b : Nat} (h : TextOf w T d b pw) (d' : ByteArray) : TextOf (w.setCell ⟨T, 3, none⟩ (.string d')) T d' b pw :=
  heap_setCell_same w T 3 _ _ (.string d') h
theorem TextOf.setB {w : World} {T : Nat} {d pw : ByteArray} {b : Nat} (h : TextOf w T d b pw) (b' : Nat) : TextOf (w.setCell ⟨T, 5, none⟩ (.int .i64 (b' : Int))) T d b' pw :=
  heap_setCell_same w T 5 _ _ (.int .i64 (b' : Int)) h
theorem TextOf.setP {w : World} {T : Nat} {d pw : ByteArray} {b : Nat} (h : TextOf w T d b pw) (p' : ByteArray) : TextOf (w.setCell ⟨T, 6, none⟩ (.string p')) T d b p' :=
  heap_setCell_same w T 6 _ _ (.string p') h
theorem TextOf.setN {w : World} {T : Nat} {d pw : ByteArray} {b : Nat} (h : TextOf w T d b pw) : TextOf (w.setCell ⟨T, 0, none⟩ (.bool false)) T d b pw :=
  heap_setCell_same w T 0 _ _ (.bool false) h

/-- the text is taken apart so -/
def Fig (s d : ByteArray) (b : Nat) (pw : ByteArray) : Prop := ∀ (S T : Nat) (w : World), ScanOf s w S 0 → TextOf w T ⟨#[]⟩ 0 ⟨#[]⟩ → S < T →
    Calls Tryz.prog 61 #[.pointer (some ⟨S, 0, none⟩), .pointer (some ⟨T, 0, none⟩)] w fun e w' => e = .returned (.int .i64 (-1)) ∧ ScanOf s w' S s.size ∧ TextOf w' T d b pw ∧ Below S w w'

/-- digits in a part of a text -/
def Digs2 (s : ByteArray) (a z : Nat) : Prop := ∀ k (hk : k < s.size), a ≤ k → k < z → isDig s[k].toNat = true

theorem isDig_lt {c : Nat} (h : isDig c = true) : 48 ≤ c ∧ c ≤ 57 := by unfold isDig at h; simpa using h

theorem no_of {s t : ByteArray} {i c : Nat} (hc : chr s i = some c) (h : ∀ k (hk : k < t.size), c ≠ t[k].toNat) : ∀ k (hk : k < t.size), chr s i ≠ some t[k].toNat := by
  intro k hk e
  rw [hc] at e
  exact h k hk (by simpa using e)
theorem no_end {s t : ByteArray} : ∀ k (hk : k < t.size), chr s s.size ≠ some t[k].toNat := by
  intro k hk e
  rw [chr_end] at e
  simp at e

theorem dot_ascii : ∀ k (hk : k < (ByteArray.mk #[46]).size), (ByteArray.mk #[46])[k].toNat < 128 := by
  intro k hk
  obtain rfl : k = 0 := by have : k < 1 := hk; omega
  exact (show (46 : Nat) < 128 by decide)
theorem eE_ascii : ∀ k (hk : k < (ByteArray.mk #[101, 69]).size), (ByteArray.mk #[101, 69])[k].toNat < 128 := by
  intro k hk
  have : k < 2 := hk
  obtain rfl | rfl : k = 0 ∨ k = 1 := by omega
  · exact (show (101 : Nat) < 128 by decide)
  · exact (show (69 : Nat) < 128 by decide)
theorem minus_ascii : ∀ k (hk : k < (ByteArray.mk #[45]).size), (ByteArray.mk #[45])[k].toNat < 128 := by
  intro k hk
  obtain rfl : k = 0 := by have : k < 1 := hk; omega
  exact (show (45 : Nat) < 128 by decide)
theorem plus_ascii : ∀ k (hk : k < (ByteArray.mk #[43]).size), (ByteArray.mk #[43])[k].toNat < 128 := by
  intro k hk
  obtain rfl : k = 0 := by have : k < 1 := hk; omega
  exact (show (43 : Nat) < 128 by decide)
theorem one_ne {a c : UInt8} (h : c.toNat ≠ a.toNat) : ∀ k (hk : k < (ByteArray.mk #[a]).size), c.toNat ≠ (ByteArray.mk #[a])[k].toNat := by
  intro k hk
  obtain rfl : k = 0 := by have : k < 1 := hk; omega
  exact h

theorem chr_at {s : ByteArray} {i : Nat} (h : i < s.size) : chr s i = some s[i].toNat := by unfold chr; rw [dif_pos h]
theorem noDig_end {s : ByteArray} : NoDig s s.size := by intro c hc; rw [chr_end] at hc; simp at hc
theorem noDig_at {s : ByteArray} {i : Nat} (h : i < s.size) (hd : isDig s[i].toNat = false) : NoDig s i := by intro c hc; rw [chr_at h] at hc; simp at hc; rw [← hc]; exact hd

set_option maxRecDepth 100000 in
set_option maxHeartbeats 8000000 in
theorem fig_int (s : ByteArray) (hs : s.size ≤ 4096) (h0 : 0 < s.size) (hd0 : Digs2 s 0 s.size) : Fig s s 0 ⟨#[]⟩ := by
  intro S T w h ht hST
  have hc0 := isDig_lt (hd0 0 (by omega) (by omega) (by omega))
  have HB := Lib.hid (fun q => (byte_at s S 0 s[0].toNat (w.drewN q) (h.below ⟨rfl, rfl, rfl, Nat.le_refl _, fun _ _ => rfl⟩) hs (chr_at (by omega))))
  have hs1 := h.s
  have hi1 : w.cell? ⟨S, 1, none⟩ = some (.int .i64 0) := h.i
  have hall : (decide ((s[0].toNat : Int) = 48) = false ∧ ((s[0].toNat : Int) == 48) = false) ∨ ((decide ((s[0].toNat : Int) = 48) = true ∧ ((s[0].toNat : Int) == 48) = true) ∧ (decide ((1 : Int) < (s.size : Int)) = false ∧ ¬ (1 : Int) < (s.size : Int))) ∨
      ((decide ((s[0].toNat : Int) = 48) = true ∧ ((s[0].toNat : Int) == 48) = true) ∧ ∃ (hl : 1 < s.size), (decide ((1 : Int) < (s.size : Int)) = true ∧ (1 : Int) < (s.size : Int)) ∧ (decide ((s[1].toNat : Int) = 120) = false ∧ ((s[1].toNat : Int) == 120) = false)) := by
    by_cases a1 : s[0].toNat = 48
    · by_cases a2 : 1 < s.size
      · have a3 : s[1].toNat ≠ 120 := by have := isDig_lt (hd0 1 a2 (by omega) (by omega)); omega
        exact .inr (.inr ⟨⟨by simp; omega, by simp; omega⟩, a2, ⟨by simp; omega, by omega⟩, ⟨by simp; omega, by simp; omega⟩⟩)
      · exact .inr (.inl ⟨⟨by simp; omega, by simp; omega⟩, by simp; omega, by omega⟩)
    · exact .inl ⟨by simp; omega, by simp; omega⟩
  have HR0 := Lib.hid (fun (w1 : World) (h1 : ScanOf s w1 S 0) => run_any s S 0 s.size w1 h1 hs (by omega) (by omega) (fun k hk a b => hd0 k hk a b) noDig_end)
  simp only [show s.extract 0 s.size = s by simp] at HR0

  have hsz := Lib.hid hs
  go_enter Tryz.func61, Tryz.ntmps61
  go_wp2
  rcases hall with ⟨hz1, hz2⟩ | ⟨⟨hz1, hz2⟩, hz3, hz4⟩ | ⟨⟨hz1, hz2⟩, hz5, ⟨hz3, hz4⟩, hz6, hz7⟩
  all_goals
    go_quiet (first | (go_at_call 59; with_reducible refine Calls.quiet_of (HB.out _)))
    have hd : Below w.heap.size w (w.drewN nq) := ⟨rfl, rfl, rfl, Nat.le_refl _, fun _ _ => rfl⟩
    have h1 := h.below hd
    have t1 := ht.below hd
    have B1 : Below S w (w.drewN nq) := hd.mono (Nat.le_of_lt h.lt)
    generalize w.drewN nq = w1 at h1 t1 B1 ⊢
    clear hd HB hs1 hi1 h ht
    have k4 : w1.cell? ⟨T, 4, none⟩ = some (.bool false) := cell_of_block t1 rfl
    have HR := Lib.hid (HR0.out w1 h1)
    clear HR0
    go_wp2_with fail
    refine HR.out.mono ?_
    rintro e w2 ⟨rfl, h2, g2⟩
    have t2 := t1.kept g2 (by omega)
    have B2 : Below S w w2 := B1.trans (grown_below g2 (Nat.le_refl _) h1.lt)
    clear k4 HR t1 g2 h1 B1
    have k3 : w2.cell? ⟨T, 3, none⟩ = some (.string ⟨#[]⟩) := cell_of_block t2 rfl
    have f3 : w2.frozen? ⟨T, 3, none⟩ = false := frozen_of_block t2
    have h3 := h2.other (T := T) (k := 3) (by omega) (.string s)
    have t3 := t2.setD s
    have B3 := B2.setCell (p := ⟨T, 3, none⟩) (show S ≤ T by omega) (.string s)
    have HT := Lib.hid (takes_no s ⟨#[46]⟩ S _ _ h3 (by omega) hsz.out dot_ascii no_end)
    go_wp2_with fail
    refine HT.out.mono ?_
    rintro e w4 ⟨rfl, b4⟩
    have h4 := h3.below b4
    have t4 := t3.below b4
    have B4 := B3.trans (b4.mono (Nat.le_of_lt h3.lt))
    clear HT t3 b4 h3 B3 k3 f3 t2 h2 B2
    have k4 : w4.cell? ⟨T, 4, none⟩ = some (.bool false) := cell_of_block t4 rfl
    have HE := Lib.hid (takes_no s ⟨#[101, 69]⟩ S _ _ h4 (by omega) hsz.out eE_ascii no_end)
    go_wp2_with fail
    refine HE.out.mono ?_
    rintro e w8 ⟨rfl, hb8⟩
    have t8 := t4.below hb8
    have h8 := h4.below hb8
    have B8 := B4.trans (hb8.mono (Nat.le_of_lt h4.lt))
    have k8 : w8.cell? ⟨T, 4, none⟩ = some (.bool false) := cell_of_block t8 rfl
    go_wp2
    go_ret
    exact ⟨rfl, h8, t8, B8⟩

end Go.Proofs.YtbcpfdeklglknaaGreatDoor
