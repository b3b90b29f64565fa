/- floats.Read: the parts of a decimal text, with a point. -/
import Derived.Test.YtbcpfdeklglknaaGreatDoorGfi
namespace Go.Proofs.YtbcpfdeklglknaaGreatDoor
open Go.RowKit

set_option maxRecDepth 100000 in
set_option maxHeartbeats 8000000 in
theorem fig_dot (s : ByteArray) (D E : ByteArray) (i1 : Nat) (hD : s.extract 0 i1 = D) (hE : s.extract (i1 + 1) s.size = E) (hDs : (D.size : Int) ≤ 8388608) (hEs : (E.size : Int) ≤ 8388608) (hs : s.size ≤ 4096) (h0 : 0 < i1) (h1 : i1 + 1 < s.size) (hd0 : Digs2 s 0 i1) (hdot : s[i1].toNat = 46) (hd2 : Digs2 s (i1 + 1) s.size) : Fig s (D ++ E) E.size ⟨#[]⟩ := by
  intro S T w h ht hST
  have hc0 := isDig_lt (hd0 0 (by omega) (by omega) (by omega))
  have HB := Lib.hid (fun q => (byte_at s S 0 s[0].toNat (w.drewN q) (h.below ⟨rfl, rfl, rfl, Nat.le_refl _, fun _ _ => rfl⟩) hs (chr_at (by omega))))
  have hs1 := h.s
  have hi1 : w.cell? ⟨S, 1, none⟩ = some (.int .i64 0) := h.i
  have hall : (decide ((s[0].toNat : Int) = 48) = false ∧ ((s[0].toNat : Int) == 48) = false) ∨ ((decide ((s[0].toNat : Int) = 48) = true ∧ ((s[0].toNat : Int) == 48) = true) ∧ (decide ((1 : Int) < (s.size : Int)) = false ∧ ¬ (1 : Int) < (s.size : Int))) ∨
      ((decide ((s[0].toNat : Int) = 48) = true ∧ ((s[0].toNat : Int) == 48) = true) ∧ ∃ (hl : 1 < s.size), (decide ((1 : Int) < (s.size : Int)) = true ∧ (1 : Int) < (s.size : Int)) ∧ (decide ((s[1].toNat : Int) = 120) = false ∧ ((s[1].toNat : Int) == 120) = false)) := by
    by_cases a1 : s[0].toNat = 48
    · by_cases a2 : 1 < s.size
      · have a3 : s[1].toNat ≠ 120 := by
          by_cases e : i1 = 1
          · subst e; omega
          · have := isDig_lt (hd0 1 a2 (by omega) (by omega)); omega
        exact .inr (.inr ⟨⟨by simp; omega, by simp; omega⟩, a2, ⟨by simp; omega, by omega⟩, ⟨by simp; omega, by simp; omega⟩⟩)
      · exact .inr (.inl ⟨⟨by simp; omega, by simp; omega⟩, by simp; omega, by omega⟩)
    · exact .inl ⟨by simp; omega, by simp; omega⟩
  have HR0 := Lib.hid (fun (w1 : World) (h1 : ScanOf s w1 S 0) => run_any s S 0 i1 w1 h1 hs (by omega) (by omega) (fun k hk a b => hd0 k hk a b) (noDig_at (by omega) (by rw [hdot]; rfl)))
  simp only [hD] at HR0

  have HR2 := Lib.hid (fun w1 h1 => run_any s S (i1 + 1) s.size w1 h1 hs (by omega) (Nat.le_refl _) (fun k hk a b => hd2 k hk a b) noDig_end)
  simp only [hE] at HR2
  have hdt := Lib.hid hdot
  clear hdot
  have hsz := Lib.hid hs
  go_enter Tryz.func61, Tryz.ntmps61
  go_wp2
  rcases hall with ⟨hz1, hz2⟩ | ⟨⟨hz1, hz2⟩, hz3, hz4⟩ | ⟨⟨hz1, hz2⟩, hz5, ⟨hz3, hz4⟩, hz6, hz7⟩
  rotate_left
  · exfalso; omega
  all_goals
    go_quiet (first | (go_at_call 59; with_reducible refine Calls.quiet_of (HB.out _)))
    have hd : Below w.heap.size w (w.drewN nq) := ⟨rfl, rfl, rfl, Nat.le_refl _, fun _ _ => rfl⟩
    have h1 := h.below hd
    have t1 := ht.below hd
    have B1 : Below S w (w.drewN nq) := hd.mono (Nat.le_of_lt h.lt)
    generalize w.drewN nq = w1 at h1 t1 B1 ⊢
    clear hd HB hs1 hi1 h ht
    have k4 : w1.cell? ⟨T, 4, none⟩ = some (.bool false) := cell_of_block t1 rfl
    have HR := Lib.hid (HR0.out w1 h1)
    clear HR0
    go_wp2_with fail
    refine HR.out.mono ?_
    rintro e w2 ⟨rfl, h2, g2⟩
    have t2 := t1.kept g2 (by omega)
    have B2 : Below S w w2 := B1.trans (grown_below g2 (Nat.le_refl _) h1.lt)
    clear k4 HR t1 g2 h1 B1
    have k3 : w2.cell? ⟨T, 3, none⟩ = some (.string ⟨#[]⟩) := cell_of_block t2 rfl
    have f3 : w2.frozen? ⟨T, 3, none⟩ = false := frozen_of_block t2
    have h3 := h2.other (T := T) (k := 3) (by omega) (.string D)
    have t3 := t2.setD D
    have B3 := B2.setCell (p := ⟨T, 3, none⟩) (show S ≤ T by omega) (.string D)
    have HT := Lib.hid (takes_yes s ⟨#[46]⟩ S i1 _ h3 hsz.out (by decide) (by decide) (by rw [chr_at (by omega), hdt.out]; rfl))
    go_wp2_with fail
    refine HT.out.mono ?_
    rintro e w4 ⟨rfl, h4, g4⟩
    have t4 := t3.kept g4 (by omega)
    have B4 : Below S w w4 := B3.trans (grown_below g4 (Nat.le_refl _) h3.lt)
    clear HT t3 g4 h3 B3 k3 f3 t2 h2 B2
    have k4 : w4.cell? ⟨T, 4, none⟩ = some (.bool false) := cell_of_block t4 rfl
    have HR := Lib.hid (HR2.out w4 h4)
    go_wp2_with fail
    refine HR.out.mono ?_
    rintro e w5 ⟨rfl, h5, g5⟩
    have t5 := t4.kept g5 (by omega)
    have B5 : Below S w w5 := B4.trans (grown_below g5 (Nat.le_refl _) h4.lt)
    clear k4 HR t4 g5 h4 B4
    have k3 : w5.cell? ⟨T, 3, none⟩ = some (.string D) := cell_of_block t5 rfl
    have f3 : w5.frozen? ⟨T, 3, none⟩ = false := frozen_of_block t5
    have h6 := h5.other (T := T) (k := 3) (by omega) (.string (D ++ E))
    have t6 := t5.setD (D ++ E)
    have B6 := B5.setCell (p := ⟨T, 3, none⟩) (show S ≤ T by omega) (.string (D ++ E))
    have k5 : (w5.setCell ⟨T, 3, none⟩ (.string (D ++ E))).cell? ⟨T, 5, none⟩ = some (.int .i64 0) := cell_of_block t6 rfl
    have f5 : (w5.setCell ⟨T, 3, none⟩ (.string (D ++ E))).frozen? ⟨T, 5, none⟩ = false := frozen_of_block t6
    have h7 := h6.other (T := T) (k := 5) (by omega) (.int .i64 (E.size : Int))
    have t7 := t6.setB E.size
    have B7 := B6.setCell (p := ⟨T, 5, none⟩) (show S ≤ T by omega) (.int .i64 (E.size : Int))
    have k7 : ((w5.setCell ⟨T, 3, none⟩ (.string (D ++ E))).setCell ⟨T, 5, none⟩ (.int .i64 (E.size : Int))).cell? ⟨T, 4, none⟩ = some (.bool false) := cell_of_block t7 rfl
    clear h6 t6 B6 t5 B5 h5
    have HE := Lib.hid (takes_no s ⟨#[101, 69]⟩ S _ _ h7 (by omega) hsz.out eE_ascii no_end)
    go_wp2_with fail
    refine HE.out.mono ?_
    rintro e w8 ⟨rfl, hb8⟩
    have t8 := t7.below hb8
    have h8 := h7.below hb8
    have B8 := B7.trans (hb8.mono (Nat.le_of_lt h7.lt))
    have k8 : w8.cell? ⟨T, 4, none⟩ = some (.bool false) := cell_of_block t8 rfl
    go_wp2
    go_ret
    exact ⟨rfl, h8, t8, B8⟩

end Go.Proofs.YtbcpfdeklglknaaGreatDoor
