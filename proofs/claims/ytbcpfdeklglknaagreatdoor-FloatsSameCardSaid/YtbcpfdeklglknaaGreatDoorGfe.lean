/- floats.Read: the parts of a decimal text, with a power. -/
import Derived.Test.YtbcpfdeklglknaaGreatDoorGfi
namespace Go.Proofs.YtbcpfdeklglknaaGreatDoor
open Go.RowKit

set_option maxRecDepth 100000 in
set_option maxHeartbeats 8000000 in
theorem fig_minus (s : ByteArray) (D E : ByteArray) (i1 : Nat) (hD : s.extract 0 i1 = D) (hE : s.extract (i1 + 2) s.size = E) (_hDs : (D.size : Int) ≤ 8388608) (hEs : (E.size : Int) ≤ 8388608) (hs : s.size ≤ 4096) (h0 : 0 < i1) (h1 : i1 + 2 < s.size) (hd0 : Digs2 s 0 i1) (hdot : s[i1].toNat = 101) (hmin : s[i1 + 1].toNat = 45) (hd2 : Digs2 s (i1 + 2) s.size) : Fig s D 0 (⟨#[45]⟩ ++ E) := by
  intro S T w h ht hST
  have hc0 := isDig_lt (hd0 0 (by omega) (by omega) (by omega))
  have HB := Lib.hid (fun q => (byte_at s S 0 s[0].toNat (w.drewN q) (h.below ⟨rfl, rfl, rfl, Nat.le_refl _, fun _ _ => rfl⟩) hs (chr_at (by omega))))
  have hs1 := h.s
  have hi1 : w.cell? ⟨S, 1, none⟩ = some (.int .i64 0) := h.i
  have hall : (decide ((s[0].toNat : Int) = 48) = false ∧ ((s[0].toNat : Int) == 48) = false) ∨ ((decide ((s[0].toNat : Int) = 48) = true ∧ ((s[0].toNat : Int) == 48) = true) ∧ (decide ((1 : Int) < (s.size : Int)) = false ∧ ¬ (1 : Int) < (s.size : Int))) ∨
      ((decide ((s[0].toNat : Int) = 48) = true ∧ ((s[0].toNat : Int) == 48) = true) ∧ ∃ (hl : 1 < s.size), (decide ((1 : Int) < (s.size : Int)) = true ∧ (1 : Int) < (s.size : Int)) ∧ (decide ((s[1].toNat : Int) = 120) = false ∧ ((s[1].toNat : Int) == 120) = false)) := by
    by_cases a1 : s[0].toNat = 48
    · by_cases a2 : 1 < s.size
      · have a3 : s[1].toNat ≠ 120 := by
          by_cases e : i1 = 1
          · subst e; omega
          · have := isDig_lt (hd0 1 a2 (by omega) (by omega)); omega
        exact .inr (.inr ⟨⟨by simp; omega, by simp; omega⟩, a2, ⟨by simp; omega, by omega⟩, ⟨by simp; omega, by simp; omega⟩⟩)
      · exact .inr (.inl ⟨⟨by simp; omega, by simp; omega⟩, by simp; omega, by omega⟩)
    · exact .inl ⟨by simp; omega, by simp; omega⟩
  have HR0 := Lib.hid (fun (w1 : World) (h1 : ScanOf s w1 S 0) => run_any s S 0 i1 w1 h1 hs (by omega) (by omega) (fun k hk a b => hd0 k hk a b) (noDig_at (by omega) (by rw [hdot]; rfl)))
  simp only [hD] at HR0

  have HR2 := Lib.hid (fun w1 h1 => run_any s S (i1 + 2) s.size w1 h1 hs (by omega) (Nat.le_refl _) (fun k hk a b => hd2 k hk a b) noDig_end)
  simp only [hE] at HR2
  have hdt := Lib.hid hdot
  clear hdot
  have hmn := Lib.hid hmin
  clear hmin
  have hsz := Lib.hid hs
  go_enter Tryz.func61, Tryz.ntmps61
  go_wp2
  rcases hall with ⟨hz1, hz2⟩ | ⟨⟨hz1, hz2⟩, hz3, hz4⟩ | ⟨⟨hz1, hz2⟩, hz5, ⟨hz3, hz4⟩, hz6, hz7⟩
  rotate_left
  · exfalso; omega
  all_goals
    go_quiet (first | (go_at_call 59; with_reducible refine Calls.quiet_of (HB.out _)))
    have hd : Below w.heap.size w (w.drewN nq) := ⟨rfl, rfl, rfl, Nat.le_refl _, fun _ _ => rfl⟩
    have h1 := h.below hd
    have t1 := ht.below hd
    have B1 : Below S w (w.drewN nq) := hd.mono (Nat.le_of_lt h.lt)
    generalize w.drewN nq = w1 at h1 t1 B1 ⊢
    clear hd HB hs1 hi1 h ht
    have k4 : w1.cell? ⟨T, 4, none⟩ = some (.bool false) := cell_of_block t1 rfl
    have HR := Lib.hid (HR0.out w1 h1)
    clear HR0
    go_wp2_with fail
    refine HR.out.mono ?_
    rintro e w2 ⟨rfl, h2, g2⟩
    have t2 := t1.kept g2 (by omega)
    have B2 : Below S w w2 := B1.trans (grown_below g2 (Nat.le_refl _) h1.lt)
    clear k4 HR t1 g2 h1 B1
    have k3 : w2.cell? ⟨T, 3, none⟩ = some (.string ⟨#[]⟩) := cell_of_block t2 rfl
    have f3 : w2.frozen? ⟨T, 3, none⟩ = false := frozen_of_block t2
    have h3 := h2.other (T := T) (k := 3) (by omega) (.string D)
    have t3 := t2.setD D
    have B3 := B2.setCell (p := ⟨T, 3, none⟩) (show S ≤ T by omega) (.string D)
    have HT := Lib.hid (takes_no s ⟨#[46]⟩ S _ _ h3 (by omega) hsz.out dot_ascii (no_of (chr_at (by omega)) (one_ne (c := s[i1]) (a := 46) (by rw [hdt.out]; decide))))
    go_wp2_with fail
    refine HT.out.mono ?_
    rintro e w4 ⟨rfl, b4⟩
    have h4 := h3.below b4
    have t4 := t3.below b4
    have B4 := B3.trans (b4.mono (Nat.le_of_lt h3.lt))
    clear HT t3 b4 h3 B3 k3 f3 t2 h2 B2
    have k4 : w4.cell? ⟨T, 4, none⟩ = some (.bool false) := cell_of_block t4 rfl
    have HE := Lib.hid (takes_yes s ⟨#[101, 69]⟩ S i1 _ h4 hsz.out (by decide) (by decide) (by rw [chr_at (by omega), hdt.out]; rfl))
    go_wp2_with fail
    refine HE.out.mono ?_
    rintro e w5 ⟨rfl, h5, g5⟩
    have t5 := t4.kept g5 (by omega)
    have B5 : Below S w w5 := B4.trans (grown_below g5 (Nat.le_refl _) h4.lt)
    clear HE t4 g5 h4 B4 k4
    have HM := Lib.hid (takes_yes s ⟨#[45]⟩ S (i1 + 1) _ h5 hsz.out (by decide) (by decide) (by rw [chr_at (by omega), hmn.out]; rfl))
    go_wp2_with fail
    refine HM.out.mono ?_
    rintro e w6 ⟨rfl, h6, g6⟩
    have t6 := t5.kept g6 (by omega)
    have B6 : Below S w w6 := B5.trans (grown_below g6 (Nat.le_refl _) h5.lt)
    clear HM t5 g6 h5 B5
    have HR := Lib.hid (HR2.out w6 h6)
    go_wp2_with fail
    refine HR.out.mono ?_
    rintro e w7 ⟨rfl, h7, g7⟩
    have t7 := t6.kept g7 (by omega)
    have B7 : Below S w w7 := B6.trans (grown_below g7 (Nat.le_refl _) h6.lt)
    clear HR t6 g7 h6 B6
    have k6 : w7.cell? ⟨T, 6, none⟩ = some (.string ⟨#[]⟩) := cell_of_block t7 rfl
    have f6 : w7.frozen? ⟨T, 6, none⟩ = false := frozen_of_block t7
    have h8 := h7.other (T := T) (k := 6) (by omega) (.string (⟨#[45]⟩ ++ E))
    have t8 := t7.setP (⟨#[45]⟩ ++ E)
    have B8 := B7.setCell (p := ⟨T, 6, none⟩) (show S ≤ T by omega) (.string (⟨#[45]⟩ ++ E))
    go_wp2
    go_ret
    exact ⟨rfl, h8, t8, B8⟩

set_option maxRecDepth 100000 in
set_option maxHeartbeats 8000000 in
theorem fig_plus (s : ByteArray) (D E : ByteArray) (i1 : Nat) (hD : s.extract 0 i1 = D) (hE : s.extract (i1 + 1) s.size = E) (_hDs : (D.size : Int) ≤ 8388608) (hEs : (E.size : Int) ≤ 8388608) (hs : s.size ≤ 4096) (h0 : 0 < i1) (h1 : i1 + 1 < s.size) (hd0 : Digs2 s 0 i1) (hdot : s[i1].toNat = 101) (hd2 : Digs2 s (i1 + 1) s.size) : Fig s D 0 E := by
  intro S T w h ht hST
  have hc0 := isDig_lt (hd0 0 (by omega) (by omega) (by omega))
  have HB := Lib.hid (fun q => (byte_at s S 0 s[0].toNat (w.drewN q) (h.below ⟨rfl, rfl, rfl, Nat.le_refl _, fun _ _ => rfl⟩) hs (chr_at (by omega))))
  have hs1 := h.s
  have hi1 : w.cell? ⟨S, 1, none⟩ = some (.int .i64 0) := h.i
  have hall : (decide ((s[0].toNat : Int) = 48) = false ∧ ((s[0].toNat : Int) == 48) = false) ∨ ((decide ((s[0].toNat : Int) = 48) = true ∧ ((s[0].toNat : Int) == 48) = true) ∧ (decide ((1 : Int) < (s.size : Int)) = false ∧ ¬ (1 : Int) < (s.size : Int))) ∨
      ((decide ((s[0].toNat : Int) = 48) = true ∧ ((s[0].toNat : Int) == 48) = true) ∧ ∃ (hl : 1 < s.size), (decide ((1 : Int) < (s.size : Int)) = true ∧ (1 : Int) < (s.size : Int)) ∧ (decide ((s[1].toNat : Int) = 120) = false ∧ ((s[1].toNat : Int) == 120) = false)) := by
    by_cases a1 : s[0].toNat = 48
    · by_cases a2 : 1 < s.size
      · have a3 : s[1].toNat ≠ 120 := by
          by_cases e : i1 = 1
          · subst e; omega
          · have := isDig_lt (hd0 1 a2 (by omega) (by omega)); omega
        exact .inr (.inr ⟨⟨by simp; omega, by simp; omega⟩, a2, ⟨by simp; omega, by omega⟩, ⟨by simp; omega, by simp; omega⟩⟩)
      · exact .inr (.inl ⟨⟨by simp; omega, by simp; omega⟩, by simp; omega, by omega⟩)
    · exact .inl ⟨by simp; omega, by simp; omega⟩
  have HR0 := Lib.hid (fun (w1 : World) (h1 : ScanOf s w1 S 0) => run_any s S 0 i1 w1 h1 hs (by omega) (by omega) (fun k hk a b => hd0 k hk a b) (noDig_at (by omega) (by rw [hdot]; rfl)))
  simp only [hD] at HR0

  have HR2 := Lib.hid (fun w1 h1 => run_any s S (i1 + 1) s.size w1 h1 hs (by omega) (Nat.le_refl _) (fun k hk a b => hd2 k hk a b) noDig_end)
  simp only [hE] at HR2
  have hdt := Lib.hid hdot
  clear hdot
  have hmn := Lib.hid (isDig_lt (hd2 (i1 + 1) (by omega) (by omega) (by omega)))
  have hsz := Lib.hid hs
  go_enter Tryz.func61, Tryz.ntmps61
  go_wp2
  rcases hall with ⟨hz1, hz2⟩ | ⟨⟨hz1, hz2⟩, hz3, hz4⟩ | ⟨⟨hz1, hz2⟩, hz5, ⟨hz3, hz4⟩, hz6, hz7⟩
  rotate_left
  · exfalso; omega
  all_goals
    go_quiet (first | (go_at_call 59; with_reducible refine Calls.quiet_of (HB.out _)))
    have hd : Below w.heap.size w (w.drewN nq) := ⟨rfl, rfl, rfl, Nat.le_refl _, fun _ _ => rfl⟩
    have h1 := h.below hd
    have t1 := ht.below hd
    have B1 : Below S w (w.drewN nq) := hd.mono (Nat.le_of_lt h.lt)
    generalize w.drewN nq = w1 at h1 t1 B1 ⊢
    clear hd HB hs1 hi1 h ht
    have k4 : w1.cell? ⟨T, 4, none⟩ = some (.bool false) := cell_of_block t1 rfl
    have HR := Lib.hid (HR0.out w1 h1)
    clear HR0
    go_wp2_with fail
    refine HR.out.mono ?_
    rintro e w2 ⟨rfl, h2, g2⟩
    have t2 := t1.kept g2 (by omega)
    have B2 : Below S w w2 := B1.trans (grown_below g2 (Nat.le_refl _) h1.lt)
    clear k4 HR t1 g2 h1 B1
    have k3 : w2.cell? ⟨T, 3, none⟩ = some (.string ⟨#[]⟩) := cell_of_block t2 rfl
    have f3 : w2.frozen? ⟨T, 3, none⟩ = false := frozen_of_block t2
    have h3 := h2.other (T := T) (k := 3) (by omega) (.string D)
    have t3 := t2.setD D
    have B3 := B2.setCell (p := ⟨T, 3, none⟩) (show S ≤ T by omega) (.string D)
    have HT := Lib.hid (takes_no s ⟨#[46]⟩ S _ _ h3 (by omega) hsz.out dot_ascii (no_of (chr_at (by omega)) (one_ne (c := s[i1]) (a := 46) (by rw [hdt.out]; decide))))
    go_wp2_with fail
    refine HT.out.mono ?_
    rintro e w4 ⟨rfl, b4⟩
    have h4 := h3.below b4
    have t4 := t3.below b4
    have B4 := B3.trans (b4.mono (Nat.le_of_lt h3.lt))
    clear HT t3 b4 h3 B3 k3 f3 t2 h2 B2
    have k4 : w4.cell? ⟨T, 4, none⟩ = some (.bool false) := cell_of_block t4 rfl
    have HE := Lib.hid (takes_yes s ⟨#[101, 69]⟩ S i1 _ h4 hsz.out (by decide) (by decide) (by rw [chr_at (by omega), hdt.out]; rfl))
    go_wp2_with fail
    refine HE.out.mono ?_
    rintro e w5 ⟨rfl, h5, g5⟩
    have t5 := t4.kept g5 (by omega)
    have B5 : Below S w w5 := B4.trans (grown_below g5 (Nat.le_refl _) h4.lt)
    clear HE t4 g5 h4 B4 k4
    have HM := Lib.hid (takes_no s ⟨#[45]⟩ S (i1 + 1) _ h5 (by omega) hsz.out minus_ascii (no_of (chr_at (by omega)) (one_ne (c := s[i1 + 1]) (a := 45) (by have := hmn.out; show _ ≠ 45; omega))))
    go_wp2_with fail
    refine HM.out.mono ?_
    rintro e w55 ⟨rfl, b55⟩
    have h55 := h5.below b55
    have t55 := t5.below b55
    have B55 := B5.trans (b55.mono (Nat.le_of_lt h5.lt))
    have HP := Lib.hid (takes_no s ⟨#[43]⟩ S (i1 + 1) _ h55 (by omega) hsz.out plus_ascii (no_of (chr_at (by omega)) (one_ne (c := s[i1 + 1]) (a := 43) (by have := hmn.out; show _ ≠ 43; omega))))
    clear HM h5 t5 B5 b55
    go_wp2_with fail
    refine HP.out.mono ?_
    rintro e w6 ⟨rfl, b6⟩
    have h6 := h55.below b6
    have t6 := t55.below b6
    have B6 := B55.trans (b6.mono (Nat.le_of_lt h55.lt))
    clear HP h55 t55 B55 b6
    have HR := Lib.hid (HR2.out w6 h6)
    go_wp2_with fail
    refine HR.out.mono ?_
    rintro e w7 ⟨rfl, h7, g7⟩
    have t7 := t6.kept g7 (by omega)
    have B7 : Below S w w7 := B6.trans (grown_below g7 (Nat.le_refl _) h6.lt)
    clear HR t6 g7 h6 B6
    have k6 : w7.cell? ⟨T, 6, none⟩ = some (.string ⟨#[]⟩) := cell_of_block t7 rfl
    have f6 : w7.frozen? ⟨T, 6, none⟩ = false := frozen_of_block t7
    have h8 := h7.other (T := T) (k := 6) (by omega) (.string E)
    have t8 := t7.setP E
    have B8 := B7.setCell (p := ⟨T, 6, none⟩) (show S ≤ T by omega) (.string E)
    go_wp2
    go_ret
    exact ⟨rfl, h8, t8, B8⟩

end Go.Proofs.YtbcpfdeklglknaaGreatDoor
