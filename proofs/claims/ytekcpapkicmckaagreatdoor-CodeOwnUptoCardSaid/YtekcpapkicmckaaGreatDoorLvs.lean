/- Small contracts of code.Print: show, side; fixed.Print of small whole numbers. code.Print of the document's example, tidied. The document's example in plain Lean: its program, what that says, the program tidied. The contract of thicketlaw19.sample: the document's example. thicketlaw19.lives: the document's example. -/
import Derived.Test.YtekcpapkicmckaaGreatDoorPrint
import Derived.Test.YtekcpapkicmckaaGreatDoorShp
import Derived.Test.YtekcpapkicmckaaGreatDoorCck
import Derived.Test.YtekcpapkicmckaaGreatDoorCpt
import Derived.Test.YtekcpapkicmckaaGreatDoorPlc
import Derived.Deep.RegionHeld3
import Derived.Test.YtekcpapkicmckaaGreatDoorOpn
import Derived.Test.YtekcpapkicmckaaGreatDoorTdc
import Derived.Test.YtekcpapkicmckaaGreatDoorRnn
namespace Go.Proofs.YtekcpapkicmckaaGreatDoor
open Go.RowKit

theorem limbs_short {x : Nat} (hx : x < 18446744073709551616) : (limbs x).length ≤ 2 := limbs_length_le (by rw [show (4294967296 : Nat) ^ 2 = 18446744073709551616 from rfl]; exact hx)

set_option maxRecDepth 100000 in
set_option maxHeartbeats 1000000 in
theorem show_any (n : Nat) (bs : ByteArray) (hb : (⟨(Lib.decDigits n).toArray⟩ : ByteArray) = bs) (w : World) (hn : n ≤ 9223372036854775807) :
    Calls Tryz.prog 55 #[.int .i64 (n : Int)] w fun e w' => e = .returned (.string bs) ∧ Below w.heap.size w w' := by
  have HF := Lib.hid (From_any n w (by omega))
  have hs := limbs_short (x := n) (by omega)
  have HV := Lib.hid (val_limbs n)
  have HB := Lib.hid hb
  have h1 : (n : Int) < 18446744073709551616 := by omega
  have h2 : (0 : Int) ≤ (n : Int) := by omega
  obtain ⟨L, hL⟩ : ∃ L, limbs n = L := ⟨_, rfl⟩
  rw [hL] at HF HV hs
  clear hb hL
  go_enter Tryz.func55, Tryz.ntmps55
  go_wp2_with fail
  refine HF.out.mono ?_; rintro e w1 ⟨A, rfl, ho, b1⟩
  have HP := Lib.hid (Print_any A _ _ _ w1 ho.num (by omega))
  rw [HV.out, HB.out] at HP
  have HB1 := Lib.hid b1
  clear ho b1 HF
  go_wp2_with fail
  refine HP.out.mono ?_; rintro e w2 ⟨rfl, b2⟩
  have HB2 := Lib.hid (below_then HB1.out HB1.out.size b2)
  clear b2
  go_wp2
  go_ret
  exact ⟨rfl, HB2.out⟩

def sideText (m : Nat) : ByteArray := if m = 1 then ⟨#[108, 101, 102, 116]⟩ else ⟨#[114, 105, 103, 104, 116]⟩
set_option maxRecDepth 100000 in
theorem side_any (m : Nat) (w : World) : Calls Tryz.prog 56 #[.int .u8 (m : Int)] w fun e w' => e = .returned (.string (sideText m)) ∧ w' = w := by
  by_cases h : m = 1
  · subst h
    go_enter Tryz.func56, Tryz.ntmps56
    go_wp2
    go_ret
    exact ⟨rfl, rfl⟩
  · have h1 : ((m : Int) == 1) = false := by simp; omega
    have h2 : decide ((m : Int) = 1) = false := by simp; omega
    have HS := Lib.hid (show sideText m = ⟨#[114, 105, 103, 104, 116]⟩ by unfold sideText; rw [if_neg h])
    clear h
    go_enter Tryz.func56, Tryz.ntmps56
    go_wp2
    go_ret
    exact ⟨congrArg (fun x => Ending.returned (Value.string x)) HS.out.symm, rfl⟩

set_option maxRecDepth 100000 in
theorem FormatUint_small (i : Nat) (hi : i < 100) (w : World) : Calls Tryz.prog 84 #[.int .u64 (i : Int), .int .i64 10] w fun e w' => e = .returned (.string ⟨(Lib.decDigits i).toArray⟩) ∧ w' = w := by
  have HS := Lib.hid (Tryz.internal_strconv_small i hi w)
  have h1 : (i : Int) < 100 := by omega
  have h2 : decide ((i : Int) < 100) = true := by simpa using h1
  have h3 : decide (i < 100) = true := by simpa using hi
  go_enter Tryz.func84, Tryz.ntmps84
  go_wp2_with fail
  go_in
  go_wp2_with fail
  refine HS.out.mono ?_; rintro e w1 ⟨rfl, rfl⟩
  go_wp2
  go_ret
  exact ⟨rfl, rfl⟩

set_option maxRecDepth 100000 in
theorem amount_pos (v : Nat) (hv : v ≤ 9223372036854775807) (w : World) : Calls Tryz.prog 83 #[.int .i64 (v : Int)] w fun e w' => e = .returned (.int .u64 (v : Int)) ∧ w' = w := by
  have h1 : (0 : Int) ≤ (v : Int) := by omega
  have h2 : (v : Int) < 18446744073709551616 := by omega
  have h3 : decide ((v : Int) < 0) = false := by simp
  go_enter Tryz.func83, Tryz.ntmps83
  go_wp2
  go_ret
  exact ⟨rfl, rfl⟩

set_option maxRecDepth 100000 in
theorem fixPrint_whole (v q : Nat) (bs : ByteArray) (h : v = q * 1000000) (hq : q < 100) (hb : (⟨(Lib.decDigits q).toArray⟩ : ByteArray) = bs) (w : World) :
    Calls Tryz.prog 58 #[.int .i64 (v : Int)] w fun e w' => e = .returned (.string bs) ∧ w' = w := by
  have HA := Lib.hid (amount_pos v (by omega) w)
  have HF := Lib.hid (FormatUint_small q hq w)
  rw [hb] at HF
  have e1 : (v : Int) / 1000000 = (q : Int) := by omega
  have e2 : (v : Int) % 1000000 = 0 := by omega
  have h1 : (0 : Int) ≤ (v : Int) := by omega
  have h3 : decide ((v : Int) < 0) = false := by simp
  clear h hb
  go_enter Tryz.func58, Tryz.ntmps58
  go_wp2_with fail
  refine HA.out.mono ?_; rintro e w1 ⟨rfl, rfl⟩
  go_wp2_with fail
  refine HF.out.mono ?_; rintro e w1 ⟨rfl, rfl⟩
  go_wp2
  go_ret
  exact ⟨rfl, rfl⟩

/-! ### at numbers written out -/
theorem show_lit (z : Int) (n : Nat) (bs : ByteArray) (hz : z = (n : Int)) (hb : (⟨(Lib.decDigits n).toArray⟩ : ByteArray) = bs) (w : World) (hn : n ≤ 9223372036854775807) :
    Calls Tryz.prog 55 #[.int .i64 z] w fun e w' => e = .returned (.string bs) ∧ Below w.heap.size w w' := hz ▸ show_any n bs hb w hn
theorem side_lit (z : Int) (m : Nat) (hz : z = (m : Int)) (bs : ByteArray) (hb : sideText m = bs) (w : World) : Calls Tryz.prog 56 #[.int .u8 z] w fun e w' => e = .returned (.string bs) ∧ w' = w := hz ▸ hb ▸ side_any m w
theorem fixPrint_lit (z : Int) (v q : Nat) (bs : ByteArray) (hz : z = (v : Int)) (h : v = q * 1000000) (hq : q < 100) (hb : (⟨(Lib.decDigits q).toArray⟩ : ByteArray) = bs) (w : World) :
    Calls Tryz.prog 58 #[.int .i64 z] w fun e w' => e = .returned (.string bs) ∧ w' = w := hz ▸ fixPrint_whole v q bs h hq hb w

end Go.Proofs.YtekcpapkicmckaaGreatDoor

namespace Go.Proofs.YtekcpapkicmckaaGreatDoor
open Go.RowKit

/-- the document's example, tidied -/
def sampleTidy : List OpV := [addOp 0 2000000, ⟨1, 0, 4602678819172646912, [], 1, 0, 0, 3⟩, addOp 0 1000000, endOp]
/-- its lines, its text -/
def sampleLines : List Value := [.string ⟨#[99, 111, 100, 101, 32, 49, 32, 49]⟩, .string ⟨#[97, 100, 100, 32, 48, 32, 50]⟩, .string ⟨#[116, 101, 115, 116, 32, 48, 32, 60, 61, 32, 48, 46, 53, 32, 109, 105, 115, 115, 105, 110, 103, 32, 108, 101, 102, 116, 32, 101, 108, 115, 101, 32, 51]⟩, .string ⟨#[97, 100, 100, 32, 48, 32, 49]⟩, .string ⟨#[101, 110, 100]⟩]
def sampleText : ByteArray := ⟨#[99, 111, 100, 101, 32, 49, 32, 49, 10, 97, 100, 100, 32, 48, 32, 50, 10, 116, 101, 115, 116, 32, 48, 32, 60, 61, 32, 48, 46, 53, 32, 109, 105, 115, 115, 105, 110, 103, 32, 108, 101, 102, 116, 32, 101, 108, 115, 101, 32, 51, 10, 97, 100, 100, 32, 48, 32, 49, 10, 101, 110, 100, 10]⟩
def sampleTexts : List ByteArray := [⟨#[99, 111, 100, 101, 32, 49, 32, 49]⟩, ⟨#[97, 100, 100, 32, 48, 32, 50]⟩, ⟨#[116, 101, 115, 116, 32, 48, 32, 60, 61, 32, 48, 46, 53, 32, 109, 105, 115, 115, 105, 110, 103, 32, 108, 101, 102, 116, 32, 101, 108, 115, 101, 32, 51]⟩, ⟨#[97, 100, 100, 32, 48, 32, 49]⟩, ⟨#[101, 110, 100]⟩]

theorem chainB {w3 a b : World} (h : Below w3.heap.size w3 a) (k : Below a.heap.size a b) : Below w3.heap.size w3 b := below_then h h.size k
theorem chainA {w3 a : World} (h : Below w3.heap.size w3 a) (o : Obj) : Below w3.heap.size w3 (a.alloc o) := h.alloc h.size o
theorem mine_new (W : World) (T : TypeId) (v : Value) {base : Nat} (hb : base ≤ W.heap.size) : Mine T (W.alloc (.cells #[v] T)) base (some ⟨W.heap.size, 0, none⟩) 1 1 [v] :=
  ⟨rfl, Nat.le_refl _, by omega, .inr ⟨W.heap.size, [], rfl, hb, heap_alloc_new W _, by simp⟩⟩
theorem mine_as {T : TypeId} {w : World} {base : Nat} {A : Option Addr} {n c : Nat} {vs us : List Value} (h : Mine T w base A n c vs) (e : vs = us) : Mine T w base A n c us := e ▸ h

set_option maxRecDepth 100000 in
set_option maxHeartbeats 4000000 in
theorem Print_sample (A : Option Addr) (c : Nat) (w : World) (hp : OpsAt w A 4 c sampleTidy) (hT : TabsS w) :
    Calls Tryz.prog 31 #[.agg #[.int .i64 1, .int .i64 1, .slice A 4 c]] w fun e w' => e = .returned (.tuple #[.string sampleText, .int .i64 0]) ∧ Below w.heap.size w w' := by
  have B1 := (Below.refl w.heap.size w).alloc (Nat.le_refl _) (.cells #[.int .i64 1, .int .i64 1, .slice A 4 c] 30)
  have hP := heap_alloc_new w (.cells #[.int .i64 1, .int .i64 1, .slice A 4 c] 30)
  have hp1 := hp.below B1
  have HC := Lib.hid (Check_any 1 1 A 4 c sampleTidy _ hp1)
  rw [show checkV 1 1 sampleTidy = (0, 0) by decide +kernel] at HC
  have HP := Lib.hid hp
  have HT := Lib.hid hT
  have hcap := hp.cap
  have hsf : ∀ (W : World) (a : Addr) (b : Nat), (store a (.float .f64 b)).run Tryz.prog W = stored Tryz.prog W a (.float .f64 b) .plain := fun W a b => run_store _ W a _ _ rfl
  clear hp hp1 hT
  go_enter Tryz.func31, Tryz.ntmps31
  go_upto_region 1 with (fail)
  generalize w.alloc (.cells #[.int .i64 1, .int .i64 1, .slice A 4 c] 30) = W at *
  have p0 : W.cell? ⟨w.heap.size, 0, none⟩ = some (.int .i64 1) := cell_of_block hP rfl
  have p1 : W.cell? ⟨w.heap.size, 1, none⟩ = some (.int .i64 1) := cell_of_block hP rfl
  have p2 : W.cell? ⟨w.heap.size, 2, none⟩ = some (.slice A 4 c) := cell_of_block hP rfl
  go_wp2_with fail
  refine HC.out.mono ?_; rintro e w1 ⟨rfl, b1⟩
  have hP1 := (b1.block w.heap.size (lt_of_block hP)).trans hP
  have HB2 := Lib.hid (below_then B1 B1.size b1)
  clear p0 p1 p2 hP B1 b1 HC
  unfold chkOf
  go_upto_region 4 with (fail)
  have KS := Lib.hid (fun W (hW : Below w1.heap.size w1 W) => And.intro (cell_of_block (j := 0) ((hW.block _ (lt_of_block hP1)).trans hP1) rfl) (And.intro (cell_of_block (j := 1) ((hW.block _ (lt_of_block hP1)).trans hP1) rfl) (cell_of_block (j := 2) ((hW.block _ (lt_of_block hP1)).trans hP1) rfl)))
  have HSH := Lib.hid (fun W => show_lit 1 1 ⟨#[49]⟩ rfl (by kernel_rfl) W (by omega))
  go_cut [6] from 21 to 30 (fun lv wx => ∃ g, lv = .slice (some ⟨g, 0, none⟩) 1 1 ∧ Mine 9 wx w.heap.size (some ⟨g, 0, none⟩) 1 1 (sampleLines.take 1) ∧ Below w1.heap.size w1 wx)
  case first =>
    have hdr : Below w1.heap.size w1 w1.drew := (Below.refl _ _).drew
    go_region_held3 (fun W => W.cell? ⟨w.heap.size, 0, none⟩ = some (.int .i64 1) ∧ W.cell? ⟨w.heap.size, 1, none⟩ = some (.int .i64 1))
      (first | exact ⟨(KS.out _ (by assumption)).1, (KS.out _ (by assumption)).2.1⟩ | exact ⟨(KS.out _ (chainA (by assumption) _)).1, (KS.out _ (chainA (by assumption) _)).2.1⟩ | exact ⟨(KS.out _ (Below.refl _ _)).1, (KS.out _ (Below.refl _ _)).2.1⟩)
      ((go_at_call 55; with_reducible refine (HSH.out _).mono ?_; rintro e w5 ⟨rfl, bS⟩; have bS' := chainB (w3 := w1) (by assumption) bS))
    all_goals
      go_wp2
      go_meet
      exact ⟨_, rfl, mine_as (mine_new _ 9 _ (Nat.le_trans HB2.out.size (Below.size (w := w1) (by assumption)))) (by kernel_rfl), chainA (by assumption) _⟩
  case rest =>
    obtain ⟨g, rfl, hm0, b2⟩ := hcut
    have p2 := (KS.out _ b2).2.2
    have hB2 := HB2.out
    go_wp2
    go_loopw [6, 34] (fun lx ix wr => ∃ (k : Nat) (LA : Option Addr) (lc : Nat), ix = .int .i64 (k : Int) ∧ k ≤ 4 ∧ lx = .slice LA (k + 1) lc ∧ Mine 9 wr w.heap.size LA (k + 1) lc (sampleLines.take (k + 1)) ∧ Below w.heap.size w wr) (fun _ ix _ => 4 - (intOf ix).toNat)
    case atStart => exact ⟨0, _, _, rfl, by omega, rfl, hm0, below_then hB2 hB2.size b2⟩
    case round =>
      obtain ⟨k, LA, lc, rfl, hk, rfl, hm, hbr⟩ := hrel
      obtain ⟨b, o, rfl, hc⟩ := HP.out.cells (by omega)
      have hTr := HT.out.below hbr
      have HTR := Lib.hid hTr
      clear hm0 b2 p2 hTr KS
      rcases (show k = 0 ∨ k = 1 ∨ k = 2 ∨ k = 3 ∨ k = 4 by omega) with rfl | rfl | rfl | rfl | rfl
      · obtain ⟨V1, V2, V3, hr', _, _⟩ := hc 0 (by decide)
        have hr := rangeAt_below hr' hbr
        simp only [sampleTidy, opCells, List.getElem_cons_zero, addOp, endOp] at hr
        have r0 : wr.cell? ⟨b, o, none⟩ = some (.int .u8 3) := range_cell hr 0 rfl
        have r1 : wr.cell? ⟨b, o + 1, none⟩ = some (.int .i64 0) := range_cell hr 1 rfl
        have r2 : wr.cell? ⟨b, o + 2, none⟩ = some (.float .f64 0) := range_cell hr 2 rfl
        have r3 : wr.cell? ⟨b, o + 3, none⟩ = some (.slice V1 V2 V3) := range_cell hr 3 rfl
        have r4 : wr.cell? ⟨b, o + 4, none⟩ = some (.int .u8 0) := range_cell hr 4 rfl
        have r5 : wr.cell? ⟨b, o + 5, none⟩ = some (.int .i64 0) := range_cell hr 5 rfl
        have r6 : wr.cell? ⟨b, o + 6, none⟩ = some (.int .i64 2000000) := range_cell hr 6 rfl
        have r7 : wr.cell? ⟨b, o + 7, none⟩ = some (.int .i64 0) := range_cell hr 7 rfl
        have HBR := Lib.hid hbr
        clear hc hr hr' hbr
        go_upto_region 8 with (fail)
        have b5 := (Below.refl wr.heap.size wr).alloc (Nat.le_refl _) (.cells #[.int .u8 3, .int .i64 0, .float .f64 0, .slice V1 V2 V3, .int .u8 0, .int .i64 0, .int .i64 2000000, .int .i64 0] 75)
        have hO5 : (wr.alloc (.cells #[.int .u8 3, .int .i64 0, .float .f64 0, .slice V1 V2 V3, .int .u8 0, .int .i64 0, .int .i64 2000000, .int .i64 0] 75)).heap[wr.heap.size]? = some (.cells #[.int .u8 3, .int .i64 0, .float .f64 0, .slice V1 V2 V3, .int .u8 0, .int .i64 0, .int .i64 2000000, .int .i64 0] 75 (0, 0)) := heap_alloc_new wr _
        generalize (wr.alloc (.cells #[.int .u8 3, .int .i64 0, .float .f64 0, .slice V1 V2 V3, .int .u8 0, .int .i64 0, .int .i64 2000000, .int .i64 0] 75)) = w5 at b5 hO5 ⊢
        have hm5 := hm.below b5
        have KS := Lib.hid (fun (W : World) (hW : Below w5.heap.size w5 W) (j : Nat) (x : Value) (hx : #[.int .u8 3, .int .i64 0, .float .f64 0, .slice V1 V2 V3, .int .u8 0, .int .i64 0, .int .i64 2000000, .int .i64 0][j]? = some x) => cell_of_block ((hW.block _ (lt_of_block hO5)).trans hO5) hx)
        have KSB := Lib.hid (fun (W : World) (hW : Below w5.heap.size w5 W) => (hW.block _ (lt_of_block hO5)).trans hO5)
        have hm5lt := Lib.hid hm5.lt
        have HM5 := Lib.hid (fun (W : World) (hW : Below w5.heap.size w5 W) => hm5.below hW)
        have HB5 := Lib.hid (below_then HBR.out HBR.out.size b5)
        have hq := lt_of_block hO5
        have hbs := HB5.out.size
        clear r0 r1 r2 r3 r4 r5 r6 r7 hm b5 hm5 hO5
        have HSD := Lib.hid (fun W => side_lit 0 0 rfl ⟨#[114, 105, 103, 104, 116]⟩ (by kernel_rfl) W)
        have HSH := Lib.hid (fun W => show_lit 0 0 ⟨#[48]⟩ rfl (by kernel_rfl) W (by omega))
        go_cut [9] from 38 to 46 (fun tv wx => tv = .string ⟨#[32, 109, 105, 115, 115, 105, 110, 103, 32, 114, 105, 103, 104, 116, 32, 101, 108, 115, 101, 32, 48]⟩ ∧ Below w5.heap.size w5 wx)
        case first =>
          have hdr : Below w5.heap.size w5 w5.drew := (Below.refl _ _).drew
          go_region_held3 (fun W => W.cell? ⟨wr.heap.size, 4, none⟩ = some (.int .u8 0) ∧ W.cell? ⟨wr.heap.size, 7, none⟩ = some (.int .i64 0))
            (first | exact ⟨KS.out _ (by assumption) 4 _ rfl, KS.out _ (by assumption) 7 _ rfl⟩ | exact ⟨KS.out _ (chainA (by assumption) _) 4 _ rfl, KS.out _ (chainA (by assumption) _) 7 _ rfl⟩ | exact ⟨KS.out _ (Below.refl _ _) 4 _ rfl, KS.out _ (Below.refl _ _) 7 _ rfl⟩)
            (first | (go_at_call 56; with_reducible refine (HSD.out _).mono ?_; rintro e w6 ⟨rfl, rfl⟩) | (go_at_call 55; with_reducible refine (HSH.out _).mono ?_; rintro e w6 ⟨rfl, bS⟩; have bS' := chainB (w3 := w5) (by assumption) bS))
          all_goals
            go_wp2
            go_meet
            exact ⟨congrArg Value.string (by kernel_rfl), by assumption⟩
        case rest =>
          obtain ⟨rfl, b6⟩ := hcut
          have c0 := KS.out _ b6 0 _ rfl
          clear HSH HSD
          go_upto_region 22 with (fail)
          skip
          have HA1 := Lib.hid (fun W => show_lit 0 0 ⟨#[48]⟩ rfl (by kernel_rfl) W (by omega))
          have HA2 := Lib.hid (fun W => fixPrint_lit 2000000 2000000 2 ⟨#[50]⟩ rfl rfl (by omega) (by kernel_rfl) W)
          have hdr : Below w5.heap.size w5 (World.drew _) := b6.drew
          go_region_held3 (fun W => W.cell? ⟨wr.heap.size, 5, none⟩ = some (.int .i64 0) ∧ W.cell? ⟨wr.heap.size, 6, none⟩ = some (.int .i64 2000000))
            (first | exact ⟨KS.out _ (by assumption) 5 _ rfl, KS.out _ (by assumption) 6 _ rfl⟩ | exact ⟨KS.out _ (chainA (by assumption) _) 5 _ rfl, KS.out _ (chainA (by assumption) _) 6 _ rfl⟩ | exact ⟨KS.out _ (Below.refl _ _) 5 _ rfl, KS.out _ (Below.refl _ _) 6 _ rfl⟩ | exact ⟨cell_of_block hQ8 rfl, cell_of_block hQ8 rfl⟩)
            (first | (go_at_call 55; with_reducible refine (HA1.out _).mono ?_; rintro e w7 ⟨rfl, bS⟩; have bS' := chainB (w3 := w5) (by assumption) bS) | (go_at_call 58; with_reducible refine (HA2.out _).mono ?_; rintro e w7 ⟨rfl, rfl⟩) | (refine step_appK w.heap.size (by rfl) _ _ _ _ (.string ⟨#[]⟩) 1 16 (by rfl) Tryz.under_ss Tryz.info_str rfl (by omega) LA 1 lc (sampleLines.take 1) _ 1 1 _ 9 (heap_alloc_new _ _) rfl (by rfl) (by rfl) (by intro u hu; simp at hu; subst hu; rfl) (HM5.out _ (chainA (by assumption) _)).toK (Nat.le_trans hbs (Below.size (w := w5) (chainA (by assumption) _))) (by omega) (by omega) ?_; intro LA' lc' w8 hm8 hg8 hA8; have hQ8 := keep_ty hg8 (KSB.out _ (chainA (w3 := w5) (by assumption) _)) (fun r hr => (HM5.out _ (chainA (w3 := w5) (by assumption) _)).ty hr) (by decide)))
          all_goals
            have hb8 : Below w.heap.size w w8 := below_grown (HB5.out.trans ((chainA (w3 := w5) (by assumption) _).mono hbs)) (Nat.le_trans hbs (Below.size (w := w5) (chainA (by assumption) _))) hg8 (fun q hq => (hm5lt.out q hq).1)
            have hm9 := mine_as hm8.to1 (us := sampleLines.take 2) (by kernel_rfl)
            clear hm8
            go_wp2
            go_roundw
            case rel => exact ⟨1, _, _, by go_num, by omega, rfl, hm9, hb8⟩
            case measure => simp [intOf]
      · obtain ⟨V1, V2, V3, hr', _, _⟩ := hc 1 (by decide)
        have hr := rangeAt_below hr' hbr
        simp only [sampleTidy, opCells, List.getElem_cons_zero, List.getElem_cons_succ, addOp, endOp] at hr
        have r0 : wr.cell? ⟨b, o + 8, none⟩ = some (.int .u8 1) := range_cell hr 0 rfl
        have r1 : wr.cell? ⟨b, o + 8 + 1, none⟩ = some (.int .i64 0) := range_cell hr 1 rfl
        have r2 : wr.cell? ⟨b, o + 8 + 2, none⟩ = some (.float .f64 4602678819172646912) := range_cell hr 2 rfl
        have r3 : wr.cell? ⟨b, o + 8 + 3, none⟩ = some (.slice V1 V2 V3) := range_cell hr 3 rfl
        have r4 : wr.cell? ⟨b, o + 8 + 4, none⟩ = some (.int .u8 1) := range_cell hr 4 rfl
        have r5 : wr.cell? ⟨b, o + 8 + 5, none⟩ = some (.int .i64 0) := range_cell hr 5 rfl
        have r6 : wr.cell? ⟨b, o + 8 + 6, none⟩ = some (.int .i64 0) := range_cell hr 6 rfl
        have r7 : wr.cell? ⟨b, o + 8 + 7, none⟩ = some (.int .i64 3) := range_cell hr 7 rfl
        have HBR := Lib.hid hbr
        clear hc hr hr' hbr
        go_upto_region 8 with (fail)
        have b5 := (Below.refl wr.heap.size wr).alloc (Nat.le_refl _) (.cells #[.int .u8 1, .int .i64 0, .float .f64 4602678819172646912, .slice V1 V2 V3, .int .u8 1, .int .i64 0, .int .i64 0, .int .i64 3] 75)
        have hO5 : (wr.alloc (.cells #[.int .u8 1, .int .i64 0, .float .f64 4602678819172646912, .slice V1 V2 V3, .int .u8 1, .int .i64 0, .int .i64 0, .int .i64 3] 75)).heap[wr.heap.size]? = some (.cells #[.int .u8 1, .int .i64 0, .float .f64 4602678819172646912, .slice V1 V2 V3, .int .u8 1, .int .i64 0, .int .i64 0, .int .i64 3] 75 (0, 0)) := heap_alloc_new wr _
        generalize (wr.alloc (.cells #[.int .u8 1, .int .i64 0, .float .f64 4602678819172646912, .slice V1 V2 V3, .int .u8 1, .int .i64 0, .int .i64 0, .int .i64 3] 75)) = w5 at b5 hO5 ⊢
        have hm5 := hm.below b5
        have KS := Lib.hid (fun (W : World) (hW : Below w5.heap.size w5 W) (j : Nat) (x : Value) (hx : #[.int .u8 1, .int .i64 0, .float .f64 4602678819172646912, .slice V1 V2 V3, .int .u8 1, .int .i64 0, .int .i64 0, .int .i64 3][j]? = some x) => cell_of_block ((hW.block _ (lt_of_block hO5)).trans hO5) hx)
        have KSB := Lib.hid (fun (W : World) (hW : Below w5.heap.size w5 W) => (hW.block _ (lt_of_block hO5)).trans hO5)
        have hm5lt := Lib.hid hm5.lt
        have HM5 := Lib.hid (fun (W : World) (hW : Below w5.heap.size w5 W) => hm5.below hW)
        have HB5 := Lib.hid (below_then HBR.out HBR.out.size b5)
        have hq := lt_of_block hO5
        have hbs := HB5.out.size
        clear r0 r1 r2 r3 r4 r5 r6 r7 hm b5 hm5 hO5
        have HSD := Lib.hid (fun W => side_lit 1 1 rfl ⟨#[108, 101, 102, 116]⟩ (by kernel_rfl) W)
        have HSH := Lib.hid (fun W => show_lit 3 3 ⟨#[51]⟩ rfl (by kernel_rfl) W (by omega))
        go_cut [9] from 38 to 46 (fun tv wx => tv = .string ⟨#[32, 109, 105, 115, 115, 105, 110, 103, 32, 108, 101, 102, 116, 32, 101, 108, 115, 101, 32, 51]⟩ ∧ Below w5.heap.size w5 wx)
        case first =>
          have hdr : Below w5.heap.size w5 w5.drew := (Below.refl _ _).drew
          go_region_held3 (fun W => W.cell? ⟨wr.heap.size, 4, none⟩ = some (.int .u8 1) ∧ W.cell? ⟨wr.heap.size, 7, none⟩ = some (.int .i64 3))
            (first | exact ⟨KS.out _ (by assumption) 4 _ rfl, KS.out _ (by assumption) 7 _ rfl⟩ | exact ⟨KS.out _ (chainA (by assumption) _) 4 _ rfl, KS.out _ (chainA (by assumption) _) 7 _ rfl⟩ | exact ⟨KS.out _ (Below.refl _ _) 4 _ rfl, KS.out _ (Below.refl _ _) 7 _ rfl⟩)
            (first | (go_at_call 56; with_reducible refine (HSD.out _).mono ?_; rintro e w6 ⟨rfl, rfl⟩) | (go_at_call 55; with_reducible refine (HSH.out _).mono ?_; rintro e w6 ⟨rfl, bS⟩; have bS' := chainB (w3 := w5) (by assumption) bS))
          all_goals
            go_wp2
            go_meet
            exact ⟨congrArg Value.string (by kernel_rfl), by assumption⟩
        case rest =>
          obtain ⟨rfl, b6⟩ := hcut
          have c0 := KS.out _ b6 0 _ rfl
          clear HSH HSD
          go_upto_region 12 with (fail)
          skip
          have HA1 := Lib.hid (fun W => show_lit 0 0 ⟨#[48]⟩ rfl (by kernel_rfl) W (by omega))
          have HA2 := Lib.hid (fun W (hW : Below w5.heap.size w5 W) => Shortest_half W ((HT.out.below HB5.out).below hW))
          have hdr : Below w5.heap.size w5 (World.drew _) := b6.drew
          go_region_held3 (fun W => W.cell? ⟨wr.heap.size, 1, none⟩ = some (.int .i64 0) ∧ W.cell? ⟨wr.heap.size, 2, none⟩ = some (.float .f64 4602678819172646912))
            (first | exact ⟨KS.out _ (by assumption) 1 _ rfl, KS.out _ (by assumption) 2 _ rfl⟩ | exact ⟨KS.out _ (chainA (by assumption) _) 1 _ rfl, KS.out _ (chainA (by assumption) _) 2 _ rfl⟩ | exact ⟨KS.out _ (Below.refl _ _) 1 _ rfl, KS.out _ (Below.refl _ _) 2 _ rfl⟩ | exact ⟨cell_of_block hQ8 rfl, cell_of_block hQ8 rfl⟩)
            (first | (go_at_call 55; with_reducible refine (HA1.out _).mono ?_; rintro e w7 ⟨rfl, bS⟩; have bS' := chainB (w3 := w5) (by assumption) bS) | (go_at_call 57; with_reducible refine (HA2.out _ (by assumption)).mono ?_; rintro e w7 ⟨rfl, bF⟩; have bF' := chainB (w3 := w5) (by assumption) bF) | (refine step_appK w.heap.size (by rfl) _ _ _ _ (.string ⟨#[]⟩) 1 16 (by rfl) Tryz.under_ss Tryz.info_str rfl (by omega) LA 2 lc (sampleLines.take 2) _ 1 1 _ 9 (heap_alloc_new _ _) rfl (by rfl) (by rfl) (by intro u hu; simp at hu; subst hu; rfl) (HM5.out _ (chainA (by assumption) _)).toK (Nat.le_trans hbs (Below.size (w := w5) (chainA (by assumption) _))) (by omega) (by omega) ?_; intro LA' lc' w8 hm8 hg8 hA8; have hQ8 := keep_ty hg8 (KSB.out _ (chainA (w3 := w5) (by assumption) _)) (fun r hr => (HM5.out _ (chainA (w3 := w5) (by assumption) _)).ty hr) (by decide)))
          all_goals
            have hb8 : Below w.heap.size w w8 := below_grown (HB5.out.trans ((chainA (w3 := w5) (by assumption) _).mono hbs)) (Nat.le_trans hbs (Below.size (w := w5) (chainA (by assumption) _))) hg8 (fun q hq => (hm5lt.out q hq).1)
            have hm9 := mine_as hm8.to1 (us := sampleLines.take 3) (by kernel_rfl)
            clear hm8
            go_wp2
            go_roundw
            case rel => exact ⟨2, _, _, by go_num, by omega, rfl, hm9, hb8⟩
            case measure => simp [intOf]
      · obtain ⟨V1, V2, V3, hr', _, _⟩ := hc 2 (by decide)
        have hr := rangeAt_below hr' hbr
        simp only [sampleTidy, opCells, List.getElem_cons_zero, List.getElem_cons_succ, addOp, endOp] at hr
        have r0 : wr.cell? ⟨b, o + 16, none⟩ = some (.int .u8 3) := range_cell hr 0 rfl
        have r1 : wr.cell? ⟨b, o + 16 + 1, none⟩ = some (.int .i64 0) := range_cell hr 1 rfl
        have r2 : wr.cell? ⟨b, o + 16 + 2, none⟩ = some (.float .f64 0) := range_cell hr 2 rfl
        have r3 : wr.cell? ⟨b, o + 16 + 3, none⟩ = some (.slice V1 V2 V3) := range_cell hr 3 rfl
        have r4 : wr.cell? ⟨b, o + 16 + 4, none⟩ = some (.int .u8 0) := range_cell hr 4 rfl
        have r5 : wr.cell? ⟨b, o + 16 + 5, none⟩ = some (.int .i64 0) := range_cell hr 5 rfl
        have r6 : wr.cell? ⟨b, o + 16 + 6, none⟩ = some (.int .i64 1000000) := range_cell hr 6 rfl
        have r7 : wr.cell? ⟨b, o + 16 + 7, none⟩ = some (.int .i64 0) := range_cell hr 7 rfl
        have HBR := Lib.hid hbr
        clear hc hr hr' hbr
        go_upto_region 8 with (fail)
        have b5 := (Below.refl wr.heap.size wr).alloc (Nat.le_refl _) (.cells #[.int .u8 3, .int .i64 0, .float .f64 0, .slice V1 V2 V3, .int .u8 0, .int .i64 0, .int .i64 1000000, .int .i64 0] 75)
        have hO5 : (wr.alloc (.cells #[.int .u8 3, .int .i64 0, .float .f64 0, .slice V1 V2 V3, .int .u8 0, .int .i64 0, .int .i64 1000000, .int .i64 0] 75)).heap[wr.heap.size]? = some (.cells #[.int .u8 3, .int .i64 0, .float .f64 0, .slice V1 V2 V3, .int .u8 0, .int .i64 0, .int .i64 1000000, .int .i64 0] 75 (0, 0)) := heap_alloc_new wr _
        generalize (wr.alloc (.cells #[.int .u8 3, .int .i64 0, .float .f64 0, .slice V1 V2 V3, .int .u8 0, .int .i64 0, .int .i64 1000000, .int .i64 0] 75)) = w5 at b5 hO5 ⊢
        have hm5 := hm.below b5
        have KS := Lib.hid (fun (W : World) (hW : Below w5.heap.size w5 W) (j : Nat) (x : Value) (hx : #[.int .u8 3, .int .i64 0, .float .f64 0, .slice V1 V2 V3, .int .u8 0, .int .i64 0, .int .i64 1000000, .int .i64 0][j]? = some x) => cell_of_block ((hW.block _ (lt_of_block hO5)).trans hO5) hx)
        have KSB := Lib.hid (fun (W : World) (hW : Below w5.heap.size w5 W) => (hW.block _ (lt_of_block hO5)).trans hO5)
        have hm5lt := Lib.hid hm5.lt
        have HM5 := Lib.hid (fun (W : World) (hW : Below w5.heap.size w5 W) => hm5.below hW)
        have HB5 := Lib.hid (below_then HBR.out HBR.out.size b5)
        have hq := lt_of_block hO5
        have hbs := HB5.out.size
        clear r0 r1 r2 r3 r4 r5 r6 r7 hm b5 hm5 hO5
        have HSD := Lib.hid (fun W => side_lit 0 0 rfl ⟨#[114, 105, 103, 104, 116]⟩ (by kernel_rfl) W)
        have HSH := Lib.hid (fun W => show_lit 0 0 ⟨#[48]⟩ rfl (by kernel_rfl) W (by omega))
        go_cut [9] from 38 to 46 (fun tv wx => tv = .string ⟨#[32, 109, 105, 115, 115, 105, 110, 103, 32, 114, 105, 103, 104, 116, 32, 101, 108, 115, 101, 32, 48]⟩ ∧ Below w5.heap.size w5 wx)
        case first =>
          have hdr : Below w5.heap.size w5 w5.drew := (Below.refl _ _).drew
          go_region_held3 (fun W => W.cell? ⟨wr.heap.size, 4, none⟩ = some (.int .u8 0) ∧ W.cell? ⟨wr.heap.size, 7, none⟩ = some (.int .i64 0))
            (first | exact ⟨KS.out _ (by assumption) 4 _ rfl, KS.out _ (by assumption) 7 _ rfl⟩ | exact ⟨KS.out _ (chainA (by assumption) _) 4 _ rfl, KS.out _ (chainA (by assumption) _) 7 _ rfl⟩ | exact ⟨KS.out _ (Below.refl _ _) 4 _ rfl, KS.out _ (Below.refl _ _) 7 _ rfl⟩)
            (first | (go_at_call 56; with_reducible refine (HSD.out _).mono ?_; rintro e w6 ⟨rfl, rfl⟩) | (go_at_call 55; with_reducible refine (HSH.out _).mono ?_; rintro e w6 ⟨rfl, bS⟩; have bS' := chainB (w3 := w5) (by assumption) bS))
          all_goals
            go_wp2
            go_meet
            exact ⟨congrArg Value.string (by kernel_rfl), by assumption⟩
        case rest =>
          obtain ⟨rfl, b6⟩ := hcut
          have c0 := KS.out _ b6 0 _ rfl
          clear HSH HSD
          go_upto_region 22 with (fail)
          skip
          have HA1 := Lib.hid (fun W => show_lit 0 0 ⟨#[48]⟩ rfl (by kernel_rfl) W (by omega))
          have HA2 := Lib.hid (fun W => fixPrint_lit 1000000 1000000 1 ⟨#[49]⟩ rfl rfl (by omega) (by kernel_rfl) W)
          have hdr : Below w5.heap.size w5 (World.drew _) := b6.drew
          go_region_held3 (fun W => W.cell? ⟨wr.heap.size, 5, none⟩ = some (.int .i64 0) ∧ W.cell? ⟨wr.heap.size, 6, none⟩ = some (.int .i64 1000000))
            (first | exact ⟨KS.out _ (by assumption) 5 _ rfl, KS.out _ (by assumption) 6 _ rfl⟩ | exact ⟨KS.out _ (chainA (by assumption) _) 5 _ rfl, KS.out _ (chainA (by assumption) _) 6 _ rfl⟩ | exact ⟨KS.out _ (Below.refl _ _) 5 _ rfl, KS.out _ (Below.refl _ _) 6 _ rfl⟩ | exact ⟨cell_of_block hQ8 rfl, cell_of_block hQ8 rfl⟩)
            (first | (go_at_call 55; with_reducible refine (HA1.out _).mono ?_; rintro e w7 ⟨rfl, bS⟩; have bS' := chainB (w3 := w5) (by assumption) bS) | (go_at_call 58; with_reducible refine (HA2.out _).mono ?_; rintro e w7 ⟨rfl, rfl⟩) | (refine step_appK w.heap.size (by rfl) _ _ _ _ (.string ⟨#[]⟩) 1 16 (by rfl) Tryz.under_ss Tryz.info_str rfl (by omega) LA 3 lc (sampleLines.take 3) _ 1 1 _ 9 (heap_alloc_new _ _) rfl (by rfl) (by rfl) (by intro u hu; simp at hu; subst hu; rfl) (HM5.out _ (chainA (by assumption) _)).toK (Nat.le_trans hbs (Below.size (w := w5) (chainA (by assumption) _))) (by omega) (by omega) ?_; intro LA' lc' w8 hm8 hg8 hA8; have hQ8 := keep_ty hg8 (KSB.out _ (chainA (w3 := w5) (by assumption) _)) (fun r hr => (HM5.out _ (chainA (w3 := w5) (by assumption) _)).ty hr) (by decide)))
          all_goals
            have hb8 : Below w.heap.size w w8 := below_grown (HB5.out.trans ((chainA (w3 := w5) (by assumption) _).mono hbs)) (Nat.le_trans hbs (Below.size (w := w5) (chainA (by assumption) _))) hg8 (fun q hq => (hm5lt.out q hq).1)
            have hm9 := mine_as hm8.to1 (us := sampleLines.take 4) (by kernel_rfl)
            clear hm8
            go_wp2
            go_roundw
            case rel => exact ⟨3, _, _, by go_num, by omega, rfl, hm9, hb8⟩
            case measure => simp [intOf]
      · obtain ⟨V1, V2, V3, hr', _, _⟩ := hc 3 (by decide)
        have hr := rangeAt_below hr' hbr
        simp only [sampleTidy, opCells, List.getElem_cons_zero, List.getElem_cons_succ, addOp, endOp] at hr
        have r0 : wr.cell? ⟨b, o + 24, none⟩ = some (.int .u8 5) := range_cell hr 0 rfl
        have r1 : wr.cell? ⟨b, o + 24 + 1, none⟩ = some (.int .i64 0) := range_cell hr 1 rfl
        have r2 : wr.cell? ⟨b, o + 24 + 2, none⟩ = some (.float .f64 0) := range_cell hr 2 rfl
        have r3 : wr.cell? ⟨b, o + 24 + 3, none⟩ = some (.slice V1 V2 V3) := range_cell hr 3 rfl
        have r4 : wr.cell? ⟨b, o + 24 + 4, none⟩ = some (.int .u8 0) := range_cell hr 4 rfl
        have r5 : wr.cell? ⟨b, o + 24 + 5, none⟩ = some (.int .i64 0) := range_cell hr 5 rfl
        have r6 : wr.cell? ⟨b, o + 24 + 6, none⟩ = some (.int .i64 0) := range_cell hr 6 rfl
        have r7 : wr.cell? ⟨b, o + 24 + 7, none⟩ = some (.int .i64 0) := range_cell hr 7 rfl
        have HBR := Lib.hid hbr
        clear hc hr hr' hbr
        go_upto_region 8 with (fail)
        have b5 := (Below.refl wr.heap.size wr).alloc (Nat.le_refl _) (.cells #[.int .u8 5, .int .i64 0, .float .f64 0, .slice V1 V2 V3, .int .u8 0, .int .i64 0, .int .i64 0, .int .i64 0] 75)
        have hO5 : (wr.alloc (.cells #[.int .u8 5, .int .i64 0, .float .f64 0, .slice V1 V2 V3, .int .u8 0, .int .i64 0, .int .i64 0, .int .i64 0] 75)).heap[wr.heap.size]? = some (.cells #[.int .u8 5, .int .i64 0, .float .f64 0, .slice V1 V2 V3, .int .u8 0, .int .i64 0, .int .i64 0, .int .i64 0] 75 (0, 0)) := heap_alloc_new wr _
        generalize (wr.alloc (.cells #[.int .u8 5, .int .i64 0, .float .f64 0, .slice V1 V2 V3, .int .u8 0, .int .i64 0, .int .i64 0, .int .i64 0] 75)) = w5 at b5 hO5 ⊢
        have hm5 := hm.below b5
        have KS := Lib.hid (fun (W : World) (hW : Below w5.heap.size w5 W) (j : Nat) (x : Value) (hx : #[.int .u8 5, .int .i64 0, .float .f64 0, .slice V1 V2 V3, .int .u8 0, .int .i64 0, .int .i64 0, .int .i64 0][j]? = some x) => cell_of_block ((hW.block _ (lt_of_block hO5)).trans hO5) hx)
        have KSB := Lib.hid (fun (W : World) (hW : Below w5.heap.size w5 W) => (hW.block _ (lt_of_block hO5)).trans hO5)
        have hm5lt := Lib.hid hm5.lt
        have HM5 := Lib.hid (fun (W : World) (hW : Below w5.heap.size w5 W) => hm5.below hW)
        have HB5 := Lib.hid (below_then HBR.out HBR.out.size b5)
        have hq := lt_of_block hO5
        have hbs := HB5.out.size
        clear r0 r1 r2 r3 r4 r5 r6 r7 hm b5 hm5 hO5
        have HSD := Lib.hid (fun W => side_lit 0 0 rfl ⟨#[114, 105, 103, 104, 116]⟩ (by kernel_rfl) W)
        have HSH := Lib.hid (fun W => show_lit 0 0 ⟨#[48]⟩ rfl (by kernel_rfl) W (by omega))
        go_cut [9] from 38 to 46 (fun tv wx => tv = .string ⟨#[32, 109, 105, 115, 115, 105, 110, 103, 32, 114, 105, 103, 104, 116, 32, 101, 108, 115, 101, 32, 48]⟩ ∧ Below w5.heap.size w5 wx)
        case first =>
          have hdr : Below w5.heap.size w5 w5.drew := (Below.refl _ _).drew
          go_region_held3 (fun W => W.cell? ⟨wr.heap.size, 4, none⟩ = some (.int .u8 0) ∧ W.cell? ⟨wr.heap.size, 7, none⟩ = some (.int .i64 0))
            (first | exact ⟨KS.out _ (by assumption) 4 _ rfl, KS.out _ (by assumption) 7 _ rfl⟩ | exact ⟨KS.out _ (chainA (by assumption) _) 4 _ rfl, KS.out _ (chainA (by assumption) _) 7 _ rfl⟩ | exact ⟨KS.out _ (Below.refl _ _) 4 _ rfl, KS.out _ (Below.refl _ _) 7 _ rfl⟩)
            (first | (go_at_call 56; with_reducible refine (HSD.out _).mono ?_; rintro e w6 ⟨rfl, rfl⟩) | (go_at_call 55; with_reducible refine (HSH.out _).mono ?_; rintro e w6 ⟨rfl, bS⟩; have bS' := chainB (w3 := w5) (by assumption) bS))
          all_goals
            go_wp2
            go_meet
            exact ⟨congrArg Value.string (by kernel_rfl), by assumption⟩
        case rest =>
          obtain ⟨rfl, b6⟩ := hcut
          have c0 := KS.out _ b6 0 _ rfl
          clear HSH HSD
          have hm6 := HM5.out _ b6
          have hbs6 := b6.size
          go_wp2_with (at_builtin; refine app_one w.heap.size rfl _ _ _ _ (.string ⟨#[]⟩) 16 rfl Tryz.under_ss Tryz.info_str rfl (by omega) LA _ _ _ (.string ⟨#[101, 110, 100]⟩) rfl rfl rfl hm6 (by omega) (by omega) ?_; intro A' c2 w7 hm7 hg7 _)
          have hb7 := below_grown (below_then HB5.out HB5.out.size b6) (by omega) hg7 (fun q hq => (hm6.lt q hq).1)
          go_wp2
          go_roundw
          case rel => exact ⟨4, _, _, by go_num, by omega, rfl, mine_as hm7 (by kernel_rfl), hb7⟩
          case measure => simp [intOf]
      · obtain ⟨g', hA⟩ : ∃ g', LA = some ⟨g', 0, none⟩ := by
          rcases hm.row with ⟨_, h0, _⟩ | ⟨g', _, e, _⟩
          · omega
          · exact ⟨g', e⟩
        subst hA
        have hcl := fun j hj => hm.cell j hj
        have HJ := Lib.hid (Tryz.strings_Join g' 0 lc sampleTexts ⟨#[10]⟩ wr (fun j x hx => by
          have hj : j < 5 := (List.getElem?_eq_some_iff.1 hx).1
          have := hcl j hj
          rw [Nat.zero_add, this]
          have e : sampleLines.take (4 + 1) = sampleTexts.map .string := by kernel_rfl
          rw [e, List.getD_eq_getElem?_getD, List.getElem?_map, hx]
          rfl) ((hm.lt g' rfl).2) (by decide) hm.cap (by decide +kernel))
        have HBR := Lib.hid hbr
        clear hc hcl hm hbr
        go_wp2_with fail
        refine HJ.out.mono ?_; rintro e w5 ⟨rfl, b5⟩
        have HB5 := Lib.hid (below_then HBR.out HBR.out.size b5)
        clear b5
        go_wp2
        go_ret2
        exact ⟨congrArg (fun x => Ending.returned (Value.tuple #[.string x, .int .i64 0])) (by kernel_rfl), HB5.out⟩

end Go.Proofs.YtekcpapkicmckaaGreatDoor

namespace Go.Proofs.YtekcpapkicmckaaGreatDoor
open Go.RowKit

def sampleNds : List NdV := [⟨2, 0, 0, 4602678819172646912, [], 1, 1, 2⟩, ⟨1, 1000000, 0, 0, [], 0, 0, 0⟩, ⟨1, 0, 0, 0, [], 0, 0, 0⟩]
def sampleTr : TrV := ⟨0, sampleNds⟩
/-- the example's program -/
def sampleOps : List OpV := [addOp 0 2000000, ⟨1, 0, 4602678819172646912, [], 1, 0, 0, 4⟩, addOp 0 1000000, jumpTo 5, addOp 0 0, endOp]

theorem sample_shape : shapeV sampleNds = (0, 0) := by kernel_rfl
theorem sample_tree : treeOf sampleNds = .node 0 (.leaf 1) (.leaf 2) :=
  Rep.unique (a := 0) (treeOf_rep (rightT_of sample_shape)) ⟨rfl, by decide, by decide, ⟨by decide, by decide, by decide⟩, ⟨by decide, by decide, by decide⟩⟩
theorem sample_fault : treesFault 1 1 [sampleTr] = 0 := by kernel_rfl
theorem sample_compiled : compileV 1 1 [2000000] [sampleTr] = (sampleOps, 0) := by
  unfold compileV
  rw [if_neg (by decide), sample_fault, if_neg (by decide)]
  have h : treesCode [sampleTr] ([2000000] : List Int).length = [⟨1, 0, 4602678819172646912, [], 1, 0, 0, 4⟩, addOp 0 1000000, jumpTo 5, addOp 0 0] := by
    simp only [treesCode, treeCode, List.append_nil]
    show codeT sampleNds 0 (1 + (treeOf sampleNds).size - 1) (treeOf sampleNds) 1 true = _
    rw [sample_tree]
    kernel_rfl
  rw [h]
  rfl
theorem sample_run : runV 1 1 sampleOps [4603579539098121011] = ([2000000], [0, 1, 4, 5], 0) := by kernel_rfl
theorem sample_check : checkV 1 1 sampleOps = (0, 0) := by kernel_rfl
theorem sample_tidied : tidyOps sampleOps = sampleTidy := by kernel_rfl

theorem sample_tidyV : tidyV 1 1 sampleOps = (sampleTidy, 0) := by
  unfold tidyV
  rw [sample_check, if_neg (by decide), sample_tidied]

end Go.Proofs.YtekcpapkicmckaaGreatDoor

namespace Go.Proofs.YtekcpapkicmckaaGreatDoor
open Go.RowKit

/-- the example's nodes -/
abbrev sampleNodes : Array Value := #[.int .u8 2, .int .i64 0, .int .i64 0, .float .f64 4602678819172646912, .slice none 0 0, .int .u8 1, .int .i64 1, .int .i64 2, .int .u8 1, .int .i64 1000000, .int .i64 0, .float .f64 0, .slice none 0 0, .int .u8 0, .int .i64 0, .int .i64 0, .int .u8 1, .int .i64 0, .int .i64 0, .float .f64 0, .slice none 0 0, .int .u8 0, .int .i64 0, .int .i64 0]
/-- the example's cells -/
abbrev sampleCells (N : Nat) : Array Value := #[.string ⟨#[]⟩, .slice (some ⟨N + 1, 0, none⟩) 1 1, .int .i64 1, .slice (some ⟨N + 1 + 1, 0, none⟩) 1 1, .slice (some ⟨N + 1 + 1 + 1 + 1, 0, none⟩) 1 1]
/-- the example in memory -/
structure SampleAt (w : World) (N : Nat) : Prop where
  names : w.heap[N + 1]? = some (.cells #[.string ⟨#[97]⟩] 9 (0, 0))
  base : w.heap[N + 1 + 1]? = some (.cells #[.int .i64 2000000] 2 (0, 0))
  nodes : w.heap[N + 1 + 1 + 1]? = some (.cells sampleNodes 72 (0, 0))
  trees : w.heap[N + 1 + 1 + 1 + 1]? = some (.cells #[.int .i64 0, .slice (some ⟨N + 1 + 1 + 1, 0, none⟩) 3 3] 65 (0, 0))

theorem heap_five (w : World) (a b c d e : Obj) (ob : Obj) (k : Nat) (h : #[a, b, c, d, e][k]? = some ob) : (((((w.alloc a).alloc b).alloc c).alloc d).alloc e).heap[w.heap.size + k]? = some ob := by
  show (((((w.heap.push a).push b).push c).push d).push e)[w.heap.size + k]? = some ob
  have hk : k < 5 := by
    rcases Nat.lt_or_ge k 5 with h1 | h1
    · exact h1
    · rw [Array.getElem?_eq_none (by simpa using h1)] at h; simp at h
  simp only [Array.getElem?_push, Array.size_push]
  have : k = 0 ∨ k = 1 ∨ k = 2 ∨ k = 3 ∨ k = 4 := by omega
  rcases this with rfl | rfl | rfl | rfl | rfl <;> simp at h ⊢ <;> first | exact h | (rw [if_neg (by omega)]; exact h) | skip
  all_goals (repeat (first | rw [if_neg (by omega)] | rw [if_pos (by omega)])); first | exact h | exact congrArg some h

set_option maxRecDepth 100000 in
set_option maxHeartbeats 1000000 in
theorem sample_any (w : World) : Calls Tryz.prog 39 #[] w fun e w' => e = .returned (.agg (sampleCells w.heap.size)) ∧ SampleAt w' w.heap.size ∧ Below w.heap.size w w' := by
  go_enter Tryz.func39, Tryz.ntmps39
  go_wp2_with fail
  refine bodyPost_ret (v := .agg (sampleCells w.heap.size)) (results_cell_row (fn := Tryz.f39) (p := 0) (ty := 26) rfl _ _ w.heap.size 26 (sampleCells w.heap.size) (0, 0) _ rfl (heap_five w _ _ _ _ _ _ 0 rfl) Tryz.underlying26 rfl (by kernel_rfl)) rfl
    ⟨rfl, ⟨heap_five w _ _ _ _ _ _ 1 rfl, heap_five w _ _ _ _ _ _ 2 rfl, heap_five w _ _ _ _ _ _ 3 rfl, heap_five w _ _ _ _ _ _ 4 rfl⟩, (((((Below.refl _ _).alloc (Nat.le_refl _) _).alloc (by simp) _).alloc (by simp; omega) _).alloc (by simp; omega) _).alloc (by simp; omega) _⟩

end Go.Proofs.YtekcpapkicmckaaGreatDoor

namespace Go.Proofs.YtekcpapkicmckaaGreatDoor
open Go.RowKit

theorem range_of_block {w : World} {b o : Nat} {cs : Array Value} {T : TypeId} {vs : List Value} (h : w.heap[b]? = some (.cells cs T (0, 0))) (hv : ∀ k, k < vs.length → cs[o + k]? = vs[k]?) : w.rangeAt b o vs := by
  intro k v hk
  have hl : k < vs.length := (List.getElem?_eq_some_iff.1 hk).1
  exact cell_of_block h ((hv k hl).trans hk)

theorem sample_small : ∀ v ∈ sampleNds, v.kind < 256 ∧ v.missing < 256 := by decide
theorem sample_rng : ∀ i, i < 3 → NdRng (ndAt sampleNds i) := by
  intro i hi
  rcases (show i = 0 ∨ i = 1 ∨ i = 2 by omega) with rfl | rfl | rfl
  all_goals exact ⟨by decide, by decide, by decide⟩
theorem sample_nodes {w : World} {N : Nat} (h : SampleAt w N) : NdsAt w (some ⟨N + 1 + 1 + 1, 0, none⟩) 3 3 sampleNds :=
  ⟨rfl, Nat.le_refl _, by omega, fun _ => ⟨_, _, rfl, fun j hj => by
    have hi : Ints w none 0 0 [] := ⟨Sl.nil w 0, by simp⟩
    have hj3 : j < 3 := hj
    rcases (show j = 0 ∨ j = 1 ∨ j = 2 by omega) with rfl | rfl | rfl
    all_goals
      refine ⟨none, 0, 0, range_of_block h.nodes (fun k hk => ?_), hi, (sample_small _ (List.getElem_mem hj)).1, (sample_small _ (List.getElem_mem hj)).2⟩
      have hk8 : k < 8 := hk
      rcases (show k = 0 ∨ k = 1 ∨ k = 2 ∨ k = 3 ∨ k = 4 ∨ k = 5 ∨ k = 6 ∨ k = 7 by omega) with rfl | rfl | rfl | rfl | rfl | rfl | rfl | rfl <;> rfl⟩⟩
theorem sample_trees {w : World} {N : Nat} (h : SampleAt w N) : TrsAt w (some ⟨N + 1 + 1 + 1 + 1, 0, none⟩) 1 1 [sampleTr] :=
  ⟨rfl, Nat.le_refl _, by omega, fun _ => ⟨_, _, rfl, fun j hj => by
    obtain rfl : j = 0 := by simpa using hj
    refine ⟨some ⟨N + 1 + 1 + 1, 0, none⟩, 3, 3, range_of_block h.trees (fun k hk => ?_), sample_nodes h, by omega, by show _ ∧ _; exact ⟨by show (_ : Int) ≤ 0; omega, by show (0 : Int) ≤ _; omega⟩, sample_rng⟩
    have hk2 : k < 2 := hk
    rcases (show k = 0 ∨ k = 1 by omega) with rfl | rfl <;> rfl⟩⟩
theorem sample_base {w : World} {N : Nat} (h : SampleAt w N) : Ints w (some ⟨N + 1 + 1, 0, none⟩) 1 1 [2000000] :=
  ⟨⟨rfl, Nat.le_refl _, by omega, fun _ => ⟨_, _, rfl, fun j hj => by
    obtain rfl : j = 0 := by omega
    exact cell_of_block h.base rfl⟩⟩, by simp⟩

theorem CompilePost.ok {F O : Int} {ops : List OpV} {w : World} {e : Ending} {w' : World} (h : CompilePost F O (ops, 0) w e w') :
    ∃ A n c, e = .returned (.tuple #[.agg #[.int .i64 F, .int .i64 O, .slice A n c], .int .i64 0]) ∧ OwnOps w' w.heap.size A n c ops ∧ Below w.heap.size w w' := h

theorem RunsPost.sample {w : World} {e : Ending} {w' : World} (h : RunsPost ([2000000], [0, 1, 4, 5], 0) w e w') :
    ∃ SA sn sc, e = .returned (.tuple #[.slice SA sn sc, .int .i64 4, .int .i64 0]) ∧ OwnInts 2 w' w.heap.size SA sn sc [2000000] ∧ Below w.heap.size w w' := h

set_option maxHeartbeats 4000000 in
set_option maxRecDepth 100000 in
theorem lives_any (w : World) (hT : TabsS w) : Calls Tryz.prog 15 #[] w fun e w' => e = .returned (.bool true) ∧ Below w.heap.size w w' := by
  have HT := Lib.hid hT
  clear hT
  go_enter Tryz.func15, Tryz.ntmps15
  go_wp2_with fail
  refine (sample_any w).mono ?_; rintro e w1 ⟨rfl, hs, b1⟩
  have hC := Compile_good ⟨#[]⟩ (some ⟨w.heap.size + 1, 0, none⟩) 1 1 1 (some ⟨w.heap.size + 1 + 1, 0, none⟩) 1 1 (some ⟨w.heap.size + 1 + 1 + 1 + 1, 0, none⟩) 1 1 [2000000] [sampleTr] w1 (sample_base hs) (sample_trees hs) (by omega) (by omega) rfl (by decide) (by decide)
  rw [show ((1 : Nat) : Int) = 1 from rfl, sample_compiled] at hC
  have HC := Lib.hid (hC.mono fun _ _ h => h.ok)
  have HB1 := Lib.hid b1
  clear hC hs b1
  go_wp2_with fail
  refine HC.out.mono ?_; rintro e w2 ⟨A, n, c, rfl, ho, b2⟩
  obtain rfl : 6 = n := ho.len
  have HB2 := Lib.hid (below_then HB1.out HB1.out.size b2)
  clear HC b2
  go_upto_region 2 with (fail)
  have b3 := (Below.refl w2.heap.size w2).alloc (Nat.le_refl _) (.cells #[.int .i64 1, .int .i64 1, .slice A 6 c] 30)
  have hO3 := heap_alloc_new w2 (.cells #[.int .i64 1, .int .i64 1, .slice A 6 c] 30)
  generalize w2.alloc (.cells #[.int .i64 1, .int .i64 1, .slice A 6 c] 30) = w3 at b3 hO3 ⊢
  have hp3 := ho.opsAt.below b3
  have p0 : w3.cell? ⟨w2.heap.size, 0, none⟩ = some (.int .i64 1) := cell_of_block hO3 rfl
  have p1 : w3.cell? ⟨w2.heap.size, 1, none⟩ = some (.int .i64 1) := cell_of_block hO3 rfl
  have p2 : w3.cell? ⟨w2.heap.size, 2, none⟩ = some (.slice A 6 c) := cell_of_block hO3 rfl
  have hx4 := heap_alloc_new w3 (.cells #[.float .f64 4603579539098121011] 69)
  have b4 := (Below.refl w3.heap.size w3).alloc (Nat.le_refl _) (.cells #[.float .f64 4603579539098121011] 69)
  have hRn := Run_any 1 1 A (some ⟨w3.heap.size, 0, none⟩) 6 c 1 1 sampleOps [4603579539098121011] _ (hp3.below b4) ⟨rfl, Nat.le_refl _, by omega, fun _ => ⟨_, _, rfl, fun j hj => by
    obtain rfl : j = 0 := by omega
    exact cell_of_block hx4 rfl⟩⟩ (by omega)
  rw [sample_run] at hRn
  have HRN := Lib.hid (hRn.mono fun _ _ h => h.sample)
  have HO3 := Lib.hid hO3
  have HP3 := Lib.hid hp3
  have HB3 := Lib.hid (below_then HB2.out HB2.out.size b3)
  have HB4 := Lib.hid b4
  clear hRn hO3 hp3 b3 b4 hx4 ho
  go_wp2_with fail
  refine HRN.out.mono ?_; rintro e w5 ⟨SA, sn, sc, rfl, hs5, b5⟩
  obtain rfl : 1 = sn := hs5.len
  have hb35 := below_then HB4.out HB4.out.size b5
  have hO5 := (hb35.block _ (lt_of_block HO3.out)).trans HO3.out
  have hp5 := HP3.out.below hb35
  have HS5 := Lib.hid hs5
  have HB5 := Lib.hid (below_then HB3.out HB3.out.size hb35)
  clear p0 p1 p2 HRN b5 hb35 hs5 HO3 HP3 HB4
  have p0 : w5.cell? ⟨w2.heap.size, 0, none⟩ = some (.int .i64 1) := cell_of_block hO5 rfl
  have p1 : w5.cell? ⟨w2.heap.size, 1, none⟩ = some (.int .i64 1) := cell_of_block hO5 rfl
  have p2 : w5.cell? ⟨w2.heap.size, 2, none⟩ = some (.slice A 6 c) := cell_of_block hO5 rfl
  have hTd := Tidy_any 1 1 A 6 c sampleOps w5 hp5 (by omega) (by decide)
  rw [sample_tidyV] at hTd
  have HTD := Lib.hid (hTd.mono fun _ _ h => h.ok)
  have HO5 := Lib.hid hO5
  clear hTd hO5 hp5
  go_wp2_with fail
  refine HTD.out.mono ?_; rintro e w6 ⟨A2, n2, c2, rfl, ho2, b6⟩
  obtain rfl : 4 = n2 := ho2.len
  have HB6 := Lib.hid b6
  clear HTD b6 p0 p1 p2
  go_upto_region 4 with (fail)
  have b7 := (Below.refl w6.heap.size w6).alloc (Nat.le_refl _) (.cells #[.int .i64 1, .int .i64 1, .slice A2 4 c2] 30)
  have hO7 := heap_alloc_new w6 (.cells #[.int .i64 1, .int .i64 1, .slice A2 4 c2] 30)
  generalize w6.alloc (.cells #[.int .i64 1, .int .i64 1, .slice A2 4 c2] 30) = w7 at b7 hO7 ⊢
  have hp7 := ho2.opsAt.below b7
  have hb57 := below_then HB6.out HB6.out.size b7
  have hB7 := below_then HB5.out HB5.out.size hb57
  have p0 : w7.cell? ⟨w6.heap.size, 0, none⟩ = some (.int .i64 1) := cell_of_block hO7 rfl
  have p1 : w7.cell? ⟨w6.heap.size, 1, none⟩ = some (.int .i64 1) := cell_of_block hO7 rfl
  have p2 : w7.cell? ⟨w6.heap.size, 2, none⟩ = some (.slice A2 4 c2) := cell_of_block hO7 rfl
  have HPR := Lib.hid (Print_sample A2 c2 w7 hp7 (HT.out.below hB7))
  have HB7 := Lib.hid hB7
  have HO7 := Lib.hid hO7
  have HB57 := Lib.hid hb57
  clear hO7 hp7 b7 ho2 hb57 hB7
  go_wp2_with fail
  refine HPR.out.mono ?_; rintro e w8 ⟨rfl, b8⟩
  have hO8 := (b8.block _ (lt_of_block HO7.out)).trans HO7.out
  have hb58 := below_then HB57.out HB57.out.size b8
  have hO58 := (hb58.block _ (lt_of_block HO5.out)).trans HO5.out
  have hs8 := HS5.out.ints.below hb58
  obtain ⟨bs, os, rfl, hsc⟩ := hs8.cells (by omega)
  have s0 : w8.cell? ⟨bs, os, none⟩ = some (.int .i64 2000000) := hsc 0 (by omega)
  have t2 : w8.cell? ⟨w2.heap.size, 2, none⟩ = some (.slice A 6 c) := cell_of_block hO58 rfl
  have u2 : w8.cell? ⟨w6.heap.size, 2, none⟩ = some (.slice A2 4 c2) := cell_of_block hO8 rfl
  have HB8 := Lib.hid (below_then HB7.out HB7.out.size b8)
  have HTX := Lib.hid (show sampleText = _ from rfl)
  clear p0 p1 p2 hO8 hb58 hO58 hs8 hsc b8 HPR HO7 HB57
  unfold sampleText
  go_wp2
  go_ret
  exact ⟨rfl, HB8.out⟩

end Go.Proofs.YtekcpapkicmckaaGreatDoor
