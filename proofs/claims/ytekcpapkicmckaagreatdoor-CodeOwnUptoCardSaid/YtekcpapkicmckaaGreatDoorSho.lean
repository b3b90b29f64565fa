/- floats.Shortest of 0.1 and of 0.5: the texts "0.1" and "0.5". -/
import Derived.Test.YtekcpapkicmckaaGreatDoorRyu
import Derived.Test.YtekcpapkicmckaaGreatDoorNumb
import Derived.Laws.BitsAllLaws
namespace Go.Proofs.YtekcpapkicmckaaGreatDoor
open Go.RowKit

/-- what the package's variables and Go's own tables hold -/
structure TabsS (w : World) : Prop where
  pow : PowAt w 365 12800000000000000000 0
  ten : Lib.TabIs Tryz.prog w "internal/strconv.uint64pow10" .u64 Lib.pow10Tab
  mx : ∃ m, w.cell? ⟨4, 0, none⟩ = some (.int .i64 m)

theorem gTen : Tryz.prog.globalNamed "internal/strconv.uint64pow10" = some 3 := by kernel_rfl

theorem tab_below {n : String} {g : Nat} {k : IntKind} {zs : List Int} {w w' : World} (hg : Tryz.prog.globalNamed n = some g) (h : Lib.TabIs Tryz.prog w n k zs) (hb : Below w.heap.size w w') : Lib.TabIs Tryz.prog w' n k zs := by
  unfold Lib.TabIs World.var? at h ⊢
  rw [hg] at h ⊢
  simp only [Option.bind_some] at h ⊢
  have hlt : g < w.heap.size := by
    rcases Nat.lt_or_ge g w.heap.size with h' | h'
    · exact h'
    · rw [Array.getElem?_eq_none h'] at h; cases h
  rw [hb.block g hlt]
  exact h

theorem TabsS.below {w w' : World} (h : TabsS w) (hb : Below w.heap.size w w') : TabsS w' :=
  ⟨h.pow.below hb, tab_below gTen h.ten hb, by
    obtain ⟨m, hm⟩ := h.mx
    exact ⟨m, (hb.cell (World.block_lt_of_cell? w _ hm)).trans hm⟩⟩
/-- .. and the package's own -/
structure Tabs (w : World) : Prop extends TabsS w where
  wide : WideAt w
theorem Tabs.below {w w' : World} (h : Tabs w) (hb : Below w.heap.size w w') : Tabs w' := ⟨h.toTabsS.below hb, h.wide.below hb⟩

theorem bw_below (w : World) (e : TypeId) (s : ByteArray) : Below w.heap.size w (Lib.bytesWorld w e s) :=
  ⟨rfl, rfl, rfl, by rw [Lib.bytesWorld_size]; omega, fun j hj => Lib.bytesWorld_at_old w e s j hj⟩

theorem andNotTop (b : Nat) (h : b < 9223372036854775808) : Go.bits .andNot .u64 (b : Int) 9223372036854775808 = (b : Int) := by
  have e := u64_andNot_nat b 9223372036854775808 (by omega) (by omega)
  have e2 : b &&& (18446744073709551615 - 9223372036854775808) = b % 2 ^ 63 := Nat.and_two_pow_sub_one_eq_mod b 63
  rw [e2, Nat.mod_eq_of_lt (by rw [show (2 : Nat) ^ 63 = 9223372036854775808 from rfl]; exact h)] at e
  exact e

theorem Abs_pos (b : Nat) (w : World) (h : b < 9223372036854775808) : Calls Tryz.prog 106 #[.float .f64 b] w fun e w' => e = .returned (.float .f64 b) ∧ w = w' := by
  have e1 := Tryz.f64bits b
  have e2 := Tryz.f64from b
  have e3 := andNotTop b h
  go_enter Tryz.func106, Tryz.ntmps106
  go_wp2
  go_ret
  exact ⟨rfl, rfl⟩

set_option maxRecDepth 100000 in
set_option maxHeartbeats 1000000 in
theorem plain_one (b : Nat) (w : World) (h : b = 4591870180066957722 ∨ b = 4602678819172646912) : Calls Tryz.prog 104 #[.float .f64 b] w fun e w' => e = .returned (.string ⟨#[]⟩) ∧ w = w' := by
  have n1 : ∀ W : World, (Op.unary UnOp.neg (.float .f64 4591870180066957722)).run Tryz.prog W = .ok (.float .f64 13815242216921733530) W := fun W => by kernel_rfl
  have n2 : ∀ W : World, (Op.unary UnOp.neg (.float .f64 4602678819172646912)).run Tryz.prog W = .ok (.float .f64 13826050856027422720) W := fun W => by kernel_rfl
  rcases h with rfl | rfl
  all_goals
    have e1 := Tryz.f64bits
    go_enter Tryz.func104, Tryz.ntmps104
    go_wp2
    go_ret
    exact ⟨rfl, rfl⟩

/-! ### the texts of the library's calls -/
theorem t_cut (ch : UInt8) (h : ch = 49 ∨ ch = 53) : Lib.cut [ch, 101, 45, 48, 49] [101] = ([ch], [45, 48, 49], true) := by rcases h with rfl | rfl <;> decide
theorem t_atoi : Lib.atoi [45, 48, 49] = some (-1) := by decide
theorem t_trim (ch : UInt8) (h : ch = 49 ∨ ch = 53) : Lib.trimRightB [ch] 48 = [ch] := by rcases h with rfl | rfl <;> decide
theorem t_count (ch : UInt8) (h : ch = 49 ∨ ch = 53) : Lib.countB ⟨#[ch]⟩ ⟨#[46]⟩ = 0 := by rcases h with rfl | rfl <;> kernel_rfl

set_option maxRecDepth 100000 in
set_option maxHeartbeats 1000000 in
theorem laid_one (ch : UInt8) (w : World) : Calls Tryz.prog 110 #[.bool false, .string ⟨#[ch]⟩, .int .i64 (-1)] w fun e w' => e = .returned (.string ⟨#[48, 46, ch]⟩) ∧ Below w.heap.size w w' := by
  have hB := Below.refl w.heap.size w
  have HR := Lib.hid (fun W => Tryz.strings_Repeat_zero ⟨#[48]⟩ W)
  go_enter Tryz.func110, Tryz.ntmps110
  go_wp2_with (first | (go_at_call 86; refine (HR.out _).mono ?_; rintro e w1 ⟨rfl, rfl⟩))
  go_ret
  exact ⟨rfl, hB⟩

set_option maxRecDepth 100000 in
set_option maxHeartbeats 2000000 in
theorem shortest_one (b : Nat) (ch : UInt8) (w : World) (hb : b = 4591870180066957722 ∨ b = 4602678819172646912) (hch : ch = 49 ∨ ch = 53) (hT : TabsS w)
    (HF : Calls Tryz.prog 105 #[.float .f64 b, .int .u8 101, .int .i64 (-1), .int .i64 64] w fun ex w' =>
      ex = .returned (.string ⟨#[ch, 101, 45, 48, 49]⟩) ∧ Below w.heap.size w w') :
    Calls Tryz.prog 82 #[.float .f64 b, .int .i64 64] w fun e w' => e = .returned (.string ⟨#[48, 46, ch]⟩) ∧ Below w.heap.size w w' := by
  have HP := Lib.hid (plain_one b w hb)
  have HA := Lib.hid (Abs_pos b w (by rcases hb with rfl | rfl <;> decide))
  have HFF := Lib.hid HF
  have HTT := Lib.hid hT
  clear HF hT
  go_enter Tryz.func82, Tryz.ntmps82
  go_wp2_with (first
    | (go_at_call 104; refine HP.out.mono ?_; rintro e w1 ⟨rfl, rfl⟩)
    | (go_at_call 106; refine HA.out.mono ?_; rintro e w1 ⟨rfl, rfl⟩)
    | (go_at_call 105; refine HFF.out.mono ?_; rintro e w1 ⟨rfl, hb1⟩))
  have hT1 := HTT.out.below hb1
  obtain ⟨m, hm⟩ := hT1.mx
  have HC := Tryz.strings_Cut ⟨#[ch, 101, 45, 48, 49]⟩ ⟨#[101]⟩ m w1 (by simp [ByteArray.size]) hm
  rw [show (ByteArray.mk #[ch, 101, 45, 48, 49]).data.toList = [ch, 101, 45, 48, 49] from rfl, show (ByteArray.mk #[101]).data.toList = [101] from rfl, t_cut ch hch] at HC
  replace HC := Lib.hid HC
  go_wp2_with (first
    | (go_at_call 107; refine HC.out.mono ?_; rintro e w2 ⟨rfl, q, rfl⟩))
  have hb2 : Below w.heap.size w (w1.drewN q) := hb1.trans ⟨rfl, rfl, rfl, Nat.le_refl _, fun _ _ => rfl⟩
  generalize w1.drewN q = w2 at hb2 ⊢
  have HAT := Lib.hid (Tryz.strconv_Atoi ⟨#[45, 48, 49]⟩ (-1) (by simp [ByteArray.size]) t_atoi w2)
  go_wp2_with (first
    | (go_at_call 108; refine HAT.out.mono ?_; rintro e w3 ⟨rfl, t, rfl⟩))
  have hb3 := below_then hb2 hb2.size (bw_below w2 5 t)
  generalize Lib.bytesWorld w2 5 t = w3 at hb3 ⊢
  obtain ⟨m2, hm2⟩ := (HTT.out.below hb3).mx
  have HRP := Lib.hid (Tryz.strings_Replace_absent ⟨#[ch]⟩ ⟨#[46]⟩ ⟨#[]⟩ 1 m2 w3 (by simp [ByteArray.size]) hm2 (by simp [ByteArray.size]) (by simp) (by omega) (t_count ch hch))
  have HTR := Tryz.strings_TrimRight_one ⟨#[ch]⟩ 48 (by decide) w3 (by simp [ByteArray.size])
  rw [show (ByteArray.mk #[ch]).data.toList = [ch] from rfl, t_trim ch hch] at HTR
  replace HTR := Lib.hid HTR
  have HL := Lib.hid (laid_one ch w3)
  clear hm hm2 hT1
  clear HAT HP HA HFF HC hb1 hb2
  rcases hb with rfl | rfl
  all_goals
    go_wp2_with (first
      | (go_at_call 109; refine HRP.out.mono ?_; rintro e w4 ⟨rfl, rfl⟩)
      | (go_at_call 85; refine HTR.out.mono ?_; rintro e w4 ⟨rfl, rfl⟩)
      | (go_at_call 110; refine HL.out.mono ?_; rintro e w4 ⟨rfl, hb4⟩))
    go_ret
    exact ⟨rfl, below_then hb3 hb3.size hb4⟩

end Go.Proofs.YtekcpapkicmckaaGreatDoor
