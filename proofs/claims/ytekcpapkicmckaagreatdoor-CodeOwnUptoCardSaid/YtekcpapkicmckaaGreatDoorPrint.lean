/- limbs.Print: a natural's decimal digits. -/
import Derived.Test.YtekcpapkicmckaaGreatDoorRead
import Derived.Test.YtekcpapkicmckaaGreatDoorShelf
import Derived.Test.YtekcpapkicmckaaGreatDoorLng
import Derived.Deep.QuietTactic
import Derived.Laws.Runes
namespace Go.Proofs.YtekcpapkicmckaaGreatDoor
open Go.RowKit

theorem Tryz.under_ss : Tryz.prog.underlying 22 = some (.slice 9) := Tryz.underlying22
theorem Tryz.info_str : (Tryz.prog.info? 9).map (fun i => (i.zero, i.size, i.bytes)) = some (some (.string ⟨#[]⟩), 1, 16) := by kernel_rfl

/-- rows of two kinds are two rows -/
theorem Mine.apart {T1 T2 : TypeId} {w : World} {b1 b2 : Nat} {A1 A2 : Option Addr} {n1 c1 n2 c2 : Nat} {v1 v2 : List Value} (h1 : Mine T1 w b1 A1 n1 c1 v1) (h2 : Mine T2 w b2 A2 n2 c2 v2) (hT : T1 ≠ T2) : blockOf A1 = none ∨ blockOf A1 ≠ blockOf A2 := by
  rcases h1.row with ⟨rfl, _⟩ | ⟨g, r, rfl, _, hg, _⟩
  · exact .inl rfl
  · rcases h2.row with ⟨rfl, _⟩ | ⟨g2, r2, rfl, _, hg2, _⟩
    · exact .inr (by simp [blockOf])
    · refine .inr (fun e => ?_)
      simp only [blockOf, Option.some.injEq] at e
      subst e
      rw [hg] at hg2
      simp only [Option.some.injEq, Obj.cells.injEq] at hg2
      exact hT hg2.2.1

theorem print_step {r x q D V : Nat} (h : V = q * D + r) : x + 4294967296 * V = ((4294967296 * r + x) / D + 4294967296 * q) * D + (4294967296 * r + x) % D := by
  have h1 := Nat.div_add_mod (4294967296 * r + x) D
  rw [h, Nat.add_mul, Nat.mul_comm (_ / D) D]
  have e : 4294967296 * (q * D + r) = 4294967296 * q * D + 4294967296 * r := by rw [Nat.mul_add, Nat.mul_assoc]
  omega

theorem drop_set_val {os : List Nat} {i v : Nat} (h : i < os.length) : val ((os.set i v).drop i) = v + 4294967296 * val (os.drop (i + 1)) := by
  rw [drop_nth (by rw [List.length_set]; exact h), nth_set_eq h, val_cons, List.drop_set, if_pos (by omega)]

theorem size_data (s : ByteArray) : s.data.toList.length = s.size := by simp
theorem data_append (s t : ByteArray) : (s ++ t).data.toList = s.data.toList ++ t.data.toList := by simp

theorem encode_digit (z : Int) (k : Nat) (hz : z = 48 + (k : Int)) (hk : k < 10) : (Utf8.encode z).data.toList = [UInt8.ofNat (48 + k)] := by
  subst hz
  have h : k = 0 ∨ k = 1 ∨ k = 2 ∨ k = 3 ∨ k = 4 ∨ k = 5 ∨ k = 6 ∨ k = 7 ∨ k = 8 ∨ k = 9 := by omega
  rcases h with rfl | rfl | rfl | rfl | rfl | rfl | rfl | rfl | rfl | rfl <;> rfl

theorem flat_drop (gs : List ByteArray) (k : Nat) : (gs.reverse.map (·.data.toList)).flatten = ((gs.drop k).reverse.map (·.data.toList)).flatten ++ ((gs.take k).reverse.map (·.data.toList)).flatten := by
  conv => lhs; rw [← List.take_append_drop k gs, List.reverse_append, List.map_append, List.flatten_append]
theorem flat_step (gs : List ByteArray) (k : Nat) (h : k < gs.length) : ((gs.drop k).reverse.map (·.data.toList)).flatten = ((gs.drop (k + 1)).reverse.map (·.data.toList)).flatten ++ gs[k].data.toList := by
  rw [List.drop_eq_getElem_cons h, List.reverse_cons, List.map_append, List.flatten_append]
  simp

/-- a builder takes a text -/
theorem WriteString_k (B b : Nat) (bs : List UInt8) (s : ByteArray) (w : World) (h : Lib.IsBuilderF 142 5 B b (Lib.byteCells bs) w) (hlen : bs.length + s.size ≤ 140737488355328) (hBw : B ≤ w.heap.size) :
    Calls Tryz.prog 88 #[.pointer (some ⟨b, 0, none⟩), .string s] w fun e w' => e = .returned (.tuple #[.int .i64 s.size, .nilIface]) ∧ Lib.IsBuilderF 142 5 B b (Lib.byteCells (bs ++ s.data.toList)) w' ∧ Below B w w' := by
  refine (Any.Builder_WriteString_k (ρ := Tryz.lays105_ren) { Tryz.lays105 with } Tryz.Builder_Extra_105 B b (Lib.byteCells bs) s w h (by rw [Lib.byteCells_length]; exact hlen) hBw).mono ?_
  rintro e w' ⟨he, h1, h2, _⟩
  refine ⟨he, .inr ?_, h2⟩
  rw [Lib.byteCells_append, ← Lib.strCells_eq]
  exact h1

theorem group_bound {N n m : Nat} (hN : N < 4294967296 ^ n) (h : N / 10 ^ (9 * m) ≠ 0) : 9 * m < 32 * n := by
  apply Nat.lt_of_not_le
  intro hle
  apply h
  apply Nat.div_eq_of_lt
  refine Nat.lt_of_lt_of_le hN ?_
  rw [pow_limC]
  exact Nat.le_trans (Nat.pow_le_pow_right (by omega) hle) (Nat.pow_le_pow_left (by omega) _)

set_option maxRecDepth 100000 in
set_option maxHeartbeats 4000000 in
theorem Print_zero (A : Option Addr) (n c : Nat) (xs : List Nat) (w : World) (hx : Num w A n c xs) (hn : n ≤ 1099511627776) (h0 : val xs = 0) :
    Calls Tryz.prog 80 #[.slice A n c] w fun e w' => e = .returned (.string ⟨#[48]⟩) ∧ Below w.heap.size w w' := by
  have HN := Norm_any A n c xs w hx (by omega)
  rw [h0, limbs_zero] at HN
  replace HN := Lib.hid HN
  go_enter Tryz.func80, Tryz.ntmps80
  go_wp2_with fail
  refine HN.out.mono ?_; rintro e w1 ⟨A1, c1, rfl, h1, hb1⟩
  go_wp2
  go_ret
  exact ⟨rfl, hb1⟩

set_option maxRecDepth 100000 in
set_option maxHeartbeats 4000000 in
theorem Print_some (A : Option Addr) (n c : Nat) (xs : List Nat) (w : World) (hx : Num w A n c xs) (hn : n ≤ 1099511627776) (h0 : val xs ≠ 0) :
    Calls Tryz.prog 80 #[.slice A n c] w fun e w' => e = .returned (.string ⟨(Lib.decDigits (val xs)).toArray⟩) ∧ Below w.heap.size w w' := by
  have HN := Lib.hid (Norm_any A n c xs w hx (by omega))
  have hbd := val_lt hx.lim
  rw [hx.len] at hbd
  have HBD := Lib.hid hbd
  clear hbd
  generalize hN : val xs = N at HN HBD h0 ⊢
  clear hN
  have HH := Lib.hid h0
  obtain ⟨L0, hL0⟩ : ∃ L0, (limbs N).length = L0 := ⟨_, rfl⟩
  rw [hL0] at HN
  have hlz : ((L0 : Int) == 0) = false := by
    have : L0 ≠ 0 := by rw [← hL0]; exact fun e => h0 (limbs_length_zero.1 e)
    simpa using this
  have HL0 := Lib.hid hL0
  clear h0 hL0
  go_enter Tryz.func80, Tryz.ntmps80
  go_wp2_with fail
  refine HN.out.mono ?_; rintro e w1 ⟨A1, c1, rfl, h1, hb1⟩
  go_wp2
  go_loopg [0, 3] N (fun V ax px wr => ∃ (m c p pc : Nat) (A P : Option Addr) (gs : List ByteArray), ax = .slice A (limbs V).length c ∧ px = .slice P p pc ∧ Hid (N / 10 ^ (9 * m) = V) ∧ Hid (p = m) ∧
      Own wr w.heap.size A (limbs V).length c (limbs V) ∧ Mine 9 wr w.heap.size P p pc (gs.map fun t => .string t) ∧ Below w.heap.size w wr ∧ 9 * m < 32 * n + 9 ∧
      Hid ((gs.reverse.map (·.data.toList)).flatten = padD (9 * m) N))
  case atStart => exact ⟨0, c1, 0, 0, A1, none, [], by rw [HL0.out], rfl, Lib.hid (by simp), Lib.hid rfl, by rw [HL0.out]; exact h1, Mine.nil _ _ _, hb1, by omega, Lib.hid rfl⟩
  case round =>
    obtain ⟨m, c, p, pc, A, P, gs, rfl, rfl, HV, HM, ho, hp, hb, hmb, HG⟩ := hrel
    obtain ⟨L, hL⟩ : ∃ L, (limbs gk).length = L := ⟨_, rfl⟩
    rw [hL] at ho ⊢
    have HL := Lib.hid hL
    clear hL
    by_cases hz : L = 0
    · subst hz
      have hgk : gk = 0 := limbs_length_zero.1 HL.out
      have hm0 : m ≠ 0 := fun e => HH.out (by rw [← hgk, ← HV.out, e]; simp)
      have HNB : Hid (N < 10 ^ (9 * m)) := Lib.hid (by
        have h1 := HV.out
        rw [hgk] at h1
        exact Nat.lt_of_div_eq_zero (Nat.pow_pos (by omega)) h1)
      obtain rfl : p = m := HM.out
      have hgl : gs.length = p := by have := hp.len; rwa [List.length_map] at this
      have hgt := HG.out
      have HGL := Lib.hid hgl
      have hsl := hp.sl.big
      clear hgk hgl hgt
      have hB0 := hb.alloc hb.size (.cells #[.pointer none, .slice none 0 0] 142)
      have hI0 := Lib.IsBuilderF.of (Lib.fresh_isBuilder 142 5 wr)
      have hp0 := hp.below ((Below.refl wr.heap.size wr).alloc (Nat.le_refl _) (.cells #[.pointer none, .slice none 0 0] 142))
      have hlt0 : Hid (∀ q, blockOf P = some q → q < wr.heap.size) := Lib.hid (fun q hq => (hp.lt q hq).2)
      have hsz0 : wr.heap.size ≤ (wr.alloc (.cells #[.pointer none, .slice none 0 0] 142)).heap.size := by simp
      go_wp2
      obtain ⟨Bb, hBb⟩ : ∃ Bb, wr.heap.size = Bb := ⟨_, rfl⟩
      have hwb := hb.size
      rw [hBb] at hI0 hlt0 hsz0 hwb ⊢
      generalize wr.alloc (.cells #[.pointer none, .slice none 0 0] 142) = w0 at hB0 hI0 hp0 hsz0 ⊢
      clear hBb hb hp
      have hz1 : (p : Int) - 1 < 9223372036854775807 := by omega
      go_loopw [8] (fun ix wr => ∃ (k : Nat) (z : Int) (acc : List UInt8), k ≤ p ∧ ix = .int .i64 z ∧ Hid (z = (k : Int) - 1) ∧ Lib.IsBuilderF 142 5 Bb Bb (Lib.byteCells acc) wr ∧ Below Bb w0 wr ∧ Bb ≤ wr.heap.size ∧
        Hid (acc = ((gs.drop k).reverse.map (·.data.toList)).flatten)) (fun ix _ => (intOf ix + 1).toNat)
      case atStart => exact ⟨p, (p : Int) - 1, [], Nat.le_refl _, rfl, Lib.hid rfl, hI0, Below.refl _ _, hsz0, Lib.hid (by rw [List.drop_of_length_le (by rw [HGL.out]; omega)]; rfl)⟩
      case round =>
        obtain ⟨k, z, acc, hk, rfl, HZ, hI, hbw, hbs, HACC⟩ := hrel
        clear hI0
        by_cases hk0 : k = 0
        · subst hk0
          obtain rfl : z = -1 := by have := HZ.out; omega
          have hacc : acc = padD (9 * p) N := by rw [HACC.out, List.drop_zero, HG.out]
          have hS := Tryz.Builder_String_any_k Bb Bb acc wr hI hbs
          have HS := Lib.hid hS
          clear hS
          go_wp2_with fail
          refine HS.out.mono ?_; rintro e w3 ⟨rfl, -, hb3, -⟩
          have HTL := Tryz.strings_TrimLeft_one ⟨acc.toArray⟩ 48 (by decide) w3
          rw [show (ByteArray.mk acc.toArray).data.toList = acc from rfl, hacc, trim_pad _ _ HH.out HNB.out] at HTL
          rw [← hacc] at HTL
          replace HTL := Lib.hid HTL
          clear hacc
          go_wp2_with fail
          refine HTL.out.mono ?_; rintro e w4 ⟨rfl, rfl⟩
          go_wp2
          go_ret
          exact ⟨rfl, (hB0.trans (hbw.mono hwb)).trans (hb3.mono hwb)⟩
        · obtain ⟨j, rfl⟩ : ∃ j, k = j + 1 := ⟨k - 1, by omega⟩
          obtain rfl : z = (j : Int) := by have := HZ.out; omega
          have hjl : j < gs.length := by rw [HGL.out]; omega
          obtain ⟨g, hPg⟩ : ∃ g, P = some ⟨g, 0, none⟩ := by
            rcases hp0.row with ⟨_, h2, _⟩ | ⟨g, rest, h2, _⟩
            · omega
            · exact ⟨g, h2⟩
          subst hPg
          have hgB := hlt0.out g rfl
          have hc0 := hp0.cell j (by omega)
          rw [List.getD_eq_getElem?_getD, List.getElem?_map, List.getElem?_eq_getElem hjl] at hc0
          have hc1 : wr.cell? ⟨g, j, none⟩ = some (.string gs[j]) := (hbw.cell (p := ⟨g, j, none⟩) hgB).trans hc0
          have HST := Lib.hid (flat_step gs j hjl)
          have hlen : acc.length + gs[j].size ≤ 140737488355328 := by
            have h1 := congrArg List.length (flat_drop gs j)
            rw [HG.out, padD_length, flat_step gs j hjl, List.length_append, List.length_append, ← HACC.out, size_data] at h1
            omega
          have HW := Lib.hid (WriteString_k Bb Bb acc gs[j] wr hI hlen hbs)
          have HA2 := Lib.hid (show acc ++ gs[j].data.toList = ((gs.drop j).reverse.map (·.data.toList)).flatten by rw [HST.out, HACC.out])
          clear hc0 hlen HST
          generalize gs[j] = t at hc1 HW HA2
          go_wp2_with fail
          refine HW.out.mono ?_; rintro e w3 ⟨rfl, hI3, hb3⟩
          have hbs3 : Bb ≤ w3.heap.size := by have := hb3.size; omega
          go_wp2
          go_roundw
          case rel => exact ⟨j, (j : Int) - 1, _, by omega, by go_num, Lib.hid rfl, hI3, hbw.trans hb3, hbs3, HA2⟩
          case measure => simp [intOf]
    · have hpos : 0 < L := by omega
      have hposZ : (0 : Int) < (L : Int) := by omega
      have hLb := ho.mine.big
      have hV0 : gk ≠ 0 := fun e => hz (by rw [← HL.out, e, limbs_zero]; rfl)
      have hmn := group_bound HBD.out (m := m) (by rw [HV.out]; exact hV0)
      obtain ⟨g, rfl, hg1, hg2⟩ := ho.some_of hpos
      have hap := Mine.apart hp ho.mine (by decide)
      obtain ⟨X, hX⟩ : ∃ X, limbs gk = X := ⟨_, rfl⟩
      rw [hX] at ho HL
      have HX := Lib.hid hX
      have HXL : Hid (Lim X) := Lib.hid (by rw [← hX]; exact limbs_lim gk)
      have HXV : Hid (val X = gk) := Lib.hid (by rw [← hX]; exact val_limbs gk)
      have HAP := Lib.hid hap
      have HV0 := Lib.hid hV0
      clear hX hV0 hap
      go_wp2
      go_loopw [4, 5] (fun rx ix wi => ∃ (i r : Nat) (z : Int) (os : List Nat), i ≤ L ∧ ix = .int .i64 z ∧ Hid (z = (i : Int) - 1) ∧ rx = .int .u64 r ∧ r < 1000000000 ∧ Own wi w.heap.size (some ⟨g, 0, none⟩) L c os ∧
        Mine 9 wi w.heap.size P p pc (gs.map fun t => .string t) ∧ Below w.heap.size w wi ∧ Hid (val (X.drop i) = val (os.drop i) * 1000000000 + r) ∧ Hid (∀ j, j < i → nth os j = nth X j)) (fun _ ix _ => (intOf ix + 1).toNat)
      case atStart => exact ⟨L, 0, (L : Int) - 1, X, Nat.le_refl _, by go_num, Lib.hid rfl, rfl, by omega, ho, hp, hb, Lib.hid (by rw [List.drop_of_length_le (by rw [HL.out]; omega)]; simp [val]), Lib.hid (fun j _ => rfl)⟩
      case round =>
        obtain ⟨i, r, z, os, hi, rfl, HZ, rfl, hr, ho2, hp2, hb2, HE, HA⟩ := hrel
        clear ho hp hb
        by_cases hi0 : i = 0
        · subst hi0
          obtain rfl : z = -1 := by have := HZ.out; omega
          have hE := HE.out
          rw [List.drop_zero, List.drop_zero, HXV.out] at hE
          obtain ⟨d1, d2⟩ : val os = gk / 1000000000 ∧ r = gk % 1000000000 := by omega
          have hv : val os = N / 10 ^ (9 * (m + 1)) := by
            rw [d1, ← HV.out, Nat.div_div_eq_div_mul, show 9 * (m + 1) = 9 * m + 9 by omega, Nat.pow_add]
          have HR := Lib.hid d2
          have HT := trim_any _ _ _ _ wr ho2.num
          have h3 := ho2.trim
          rw [hv] at HT h3
          replace HT := Lib.hid HT
          have hlt : gk / 1000000000 < gk := Nat.div_lt_self (Nat.pos_of_ne_zero HV0.out) (by omega)
          have HV2 : Hid (N / 10 ^ (9 * (m + 1)) = gk / 1000000000) := Lib.hid (by rw [← hv, d1])
          obtain ⟨V2, hV2⟩ : ∃ V2, gk / 1000000000 = V2 := ⟨_, rfl⟩
          rw [hV2] at HV2
          rw [← hv, d1, hV2] at HT h3
          rw [hV2] at hlt
          clear hE d1 d2 hv HE HA ho2 hV2
          go_wp2_with fail
          refine HT.out.mono ?_; rintro e w2 ⟨rfl, rfl⟩
          go_wp2
          go_loop [4, 6, 42] (fun rx dx ix => ∃ (i r1 : Nat) (t : ByteArray), i ≤ 9 ∧ ix = .int .i64 i ∧ rx = .int .u64 r1 ∧ dx = .string t ∧ r1 < 1000000000 ∧ Hid (r1 = r / 10 ^ i) ∧ Hid (t.data.toList = padD i r)) (fun _ _ ix => 9 - (intOf ix).toNat)
          case atStart => exact ⟨0, r, ⟨#[]⟩, by omega, rfl, rfl, rfl, hr, Lib.hid (by simp), Lib.hid rfl⟩
          case round =>
            obtain ⟨i, r1, t, hi, rfl, rfl, rfl, hr1, HR1, HT1⟩ := hrel
            by_cases h9 : i < 9
            · have h9' : (i : Int) < 9 := by omega
              have u1 : IntKind.i32.wrap (48 + (r1 : Int) % 10) = 48 + (r1 : Int) % 10 := IntWalk.i32_in _ ⟨by omega, by omega⟩
              have hed := encode_digit (48 + (r1 : Int) % 10) (r1 % 10) (by omega) (Nat.mod_lt _ (by omega))
              have HED := Lib.hid hed
              have hsz : (Utf8.encode (48 + (r1 : Int) % 10)).size + t.size ≤ 9223372036854775807 := by
                have e1 : (Utf8.encode (48 + (r1 : Int) % 10)).size = 1 := by rw [← size_data, hed]; rfl
                have e2 : t.size = i := by rw [← size_data, HT1.out, padD_length]
                omega
              clear hed
              go_wp2
              go_round
              case rel => exact ⟨i + 1, r1 / 10, _, h9, by go_num, by go_num, rfl, by omega, Lib.hid (by rw [HR1.out, Nat.pow_succ, Nat.div_div_eq_div_mul]), Lib.hid (by rw [data_append, HED.out, HT1.out, padD_front, HR1.out]; rfl)⟩
              case measure => simp [intOf]; omega
            · obtain rfl : i = 9 := by omega
              have hts : t.size = 9 := by rw [← size_data, HT1.out, padD_length]
              have hpb : (p + 1) * 16 ≤ 140737488355328 := by rw [HM.out]; omega
              have hbs := hb2.size
              have ha3 := Mine.apart h3.mine hp2 (by decide)
              have HAP3 := Lib.hid ha3
              have HG2 := Lib.hid (show (((gs ++ [t]).reverse.map (·.data.toList)).flatten) = padD (9 * (m + 1)) N by
                rw [List.reverse_append, List.map_append, List.flatten_append, HG.out]
                simp only [List.reverse_singleton, List.map_cons, List.map_nil, List.flatten_cons, List.flatten_nil, List.append_nil]
                rw [HT1.out, show 9 * (m + 1) = 9 + 9 * m by omega, padD_add, HV.out, HR.out, show (1000000000 : Nat) = 10 ^ 9 from rfl, padD_mod])
              clear ha3
              go_wp2_with (at_builtin; refine app_one w.heap.size rfl _ _ _ _ (.string ⟨#[]⟩) 16 rfl Tryz.under_ss Tryz.info_str rfl (by omega) P _ _ _ (.string t) rfl rfl rfl hp2 hbs hpb ?_; intro A' c2 w2 hm2 hg2 _)
              have h4 := h3.kept hg2 HAP3.out
              have hb4 := below_grown hb2 hbs hg2 (fun q hq => (hp2.lt q hq).1)
              have hm3 : Mine 9 w2 w.heap.size A' (p + 1) c2 ((gs ++ [t]).map fun t => .string t) := by rw [List.map_append]; exact hm2
              have HM2 := Lib.hid (show p + 1 = m + 1 by rw [HM.out])
              clear hm2 hpb
              go_wp2
              go_roundg V2
              case measure => exact hlt
              case rel => exact ⟨m + 1, _, p + 1, c2, _, A', gs ++ [t], rfl, rfl, HV2, HM2, h4, hm3, hb4, by omega, HG2⟩
        · obtain ⟨j, rfl⟩ : ∃ j, i = j + 1 := ⟨i - 1, by omega⟩
          obtain rfl : z = (j : Int) := by have := HZ.out; omega
          have hcx := ho2.cell j (by omega)
          have hfx := ho2.free j
          have hxb := nth_lt ho2.lim j
          have hor := or_join32 r (nth os j) (by omega) hxb
          obtain ⟨x, hx2⟩ : ∃ x, nth os j = x := ⟨_, rfl⟩
          rw [hx2] at hcx hxb hor
          obtain ⟨sm, hsm⟩ : ∃ s, r * 4294967296 + x = s := ⟨_, rfl⟩
          rw [hsm] at hor
          have hdgb : sm / 1000000000 < 4294967296 := by omega
          have e1 : (sm : Int) / 1000000000 = ((sm / 1000000000 : Nat) : Int) := by omega
          have e2 : (sm : Int) % 1000000000 = ((sm % 1000000000 : Nat) : Int) := by omega
          have hrr : sm % 1000000000 < 1000000000 := Nat.mod_lt _ (by omega)
          have HE2 := Lib.hid (show val (X.drop j) = val ((os.set j (sm / 1000000000)).drop j) * 1000000000 + sm % 1000000000 by
            rw [drop_nth (by rw [HL.out]; omega), val_cons, drop_set_val (by rw [ho2.len]; omega), ← HA.out j (by omega), hx2, ← hsm, Nat.mul_comm r]
            exact print_step HE.out)
          have HA2 : Hid (∀ k, k < j → nth (os.set j (sm / 1000000000)) k = nth X k) := Lib.hid (fun k hk => by rw [nth_set_ne (by omega)]; exact HA.out k (by omega))
          have hsb : sm < 18446744073709551616 := by omega
          generalize sm / 1000000000 = dg at e1 hdgb HE2 HA2
          generalize sm % 1000000000 = rr at e2 hrr HE2
          have hA := ho2.stored j dg (by omega) hdgb
          have hB := hb2.setCell (p := ⟨g, j, none⟩) hg1 (.int .u32 (dg : Nat))
          have hP := hp2.kept (setCell_grownBy wr g j (.int .u32 (dg : Nat))) HAP.out
          have HSB := Lib.hid hsb
          have HSM := Lib.hid hsm
          clear hx2 hsm hsb HE HA
          go_wp2

          go_roundw
          case rel => exact ⟨j, rr, (j : Int) - 1, _, by omega, by go_num, Lib.hid rfl, by first | rfl | rw [e2], hrr, hA, hP, hB, HE2, HA2⟩
          case measure => simp [intOf]

theorem Print_any (A : Option Addr) (n c : Nat) (xs : List Nat) (w : World) (hx : Num w A n c xs) (hn : n ≤ 1099511627776) :
    Calls Tryz.prog 80 #[.slice A n c] w fun e w' => e = .returned (.string ⟨(Lib.decDigits (val xs)).toArray⟩) ∧ Below w.heap.size w w' := by
  by_cases h0 : val xs = 0
  · have := Print_zero A n c xs w hx hn h0
    rw [h0, show (Lib.decDigits 0).toArray = #[48] by kernel_rfl]
    exact this
  · exact Print_some A n c xs w hx hn h0

end Go.Proofs.YtekcpapkicmckaaGreatDoor
