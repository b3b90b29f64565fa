/- limbs.long: the loop that takes the divisor times the estimate off. -/
import Derived.Test.YtbcpfdeklglknaaGreatDoorLongP
namespace Go.Proofs.YtbcpfdeklglknaaGreatDoor
open Go.RowKit

set_option maxHeartbeats 4000000 in
set_option maxRecDepth 100000 in
theorem long_mulsub (gu n J cu bv ov cv base j g : Nat) (U' V Qs : List Nat) (w w5 : World) (c2 c3 c4 c7 c8 c10 c12 c15 c16 c17 c18 c19 c20 c21 c22 c23 c24 c25 c26 c27 c28 c29 c30 c31 c32 c33 c34 c35 c36 c37 c38 c39 c40 c41 c42 c43 c44 c45 c46 c47 c48 c49 c50 c51 c52 c53 c54 c55 c56 c57 c58 c59 c60 c61 c62 c63 c64 c65 c66 c67 c68 c69 c70 c71 c72 c73 c74 c75 c76 c77 c78 c79 c80 c81 c82 c83 c84 c85 c86 c87 c88 c89 c90 c91 c92 c93 c96 c97 c98 c99 c100 c101 c102 c103 c104 c105 c106 c107 c108 c109 c110 c111 c112 c113 c114 c115 c116 c117 c118 c119 c120 c121 c122 c123 c124 c125 c126 c127 c128 c129 c130 c131 c132 c133 c134 c135 c136 c137 c138 c139 c140 c141 c142 c143 c144 c145 c146 c147 c148 c149 c150 c151 c152 c153 c154 c155 c156 c157 c158 c159 c160 c161 c162 c163 c164 c165 c166 c167 c168 c169 c170 c171 c172 c173 c174 c175 c176 c177 c178 c179 c180 c181 c182 c183 c184 c185 c186 c187 c188 c189 c190 c191 c192 c193 : Value)
    (hu5 : Own w5 base (some ⟨gu, 0, none⟩) (n + J + 1) cu U') (hq5 : Own w5 w.heap.size (some ⟨w.heap.size, 0, none⟩) (J + 1) (J + 1) Qs) (hg5 : w.grownBy w5 (some gu)) (hgu : gu < w.heap.size)
    (hvlim : Lim V) (hvc : ∀ j, j < n → w.cell? ⟨bv, ov + j, none⟩ = some (.int .u32 (nth V j : Nat))) (hne : bv ≠ gu) (hn2 : 2 ≤ n) (hk : j + 1 ≤ J + 1) (hsz : n + J + 1 ≤ 35184372088832) (hgb : g < 4294967296) :
    Code.wp Tryz.prog (Code.loop (Tryz.longLoop 2)) (LoopEnds 5 (fun a w' => ∃ (cr bo : Nat) (U2 : List Nat) (u15 u96 u97 u98 u99 u100 u101 u102 u103 u104 u105 u106 u107 u108 u109 u110 u111 u112 u113 u114 u115 u116 u117 u118 u119 u120 u121 u122 u123 u124 u125 u126 u127 : Value), a = ⟨List.toArray (.slice (some ⟨gu, 0, none⟩) (n + J + 1) cu :: .slice (some ⟨bv, ov, none⟩) n cv :: c2 :: c3 :: c4 :: .int .i64 (n : Int) :: .slice (some ⟨w.heap.size, 0, none⟩) (J + 1) (J + 1) :: c7 :: c8 :: .int .i64 (j : Int) :: c10 :: .int .u64 (g : Int) :: c12 :: .int .u64 (cr : Int) :: .int .u32 (bo : Int) :: u15 :: c16 :: c17 :: c18 :: c19 :: c20 :: c21 :: c22 :: c23 :: c24 :: c25 :: c26 :: c27 :: c28 :: c29 :: c30 :: c31 :: c32 :: c33 :: c34 :: c35 :: c36 :: c37 :: c38 :: c39 :: c40 :: c41 :: c42 :: c43 :: c44 :: c45 :: c46 :: c47 :: c48 :: c49 :: c50 :: c51 :: c52 :: c53 :: c54 :: c55 :: c56 :: c57 :: c58 :: c59 :: c60 :: c61 :: c62 :: c63 :: c64 :: c65 :: c66 :: c67 :: c68 :: c69 :: c70 :: c71 :: c72 :: c73 :: c74 :: c75 :: c76 :: c77 :: c78 :: c79 :: c80 :: c81 :: c82 :: c83 :: c84 :: c85 :: c86 :: c87 :: c88 :: c89 :: c90 :: c91 :: c92 :: c93 :: .int .i64 (n : Int) :: .int .i64 (n : Int) :: u96 :: u97 :: u98 :: u99 :: u100 :: u101 :: u102 :: u103 :: u104 :: u105 :: u106 :: u107 :: u108 :: u109 :: u110 :: u111 :: u112 :: u113 :: u114 :: u115 :: u116 :: u117 :: u118 :: u119 :: u120 :: u121 :: u122 :: u123 :: u124 :: u125 :: u126 :: u127 :: c128 :: c129 :: c130 :: c131 :: c132 :: c133 :: c134 :: c135 :: c136 :: c137 :: c138 :: c139 :: c140 :: c141 :: c142 :: c143 :: c144 :: c145 :: c146 :: c147 :: c148 :: c149 :: c150 :: c151 :: c152 :: c153 :: c154 :: c155 :: c156 :: c157 :: c158 :: c159 :: c160 :: c161 :: c162 :: c163 :: c164 :: c165 :: c166 :: c167 :: c168 :: c169 :: c170 :: c171 :: c172 :: c173 :: c174 :: c175 :: c176 :: c177 :: c178 :: c179 :: c180 :: c181 :: c182 :: c183 :: c184 :: c185 :: c186 :: c187 :: c188 :: c189 :: c190 :: c191 :: c192 :: c193 :: []), []⟩ ∧ cr < 4294967296 ∧ bo ≤ 1 ∧ Own w' base (some ⟨gu, 0, none⟩) (n + J + 1) cu U2 ∧ Own w' w.heap.size (some ⟨w.heap.size, 0, none⟩) (J + 1) (J + 1) Qs ∧ w.grownBy w' (some gu) ∧
      Hid ((∀ t, t < j ∨ j + n ≤ t → nth U2 t = nth U' t) ∧ win U2 j n + g * win V 0 n = win U' j n + (cr + bo) * 4294967296 ^ n))) ⟨List.toArray (.slice (some ⟨gu, 0, none⟩) (n + J + 1) cu :: .slice (some ⟨bv, ov, none⟩) n cv :: c2 :: c3 :: c4 :: .int .i64 (n : Int) :: .slice (some ⟨w.heap.size, 0, none⟩) (J + 1) (J + 1) :: c7 :: c8 :: .int .i64 (j : Int) :: c10 :: .int .u64 (g : Int) :: c12 :: .int .u64 0 :: .int .u32 0 :: c15 :: c16 :: c17 :: c18 :: c19 :: c20 :: c21 :: c22 :: c23 :: c24 :: c25 :: c26 :: c27 :: c28 :: c29 :: c30 :: c31 :: c32 :: c33 :: c34 :: c35 :: c36 :: c37 :: c38 :: c39 :: c40 :: c41 :: c42 :: c43 :: c44 :: c45 :: c46 :: c47 :: c48 :: c49 :: c50 :: c51 :: c52 :: c53 :: c54 :: c55 :: c56 :: c57 :: c58 :: c59 :: c60 :: c61 :: c62 :: c63 :: c64 :: c65 :: c66 :: c67 :: c68 :: c69 :: c70 :: c71 :: c72 :: c73 :: c74 :: c75 :: c76 :: c77 :: c78 :: c79 :: c80 :: c81 :: c82 :: c83 :: c84 :: c85 :: c86 :: c87 :: c88 :: c89 :: c90 :: c91 :: c92 :: c93 :: .int .i64 (n : Int) :: .int .i64 0 :: c96 :: c97 :: c98 :: c99 :: c100 :: c101 :: c102 :: c103 :: c104 :: c105 :: c106 :: c107 :: c108 :: c109 :: c110 :: c111 :: c112 :: c113 :: c114 :: c115 :: c116 :: c117 :: c118 :: c119 :: c120 :: c121 :: c122 :: c123 :: c124 :: c125 :: c126 :: c127 :: c128 :: c129 :: c130 :: c131 :: c132 :: c133 :: c134 :: c135 :: c136 :: c137 :: c138 :: c139 :: c140 :: c141 :: c142 :: c143 :: c144 :: c145 :: c146 :: c147 :: c148 :: c149 :: c150 :: c151 :: c152 :: c153 :: c154 :: c155 :: c156 :: c157 :: c158 :: c159 :: c160 :: c161 :: c162 :: c163 :: c164 :: c165 :: c166 :: c167 :: c168 :: c169 :: c170 :: c171 :: c172 :: c173 :: c174 :: c175 :: c176 :: c177 :: c178 :: c179 :: c180 :: c181 :: c182 :: c183 :: c184 :: c185 :: c186 :: c187 :: c188 :: c189 :: c190 :: c191 :: c192 :: c193 :: []), []⟩ w5 := by
  conv => arg 2; arg 1; whnf
  go_loopg [13, 14, 95] n (fun k cv bv' iv wr => ∃ (i cr bo : Nat) (U2 : List Nat), i + k = n ∧ iv = .int .i64 i ∧ cv = .int .u64 cr ∧ bv' = .int .u32 bo ∧ cr < 4294967296 ∧ bo ≤ 1 ∧
    Own wr base (some ⟨gu, 0, none⟩) (n + J + 1) cu U2 ∧ Own wr w.heap.size (some ⟨w.heap.size, 0, none⟩) (J + 1) (J + 1) Qs ∧ w.grownBy wr (some gu) ∧
    Hid ((∀ t, t < j ∨ j + i ≤ t → nth U2 t = nth U' t) ∧ win U2 j i + g * win V 0 i = win U' j i + (cr + bo) * 4294967296 ^ i))
  case atStart => exact ⟨0, 0, 0, U', by omega, rfl, rfl, rfl, by omega, by omega, hu5, hq5, hg5, Lib.hid ⟨fun _ _ => rfl, by simp [win_zero]⟩⟩
  case round =>
    obtain ⟨i, cr, bo, U2, hik, rfl, rfl, rfl, hcr, hbo, hu6, hq6, hg6, HI⟩ := hrel
    clear hu5 hq5 hg5
    by_cases hin : i < n
    · have hcv : wr.cell? ⟨bv, ov + i, none⟩ = some (.int .u32 (nth V i : Nat)) := hg6.cell (hvc i hin) (by simpa using hne)
      have hvb := nth_lt hvlim i
      obtain ⟨vi, hvi⟩ : ∃ t, nth V i = t := ⟨_, rfl⟩
      rw [hvi] at hcv hvb
      have HVI := Lib.hid hvi
      obtain ⟨p, hp⟩ : ∃ p, g * vi = p := ⟨_, rfl⟩
      have hpb : p ≤ 18446744065119617025 := by
        rw [← hp]
        exact Nat.mul_le_mul (show g ≤ 4294967295 by omega) (show vi ≤ 4294967295 by omega)
      have hpi : (g : Int) * (vi : Int) = (p : Int) := by rw [← hp]; exact (Int.natCast_mul _ _).symm
      have HP' := Lib.hid hp
      clear hvi hp
      have hcu := hu6.cell (j + i) (by omega)
      have hfu := hu6.free (j + i)
      have hub := nth_lt hu6.lim (j + i)
      obtain ⟨ui, hui⟩ : ∃ t, nth U2 (j + i) = t := ⟨_, rfl⟩
      rw [hui] at hcu hub
      have HUI := Lib.hid ((HI.out.1 (j + i) (.inr (Nat.le_refl _))).symm.trans hui)
      clear hui
      obtain ⟨lo, hlo⟩ : ∃ t, (cr + p) % 4294967296 = t := ⟨_, rfl⟩
      obtain ⟨hi, hhi⟩ : ∃ t, (cr + p) / 4294967296 = t := ⟨_, rfl⟩
      have hlob : lo < 4294967296 := by omega
      have hhib : hi < 4294967296 := by omega
      have elo : ((cr : Int) + (p : Int)) % 4294967296 = (lo : Int) := by omega
      have ehi : ((cr : Int) + (p : Int)) / 4294967296 = (hi : Int) := by omega
      have hsb : (cr : Int) + (p : Int) < 18446744073709551616 := by omega
      have HSB := Lib.hid hsb
      have i1 : IntKind.i64.wrap ((i : Int) + j) = (i : Int) + j := IntWalk.i64_in _ (by omega)
      have i2 : ((i : Int) + j).toNat = j + i := by omega
      have i3 : (0 : Int) ≤ (i : Int) + j := by omega
      have i4 : (i : Int) + j < (n : Int) + J + 1 := by omega
      have hsub := fun W => Sub32_still ui lo bo W hub hlob hbo
      obtain ⟨hbs1, hbs2, hbs3⟩ := borr_spec ui lo bo hub hlob hbo
      generalize diff ui lo bo = df at hsub hbs1 hbs3
      generalize borr ui lo bo = bw at hsub hbs1 hbs2
      have hgne : w.heap.size ≠ gu := by omega
      have hA := hu6.stored (j + i) df (by omega) hbs3
      have hB := hq6.kept (setCell_grownBy wr gu (j + i) (.int .u32 (df : Nat))) (.inr (by simpa [blockOf] using hgne))
      have hC := hg6.trans (setCell_grownBy wr gu (j + i) (.int .u32 (df : Nat)))
      have HN := Lib.hid (sub_step (x := df) (b' := bw) HI.out.2 (by rw [HVI.out, HP'.out, hlo, HUI.out]; exact hbs1) (show j + i < U2.length by rw [hu6.len]; omega))
      rw [HVI.out, HP'.out, hhi] at HN
      have HO : Hid (∀ t, t < j ∨ j + (i + 1) ≤ t → nth (U2.set (j + i) df) t = nth U' t) := Lib.hid (fun t ht => by rw [nth_set_ne (by omega)]; exact HI.out.1 t (by omega))
      have HSUB := Lib.hid hsub
      have HE1 := Lib.hid elo
      clear hlo hhi hsb hbs1 hsub HI hvc
      go_wp2
      go_region_with (first | (go_at_call 63; refine (low_still _ lo _ (by omega) HSB.out HE1.out).mono ?_; rintro e w' ⟨rfl, rfl⟩) | (go_at_call 121; refine (HSUB.out _).mono ?_; rintro e w' ⟨rfl, rfl⟩))
      all_goals
        go_wp2_with (go_at_call 64; refine (high_int _ _ (by omega)).mono ?_; rintro e w' ⟨rfl, rfl⟩)
        go_roundg (gk - 1)
        case measure => omega
        case rel => exact ⟨i + 1, hi, bw, _, by omega, by go_num, rfl, rfl, hhib, hbs2, by first | exact hA | exact hA.drew, by first | exact hB | exact hB.drew, by first | exact hC | exact grownBy_drew hC, Lib.hid ⟨HO.out, HN.out⟩⟩
    · obtain rfl : i = n := by omega
      go_wp2
      refine ⟨rfl, ?_⟩; (repeat apply Exists.intro); exact ⟨rfl, hcr, hbo, hu6, hq6, hg6, HI⟩

end Go.Proofs.YtbcpfdeklglknaaGreatDoor
