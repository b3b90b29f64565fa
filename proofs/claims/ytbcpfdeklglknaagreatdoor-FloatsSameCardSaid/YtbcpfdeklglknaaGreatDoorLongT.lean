/- limbs.long: what follows in a round when the divisor times the estimate has been taken off but for the highest limb. -/
import Derived.Test.YtbcpfdeklglknaaGreatDoorLongA
import Derived.Test.YtbcpfdeklglknaaGreatDoorLongM
namespace Go.Proofs.YtbcpfdeklglknaaGreatDoor
open Go.RowKit

def Both (R : Act → World → Prop) : Exit → Act → World → Prop := fun e a w => match e with
  | .normal => R a w
  | .exit k => k = 1 ∧ R a w
  | _ => False
theorem both_then {P : Program} {R : Act → World → Prop} {Q : Exit → Act → World → Prop} {c : Code} {a : Act} {w : World} (h : c.wp P (Both R) a w) (k : ∀ e a' w', e = .normal ∨ e = .exit 1 → R a' w' → Q e a' w') : c.wp P Q a w :=
  Code.wp_mono (fun e a' w' hq => by
    cases e with
    | normal => exact k _ _ _ (.inl rfl) hq
    | exit n => obtain ⟨rfl, hr⟩ := hq; exact k _ _ _ (.inr rfl) hr
    | _ => exact hq.elim) h

set_option maxHeartbeats 4000000 in
set_option maxRecDepth 100000 in
theorem long_tail (gu n J cu bv ov cv base j g cr bo : Nat) (U' U2 V Q : List Nat) (w wr : World) (c2 c3 c4 c7 c8 c10 c12 c15 c16 c17 c18 c19 c20 c21 c22 c23 c24 c25 c26 c27 c28 c29 c30 c31 c32 c33 c34 c35 c36 c37 c38 c39 c40 c41 c42 c43 c44 c45 c46 c47 c48 c49 c50 c51 c52 c53 c54 c55 c56 c57 c58 c59 c60 c61 c62 c63 c64 c65 c66 c67 c68 c69 c70 c71 c72 c73 c74 c75 c76 c77 c78 c79 c80 c81 c82 c83 c84 c85 c86 c87 c88 c89 c90 c91 c92 c93 c94 c95 c96 c97 c98 c99 c100 c101 c102 c103 c104 c105 c106 c107 c108 c109 c110 c111 c112 c113 c114 c115 c116 c117 c118 c119 c120 c121 c122 c123 c124 c125 c126 c127 c128 c129 c130 c131 c132 c133 c134 c135 c136 c137 c138 c139 c140 c141 c142 c143 c144 c145 c146 c147 c148 c149 c150 c151 c152 c153 c154 c155 c156 c157 c158 c159 c160 c161 c162 c163 c164 c165 c166 c167 c168 c169 c170 c171 c172 c173 c174 c175 c176 c177 c178 c179 c180 c181 c182 c183 c184 c185 c186 c187 c188 c189 c190 c191 c192 c193 : Value)
    (hu6 : Own wr base (some ⟨gu, 0, none⟩) (n + J + 1) cu U2) (hq6 : Own wr w.heap.size (some ⟨w.heap.size, 0, none⟩) (J + 1) (J + 1) Q) (hg6 : w.grownBy wr (some gu)) (hgu : gu < w.heap.size)
    (HUlim : Lim U') (HUlen : U'.length = n + J + 1) (HVN : Hid (val V < 4294967296 ^ n)) (HVW : Hid (win V 0 n = val V)) (hvlim : Lim V) (HVlen : V.length = n) (hvc : Hid (∀ j, j < n → w.cell? ⟨bv, ov + j, none⟩ = some (.int .u32 (nth V j : Nat)))) (hne : bv ≠ gu)
    (hn2 : 2 ≤ n) (hk : j + 1 ≤ J + 1) (hsz : n + J + 1 ≤ 35184372088832) (hgb : g < 4294967296) (hcr : cr < 4294967296) (hbo : bo ≤ 1) (HLT : Hid (val (U'.drop (j + 1)) < val V)) (HQ0 : Hid (∀ i, i < j + 1 → nth Q i = 0))
    (HG : Hid (g < 4294967296 ∧ win U' j (n + 1) / val V ≤ g ∧ g ≤ win U' j (n + 1) / val V + 1))
    (HI : Hid ((∀ t, t < j ∨ j + n ≤ t → nth U2 t = nth U' t) ∧ win U2 j n + g * win V 0 n = win U' j n + (cr + bo) * 4294967296 ^ n)) :
    Code.wp Tryz.prog (Tryz.longAt [1,1,1,1,0,1,0,0,1,0,0,0,1,1,1,1,1,1,1]) (Both (fun a w' => ∃ (U5 Q5 : List Nat) (u14 u16 u17 u128 u129 u130 u131 u132 u133 u134 u135 u136 u137 u138 u139 u140 u141 u142 u143 u144 u145 u146 u147 u148 u149 u150 u151 u152 u153 u154 u155 u156 u157 u158 u159 u160 u161 u162 u163 u164 u165 u166 u167 u168 u169 u170 u171 u172 u173 u174 u175 u176 u177 u178 u179 u180 u181 u182 u183 u184 u185 u186 u187 u188 u189 u190 u191 u192 : Value), a = ⟨List.toArray (.slice (some ⟨gu, 0, none⟩) (n + J + 1) cu :: .slice (some ⟨bv, ov, none⟩) n cv :: c2 :: c3 :: c4 :: .int .i64 (n : Int) :: .slice (some ⟨w.heap.size, 0, none⟩) (J + 1) (J + 1) :: c7 :: c8 :: .int .i64 (j : Int) :: c10 :: .int .u64 (g : Int) :: c12 :: .int .u64 (cr : Int) :: u14 :: c15 :: u16 :: u17 :: c18 :: c19 :: c20 :: c21 :: c22 :: c23 :: c24 :: c25 :: c26 :: c27 :: c28 :: c29 :: c30 :: c31 :: c32 :: c33 :: c34 :: c35 :: c36 :: c37 :: c38 :: c39 :: c40 :: c41 :: c42 :: c43 :: c44 :: c45 :: c46 :: c47 :: c48 :: c49 :: c50 :: c51 :: c52 :: c53 :: c54 :: c55 :: c56 :: c57 :: c58 :: c59 :: c60 :: c61 :: c62 :: c63 :: c64 :: c65 :: c66 :: c67 :: c68 :: c69 :: c70 :: c71 :: c72 :: c73 :: c74 :: c75 :: c76 :: c77 :: c78 :: c79 :: c80 :: c81 :: c82 :: c83 :: c84 :: c85 :: c86 :: c87 :: c88 :: c89 :: c90 :: c91 :: c92 :: c93 :: c94 :: c95 :: c96 :: c97 :: c98 :: c99 :: c100 :: c101 :: c102 :: c103 :: c104 :: c105 :: c106 :: c107 :: c108 :: c109 :: c110 :: c111 :: c112 :: c113 :: c114 :: c115 :: c116 :: c117 :: c118 :: c119 :: c120 :: c121 :: c122 :: c123 :: c124 :: c125 :: c126 :: c127 :: u128 :: u129 :: u130 :: u131 :: u132 :: u133 :: u134 :: u135 :: u136 :: u137 :: u138 :: u139 :: u140 :: u141 :: u142 :: u143 :: u144 :: u145 :: u146 :: u147 :: u148 :: u149 :: u150 :: u151 :: u152 :: u153 :: u154 :: u155 :: u156 :: u157 :: u158 :: u159 :: u160 :: u161 :: u162 :: u163 :: u164 :: u165 :: u166 :: u167 :: u168 :: u169 :: u170 :: u171 :: u172 :: u173 :: u174 :: u175 :: u176 :: u177 :: u178 :: u179 :: u180 :: u181 :: u182 :: u183 :: u184 :: u185 :: u186 :: u187 :: u188 :: u189 :: u190 :: u191 :: u192 :: c193 :: []), []⟩ ∧
      Own w' base (some ⟨gu, 0, none⟩) (n + J + 1) cu U5 ∧ Own w' w.heap.size (some ⟨w.heap.size, 0, none⟩) (J + 1) (J + 1) Q5 ∧ w.grownBy w' (some gu) ∧
      Hid (val U5 + val Q5 * val V = val U' + val Q * val V ∧ val (U5.drop j) < val V ∧ ∀ i, i < j → nth Q5 i = 0))) ⟨List.toArray (.slice (some ⟨gu, 0, none⟩) (n + J + 1) cu :: .slice (some ⟨bv, ov, none⟩) n cv :: c2 :: c3 :: c4 :: .int .i64 (n : Int) :: .slice (some ⟨w.heap.size, 0, none⟩) (J + 1) (J + 1) :: c7 :: c8 :: .int .i64 (j : Int) :: c10 :: .int .u64 (g : Int) :: c12 :: .int .u64 (cr : Int) :: .int .u32 (bo : Int) :: c15 :: c16 :: c17 :: c18 :: c19 :: c20 :: c21 :: c22 :: c23 :: c24 :: c25 :: c26 :: c27 :: c28 :: c29 :: c30 :: c31 :: c32 :: c33 :: c34 :: c35 :: c36 :: c37 :: c38 :: c39 :: c40 :: c41 :: c42 :: c43 :: c44 :: c45 :: c46 :: c47 :: c48 :: c49 :: c50 :: c51 :: c52 :: c53 :: c54 :: c55 :: c56 :: c57 :: c58 :: c59 :: c60 :: c61 :: c62 :: c63 :: c64 :: c65 :: c66 :: c67 :: c68 :: c69 :: c70 :: c71 :: c72 :: c73 :: c74 :: c75 :: c76 :: c77 :: c78 :: c79 :: c80 :: c81 :: c82 :: c83 :: c84 :: c85 :: c86 :: c87 :: c88 :: c89 :: c90 :: c91 :: c92 :: c93 :: c94 :: c95 :: c96 :: c97 :: c98 :: c99 :: c100 :: c101 :: c102 :: c103 :: c104 :: c105 :: c106 :: c107 :: c108 :: c109 :: c110 :: c111 :: c112 :: c113 :: c114 :: c115 :: c116 :: c117 :: c118 :: c119 :: c120 :: c121 :: c122 :: c123 :: c124 :: c125 :: c126 :: c127 :: c128 :: c129 :: c130 :: c131 :: c132 :: c133 :: c134 :: c135 :: c136 :: c137 :: c138 :: c139 :: c140 :: c141 :: c142 :: c143 :: c144 :: c145 :: c146 :: c147 :: c148 :: c149 :: c150 :: c151 :: c152 :: c153 :: c154 :: c155 :: c156 :: c157 :: c158 :: c159 :: c160 :: c161 :: c162 :: c163 :: c164 :: c165 :: c166 :: c167 :: c168 :: c169 :: c170 :: c171 :: c172 :: c173 :: c174 :: c175 :: c176 :: c177 :: c178 :: c179 :: c180 :: c181 :: c182 :: c183 :: c184 :: c185 :: c186 :: c187 :: c188 :: c189 :: c190 :: c191 :: c192 :: c193 :: []), []⟩ wr := by
  conv => arg 2; whnf
  have hcu := hu6.cell (j + n) (by omega)
  have hfu := hu6.free (j + n)
  have hub := nth_lt hu6.lim (j + n)
  obtain ⟨ui, hui⟩ : ∃ t, nth U2 (j + n) = t := ⟨_, rfl⟩
  rw [hui] at hcu hub
  have hui' : nth U' (j + n) = ui := (HI.out.1 (j + n) (.inr (Nat.le_refl _))).symm.trans hui
  have hsub := fun W => Sub32_any ui cr bo W hub hcr hbo
  obtain ⟨hbs1, hbs2, hbs3⟩ := borr_spec ui cr bo hub hcr hbo
  generalize diff ui cr bo = df at hsub hbs1 hbs3
  generalize borr ui cr bo = bw at hsub hbs1 hbs2
  have HSUB := Lib.hid hsub
  have HN := Lib.hid (sub_last (x := df) (b' := bw) HI.out.2 (by rw [hui']; exact hbs1) (show j + n < U2.length by rw [hu6.len]; omega))
  have HO : Hid (∀ t, t < j ∨ j + n + 1 ≤ t → nth (U2.set (j + n) df) t = nth U' t) := Lib.hid (fun t ht => by rw [nth_set_ne (by omega)]; exact HI.out.1 t (by omega))
  have hgne : w.heap.size ≠ gu := by omega
  have hA := hu6.stored (j + n) df (by omega) hbs3
  have hB := hq6.kept (setCell_grownBy wr gu (j + n) (.int .u32 (df : Nat))) (.inr (by simpa [blockOf] using hgne))
  have hC := hg6.trans (setCell_grownBy wr gu (j + n) (.int .u32 (df : Nat)))
  rw [HVW.out] at HN
  clear hui hui' hsub hbs1 hq6 hg6 HI hu6
  generalize U2.set (j + n) df = U3 at hA HN HO
  have hcq := hB.cell j (by omega)
  have hfq := hB.free j
  have HVP := Lib.hid (Nat.lt_of_le_of_lt (Nat.zero_le _) HLT.out)
  have HQJ := Lib.hid (HQ0.out j (by omega))
  have hE0 : ∀ W, Own W base (some ⟨gu, 0, none⟩) (n + J + 1) cu U3 → ∀ (x : Nat), Own (W.setCell ⟨w.heap.size, j, none⟩ (.int .u32 (x : Nat))) base (some ⟨gu, 0, none⟩) (n + J + 1) cu U3 := fun W hW x => hW.kept (setCell_grownBy W w.heap.size j (.int .u32 (x : Nat))) (.inr (by simpa [blockOf] using hgne.symm))
  have hF0 : ∀ W, w.grownBy W (some gu) → ∀ (x : Nat), w.grownBy (W.setCell ⟨w.heap.size, j, none⟩ (.int .u32 (x : Nat))) (some gu) := fun W hW x =>
    ⟨hW.os, hW.tape, hW.output, by rw [setCell_size]; exact hW.size, fun k hk hne' => (setCell_other (by omega) _ _).trans (hW.block k hk hne')⟩
  have HE0 := Lib.hid hE0
  have HF0 := Lib.hid hF0
  clear hE0 hF0
  have HLAST : Hid (∀ (U5 : List Nat) (q : Nat), q ≤ g → U5.length = n + J + 1 → (∀ t, t < j ∨ j + n + 1 ≤ t → nth U5 t = nth U' t) → win U5 j (n + 1) + q * val V = win U' j (n + 1) → win U5 j (n + 1) < val V →
      val U5 + val (Q.set j q) * val V = val U' + val Q * val V ∧ val (U5.drop j) < val V ∧ ∀ i, i < j → nth (Q.set j q) i = 0) := Lib.hid (fun U5 q _ h1 h2 h3 h4 => by
    obtain ⟨a1, a2⟩ := long_step (Q := Q) (q := q) HUlim HVN.out (by rw [h1, HUlen]) (by rw [HUlen]; omega) HLT.out h2 h3 h4 HQJ.out (by rw [hB.len]; omega)
    exact ⟨a1, a2, fun i hi => by rw [nth_set_ne (by omega)]; exact HQ0.out i (by omega)⟩)
  rcases (show bw = 0 ∨ bw = 1 by omega) with rfl | rfl
  · have HR := Lib.hid (fin_sub HVP.out HG.out.2.1 (show win U3 j (n + 1) + g * val V = win U' j (n + 1) by rw [HN.out]; simp))
    have HST := Lib.hid (HLAST.out U3 g (Nat.le_refl _) (by rw [hA.len]) HO.out (by rw [HN.out]; simp) HR.out)
    have hD := hB.stored j g (by omega) hgb
    have hE := HE0.out _ hA g
    have hF := HF0.out _ hC g
    clear hA hB hC
    go_wp2_with (go_at_call 121; refine (HSUB.out _).mono ?_; rintro e w' ⟨rfl, rfl⟩)
    refine ⟨rfl, ?_⟩
    refine ⟨_, _, _, _, _, _, _, _, _, _, _, _, _, _, _, _, _, _, _, _, _, _, _, _, _, _, _, _, _, _, _, _, _, _, _, _, _, _, _, _, _, _, _, _, _, _, _, _, _, _, _, _, _, _, _, _, _, _, _, _, _, _, _, _, _, _, _, _, _, _, rfl, hE, hD, hF, HST⟩
  · have hg1 : 1 ≤ g := by
      rcases Nat.eq_zero_or_pos g with h0 | h0
      · exfalso
        have h1 := HN.out
        rw [h0] at h1
        have h2 := win_lt hA.lim j (n + 1)
        simp at h1
        omega
      · exact h0
    have hD0 := hB.stored j g (by omega) hgb
    have hE1 := HE0.out _ hA g
    have hF1 := HF0.out _ hC g
    have hcq1 := hD0.cell j (by omega)
    rw [nth_set_eq (by rw [hB.len]; omega)] at hcq1
    have hfq1 := hD0.free j
    have hD1 := hD0.stored j (g - 1) (by omega) (by omega)
    have hE2 := HE0.out _ hE1 (g - 1)
    have hF2 := HF0.out _ hF1 (g - 1)
    rw [List.set_set] at hD1
    rw [show ((g - 1 : Nat) : Int) = (g : Int) - 1 by omega] at hD1 hE2 hF2
    have hA3 := Lib.hid hA.lim
    clear hA hB hC hD0 hE1 hF1
    go_wp2_with (go_at_call 121; refine (HSUB.out _).mono ?_; rintro e w' ⟨rfl, rfl⟩)
    refine @loop_then _ 7 ?R _ _ _ _ ?h ?k
    case h =>
      change Code.wp Tryz.prog (Code.loop (Tryz.longLoop 3)) _ _ _
      exact @long_addback gu n J cu bv ov cv base j U3 V (Q.set j (g - 1)) w _ _ _ _ _ _ _ _ _ _ _ _ _ _ _ _ _ _ _ _ _ _ _ _ _ _ _ _ _ _ _ _ _ _ _ _ _ _ _ _ _ _ _ _ _ _ _ _ _ _ _ _ _ _ _ _ _ _ _ _ _ _ _ _ _ _ _ _ _ _ _ _ _ _ _ _ _ _ _ _ _ _ _ _ _ _ _ _ _ _ _ _ _ _ _ _ _ _ _ _ _ _ _ _ _ _ _ _ _ _ _ _ _ _ _ _ _ _ _ _ _ _ _ _ _ _ _ _ _ _ _ _ _ _ _ _ _ _ _ _ _ _ _ _ _ _ _ _ _ _ _ _ _ _ _ _ _ _ _ _ _ _ _ _ _ _ _ _ _ _ _ _ _ _ _ _ _ _ _ _ _ _ _ _ _ _ _ hE2 hD1 hF2 hgu hvlim hvc.out hne hn2 hk hsz
    case k =>
      rintro a' w' ⟨c, U4, _, _, _, _, _, _, _, _, _, _, _, _, _, _, _, _, _, _, _, _, _, _, _, _, rfl, hc, hu7, hq7, hg7, HJ⟩
      clear hE2 hD1 hF2 hcq1 hfq1
      have hcu7 := hu7.cell (j + n) (by omega)
      have hfu7 := hu7.free (j + n)
      have hub7 := nth_lt hu7.lim (j + n)
      obtain ⟨un, hun⟩ : ∃ t, nth U4 (j + n) = t := ⟨_, rfl⟩
      rw [hun] at hcu7 hub7
      have hun3 : nth U3 (j + n) = un := (HJ.out.1 (j + n) (.inr (Nat.le_refl _))).symm.trans hun
      obtain ⟨x, hx⟩ : ∃ t, (un + c) % 4294967296 = t := ⟨_, rfl⟩
      obtain ⟨c', hc'⟩ : ∃ t, (un + c) / 4294967296 = t := ⟨_, rfl⟩
      have hxb : x < 4294967296 := by omega
      have hcb : c' ≤ 1 := by omega
      have ex : ((un : Int) + (c : Int)) % 4294967296 = (x : Int) := by omega
      have HS := add_step (V := V) (x := x) (c' := c') HJ.out.2 (by rw [hun3, nth_over (by rw [HVlen]; exact Nat.le_refl _)]; omega) (show j + n < U4.length by rw [hu7.len]; omega)
      rw [win_succ V, HVW.out, Nat.zero_add, nth_over (xs := V) (j := n) (by rw [HVlen]; exact Nat.le_refl _), Nat.mul_zero, Nat.add_zero] at HS
      have hA7 := hu7.stored (j + n) x (by omega) hxb
      have hB7 := hq7.kept (setCell_grownBy w' gu (j + n) (.int .u32 (x : Nat))) (.inr (by simpa [blockOf] using hgne))
      have hC7 := hg7.trans (setCell_grownBy w' gu (j + n) (.int .u32 (x : Nat)))
      have HT : Hid (val V ≤ 4294967296 ^ (n + 1)) := Lib.hid (Nat.le_trans (Nat.le_of_lt HVN.out) (Nat.pow_le_pow_right (by omega) (by omega)))
      have HFA := fin_add HVP.out HG.out.2.2 (by rw [HN.out]; simp) (win_lt hA3.out j (n + 1)) HS hcb (win_lt hA7.lim j (n + 1))
      have HST := Lib.hid (HLAST.out (U4.set (j + n) x) (g - 1) (by omega) (by rw [hA7.len]) (fun t ht => by rw [nth_set_ne (by omega), HJ.out.1 t (by omega)]; exact HO.out t ht) HFA.2.1 HFA.2.2)
      clear hun hun3 hx hc' HS HFA hu7 hq7 hg7
      go_wp2
      (repeat apply Exists.intro); exact ⟨rfl, hA7, hB7, hC7, HST⟩

end Go.Proofs.YtbcpfdeklglknaaGreatDoor
