/- limbs.long: the loop that makes the estimate smaller. -/
import Derived.Test.YtbcpfdeklglknaaGreatDoorLongP
namespace Go.Proofs.YtbcpfdeklglknaaGreatDoor
open Go.RowKit

set_option maxHeartbeats 4000000 in
set_option maxRecDepth 100000 in
theorem long_est (gu n J cu bv ov cv base top next j g0 r0 head : Nat) (U' V : List Nat) (w4 : World) (c2 c3 c4 c6 c10 c13 c14 c15 c16 c17 c18 c19 c20 c21 c22 c23 c24 c25 c26 c27 c28 c29 c30 c31 c32 c33 c34 c35 c36 c37 c38 c39 c40 c41 c42 c43 c44 c45 c46 c47 c48 c49 c50 c51 c52 c53 c54 c55 c56 c57 c58 c59 c60 c61 c62 c63 c64 c65 c66 c67 c68 c69 c70 c71 c72 c73 c74 c75 c76 c77 c78 c79 c80 c81 c82 c83 c84 c85 c86 c87 c88 c89 c90 c91 c92 c93 c94 c95 c96 c97 c98 c99 c100 c101 c102 c103 c104 c105 c106 c107 c108 c109 c110 c111 c112 c113 c114 c115 c116 c117 c118 c119 c120 c121 c122 c123 c124 c125 c126 c127 c128 c129 c130 c131 c132 c133 c134 c135 c136 c137 c138 c139 c140 c141 c142 c143 c144 c145 c146 c147 c148 c149 c150 c151 c152 c153 c154 c155 c156 c157 c158 c159 c160 c161 c162 c163 c164 c165 c166 c167 c168 c169 c170 c171 c172 c173 c174 c175 c176 c177 c178 c179 c180 c181 c182 c183 c184 c185 c186 c187 c188 c189 c190 c191 c192 c193 : Value)
    (hu4 : Own w4 base (some ⟨gu, 0, none⟩) (n + J + 1) cu U') (hvl : Lim V) (hvn : V.length = n) (hn2 : 2 ≤ n) (hk : j + 1 ≤ J + 1) (hsz : n + J + 1 ≤ 35184372088832) (htop : 2147483648 ≤ top) (ht : top < 4294967296) (hx : next < 4294967296)
    (HTP : Hid (nth V (n - 1) = top)) (HNX : Hid (nth V (n - 2) = next)) (HLT : Hid (val (U'.drop (j + 1)) < val V)) (HHD : Hid (nth U' (j + n) * 4294967296 + nth U' (j + n - 1) = head)) (HG0 : Hid (head / top = g0)) (HR0 : Hid (head % top = r0))
    (hg0b : g0 ≤ 8589934592) (hr0b : r0 < top) :
    Code.wp Tryz.prog (Code.loop (Tryz.longLoop 1)) (LoopEnds 2 (fun a w' => ∃ (g q r : Nat) (u69 u70 u71 u72 u73 u74 u75 u76 u77 u78 u79 u80 u81 u82 u83 u84 u85 u86 u87 u88 u89 u90 u91 u92 u93 : Value), a = ⟨List.toArray (.slice (some ⟨gu, 0, none⟩) (n + J + 1) cu :: .slice (some ⟨bv, ov, none⟩) n cv :: c2 :: c3 :: c4 :: .int .i64 (n : Int) :: c6 :: .int .u64 (top : Int) :: .int .u64 (next : Int) :: .int .i64 (j : Int) :: c10 :: .int .u64 (g : Int) :: .int .u64 (r : Int) :: c13 :: c14 :: c15 :: c16 :: c17 :: c18 :: c19 :: c20 :: c21 :: c22 :: c23 :: c24 :: c25 :: c26 :: c27 :: c28 :: c29 :: c30 :: c31 :: c32 :: c33 :: c34 :: c35 :: c36 :: c37 :: c38 :: c39 :: c40 :: c41 :: c42 :: c43 :: c44 :: c45 :: c46 :: c47 :: c48 :: c49 :: c50 :: c51 :: c52 :: c53 :: c54 :: c55 :: c56 :: c57 :: c58 :: c59 :: c60 :: c61 :: c62 :: c63 :: c64 :: c65 :: c66 :: c67 :: c68 :: u69 :: u70 :: u71 :: u72 :: u73 :: u74 :: u75 :: u76 :: u77 :: u78 :: u79 :: u80 :: u81 :: u82 :: u83 :: u84 :: u85 :: u86 :: u87 :: u88 :: u89 :: u90 :: u91 :: u92 :: u93 :: c94 :: c95 :: c96 :: c97 :: c98 :: c99 :: c100 :: c101 :: c102 :: c103 :: c104 :: c105 :: c106 :: c107 :: c108 :: c109 :: c110 :: c111 :: c112 :: c113 :: c114 :: c115 :: c116 :: c117 :: c118 :: c119 :: c120 :: c121 :: c122 :: c123 :: c124 :: c125 :: c126 :: c127 :: c128 :: c129 :: c130 :: c131 :: c132 :: c133 :: c134 :: c135 :: c136 :: c137 :: c138 :: c139 :: c140 :: c141 :: c142 :: c143 :: c144 :: c145 :: c146 :: c147 :: c148 :: c149 :: c150 :: c151 :: c152 :: c153 :: c154 :: c155 :: c156 :: c157 :: c158 :: c159 :: c160 :: c161 :: c162 :: c163 :: c164 :: c165 :: c166 :: c167 :: c168 :: c169 :: c170 :: c171 :: c172 :: c173 :: c174 :: c175 :: c176 :: c177 :: c178 :: c179 :: c180 :: c181 :: c182 :: c183 :: c184 :: c185 :: c186 :: c187 :: c188 :: c189 :: c190 :: c191 :: c192 :: c193 :: []), []⟩ ∧ w' = w4.drewN q ∧ Hid (g < 4294967296 ∧ win U' j (n + 1) / val V ≤ g ∧ g ≤ win U' j (n + 1) / val V + 1))) ⟨List.toArray (.slice (some ⟨gu, 0, none⟩) (n + J + 1) cu :: .slice (some ⟨bv, ov, none⟩) n cv :: c2 :: c3 :: c4 :: .int .i64 (n : Int) :: c6 :: .int .u64 (top : Int) :: .int .u64 (next : Int) :: .int .i64 (j : Int) :: c10 :: .int .u64 (g0 : Int) :: .int .u64 (r0 : Int) :: c13 :: c14 :: c15 :: c16 :: c17 :: c18 :: c19 :: c20 :: c21 :: c22 :: c23 :: c24 :: c25 :: c26 :: c27 :: c28 :: c29 :: c30 :: c31 :: c32 :: c33 :: c34 :: c35 :: c36 :: c37 :: c38 :: c39 :: c40 :: c41 :: c42 :: c43 :: c44 :: c45 :: c46 :: c47 :: c48 :: c49 :: c50 :: c51 :: c52 :: c53 :: c54 :: c55 :: c56 :: c57 :: c58 :: c59 :: c60 :: c61 :: c62 :: c63 :: c64 :: c65 :: c66 :: c67 :: c68 :: c69 :: c70 :: c71 :: c72 :: c73 :: c74 :: c75 :: c76 :: c77 :: c78 :: c79 :: c80 :: c81 :: c82 :: c83 :: c84 :: c85 :: c86 :: c87 :: c88 :: c89 :: c90 :: c91 :: c92 :: c93 :: c94 :: c95 :: c96 :: c97 :: c98 :: c99 :: c100 :: c101 :: c102 :: c103 :: c104 :: c105 :: c106 :: c107 :: c108 :: c109 :: c110 :: c111 :: c112 :: c113 :: c114 :: c115 :: c116 :: c117 :: c118 :: c119 :: c120 :: c121 :: c122 :: c123 :: c124 :: c125 :: c126 :: c127 :: c128 :: c129 :: c130 :: c131 :: c132 :: c133 :: c134 :: c135 :: c136 :: c137 :: c138 :: c139 :: c140 :: c141 :: c142 :: c143 :: c144 :: c145 :: c146 :: c147 :: c148 :: c149 :: c150 :: c151 :: c152 :: c153 :: c154 :: c155 :: c156 :: c157 :: c158 :: c159 :: c160 :: c161 :: c162 :: c163 :: c164 :: c165 :: c166 :: c167 :: c168 :: c169 :: c170 :: c171 :: c172 :: c173 :: c174 :: c175 :: c176 :: c177 :: c178 :: c179 :: c180 :: c181 :: c182 :: c183 :: c184 :: c185 :: c186 :: c187 :: c188 :: c189 :: c190 :: c191 :: c192 :: c193 :: []), []⟩ w4 := by
  obtain ⟨hWB, hUt, P, v', w', hP, hv', hw', hVe, hWe⟩ := long_data hn2 hu4.lim hvl hvn HLT.out
  have HVE := Lib.hid hVe
  have HWE := Lib.hid hWe
  rw [HTP.out, HNX.out] at HVE
  rw [HHD.out] at HWE
  have hc3 := hu4.cell (j + n - 2) (by omega)
  have hb3 := nth_lt hu4.lim (j + n - 2)
  generalize nth U' (j + n - 2) = u2 at hc3 hb3 HWE
  have HE0 := Lib.hid (est_start HVE.out HWE.out hw' hb3 (by omega) hP)
  rw [HG0.out, HR0.out] at HE0
  have HQ := Lib.hid ((Nat.div_lt_iff_lt_mul (Nat.lt_of_le_of_lt (Nat.zero_le _) HLT.out)).2 hWB)
  have HHB := Lib.hid (show head < top * 4294967296 + 4294967296 by
    have h1 := HHD.out
    have h2 := HTP.out
    have h3 := nth_lt hu4.lim (j + n - 1)
    rw [h2] at hUt
    omega)
  clear hWB hUt hVe hWe
  conv => arg 2; arg 1; whnf
  go_loopg [11, 12] g0 (fun k gv rv wr => ∃ (r q : Nat), gv = .int .u64 k ∧ rv = .int .u64 r ∧ wr = w4.drewN q ∧ Hid (Est (win U' j (n + 1)) (val V) head u2 top next P k r) ∧ k ≤ 8589934592 ∧ r < 8589934592)
  case atStart => exact ⟨r0, 0, rfl, rfl, rfl, HE0, hg0b, by omega⟩
  case round =>
    obtain ⟨r, q, rfl, rfl, rfl, HE, hkb, hrb⟩ := hrel
    by_cases hr1 : r < 4294967296
    · have hd1 : decide ((r : Int) < 4294967296) = true := by simp; omega
      have hd1' : decide (r < 4294967296) = true := by simp; omega
      by_cases hg1 : 4294967296 ≤ gk
      · have hs := est_step HVE.out HWE.out hw' (by omega) hP HQ.out HE.out (.inl hg1)
        have HS := Lib.hid hs.2
        have hd2 : decide ((4294967296 : Int) ≤ (gk : Int)) = true := by simp; omega
        have hd2' : decide (4294967296 ≤ gk) = true := by simp; omega
        clear hs
        go_wp2
        go_roundg (gk - 1)
        case measure => omega
        case rel => exact ⟨r + top, q, by go_num, by go_num, rfl, HS, by omega, by omega⟩
      · have hd2 : decide ((4294967296 : Int) ≤ (gk : Int)) = false := by simp; omega
        have hd2' : decide (4294967296 ≤ gk) = false := by simp; omega
        obtain ⟨p, hp⟩ : ∃ p, gk * next = p := ⟨_, rfl⟩
        have hpb : p ≤ 18446744065119617025 := by
          rw [← hp]
          exact Nat.mul_le_mul (show gk ≤ 4294967295 by omega) (show next ≤ 4294967295 by omega)
        have hpi : (gk : Int) * (next : Int) = (p : Int) := by rw [← hp]; exact (Int.natCast_mul _ _).symm
        have hor := or_join32 r u2 hr1 hb3
        obtain ⟨sm, hsm⟩ : ∃ s, r * 4294967296 + u2 = s := ⟨_, rfl⟩
        rw [hsm] at hor
        have HP' := Lib.hid hp
        have HSM := Lib.hid hsm
        clear hp hsm
        by_cases hcmp : sm < p
        · have hd3 : decide (sm < p) = true := by simpa using hcmp
          have hs := est_step HVE.out HWE.out hw' (by omega) hP HQ.out HE.out (.inr (by rw [HSM.out, HP'.out]; exact hcmp))
          have HS := Lib.hid hs.2
          have hgp := hs.1
          clear hs
          go_wp2
          go_roundg (gk - 1)
          case measure => omega
          case rel => exact ⟨r + top, q, by go_num, by go_num, rfl, HS, by omega, by omega⟩
        · have hd3 : decide (sm < p) = false := by simpa using hcmp
          have HF := Lib.hid (est_end HVE.out HWE.out hv' htop hP HHB.out hx HE.out (.inr ⟨by omega, by rw [HSM.out, HP'.out]; omega⟩))
          go_wp2
          refine ⟨rfl, ?_⟩; (repeat apply Exists.intro); exact ⟨rfl, rfl, Lib.hid ⟨HF.out.1, HE.out.ge, HF.out.2⟩⟩
    · have hd1 : decide ((r : Int) < 4294967296) = false := by simp; omega
      have hd1' : decide (r < 4294967296) = false := by simp; omega
      have HF := Lib.hid (est_end HVE.out HWE.out hv' htop hP HHB.out hx HE.out (.inl (by omega)))
      go_wp2
      refine ⟨rfl, ?_⟩; (repeat apply Exists.intro); exact ⟨rfl, rfl, Lib.hid ⟨HF.out.1, HE.out.ge, HF.out.2⟩⟩

end Go.Proofs.YtbcpfdeklglknaaGreatDoor
