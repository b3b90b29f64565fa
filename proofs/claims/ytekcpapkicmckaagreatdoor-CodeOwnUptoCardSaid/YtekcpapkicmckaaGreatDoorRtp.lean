/- thicketref19.Tidy: the loop that finds the places. -/
import Derived.Test.YtekcpapkicmckaaGreatDoorTdc
namespace Go.Proofs.YtekcpapkicmckaaGreatDoor
open Go.RowKit

set_option maxHeartbeats 4000000 in
set_option maxRecDepth 100000 in
theorem rtd_place (F O : Int) (A : Option Addr) (n c : Nat) (ops : List OpV) (g pb g2 gb ln lc gp : Nat) (w w6 : World) (c0 c2 c3 c4 c5 c7 c8 c9 c11 c12 c15 c16 c17 c18 c19 c20 c21 c22 c23 c24 c25 c26 c27 c28 c29 c30 c31 c32 c33 c34 c35 c36 c37 c38 c39 c40 c41 c42 c43 c44 c45 c46 c47 c48 c49 c50 c51 c52 c53 c54 c55 c56 c57 c58 c59 c60 c61 c62 c63 c64 c65 c66 c67 c68 c69 c70 c71 c72 c73 c74 c75 c76 c77 c78 c79 c80 c81 c82 c83 c84 c85 c86 c87 c88 c89 c90 c91 c92 c93 c94 c95 c96 c97 c98 c99 c100 c101 c102 c103 c104 c105 c106 c107 c108 c109 c110 c111 c112 c113 c114 c115 c116 c117 c118 c119 c120 c121 c122 c123 c124 c125 c126 c127 c131 c132 c133 c134 c135 c136 c137 c138 c139 c140 c141 c142 c143 c144 c145 c146 c147 c148 c149 c150 c151 c152 c153 c154 c155 c156 c157 c158 c159 c160 c161 c162 c163 c164 c165 c166 c167 c168 c169 c170 c171 c172 c173 c174 c175 c176 c177 c178 c179 c180 c181 c182 c183 c184 c185 c186 c187 c188 c189 c190 c191 c192 c193 c194 c195 c196 c197 c198 c199 c200 c201 c202 c203 c204 c205 c206 c207 c208 c209 c210 c211 c212 c213 c214 c215 c216 c217 c218 c219 c220 c221 c222 c223 c224 c225 c226 c227 c228 c229 c230 c231 c232 c233 c234 c235 c236 c237 c238 c239 c240 c241 c242 c243 c244 c245 c246 c247 c248 c249 : Value) (hP : RightP F O ops) (hp : OpsAt w A n c ops) (hn : n ≤ 100000000000) (hb6 : Below w.heap.size w w6) (hwB : w.heap.size ≤ gp) (hpb : w6.heap[pb]? = some (.cells #[.int .i64 F, .int .i64 O, .slice A n c] 30 (0, 0))) (hpB : pb < gp)
    (hl : Mine 3 w6 g (some ⟨g, 0, none⟩) n n (nats (lands ops))) (hgB : g < gp) (hst : Mine 3 w6 gb (some ⟨g2, 0, none⟩) ln lc (nats (stays ops))) (hg2B : g2 < gp) (hP0 : Mine 3 w6 gp (some ⟨gp, 0, none⟩) n n (nats (List.replicate n 0))) :
    Code.wp Tryz.prog (Code.loop (Tryz.rtidyLoop 2)) (LoopEnds 4 (fun a w' => ∃ (nx : Value) (u15 : Value) (u16 : Value) (u130 : Value) (u131 : Value) (u132 : Value) (u133 : Value) (u134 : Value) (u135 : Value) (u136 : Value) (u137 : Value) (u138 : Value) (u139 : Value) (u140 : Value) (u141 : Value) (u142 : Value) (u143 : Value) (u144 : Value) (u145 : Value) (u146 : Value) (u147 : Value) (u148 : Value) (u149 : Value) (u150 : Value) (u151 : Value) (u152 : Value) (u153 : Value) (u154 : Value) (u155 : Value) (u156 : Value) (u157 : Value) (u158 : Value) (u159 : Value) (u160 : Value) (u161 : Value) (u162 : Value) (u163 : Value) (u164 : Value) (u165 : Value) (u166 : Value) (u167 : Value) (u168 : Value) (u169 : Value) (u170 : Value) , a = ⟨List.toArray (c0 :: .pointer (some ⟨pb, 0, none⟩) :: c2 :: c3 :: c4 :: c5 :: .slice (some ⟨g, 0, none⟩) n n :: c7 :: c8 :: c9 :: .slice (some ⟨g2, 0, none⟩) ln lc :: c11 :: c12 :: .slice (some ⟨gp, 0, none⟩) n n :: nx :: u15 :: u16 :: c17 :: c18 :: c19 :: c20 :: c21 :: c22 :: c23 :: c24 :: c25 :: c26 :: c27 :: c28 :: c29 :: c30 :: c31 :: c32 :: c33 :: c34 :: c35 :: c36 :: c37 :: c38 :: c39 :: c40 :: c41 :: c42 :: c43 :: c44 :: c45 :: c46 :: c47 :: c48 :: c49 :: c50 :: c51 :: c52 :: c53 :: c54 :: c55 :: c56 :: c57 :: c58 :: c59 :: c60 :: c61 :: c62 :: c63 :: c64 :: c65 :: c66 :: c67 :: c68 :: c69 :: c70 :: c71 :: c72 :: c73 :: c74 :: c75 :: c76 :: c77 :: c78 :: c79 :: c80 :: c81 :: c82 :: c83 :: c84 :: c85 :: c86 :: c87 :: c88 :: c89 :: c90 :: c91 :: c92 :: c93 :: c94 :: c95 :: c96 :: c97 :: c98 :: c99 :: c100 :: c101 :: c102 :: c103 :: c104 :: c105 :: c106 :: c107 :: c108 :: c109 :: c110 :: c111 :: c112 :: c113 :: c114 :: c115 :: c116 :: c117 :: c118 :: c119 :: c120 :: c121 :: c122 :: c123 :: c124 :: c125 :: c126 :: c127 :: .slice (some ⟨g2, 0, none⟩) ln lc :: .int .i64 (ln : Int) :: u130 :: u131 :: u132 :: u133 :: u134 :: u135 :: u136 :: u137 :: u138 :: u139 :: u140 :: u141 :: u142 :: u143 :: u144 :: u145 :: u146 :: u147 :: u148 :: u149 :: u150 :: u151 :: u152 :: u153 :: u154 :: u155 :: u156 :: u157 :: u158 :: u159 :: u160 :: u161 :: u162 :: u163 :: u164 :: u165 :: u166 :: u167 :: u168 :: u169 :: u170 :: c171 :: c172 :: c173 :: c174 :: c175 :: c176 :: c177 :: c178 :: c179 :: c180 :: c181 :: c182 :: c183 :: c184 :: c185 :: c186 :: c187 :: c188 :: c189 :: c190 :: c191 :: c192 :: c193 :: c194 :: c195 :: c196 :: c197 :: c198 :: c199 :: c200 :: c201 :: c202 :: c203 :: c204 :: c205 :: c206 :: c207 :: c208 :: c209 :: c210 :: c211 :: c212 :: c213 :: c214 :: c215 :: c216 :: c217 :: c218 :: c219 :: c220 :: c221 :: c222 :: c223 :: c224 :: c225 :: c226 :: c227 :: c228 :: c229 :: c230 :: c231 :: c232 :: c233 :: c234 :: c235 :: c236 :: c237 :: c238 :: c239 :: c240 :: c241 :: c242 :: c243 :: c244 :: c245 :: c246 :: c247 :: c248 :: c249 :: []), []⟩ ∧ Mine 3 w' gp (some ⟨gp, 0, none⟩) n n (nats (placeT ops (lands ops) (stays ops) ln)) ∧ Below gp w6 w')) ⟨List.toArray (c0 :: .pointer (some ⟨pb, 0, none⟩) :: c2 :: c3 :: c4 :: c5 :: .slice (some ⟨g, 0, none⟩) n n :: c7 :: c8 :: c9 :: .slice (some ⟨g2, 0, none⟩) ln lc :: c11 :: c12 :: .slice (some ⟨gp, 0, none⟩) n n :: .int .i64 0 :: c15 :: c16 :: c17 :: c18 :: c19 :: c20 :: c21 :: c22 :: c23 :: c24 :: c25 :: c26 :: c27 :: c28 :: c29 :: c30 :: c31 :: c32 :: c33 :: c34 :: c35 :: c36 :: c37 :: c38 :: c39 :: c40 :: c41 :: c42 :: c43 :: c44 :: c45 :: c46 :: c47 :: c48 :: c49 :: c50 :: c51 :: c52 :: c53 :: c54 :: c55 :: c56 :: c57 :: c58 :: c59 :: c60 :: c61 :: c62 :: c63 :: c64 :: c65 :: c66 :: c67 :: c68 :: c69 :: c70 :: c71 :: c72 :: c73 :: c74 :: c75 :: c76 :: c77 :: c78 :: c79 :: c80 :: c81 :: c82 :: c83 :: c84 :: c85 :: c86 :: c87 :: c88 :: c89 :: c90 :: c91 :: c92 :: c93 :: c94 :: c95 :: c96 :: c97 :: c98 :: c99 :: c100 :: c101 :: c102 :: c103 :: c104 :: c105 :: c106 :: c107 :: c108 :: c109 :: c110 :: c111 :: c112 :: c113 :: c114 :: c115 :: c116 :: c117 :: c118 :: c119 :: c120 :: c121 :: c122 :: c123 :: c124 :: c125 :: c126 :: c127 :: .slice (some ⟨g2, 0, none⟩) ln lc :: .int .i64 (ln : Int) :: .int .i64 0 :: c131 :: c132 :: c133 :: c134 :: c135 :: c136 :: c137 :: c138 :: c139 :: c140 :: c141 :: c142 :: c143 :: c144 :: c145 :: c146 :: c147 :: c148 :: c149 :: c150 :: c151 :: c152 :: c153 :: c154 :: c155 :: c156 :: c157 :: c158 :: c159 :: c160 :: c161 :: c162 :: c163 :: c164 :: c165 :: c166 :: c167 :: c168 :: c169 :: c170 :: c171 :: c172 :: c173 :: c174 :: c175 :: c176 :: c177 :: c178 :: c179 :: c180 :: c181 :: c182 :: c183 :: c184 :: c185 :: c186 :: c187 :: c188 :: c189 :: c190 :: c191 :: c192 :: c193 :: c194 :: c195 :: c196 :: c197 :: c198 :: c199 :: c200 :: c201 :: c202 :: c203 :: c204 :: c205 :: c206 :: c207 :: c208 :: c209 :: c210 :: c211 :: c212 :: c213 :: c214 :: c215 :: c216 :: c217 :: c218 :: c219 :: c220 :: c221 :: c222 :: c223 :: c224 :: c225 :: c226 :: c227 :: c228 :: c229 :: c230 :: c231 :: c232 :: c233 :: c234 :: c235 :: c236 :: c237 :: c238 :: c239 :: c240 :: c241 :: c242 :: c243 :: c244 :: c245 :: c246 :: c247 :: c248 :: c249 :: []), []⟩ w6 := by
  have hlen := hp.len
  have hsln : (stays ops).length = ln := by have := hst.len; rwa [nats_length] at this
  have HSL := Lib.hid hsln
  have HPT := Lib.hid (show placeT ops (lands ops) (stays ops) 0 = List.replicate n 0 by rw [placeT, hlen])
  have hlnn : ln ≤ n := by have := stays_many ops; omega
  have HLEN := Lib.hid hlen
  have HP := Lib.hid hp
  have HRP := Lib.hid hP
  have HL := Lib.hid hl
  have HS := Lib.hid hst
  have HPB := Lib.hid hpb
  clear hlen hp hP hl hst hpb hsln
  conv => arg 2; arg 1; whnf
  go_loopw [14, 130] (fun nx ix wr => ∃ (k p : Nat), ix = .int .i64 (k : Int) ∧ k ≤ ln ∧ nx = .int .i64 (p : Int) ∧ Hid (p = posT ops (lands ops) (stays ops) k) ∧ Mine 3 wr gp (some ⟨gp, 0, none⟩) n n (nats (placeT ops (lands ops) (stays ops) k)) ∧ Below gp w6 wr) (fun _ ix _ => ln - (intOf ix).toNat)
  case atStart => exact ⟨0, 0, rfl, Nat.zero_le _, rfl, Lib.hid rfl, by rw [HPT.out]; exact hP0, Below.refl _ _⟩
  case round =>
    obtain ⟨k, p, rfl, hk, rfl, HPP, hm, hbr⟩ := hrel
    clear hP0
    by_cases hlt : k < ln
    · have hlen := HLEN.out
      have hks : k < (stays ops).length := by have := HSL.out; omega
      have hmem := stay_mem (ops := ops) hks
      have hil := stays_lt ops _ hmem
      have hls := HS.out.low hbr hg2B
      have hce := hls.cell k hlt
      rw [nats_getD hks] at hce
      have HJM := Lib.hid (fun h5 => stay_fall HRP.out hks h5)
      have HNX := Lib.hid (HRP.out.next hil)
      have HJE := Lib.hid (fun (h5 : (opAt ops (stay ops k)).kind = 5) => jmp_end (ops := ops) (m := k) h5)
      have hce1 : k + 1 < ln → ∃ y, stay ops (k + 1) = y ∧ w6.cell? ⟨g2, k + 1, none⟩ = some (.int .i64 (y : Int)) := fun h => by
        have h2 := HS.out.cell (k + 1) h
        rw [nats_getD (by have := HSL.out; omega)] at h2
        exact ⟨_, rfl, h2⟩
      have HC1 := Lib.hid hce1
      rw [show (stays ops).getD k 0 = stay ops k from rfl] at hce
      have hpl := posT_le ops (lands ops) (stays ops) k
      have hpb2 : p ≤ 200000000000 := by have := HPP.out; omega
      have hpml : (placeT ops (lands ops) (stays ops) k).length = n := by rw [placeT_length, hlen]
      have HPS := Lib.hid (show placeT ops (lands ops) (stays ops) (k + 1) = (placeT ops (lands ops) (stays ops) k).set (stay ops k) p by rw [HPP.out]; rfl)
      have HPO := Lib.hid (show posT ops (lands ops) (stays ops) (k + 1) = p + 1 + (if jmp ops k then 1 else 0) by rw [HPP.out]; rfl)
      obtain ⟨i, hi⟩ : ∃ i, stay ops k = i := ⟨_, rfl⟩
      rw [hi] at hil hce HJE HPS HNX
      have HI := Lib.hid hi
      obtain ⟨v, hv⟩ : ∃ v, opAt ops i = v := ⟨_, rfl⟩
      have hget := opAt_get hil
      obtain ⟨b, o, rfl, hc⟩ := HP.out.cells (by omega)
      obtain ⟨V1, V2, V3, hr', -, -⟩ := hc i hil
      rw [← hget, hv] at hr'
      rw [hv] at HJE HNX
      have HV := Lib.hid hv
      have hin : (i : Int) < (n : Int) := by omega
      have hi0 : i ≤ 100000000000 := by omega
      have hinn : i < n := by omega
      have HHI := Lib.hid (show stay ops k = i ∧ (stays ops).length = ln from ⟨HI.out, HSL.out⟩)
      have cp := hm.cell i hinn
      have fp := hm.free i
      generalize hpt : placeT ops (lands ops) (stays ops) k = pl at hm hpml HPS cp
      rw [nats_getD (by omega)] at cp
      clear hc hget hil hmem hlen hi hls hce1 hv hpl hpt
      go_upto_region 33 with (fail)
      have hm7 := hm.stored i hinn (.int .i64 (p : Int))
      rw [nats_set, ← HPS.out] at hm7
      have hb7 := hbr.setCell (p := ⟨gp, i, none⟩) (Nat.le_refl _) (.int .i64 (p : Int))
      generalize wr.setCell ⟨gp, i, none⟩ (.int .i64 (p : Int)) = w7 at hm7 hb7 ⊢
      have hbw := hb6.trans (hb7.mono hwB)
      have hr := rangeAt_below hr' hbw
      have hp7 := (hb7.block pb hpB).trans HPB.out
      have r0 : _ = some _ := range_cell (o := o + i * 8) hr 0 rfl
      rw [Nat.add_zero] at r0
      have p2 : w7.cell? ⟨pb, 2, none⟩ = some (.slice (some ⟨b, o, none⟩) n c) := cell_of_block hp7 rfl
      clear hm hbr hce cp fp hr hr' hp7 hbw
      by_cases h5 : v.kind = 5
      · have hj := HJE.out h5
        have HR1 := Lib.hid (show p + 1 = posT ops (lands ops) (stays ops) (k + 1) by rw [HPO.out, hj]; simp)
        have hkc : (v.kind : Int) = 5 := by omega
        rw [hkc] at r0
        clear hkc h5 hj HJM HJE HC1
        go_upto_region 34 with (fail)
        go_quiet (fail)
        go_wp2
        go_roundw
        case rel => exact ⟨k + 1, p + 1, by go_num, hlt, by go_num, HR1, by first | exact hm7 | exact hm7.below (below_drawn (Below.refl _ _) _), by first | exact hb7 | exact below_drawn hb7 _⟩
        case measure => simp [intOf]; omega
      · have hnn : i + 1 < n := by have := HNX.out h5; have := HLEN.out; omega
        obtain ⟨bb, hkb, hbl, _⟩ := HJM.out (by rw [HHI.out.1, HV.out]; exact h5)
        have hk1 : k + 1 < ln := by have := HSL.out; omega
        obtain ⟨y, hy, hcy0⟩ := HC1.out hk1
        have hcy : w7.cell? ⟨g2, k + 1, none⟩ = some (.int .i64 (y : Int)) := (hb7.cell (p := ⟨g2, k + 1, none⟩) hg2B).trans hcy0
        have hl13 := HL.out.low hb7 hgB
        have hcx := hl13.cell (i + 1) hnn
        rw [nats_getD (by rw [lands_length, HLEN.out]; exact hnn)] at hcx
        obtain ⟨x, hx⟩ : ∃ x, (lands ops).getD (i + 1) 0 = x := ⟨_, rfl⟩
        have hxn : x < n := by have := lands_lt ops HRP.out.some (i + 1); have := HLEN.out; omega
        have hj : jmp ops k = decide (x ≠ y) := by
          unfold jmp jumpy
          rw [show (stays ops).getD k 0 = stay ops k from rfl, show (stays ops).getD (k + 1) 0 = stay ops (k + 1) from rfl, HHI.out.1, HV.out, hx, hy, decide_eq_true h5, decide_eq_false (show ¬ k + 1 = (stays ops).length by have := HSL.out; omega), Bool.true_and, Bool.false_or]
        rw [hx] at hcx
        have HXX := Lib.hid hx
        have e1 : IntKind.i64.wrap ((i : Int) + 1) = (i : Int) + 1 := IntWalk.i64_in _ (by omega)
        have e2 : IntKind.i64.wrap ((k : Int) + 1) = (k : Int) + 1 := IntWalk.i64_in _ (by omega)
        have e3 : (0 : Int) ≤ (i : Int) + 1 := by omega
        have e4 : (0 : Int) ≤ (k : Int) + 1 := by omega
        have e5 : ((i : Int) + 1).toNat = i + 1 := by omega
        have e6 : ((k : Int) + 1).toNat = k + 1 := by omega
        have e7 : (i : Int) + 1 < (n : Int) := by omega
        have e8 : (k : Int) + 1 < (ln : Int) := by omega
        have k5 : ((v.kind : Int) != 5) = true := by simp; omega
        have k5' : decide ((v.kind : Int) = 5) = false := by simp; omega
        have m1 : ((k : Int) + 1 == (ln : Int)) = false := by simp; omega
        have m2 : decide ((k : Int) + 1 = (ln : Int)) = false := by simp; omega
        clear h5 hcy0 hkb hbl hx hl13 hnn hy
        by_cases hxy : x = y
        · rw [decide_eq_false (by simpa using hxy)] at hj
          have HR1 := Lib.hid (show p + 1 = posT ops (lands ops) (stays ops) (k + 1) by rw [HPO.out, hj]; simp)
          subst hxy
          clear hj HJM HJE HC1
          go_upto_region 34 with (fail)
          go_quiet (fail)
          clear e1 e2 e5 e6
          go_wp2
          go_roundw
          case rel => exact ⟨k + 1, p + 1, by go_num, hlt, by go_num, HR1, by first | exact hm7 | exact hm7.below (below_drawn (Below.refl _ _) _), by first | exact hb7 | exact below_drawn hb7 _⟩
          case measure => simp [intOf]; omega
        · have m3 : ((x : Int) != (y : Int)) = true := by simp; omega
          have m4 : decide ((x : Int) = (y : Int)) = false := by simp; omega
          rw [decide_eq_true hxy] at hj
          have HR1 := Lib.hid (show p + 2 = posT ops (lands ops) (stays ops) (k + 1) by rw [HPO.out, hj]; simp)
          clear hj HJM HJE HC1 hxy
          go_upto_region 34 with (fail)
          go_quiet (fail)
          clear e1 e2 e5 e6
          go_wp2
          go_roundw
          case rel => exact ⟨k + 1, p + 2, by go_num, hlt, by go_num, HR1, by first | exact hm7 | exact hm7.below (below_drawn (Below.refl _ _) _), by first | exact hb7 | exact below_drawn hb7 _⟩
          case measure => simp [intOf]; omega
    · obtain rfl : k = ln := by omega
      go_wp2
      refine ⟨rfl, ?_⟩; (repeat apply Exists.intro); exact ⟨rfl, hm, hbr⟩

end Go.Proofs.YtekcpapkicmckaaGreatDoor
