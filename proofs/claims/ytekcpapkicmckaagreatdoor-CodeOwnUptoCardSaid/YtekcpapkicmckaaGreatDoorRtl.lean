/- thicketref19.Tidy: the loop that finds where operations land. -/
import Derived.Test.YtekcpapkicmckaaGreatDoorTdc
namespace Go.Proofs.YtekcpapkicmckaaGreatDoor
open Go.RowKit

set_option maxHeartbeats 4000000 in
set_option maxRecDepth 100000 in
theorem rtd_land (F O : Int) (A : Option Addr) (n c : Nat) (ops : List OpV) (g pb : Nat) (w w3 : World) (c0 c2 c3 c4 c5 c8 c9 c10 c11 c12 c13 c14 c15 c16 c17 c18 c19 c20 c21 c22 c23 c24 c25 c26 c27 c28 c29 c30 c31 c32 c33 c34 c35 c36 c37 c38 c39 c40 c41 c42 c43 c44 c45 c46 c47 c48 c49 c50 c51 c52 c53 c54 c55 c56 c57 c58 c59 c60 c61 c62 c63 c64 c65 c66 c67 c68 c69 c70 c71 c72 c73 c74 c75 c76 c77 c78 c79 c80 c81 c82 c83 c84 c85 c86 c87 c88 c89 c90 c91 c92 c93 c94 c95 c96 c97 c98 c99 c100 c101 c102 c103 c104 c105 c106 c107 c108 c109 c110 c111 c112 c113 c114 c115 c116 c117 c118 c119 c120 c121 c122 c123 c124 c125 c126 c127 c128 c129 c130 c131 c132 c133 c134 c135 c136 c137 c138 c139 c140 c141 c142 c143 c144 c145 c146 c147 c148 c149 c150 c151 c152 c153 c154 c155 c156 c157 c158 c159 c160 c161 c162 c163 c164 c165 c166 c167 c168 c169 c170 c171 c172 c173 c174 c175 c176 c177 c178 c179 c180 c181 c182 c183 c184 c185 c186 c187 c188 c189 c190 c191 c192 c193 c194 c195 c196 c197 c198 c199 c200 c201 c202 c203 c204 c205 c206 c207 c208 c209 c210 c211 c212 c213 c214 c215 c216 c217 c218 c219 c220 c221 c222 c223 c224 c225 c226 c227 c228 c229 c230 c231 c232 c233 c234 c235 c236 c237 c238 c239 c240 c241 c242 c243 c244 c245 c246 c247 c248 c249 : Value) (hP : RightP F O ops) (hp : OpsAt w A n c ops) (hn : n ≤ 1000000000000) (hb3 : Below w.heap.size w w3) (hgw : w.heap.size ≤ g) (hpb : w3.heap[pb]? = some (.cells #[.int .i64 F, .int .i64 O, .slice A n c] 30 (0, 0))) (hpg : pb ≠ g)
    (hl : Mine 3 w3 g (some ⟨g, 0, none⟩) n n (nats (List.replicate n 0))) :
    Code.wp Tryz.prog (Code.loop (Tryz.rtidyLoop 0)) (LoopEnds 0 (fun a w' => ∃ (u7 : Value) (u8 : Value) (u38 : Value) (u39 : Value) (u40 : Value) (u41 : Value) (u42 : Value) (u43 : Value) (u44 : Value) (u45 : Value) (u46 : Value) (u47 : Value) (u48 : Value) (u49 : Value) (u50 : Value) (u51 : Value) (u52 : Value) (u53 : Value) (u54 : Value) (u55 : Value) (u56 : Value) (u57 : Value) (u58 : Value) (u59 : Value) (u60 : Value) (u61 : Value) (u62 : Value) (u63 : Value) (u64 : Value) (u65 : Value) (u66 : Value) (u67 : Value) (u68 : Value) (u69 : Value) (u70 : Value) (u71 : Value) (u72 : Value) (u73 : Value) (u74 : Value) (u75 : Value) (u76 : Value) (u77 : Value) , a = ⟨List.toArray (c0 :: .pointer (some ⟨pb, 0, none⟩) :: c2 :: c3 :: c4 :: c5 :: .slice (some ⟨g, 0, none⟩) n n :: u7 :: u8 :: c9 :: c10 :: c11 :: c12 :: c13 :: c14 :: c15 :: c16 :: c17 :: c18 :: c19 :: c20 :: c21 :: c22 :: c23 :: c24 :: c25 :: c26 :: c27 :: c28 :: c29 :: c30 :: c31 :: c32 :: c33 :: c34 :: c35 :: c36 :: c37 :: u38 :: u39 :: u40 :: u41 :: u42 :: u43 :: u44 :: u45 :: u46 :: u47 :: u48 :: u49 :: u50 :: u51 :: u52 :: u53 :: u54 :: u55 :: u56 :: u57 :: u58 :: u59 :: u60 :: u61 :: u62 :: u63 :: u64 :: u65 :: u66 :: u67 :: u68 :: u69 :: u70 :: u71 :: u72 :: u73 :: u74 :: u75 :: u76 :: u77 :: c78 :: c79 :: c80 :: c81 :: c82 :: c83 :: c84 :: c85 :: c86 :: c87 :: c88 :: c89 :: c90 :: c91 :: c92 :: c93 :: c94 :: c95 :: c96 :: c97 :: c98 :: c99 :: c100 :: c101 :: c102 :: c103 :: c104 :: c105 :: c106 :: c107 :: c108 :: c109 :: c110 :: c111 :: c112 :: c113 :: c114 :: c115 :: c116 :: c117 :: c118 :: c119 :: c120 :: c121 :: c122 :: c123 :: c124 :: c125 :: c126 :: c127 :: c128 :: c129 :: c130 :: c131 :: c132 :: c133 :: c134 :: c135 :: c136 :: c137 :: c138 :: c139 :: c140 :: c141 :: c142 :: c143 :: c144 :: c145 :: c146 :: c147 :: c148 :: c149 :: c150 :: c151 :: c152 :: c153 :: c154 :: c155 :: c156 :: c157 :: c158 :: c159 :: c160 :: c161 :: c162 :: c163 :: c164 :: c165 :: c166 :: c167 :: c168 :: c169 :: c170 :: c171 :: c172 :: c173 :: c174 :: c175 :: c176 :: c177 :: c178 :: c179 :: c180 :: c181 :: c182 :: c183 :: c184 :: c185 :: c186 :: c187 :: c188 :: c189 :: c190 :: c191 :: c192 :: c193 :: c194 :: c195 :: c196 :: c197 :: c198 :: c199 :: c200 :: c201 :: c202 :: c203 :: c204 :: c205 :: c206 :: c207 :: c208 :: c209 :: c210 :: c211 :: c212 :: c213 :: c214 :: c215 :: c216 :: c217 :: c218 :: c219 :: c220 :: c221 :: c222 :: c223 :: c224 :: c225 :: c226 :: c227 :: c228 :: c229 :: c230 :: c231 :: c232 :: c233 :: c234 :: c235 :: c236 :: c237 :: c238 :: c239 :: c240 :: c241 :: c242 :: c243 :: c244 :: c245 :: c246 :: c247 :: c248 :: c249 :: []), []⟩ ∧ Mine 3 w' g (some ⟨g, 0, none⟩) n n (nats (lands ops)) ∧ w3.grownBy w' (some g))) ⟨List.toArray (c0 :: .pointer (some ⟨pb, 0, none⟩) :: c2 :: c3 :: c4 :: c5 :: .slice (some ⟨g, 0, none⟩) n n :: .int .i64 ((n : Int) - 1) :: c8 :: c9 :: c10 :: c11 :: c12 :: c13 :: c14 :: c15 :: c16 :: c17 :: c18 :: c19 :: c20 :: c21 :: c22 :: c23 :: c24 :: c25 :: c26 :: c27 :: c28 :: c29 :: c30 :: c31 :: c32 :: c33 :: c34 :: c35 :: c36 :: c37 :: c38 :: c39 :: c40 :: c41 :: c42 :: c43 :: c44 :: c45 :: c46 :: c47 :: c48 :: c49 :: c50 :: c51 :: c52 :: c53 :: c54 :: c55 :: c56 :: c57 :: c58 :: c59 :: c60 :: c61 :: c62 :: c63 :: c64 :: c65 :: c66 :: c67 :: c68 :: c69 :: c70 :: c71 :: c72 :: c73 :: c74 :: c75 :: c76 :: c77 :: c78 :: c79 :: c80 :: c81 :: c82 :: c83 :: c84 :: c85 :: c86 :: c87 :: c88 :: c89 :: c90 :: c91 :: c92 :: c93 :: c94 :: c95 :: c96 :: c97 :: c98 :: c99 :: c100 :: c101 :: c102 :: c103 :: c104 :: c105 :: c106 :: c107 :: c108 :: c109 :: c110 :: c111 :: c112 :: c113 :: c114 :: c115 :: c116 :: c117 :: c118 :: c119 :: c120 :: c121 :: c122 :: c123 :: c124 :: c125 :: c126 :: c127 :: c128 :: c129 :: c130 :: c131 :: c132 :: c133 :: c134 :: c135 :: c136 :: c137 :: c138 :: c139 :: c140 :: c141 :: c142 :: c143 :: c144 :: c145 :: c146 :: c147 :: c148 :: c149 :: c150 :: c151 :: c152 :: c153 :: c154 :: c155 :: c156 :: c157 :: c158 :: c159 :: c160 :: c161 :: c162 :: c163 :: c164 :: c165 :: c166 :: c167 :: c168 :: c169 :: c170 :: c171 :: c172 :: c173 :: c174 :: c175 :: c176 :: c177 :: c178 :: c179 :: c180 :: c181 :: c182 :: c183 :: c184 :: c185 :: c186 :: c187 :: c188 :: c189 :: c190 :: c191 :: c192 :: c193 :: c194 :: c195 :: c196 :: c197 :: c198 :: c199 :: c200 :: c201 :: c202 :: c203 :: c204 :: c205 :: c206 :: c207 :: c208 :: c209 :: c210 :: c211 :: c212 :: c213 :: c214 :: c215 :: c216 :: c217 :: c218 :: c219 :: c220 :: c221 :: c222 :: c223 :: c224 :: c225 :: c226 :: c227 :: c228 :: c229 :: c230 :: c231 :: c232 :: c233 :: c234 :: c235 :: c236 :: c237 :: c238 :: c239 :: c240 :: c241 :: c242 :: c243 :: c244 :: c245 :: c246 :: c247 :: c248 :: c249 :: []), []⟩ w3 := by
  have hlen := hp.len
  have hsf : ∀ (W : World) (a : Addr) (b : Nat), (store a (.float .f64 b)).run Tryz.prog W = stored Tryz.prog W a (.float .f64 b) .plain := fun W a b => run_store _ W a _ _ rfl
  have HLT := Lib.hid (show landT ops 0 = List.replicate n 0 by rw [landT, hlen])
  have HLE := Lib.hid (show landT ops n = lands ops by unfold lands; rw [hlen])
  have HLEN := Lib.hid hlen
  have HP := Lib.hid hp
  have HRP := Lib.hid hP
  have HPB := Lib.hid hpb
  clear hlen hp hP hpb
  conv => arg 2; arg 1; whnf
  go_loopw [7] (fun ix wr => ∃ (k : Nat) (z : Int), k ≤ n ∧ ix = .int .i64 z ∧ Hid (z = (n : Int) - 1 - k) ∧ Mine 3 wr g (some ⟨g, 0, none⟩) n n (nats (landT ops k)) ∧ w3.grownBy wr (some g)) (fun ix _ => (intOf ix + 1).toNat)
  case atStart => exact ⟨0, (n : Int) - 1, Nat.zero_le _, rfl, Lib.hid (by omega), by rw [HLT.out]; exact hl, ⟨rfl, rfl, rfl, Nat.le_refl _, fun _ _ _ => rfl⟩⟩
  case round =>
    obtain ⟨k, z, hk, rfl, HZ, hm, hgr⟩ := hrel
    clear hl
    by_cases hlt : k < n
    · obtain ⟨i, hi⟩ : ∃ i, i + k + 1 = n := ⟨n - 1 - k, by omega⟩
      obtain rfl : z = (i : Int) := by have := HZ.out; omega
      have hlen := HLEN.out
      have hil : i < ops.length := by omega
      obtain ⟨b, o, rfl, hc⟩ := HP.out.cells (by omega)
      obtain ⟨V1, V2, V3, hr', _, _⟩ := hc i hil
      have hstep : landT ops (k + 1) = (landT ops k).set i (landStep ops (landT ops k) i) := by
        simp only [landT]
        rw [show ops.length - 1 - k = i by omega]
      have hll := landT_length ops k
      have hlb := landT_lt ops (by omega) k
      have hnx := HRP.out.next hil
      have hjm := HRP.out.jump hil
      have hkd := (HRP.out.at hil).kind
      unfold landStep at hstep
      simp only at hstep
      rw [← opAt_get hil] at hr'
      generalize opAt ops i = v at hr' hnx hjm hkd hstep
      generalize landT ops k = L at hm hstep hll hlb
      have i1 : (i : Int) < (n : Int) := by omega
      have HST := Lib.hid hstep
      have HLL := Lib.hid (hll.trans hlen)
      have HNX := Lib.hid hnx
      have HJM := Lib.hid hjm
      have HLB := Lib.hid hlb
      have HZ2 := Lib.hid (show (i : Int) - 1 = (n : Int) - 1 - ((k + 1 : Nat) : Int) by omega)
      have f5 := hm.free i
      have c5 := hm.cell i (by omega)
      rw [nats_getD (by rw [HLL.out]; omega)] at c5
      clear hc hlen hstep hll hlb hnx hjm hi
      go_upto_region 9 with (fail)
      have hm5 := hm.stored i (by omega) (.int .i64 (i : Int))
      have hg5 := hgr.trans (setCell_grownBy wr g i (.int .i64 (i : Int)))
      rw [nats_set] at hm5
      generalize wr.setCell ⟨g, i, none⟩ (.int .i64 (i : Int)) = w5 at hm5 hg5 ⊢
      have hbr := below_grown (A := some ⟨g, 0, none⟩) hb3 hb3.size hg5 (fun k hk => by simp [blockOf] at hk; omega)
      have hpr := (hg5.block pb (lt_of_block HPB.out) (by simpa using hpg)).trans HPB.out
      have hr := rangeAt_below hr' hbr
      have r0 : _ = some _ := range_cell (o := o + i * 8) hr 0 rfl
      rw [Nat.add_zero] at r0
      have r1 := range_cell hr 1 rfl
      have r2 := range_cell hr 2 rfl
      have r3 := range_cell hr 3 rfl
      have r4 := range_cell hr 4 rfl
      have r5 := range_cell hr 5 rfl
      have r6 := range_cell hr 6 rfl
      have r7 := range_cell hr 7 rfl
      have p2 : w5.cell? ⟨pb, 2, none⟩ = some (.slice (some ⟨b, o, none⟩) n c) := cell_of_block hpr rfl
      clear f5 c5 hm hgr hr hr' hpr hbr
      go_upto_region 10 with (fail)
      have b6 := (Below.refl w5.heap.size w5).alloc (Nat.le_refl _) (.cells #[.int .u8 (v.kind : Int), .int .i64 v.feature, .float .f64 v.thr, .slice V1 V2 V3, .int .u8 (v.missing : Int), .int .i64 v.output, .int .i64 v.value, .int .i64 v.dest] 75)
      have hO6 : (w5.alloc (.cells #[.int .u8 (v.kind : Int), .int .i64 v.feature, .float .f64 v.thr, .slice V1 V2 V3, .int .u8 (v.missing : Int), .int .i64 v.output, .int .i64 v.value, .int .i64 v.dest] 75)).heap[w5.heap.size]? = some (.cells #[.int .u8 (v.kind : Int), .int .i64 v.feature, .float .f64 v.thr, .slice V1 V2 V3, .int .u8 (v.missing : Int), .int .i64 v.output, .int .i64 v.value, .int .i64 v.dest] 75 (0, 0)) := heap_alloc_new w5 _
      generalize (w5.alloc (.cells #[.int .u8 (v.kind : Int), .int .i64 v.feature, .float .f64 v.thr, .slice V1 V2 V3, .int .u8 (v.missing : Int), .int .i64 v.output, .int .i64 v.value, .int .i64 v.dest] 75)) = w6 at b6 hO6 ⊢
      have hm6 := hm5.below b6
      have hg6 := hg5.trans (grownBy_of_below b6 (some g))
      have q0 : w6.cell? ⟨w5.heap.size, 0, none⟩ = some (.int .u8 (v.kind : Int)) := cell_of_block hO6 rfl
      have q6 : w6.cell? ⟨w5.heap.size, 6, none⟩ = some (.int .i64 v.value) := cell_of_block hO6 rfl
      have q7 : w6.cell? ⟨w5.heap.size, 7, none⟩ = some (.int .i64 v.dest) := cell_of_block hO6 rfl
      have f6 := hm6.free i
      have c6 := hm6.cell i (by omega)
      rw [nats_getD (by rw [List.length_set, HLL.out]; omega), gset_eq (by rw [HLL.out]; omega)] at c6
      clear hm5 hO6 hg5 b6 p2 r0 r1 r2 r3 r4 r5 r6 r7
      by_cases h4 : v.kind = 4
      · obtain ⟨hj1, hj2, hj3⟩ := HJM.out (by omega) (by omega)
        have hx := HLB.out v.dest.toNat
        have hce := hm6.cell v.dest.toNat (by have := HLEN.out; omega)
        rw [nats_getD (by rw [List.length_set, HLL.out]; have := HLEN.out; omega), gset_ne (by omega)] at hce
        have HS2 := Lib.hid (show landT ops (k + 1) = L.set i (L.getD v.dest.toNat 0) by rw [HST.out, if_pos h4])
        rw [hj3] at q7
        have d1 : v.dest.toNat < n := by have := HLEN.out; omega
        generalize v.dest.toNat = d at hx hce HS2 q7 d1
        generalize L.getD d 0 = x at hx hce HS2
        have hkc : (v.kind : Int) = 4 := by omega
        rw [hkc] at q0
        have d2 : (d : Int) < (n : Int) := by omega
        have hm7 := hm6.stored i (by omega) (.int .i64 (x : Int))
        rw [nats_set, List.set_set, ← HS2.out] at hm7
        have hg7 := hg6.trans (setCell_grownBy w6 g i (.int .i64 (x : Int)))
        have HM7 := Lib.hid hm7
        clear hkc h4 hj1 hj2 hj3 hkd hm6 hm7
        go_wp2
        go_roundw
        case rel => exact ⟨k + 1, (i : Int) - 1, hlt, by go_num, HZ2, HM7.out, hg7⟩
        case measure => simp [intOf]
      · have k4 : ((v.kind : Int) == 4) = false := by simp; omega
        have k4' : decide ((v.kind : Int) = 4) = false := by simp; omega
        by_cases h3 : v.kind = 3 ∧ v.value = 0
        · have hnn := HNX.out (by omega)
          have hx := HLB.out (i + 1)
          have hce := hm6.cell (i + 1) (by have := HLEN.out; omega)
          rw [nats_getD (by rw [List.length_set, HLL.out]; have := HLEN.out; omega), gset_ne (by omega)] at hce
          have HS2 := Lib.hid (show landT ops (k + 1) = L.set i (L.getD (i + 1) 0) by rw [HST.out, if_neg h4, if_pos h3])
          generalize L.getD (i + 1) 0 = x at hx hce HS2
          have hkc : (v.kind : Int) = 3 := by omega
          rw [hkc] at q0
          rw [h3.2] at q6
          have d1 : i + 1 < n := by have := HLEN.out; omega
          have d2 : (i : Int) + 1 < (n : Int) := by omega
          have hm7 := hm6.stored i (by omega) (.int .i64 (x : Int))
          rw [nats_set, List.set_set, ← HS2.out] at hm7
          have hg7 := hg6.trans (setCell_grownBy w6 g i (.int .i64 (x : Int)))
          have HM7 := Lib.hid hm7
          clear hkc h4 h3 hkd hm6 hm7 k4 k4'
          go_wp2
          go_roundw
          case rel => exact ⟨k + 1, (i : Int) - 1, hlt, by go_num, HZ2, HM7.out, hg7⟩
          case measure => simp [intOf]
        · have HS2 := Lib.hid (show landT ops (k + 1) = L.set i i by rw [HST.out, if_neg h4, if_neg h3])
          rw [← HS2.out] at hm6
          have HM7 := Lib.hid hm6
          by_cases hk3 : v.kind = 3
          · have hkc : (v.kind : Int) = 3 := by omega
            rw [hkc] at q0
            have v0 : (v.value == 0) = false := by simpa using fun e => h3 ⟨hk3, e⟩
            have v1 : decide (v.value = 0) = false := by simpa using fun e => h3 ⟨hk3, e⟩
            clear hkc h4 h3 hk3 hkd k4 k4' hm6
            go_wp2
            go_roundw
            case rel => exact ⟨k + 1, (i : Int) - 1, hlt, by go_num, HZ2, HM7.out, hg6⟩
            case measure => simp [intOf]
          · have k3 : ((v.kind : Int) == 3) = false := by simp; omega
            have k3' : decide ((v.kind : Int) = 3) = false := by simp; omega
            clear h4 h3 hk3 hkd hm6
            go_wp2
            go_roundw
            case rel => exact ⟨k + 1, (i : Int) - 1, hlt, by go_num, HZ2, HM7.out, hg6⟩
            case measure => simp [intOf]
    · obtain rfl : k = n := by omega
      obtain rfl : z = -1 := by have := HZ.out; omega
      rw [HLE.out] at hm
      go_wp2
      refine ⟨rfl, ?_⟩; (repeat apply Exists.intro); exact ⟨rfl, hm, hgr⟩

end Go.Proofs.YtekcpapkicmckaaGreatDoor
