/- thicketref19.Tidy: the loop that finds which operations stay. -/
import Derived.Test.YtekcpapkicmckaaGreatDoorTdc
import Derived.Test.YtekcpapkicmckaaGreatDoorRfc
namespace Go.Proofs.YtekcpapkicmckaaGreatDoor
open Go.RowKit

set_option maxHeartbeats 4000000 in
set_option maxRecDepth 100000 in
theorem rtd_real (F O : Int) (A : Option Addr) (n c : Nat) (ops : List OpV) (g pb gr : Nat) (w w4 : World) (c0 c2 c3 c4 c5 c7 c8 c11 c12 c13 c14 c15 c16 c17 c18 c19 c20 c21 c22 c23 c24 c25 c26 c27 c28 c29 c30 c31 c32 c33 c34 c35 c36 c37 c38 c39 c40 c41 c42 c43 c44 c45 c46 c47 c48 c49 c50 c51 c52 c53 c54 c55 c56 c57 c58 c59 c60 c61 c62 c63 c64 c65 c66 c67 c68 c69 c70 c71 c72 c73 c74 c75 c76 c77 c78 c79 c80 c81 c82 c83 c84 c85 c86 c87 c91 c92 c93 c94 c95 c96 c97 c98 c99 c100 c101 c102 c103 c104 c105 c106 c107 c108 c109 c110 c111 c112 c113 c114 c115 c116 c117 c118 c119 c120 c121 c122 c123 c124 c125 c126 c127 c128 c129 c130 c131 c132 c133 c134 c135 c136 c137 c138 c139 c140 c141 c142 c143 c144 c145 c146 c147 c148 c149 c150 c151 c152 c153 c154 c155 c156 c157 c158 c159 c160 c161 c162 c163 c164 c165 c166 c167 c168 c169 c170 c171 c172 c173 c174 c175 c176 c177 c178 c179 c180 c181 c182 c183 c184 c185 c186 c187 c188 c189 c190 c191 c192 c193 c194 c195 c196 c197 c198 c199 c200 c201 c202 c203 c204 c205 c206 c207 c208 c209 c210 c211 c212 c213 c214 c215 c216 c217 c218 c219 c220 c221 c222 c223 c224 c225 c226 c227 c228 c229 c230 c231 c232 c233 c234 c235 c236 c237 c238 c239 c240 c241 c242 c243 c244 c245 c246 c247 c248 c249 : Value) (hP : RightP F O ops) (hp : OpsAt w A n c ops) (hn : n ≤ 100000000000) (hb4 : Below w.heap.size w w4) (hgw : w.heap.size ≤ gr) (hgg : g < gr) (hgs : gr < w4.heap.size)
    (hl : Mine 3 w4 g (some ⟨g, 0, none⟩) n n (nats (lands ops))) (hR : Mine 4 w4 gr (some ⟨gr, 0, none⟩) n n (bools (realT ops (lands ops) 0).1)) :
    Code.wp Tryz.prog (Code.loop (Tryz.rtidyLoop 1)) (LoopEnds 2 (fun a w' => ∃ (LA : Option Addr) (ln lc : Nat) (u11 : Value) (u12 : Value) (u90 : Value) (u91 : Value) (u92 : Value) (u93 : Value) (u94 : Value) (u95 : Value) (u96 : Value) (u97 : Value) (u98 : Value) (u99 : Value) (u100 : Value) (u101 : Value) (u102 : Value) (u103 : Value) (u104 : Value) (u105 : Value) (u106 : Value) (u107 : Value) (u108 : Value) (u109 : Value) (u110 : Value) (u111 : Value) (u112 : Value) (u113 : Value) (u114 : Value) (u115 : Value) (u116 : Value) (u117 : Value) (u118 : Value) (u119 : Value) (u120 : Value) (u121 : Value) (u122 : Value) (u123 : Value) , a = ⟨List.toArray (c0 :: .pointer (some ⟨pb, 0, none⟩) :: c2 :: c3 :: c4 :: c5 :: .slice (some ⟨g, 0, none⟩) n n :: c7 :: c8 :: .slice (some ⟨gr, 0, none⟩) n n :: .slice LA ln lc :: u11 :: u12 :: c13 :: c14 :: c15 :: c16 :: c17 :: c18 :: c19 :: c20 :: c21 :: c22 :: c23 :: c24 :: c25 :: c26 :: c27 :: c28 :: c29 :: c30 :: c31 :: c32 :: c33 :: c34 :: c35 :: c36 :: c37 :: c38 :: c39 :: c40 :: c41 :: c42 :: c43 :: c44 :: c45 :: c46 :: c47 :: c48 :: c49 :: c50 :: c51 :: c52 :: c53 :: c54 :: c55 :: c56 :: c57 :: c58 :: c59 :: c60 :: c61 :: c62 :: c63 :: c64 :: c65 :: c66 :: c67 :: c68 :: c69 :: c70 :: c71 :: c72 :: c73 :: c74 :: c75 :: c76 :: c77 :: c78 :: c79 :: c80 :: c81 :: c82 :: c83 :: c84 :: c85 :: c86 :: c87 :: .slice A n c :: .int .i64 (n : Int) :: u90 :: u91 :: u92 :: u93 :: u94 :: u95 :: u96 :: u97 :: u98 :: u99 :: u100 :: u101 :: u102 :: u103 :: u104 :: u105 :: u106 :: u107 :: u108 :: u109 :: u110 :: u111 :: u112 :: u113 :: u114 :: u115 :: u116 :: u117 :: u118 :: u119 :: u120 :: u121 :: u122 :: u123 :: c124 :: c125 :: c126 :: c127 :: c128 :: c129 :: c130 :: c131 :: c132 :: c133 :: c134 :: c135 :: c136 :: c137 :: c138 :: c139 :: c140 :: c141 :: c142 :: c143 :: c144 :: c145 :: c146 :: c147 :: c148 :: c149 :: c150 :: c151 :: c152 :: c153 :: c154 :: c155 :: c156 :: c157 :: c158 :: c159 :: c160 :: c161 :: c162 :: c163 :: c164 :: c165 :: c166 :: c167 :: c168 :: c169 :: c170 :: c171 :: c172 :: c173 :: c174 :: c175 :: c176 :: c177 :: c178 :: c179 :: c180 :: c181 :: c182 :: c183 :: c184 :: c185 :: c186 :: c187 :: c188 :: c189 :: c190 :: c191 :: c192 :: c193 :: c194 :: c195 :: c196 :: c197 :: c198 :: c199 :: c200 :: c201 :: c202 :: c203 :: c204 :: c205 :: c206 :: c207 :: c208 :: c209 :: c210 :: c211 :: c212 :: c213 :: c214 :: c215 :: c216 :: c217 :: c218 :: c219 :: c220 :: c221 :: c222 :: c223 :: c224 :: c225 :: c226 :: c227 :: c228 :: c229 :: c230 :: c231 :: c232 :: c233 :: c234 :: c235 :: c236 :: c237 :: c238 :: c239 :: c240 :: c241 :: c242 :: c243 :: c244 :: c245 :: c246 :: c247 :: c248 :: c249 :: []), []⟩ ∧ Mine 3 w' gr LA ln lc (nats (stays ops)) ∧ Below gr w4 w')) ⟨List.toArray (c0 :: .pointer (some ⟨pb, 0, none⟩) :: c2 :: c3 :: c4 :: c5 :: .slice (some ⟨g, 0, none⟩) n n :: c7 :: c8 :: .slice (some ⟨gr, 0, none⟩) n n :: .slice none 0 0 :: c11 :: c12 :: c13 :: c14 :: c15 :: c16 :: c17 :: c18 :: c19 :: c20 :: c21 :: c22 :: c23 :: c24 :: c25 :: c26 :: c27 :: c28 :: c29 :: c30 :: c31 :: c32 :: c33 :: c34 :: c35 :: c36 :: c37 :: c38 :: c39 :: c40 :: c41 :: c42 :: c43 :: c44 :: c45 :: c46 :: c47 :: c48 :: c49 :: c50 :: c51 :: c52 :: c53 :: c54 :: c55 :: c56 :: c57 :: c58 :: c59 :: c60 :: c61 :: c62 :: c63 :: c64 :: c65 :: c66 :: c67 :: c68 :: c69 :: c70 :: c71 :: c72 :: c73 :: c74 :: c75 :: c76 :: c77 :: c78 :: c79 :: c80 :: c81 :: c82 :: c83 :: c84 :: c85 :: c86 :: c87 :: .slice A n c :: .int .i64 (n : Int) :: .int .i64 0 :: c91 :: c92 :: c93 :: c94 :: c95 :: c96 :: c97 :: c98 :: c99 :: c100 :: c101 :: c102 :: c103 :: c104 :: c105 :: c106 :: c107 :: c108 :: c109 :: c110 :: c111 :: c112 :: c113 :: c114 :: c115 :: c116 :: c117 :: c118 :: c119 :: c120 :: c121 :: c122 :: c123 :: c124 :: c125 :: c126 :: c127 :: c128 :: c129 :: c130 :: c131 :: c132 :: c133 :: c134 :: c135 :: c136 :: c137 :: c138 :: c139 :: c140 :: c141 :: c142 :: c143 :: c144 :: c145 :: c146 :: c147 :: c148 :: c149 :: c150 :: c151 :: c152 :: c153 :: c154 :: c155 :: c156 :: c157 :: c158 :: c159 :: c160 :: c161 :: c162 :: c163 :: c164 :: c165 :: c166 :: c167 :: c168 :: c169 :: c170 :: c171 :: c172 :: c173 :: c174 :: c175 :: c176 :: c177 :: c178 :: c179 :: c180 :: c181 :: c182 :: c183 :: c184 :: c185 :: c186 :: c187 :: c188 :: c189 :: c190 :: c191 :: c192 :: c193 :: c194 :: c195 :: c196 :: c197 :: c198 :: c199 :: c200 :: c201 :: c202 :: c203 :: c204 :: c205 :: c206 :: c207 :: c208 :: c209 :: c210 :: c211 :: c212 :: c213 :: c214 :: c215 :: c216 :: c217 :: c218 :: c219 :: c220 :: c221 :: c222 :: c223 :: c224 :: c225 :: c226 :: c227 :: c228 :: c229 :: c230 :: c231 :: c232 :: c233 :: c234 :: c235 :: c236 :: c237 :: c238 :: c239 :: c240 :: c241 :: c242 :: c243 :: c244 :: c245 :: c246 :: c247 :: c248 :: c249 :: []), []⟩ w4 := by
  have hlen := hp.len
  have hsf : ∀ (W : World) (a : Addr) (b : Nat), (store a (.float .f64 b)).run Tryz.prog W = stored Tryz.prog W a (.float .f64 b) .plain := fun W a b => run_store _ W a _ _ rfl
  have HLE := Lib.hid (show (realT ops (lands ops) n).2 = stays ops by unfold stays; rw [hlen])
  have HLL := Lib.hid (lands_length ops)
  have HLB := Lib.hid (lands_lt ops hP.some)
  have HLEN := Lib.hid hlen
  have HP := Lib.hid hp
  have HRP := Lib.hid hP
  have HL := Lib.hid hl
  clear hlen hp hP hl
  generalize lands ops = L at HLE HLL HLB HL hR
  conv => arg 2; arg 1; whnf
  go_loopw [10, 90] (fun lx ix wr => ∃ (k : Nat) (LA : Option Addr) (ln lc : Nat), ix = .int .i64 (k : Int) ∧ k ≤ n ∧ lx = .slice LA ln lc ∧ Mine 3 wr gr LA ln lc (nats (realT ops L k).2) ∧ Mine 4 wr gr (some ⟨gr, 0, none⟩) n n (bools (realT ops L k).1) ∧ Below gr w4 wr) (fun _ ix _ => n - (intOf ix).toNat)
  case atStart => exact ⟨0, none, 0, 0, rfl, Nat.zero_le _, rfl, Mine.nil _ _ _, hR, Below.refl _ _⟩
  case round =>
    obtain ⟨k, LA, ln, lc, rfl, hk, rfl, hm, hRr, hbr⟩ := hrel
    clear hR
    by_cases hlt : k < n
    · have hlen := HLEN.out
      have hkl : k < ops.length := by omega
      have hbw := hb4.trans (hbr.mono hgw)
      obtain ⟨b, o, rfl, hc⟩ := HP.out.cells (by omega)
      obtain ⟨V1, V2, V3, hr', _, _⟩ := hc k hkl
      have hr := rangeAt_below hr' hbw
      have hlnk : ln ≤ k := by
        have h1 := hm.len
        rw [nats_length] at h1
        have := realT_many ops L k
        omega
      have hstep : realT ops L (k + 1) = if (realT ops L k).1.getD k false then (markV ops L (realT ops L k).1 k, (realT ops L k).2 ++ [k]) else realT ops L k := rfl
      have hrl := realT_length ops L k
      have hnx := HRP.out.next hkl
      have hjm := HRP.out.jump hkl
      have hkd := (HRP.out.at hkl).kind
      obtain ⟨v, hv⟩ : ∃ v, opAt ops k = v := ⟨_, rfl⟩
      rw [← opAt_get hkl, hv] at hr
      rw [hv] at hnx hjm hkd
      obtain ⟨R, l, hRl⟩ : ∃ R l, realT ops L k = (R, l) := ⟨_, _, rfl⟩
      rw [hRl] at hm hRr hstep hrl
      simp only at hm hRr hstep hrl
      have HAT := Lib.hid hv
      have hcr := hRr.cell k hlt
      rw [bools_getD (by omega)] at hcr
      have r0 : _ = some _ := range_cell (o := o + k * 8) hr 0 rfl
      rw [Nat.add_zero] at r0
      have r1 := range_cell hr 1 rfl
      have r2 := range_cell hr 2 rfl
      have r3 := range_cell hr 3 rfl
      have r4 := range_cell hr 4 rfl
      have r5 := range_cell hr 5 rfl
      have r6 := range_cell hr 6 rfl
      have r7 := range_cell hr 7 rfl
      have i1 : (k : Int) < (n : Int) := by omega
      have hlr := HL.out.low hbr hgg
      have HNX := Lib.hid hnx
      have HJM := Lib.hid hjm
      have HRL := Lib.hid hRl
      have hbs := hbr.size
      clear hc hr hr' hlen hnx hjm hv hRl hbw hrl
      go_upto_region 20 with (fail)
      have b5 := (Below.refl wr.heap.size wr).alloc (Nat.le_refl _) (.cells #[.int .u8 (v.kind : Int), .int .i64 v.feature, .float .f64 v.thr, .slice V1 V2 V3, .int .u8 (v.missing : Int), .int .i64 v.output, .int .i64 v.value, .int .i64 v.dest] 75)
      have hO5 : (wr.alloc (.cells #[.int .u8 (v.kind : Int), .int .i64 v.feature, .float .f64 v.thr, .slice V1 V2 V3, .int .u8 (v.missing : Int), .int .i64 v.output, .int .i64 v.value, .int .i64 v.dest] 75)).heap[wr.heap.size]? = some (.cells #[.int .u8 (v.kind : Int), .int .i64 v.feature, .float .f64 v.thr, .slice V1 V2 V3, .int .u8 (v.missing : Int), .int .i64 v.output, .int .i64 v.value, .int .i64 v.dest] 75 (0, 0)) := heap_alloc_new wr _
      generalize (wr.alloc (.cells #[.int .u8 (v.kind : Int), .int .i64 v.feature, .float .f64 v.thr, .slice V1 V2 V3, .int .u8 (v.missing : Int), .int .i64 v.output, .int .i64 v.value, .int .i64 v.dest] 75)) = w5 at b5 hO5 ⊢
      have hm5 := hm.below b5
      have hR5 := hRr.below b5
      have hl5 := hlr.low (b5.mono (show gr ≤ wr.heap.size by omega)) hgg
      have hb5 := hbr.trans (b5.mono (show gr ≤ wr.heap.size by omega))
      have c5 : w5.cell? ⟨gr, k, none⟩ = some (.bool (R.getD k false)) := (b5.cell (p := ⟨gr, k, none⟩) (by show gr < _; omega)).trans hcr
      have hgo : wr.heap.size ≠ gr := by omega
      clear r0 r1 r2 r3 r4 r5 r6 r7 hm hRr hcr b5 hlr hbr
      cases hy : R.getD k false
      · rw [hy] at c5
        have HS2 := Lib.hid (show realT ops L (k + 1) = (R, l) by rw [hstep, if_neg (by rw [hy]; simp)])
        clear hy hstep
        go_wp2
        go_roundw
        case rel => exact ⟨k + 1, LA, ln, lc, by go_num, hlt, rfl, by rw [HS2.out]; exact hm5, by rw [HS2.out]; exact hR5, hb5⟩
        case measure => simp [intOf]; omega
      · rw [hy] at c5
        have HST := Lib.hid (show realT ops L (k + 1) = (markV ops L R k, l ++ [k]) by rw [hstep, if_pos hy])
        clear hy hstep
        have hb5z : gr ≤ w5.heap.size := by have := hb5.size; omega
        go_upto_region 22 with (at_builtin; refine app_one gr rfl _ _ _ _ (.int .i64 0) 8 rfl Tryz.underlying44 Tryz.info_int rfl (by omega) LA ln lc _ (.int .i64 (k : Int)) rfl rfl rfl hm5 hb5z (by omega) ?_; intro A' c' w7 hm7 hg7 _)
        have hR7 := hR5.kept hg7 (hR5.apart hm5 (by decide))
        have hO7 := keep_ty hg7 hO5 (fun r hr => hm5.ty hr) (by decide)
        have hb7 := below_grown hb5 hb5z hg7 (fun q hq => (hm5.lt q hq).1)
        have hl7 : Mine 3 w7 g (some ⟨g, 0, none⟩) n n (nats L) := hl5.low (below_grown (Below.refl gr w5) hb5z hg7 (fun q hq => (hm5.lt q hq).1)) hgg
        rw [nats_snoc] at hm7
        clear c5 hm5 hR5 hO5 hl5 hb5 hg7
        have q0 : w7.cell? ⟨wr.heap.size, 0, none⟩ = some (.int .u8 (v.kind : Int)) := cell_of_block hO7 rfl
        have q1 : w7.cell? ⟨wr.heap.size, 1, none⟩ = some (.int .i64 v.feature) := cell_of_block hO7 rfl
        have q2 : w7.cell? ⟨wr.heap.size, 2, none⟩ = some (.float .f64 v.thr) := cell_of_block hO7 rfl
        have q3 : w7.cell? ⟨wr.heap.size, 3, none⟩ = some (.slice V1 V2 V3) := cell_of_block hO7 rfl
        have q4 : w7.cell? ⟨wr.heap.size, 4, none⟩ = some (.int .u8 (v.missing : Int)) := cell_of_block hO7 rfl
        have q5 : w7.cell? ⟨wr.heap.size, 5, none⟩ = some (.int .i64 v.output) := cell_of_block hO7 rfl
        have q6 : w7.cell? ⟨wr.heap.size, 6, none⟩ = some (.int .i64 v.value) := cell_of_block hO7 rfl
        have q7 : w7.cell? ⟨wr.heap.size, 7, none⟩ = some (.int .i64 v.dest) := cell_of_block hO7 rfl
        have HTA := Lib.hid (fun W => test_any V1 V2 V3 v W)
        unfold opCells at HTA
        by_cases h5 : v.kind = 5
        · have k5 : ((v.kind : Int) != 5) = false := by simp; omega
          have k5' : decide ((v.kind : Int) = 5) = true := by simp; omega
          have hTT : ∀ W, Calls Tryz.prog 43 #[.agg #[.int .u8 (v.kind : Int), .int .i64 v.feature, .float .f64 v.thr, .slice V1 V2 V3, .int .u8 (v.missing : Int), .int .i64 v.output, .int .i64 v.value, .int .i64 v.dest]] W fun e w' => e = .returned (.bool false) ∧ Below W.heap.size W w' := fun W => by
            have := HTA.out W
            rw [decide_eq_false (show ¬ (v.kind = 1 ∨ v.kind = 2) by omega)] at this
            exact this
          have HTT := Lib.hid hTT
          have HS2 := Lib.hid (show realT ops L (k + 1) = (R, l ++ [k]) by rw [HST.out, markV_end HAT.out h5])
          clear h5 hTT HTA hkd
          go_wp2_with fail
          refine (HTT.out _).mono ?_; rintro e w8 ⟨rfl, b8⟩
          have hz8 : gr ≤ w7.heap.size := by have := hb7.size; omega
          have hm8 := hm7.below b8
          have hR8 := hR7.below b8
          have hb8 := hb7.trans (b8.mono hz8)
          clear q0 q1 q2 q3 q4 q5 q6 q7 hm7 hR7 b8 hO7
          go_wp2
          go_roundw
          case rel => exact ⟨k + 1, A', ln + 1, c', by go_num, hlt, rfl, by rw [HS2.out]; exact hm8, by rw [HS2.out]; exact hR8, hb8⟩
          case measure => simp [intOf]; omega
        · have k5 : ((v.kind : Int) != 5) = true := by simp; omega
          have k5' : decide ((v.kind : Int) = 5) = false := by simp; omega
          have hnn := HNX.out h5
          have hx := HLB.out (k + 1)
          have hce := hl7.cell (k + 1) (by have := HLEN.out; omega)
          rw [nats_getD (by rw [HLL.out]; have := HLEN.out; omega)] at hce
          have d2 : (k : Int) + 1 < (n : Int) := by have := HLEN.out; omega
          have hxn : L.getD (k + 1) 0 < n := by have := HLEN.out; omega
          obtain ⟨x, hxx⟩ : ∃ x, L.getD (k + 1) 0 = x := ⟨_, rfl⟩
          rw [hxx] at hx hce hxn
          have hxi : (x : Int) < (n : Int) := by omega
          have f7 := hR7.free x
          have c7 := hR7.cell x hxn
          have HXX := Lib.hid hxx
          clear hxx
          go_upto_region 24 with (fail)
          have hR8 := hR7.stored x hxn (.bool true)
          rw [bools_set] at hR8
          have hb8 := hb7.setCell (p := ⟨gr, x, none⟩) (Nat.le_refl _) (.bool true)
          have hm8 := hm7.kept (setCell_grownBy w7 gr x (.bool true)) (hm7.apart hR7 (by decide))
          have hO8 := (setCell_other (w := w7) (g := gr) hgo x (.bool true)).trans hO7
          have hl8 := hl7.low (Below.refl gr w7 |>.setCell (p := ⟨gr, x, none⟩) (Nat.le_refl _) (.bool true)) hgg
          generalize w7.setCell ⟨gr, x, none⟩ (.bool true) = w8 at hR8 hb8 hm8 hO8 hl8 ⊢
          clear q0 q1 q2 q3 q4 q5 q6 q7 hm7 hR7 hO7 hl7 hb7 f7 c7 hce
          have q0 : w8.cell? ⟨wr.heap.size, 0, none⟩ = some (.int .u8 (v.kind : Int)) := cell_of_block hO8 rfl
          have q1 : w8.cell? ⟨wr.heap.size, 1, none⟩ = some (.int .i64 v.feature) := cell_of_block hO8 rfl
          have q2 : w8.cell? ⟨wr.heap.size, 2, none⟩ = some (.float .f64 v.thr) := cell_of_block hO8 rfl
          have q3 : w8.cell? ⟨wr.heap.size, 3, none⟩ = some (.slice V1 V2 V3) := cell_of_block hO8 rfl
          have q4 : w8.cell? ⟨wr.heap.size, 4, none⟩ = some (.int .u8 (v.missing : Int)) := cell_of_block hO8 rfl
          have q5 : w8.cell? ⟨wr.heap.size, 5, none⟩ = some (.int .i64 v.output) := cell_of_block hO8 rfl
          have q6 : w8.cell? ⟨wr.heap.size, 6, none⟩ = some (.int .i64 v.value) := cell_of_block hO8 rfl
          have q7 : w8.cell? ⟨wr.heap.size, 7, none⟩ = some (.int .i64 v.dest) := cell_of_block hO8 rfl
          have hz8 : gr ≤ w8.heap.size := by have := hb8.size; omega
          by_cases ht : v.kind = 1 ∨ v.kind = 2
          · have hTT : ∀ W, Calls Tryz.prog 43 #[.agg #[.int .u8 (v.kind : Int), .int .i64 v.feature, .float .f64 v.thr, .slice V1 V2 V3, .int .u8 (v.missing : Int), .int .i64 v.output, .int .i64 v.value, .int .i64 v.dest]] W fun e w' => e = .returned (.bool true) ∧ Below W.heap.size W w' := fun W => by
              have := HTA.out W
              rw [decide_eq_true ht] at this
              exact this
            have HTT := Lib.hid hTT
            obtain ⟨hj1, hj2, hj3⟩ := HJM.out (by omega) (by omega)
            have hy := HLB.out v.dest.toNat
            have hyn : L.getD v.dest.toNat 0 < n := by have := HLEN.out; omega
            have hdn : v.dest.toNat < n := by have := HLEN.out; omega
            have HS2 := Lib.hid (show realT ops L (k + 1) = ((R.set x true).set (L.getD v.dest.toNat 0) true, l ++ [k]) by rw [HST.out, markV_test HAT.out ht, HXX.out])
            have HD3 := Lib.hid hj3
            clear ht hTT HTA h5 hj3
            go_wp2_with fail
            refine (HTT.out _).mono ?_; rintro e w9 ⟨rfl, b9⟩
            have hm9 := hm8.below b9
            have hR9 := hR8.below b9
            have hb9 := hb8.trans (b9.mono hz8)
            have hl9 := hl8.low (b9.mono hz8) hgg
            have hO9 := (b9.block _ (lt_of_block hO8)).trans hO8
            have hcd := hl9.cell v.dest.toNat hdn
            rw [nats_getD (by rw [HLL.out]; have := HLEN.out; omega)] at hcd
            have q7' : w9.cell? ⟨wr.heap.size, 7, none⟩ = some (.int .i64 v.dest) := cell_of_block hO9 rfl
            rw [HD3.out] at q7'
            clear q0 q1 q2 q3 q4 q5 q6 q7 hm8 hR8 hb8 hl8 hO8 b9 hO9 HTT HD3 HJM
            generalize v.dest.toNat = d at hy hcd HS2 q7' hyn hdn hj1 hj2
            generalize L.getD d 0 = y at hy hcd HS2 hyn
            have hdi : (d : Int) < (n : Int) := by omega
            have hyi : (y : Int) < (n : Int) := by omega
            have f9 := hR9.free y
            have c9 := hR9.cell y hyn
            have hR10 := hR9.stored y hyn (.bool true)
            rw [bools_set] at hR10
            have hb10 := hb9.setCell (p := ⟨gr, y, none⟩) (Nat.le_refl _) (.bool true)
            have hm10 := hm9.kept (setCell_grownBy _ gr y (.bool true)) (hm9.apart hR9 (by decide))
            have HM10 := Lib.hid hm10
            have HR10 := Lib.hid hR10
            clear hm9 hR9 hm10 hR10 hl9
            go_wp2
            go_roundw
            case rel => exact ⟨k + 1, A', ln + 1, c', by go_num, hlt, rfl, by rw [HS2.out]; exact HM10.out, by rw [HS2.out]; exact HR10.out, hb10⟩
            case measure => simp [intOf]; omega
          · have hTT : ∀ W, Calls Tryz.prog 43 #[.agg #[.int .u8 (v.kind : Int), .int .i64 v.feature, .float .f64 v.thr, .slice V1 V2 V3, .int .u8 (v.missing : Int), .int .i64 v.output, .int .i64 v.value, .int .i64 v.dest]] W fun e w' => e = .returned (.bool false) ∧ Below W.heap.size W w' := fun W => by
              have := HTA.out W
              rw [decide_eq_false ht] at this
              exact this
            have HTT := Lib.hid hTT
            have HS2 := Lib.hid (show realT ops L (k + 1) = (R.set x true, l ++ [k]) by rw [HST.out, markV_plain HAT.out (by omega), HXX.out])
            clear ht hTT HTA h5
            go_wp2_with fail
            refine (HTT.out _).mono ?_; rintro e w9 ⟨rfl, b9⟩
            have hm9 := hm8.below b9
            have hR9 := hR8.below b9
            have hb9 := hb8.trans (b9.mono hz8)
            clear q0 q1 q2 q3 q4 q5 q6 q7 hm8 hR8 hb8 hl8 hO8 b9
            go_wp2
            go_roundw
            case rel => exact ⟨k + 1, A', ln + 1, c', by go_num, hlt, rfl, by rw [HS2.out]; exact hm9, by rw [HS2.out]; exact hR9, hb9⟩
            case measure => simp [intOf]; omega
    · obtain rfl : k = n := by omega
      rw [HLE.out] at hm
      go_wp2
      refine ⟨rfl, ?_⟩; (repeat apply Exists.intro); exact ⟨rfl, hm, hbr⟩

end Go.Proofs.YtekcpapkicmckaaGreatDoor
