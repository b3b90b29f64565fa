/- thicketref19.Tidy: the loop that makes the operations. -/
import Derived.Test.YtekcpapkicmckaaGreatDoorTdc
import Derived.Test.YtekcpapkicmckaaGreatDoorRfc
import Derived.Test.YtekcpapkicmckaaGreatDoorRcy
namespace Go.Proofs.YtekcpapkicmckaaGreatDoor
open Go.RowKit

/-- one operation of the call's own -/
theorem own_one {w : World} {base g c : Nat} {v : OpV} (h : OwnOps w base (some ⟨g, 0, none⟩) 1 c [v]) : ∃ d : Hd, CatOwn w base d v.cats ∧ w.cell? ⟨g, 0, none⟩ = some (.int .u8 (v.kind : Int)) ∧ w.cell? ⟨g, 1, none⟩ = some (.int .i64 v.feature) ∧ w.cell? ⟨g, 2, none⟩ = some (.float .f64 v.thr) ∧ w.cell? ⟨g, 3, none⟩ = some (.slice d.1 d.2.1 d.2.2) ∧
    w.cell? ⟨g, 4, none⟩ = some (.int .u8 (v.missing : Int)) ∧ w.cell? ⟨g, 5, none⟩ = some (.int .i64 v.output) ∧ w.cell? ⟨g, 6, none⟩ = some (.int .i64 v.value) ∧ w.cell? ⟨g, 7, none⟩ = some (.int .i64 v.dest) := by
  obtain ⟨hs, e, hm, hc, _⟩ := h.hds
  match hs, e with
  | [d], _ =>
    exact ⟨d, hc 0 (by simp) (by simp), hm.cell 0 (by omega), hm.cell 1 (by omega), hm.cell 2 (by omega), hm.cell 3 (by omega), hm.cell 4 (by omega), hm.cell 5 (by omega), hm.cell 6 (by omega), hm.cell 7 (by omega)⟩

theorem CatOwn.ends {w : World} {base : Nat} {h : Hd} {zs : List Int} (c : CatOwn w base h zs) : ∀ q, hdBlock h = some q → base ≤ q ∧ q < w.heap.size := by
  intro q hq
  unfold hdBlock at hq
  rcases c with ⟨h1, h2, h3⟩ | c
  · rw [if_pos h2] at hq; cases hq
  · by_cases h0 : h.2.2 = 0
    · rw [if_pos h0] at hq; cases hq
    · rw [if_neg h0] at hq; exact c.lt q hq
theorem jumpTo_rngs {x : Int} (h1 : 0 ≤ x) (h2 : x ≤ 200000000000) : OpRng (jumpTo x) := ⟨jumpTo_rng.kind, jumpTo_rng.feature, jumpTo_rng.thr, jumpTo_rng.missing, jumpTo_rng.output, jumpTo_rng.value, by show _ ≤ x ∧ x ≤ _; omega⟩

set_option maxHeartbeats 4000000 in
set_option maxRecDepth 100000 in
theorem rtd_out (F O : Int) (A : Option Addr) (n c : Nat) (ops : List OpV) (g pb g2 gb ln lc gp gq P B : Nat) (w w6 : World) (c0 c2 c3 c4 c5 c7 c8 c9 c11 c12 c14 c15 c16 c18 c19 c20 c21 c22 c23 c24 c25 c26 c27 c28 c29 c30 c31 c32 c33 c34 c35 c36 c37 c38 c39 c40 c41 c42 c43 c44 c45 c46 c47 c48 c49 c50 c51 c52 c53 c54 c55 c56 c57 c58 c59 c60 c61 c62 c63 c64 c65 c66 c67 c68 c69 c70 c71 c72 c73 c74 c75 c76 c77 c78 c79 c80 c81 c82 c83 c84 c85 c86 c87 c88 c89 c90 c91 c92 c93 c94 c95 c96 c97 c98 c99 c100 c101 c102 c103 c104 c105 c106 c107 c108 c109 c110 c111 c112 c113 c114 c115 c116 c117 c118 c119 c120 c121 c122 c123 c124 c125 c126 c127 c128 c129 c130 c131 c132 c133 c134 c135 c136 c137 c138 c139 c140 c141 c142 c143 c144 c145 c146 c147 c148 c149 c150 c151 c152 c153 c154 c155 c156 c157 c158 c159 c160 c161 c162 c163 c164 c165 c166 c167 c168 c169 c170 c171 c172 c173 c174 c175 c179 c180 c181 c182 c183 c184 c185 c186 c187 c188 c189 c190 c191 c192 c193 c194 c195 c196 c197 c198 c199 c200 c201 c202 c203 c204 c205 c206 c207 c208 c209 c210 c211 c212 c213 c214 c215 c216 c217 c218 c219 c220 c221 c222 c223 c224 c225 c226 c227 c228 c229 c230 c231 c232 c233 c234 c235 c236 c237 c238 c239 c240 c241 c242 c243 c244 c245 c246 c247 c248 c249 : Value) (hP : RightP F O ops) (hp : OpsAt w A n c ops) (hn : n ≤ 100000000000) (hcb : ∀ v ∈ ops, v.cats.length ≤ 1000000000000) (hb6 : Below w.heap.size w w6) (hwB : w.heap.size ≤ B) (hpb : w6.heap[pb]? = some (.cells #[.int .i64 F, .int .i64 O, .slice A n c] 30 (0, 0))) (hpB : pb < B)
    (hl : Mine 3 w6 g (some ⟨g, 0, none⟩) n n (nats (lands ops))) (hgB : g < B) (hst : Mine 3 w6 gb (some ⟨g2, 0, none⟩) ln lc (nats (stays ops))) (hg2B : g2 < B) (hpl : Mine 3 w6 gq (some ⟨gp, 0, none⟩) n n (nats (places ops))) (hgpB : gp < B) (hT0 : TdSt w6 B P F O none 0 0 [] none 0 0 []) :
    Code.wp Tryz.prog (Code.loop (Tryz.rtidyLoop 3)) (LoopEnds 6 (fun a w' => ∃ (OA : Option Addr) (on oc : Nat) (u18 : Value) (u19 : Value) (u20 : Value) (u178 : Value) (u179 : Value) (u180 : Value) (u181 : Value) (u182 : Value) (u183 : Value) (u184 : Value) (u185 : Value) (u186 : Value) (u187 : Value) (u188 : Value) (u189 : Value) (u190 : Value) (u191 : Value) (u192 : Value) (u193 : Value) (u194 : Value) (u195 : Value) (u196 : Value) (u197 : Value) (u198 : Value) (u199 : Value) (u200 : Value) (u201 : Value) (u202 : Value) (u203 : Value) (u204 : Value) (u205 : Value) (u206 : Value) (u207 : Value) (u208 : Value) (u209 : Value) (u210 : Value) (u211 : Value) (u212 : Value) (u213 : Value) (u214 : Value) (u215 : Value) (u216 : Value) (u217 : Value) (u218 : Value) (u219 : Value) (u220 : Value) (u221 : Value) (u222 : Value) (u223 : Value) (u224 : Value) (u225 : Value) (u226 : Value) (u227 : Value) (u228 : Value) (u229 : Value) (u230 : Value) (u231 : Value) (u232 : Value) (u233 : Value) (u234 : Value) (u235 : Value) (u236 : Value) (u237 : Value) (u238 : Value) (u239 : Value) (u240 : Value) (u241 : Value) (u242 : Value) (u243 : Value) (u244 : Value) (u245 : Value) (u246 : Value) (u247 : Value) (u248 : Value) , a = ⟨List.toArray (c0 :: .pointer (some ⟨pb, 0, none⟩) :: c2 :: c3 :: c4 :: c5 :: .slice (some ⟨g, 0, none⟩) n n :: c7 :: c8 :: c9 :: .slice (some ⟨g2, 0, none⟩) ln lc :: c11 :: c12 :: .slice (some ⟨gp, 0, none⟩) n n :: c14 :: c15 :: c16 :: .pointer (some ⟨P, 0, none⟩) :: u18 :: u19 :: u20 :: c21 :: c22 :: c23 :: c24 :: c25 :: c26 :: c27 :: c28 :: c29 :: c30 :: c31 :: c32 :: c33 :: c34 :: c35 :: c36 :: c37 :: c38 :: c39 :: c40 :: c41 :: c42 :: c43 :: c44 :: c45 :: c46 :: c47 :: c48 :: c49 :: c50 :: c51 :: c52 :: c53 :: c54 :: c55 :: c56 :: c57 :: c58 :: c59 :: c60 :: c61 :: c62 :: c63 :: c64 :: c65 :: c66 :: c67 :: c68 :: c69 :: c70 :: c71 :: c72 :: c73 :: c74 :: c75 :: c76 :: c77 :: c78 :: c79 :: c80 :: c81 :: c82 :: c83 :: c84 :: c85 :: c86 :: c87 :: c88 :: c89 :: c90 :: c91 :: c92 :: c93 :: c94 :: c95 :: c96 :: c97 :: c98 :: c99 :: c100 :: c101 :: c102 :: c103 :: c104 :: c105 :: c106 :: c107 :: c108 :: c109 :: c110 :: c111 :: c112 :: c113 :: c114 :: c115 :: c116 :: c117 :: c118 :: c119 :: c120 :: c121 :: c122 :: c123 :: c124 :: c125 :: c126 :: c127 :: c128 :: c129 :: c130 :: c131 :: c132 :: c133 :: c134 :: c135 :: c136 :: c137 :: c138 :: c139 :: c140 :: c141 :: c142 :: c143 :: c144 :: c145 :: c146 :: c147 :: c148 :: c149 :: c150 :: c151 :: c152 :: c153 :: c154 :: c155 :: c156 :: c157 :: c158 :: c159 :: c160 :: c161 :: c162 :: c163 :: c164 :: c165 :: c166 :: c167 :: c168 :: c169 :: c170 :: c171 :: c172 :: c173 :: c174 :: c175 :: .slice (some ⟨g2, 0, none⟩) ln lc :: .int .i64 (ln : Int) :: u178 :: u179 :: u180 :: u181 :: u182 :: u183 :: u184 :: u185 :: u186 :: u187 :: u188 :: u189 :: u190 :: u191 :: u192 :: u193 :: u194 :: u195 :: u196 :: u197 :: u198 :: u199 :: u200 :: u201 :: u202 :: u203 :: u204 :: u205 :: u206 :: u207 :: u208 :: u209 :: u210 :: u211 :: u212 :: u213 :: u214 :: u215 :: u216 :: u217 :: u218 :: u219 :: u220 :: u221 :: u222 :: u223 :: u224 :: u225 :: u226 :: u227 :: u228 :: u229 :: u230 :: u231 :: u232 :: u233 :: u234 :: u235 :: u236 :: u237 :: u238 :: u239 :: u240 :: u241 :: u242 :: u243 :: u244 :: u245 :: u246 :: u247 :: u248 :: c249 :: []), []⟩ ∧ TdSt w' B P F O none 0 0 [] OA on oc (outT ops (lands ops) (stays ops) (places ops) ln) ∧ Below B w6 w')) ⟨List.toArray (c0 :: .pointer (some ⟨pb, 0, none⟩) :: c2 :: c3 :: c4 :: c5 :: .slice (some ⟨g, 0, none⟩) n n :: c7 :: c8 :: c9 :: .slice (some ⟨g2, 0, none⟩) ln lc :: c11 :: c12 :: .slice (some ⟨gp, 0, none⟩) n n :: c14 :: c15 :: c16 :: .pointer (some ⟨P, 0, none⟩) :: c18 :: c19 :: c20 :: c21 :: c22 :: c23 :: c24 :: c25 :: c26 :: c27 :: c28 :: c29 :: c30 :: c31 :: c32 :: c33 :: c34 :: c35 :: c36 :: c37 :: c38 :: c39 :: c40 :: c41 :: c42 :: c43 :: c44 :: c45 :: c46 :: c47 :: c48 :: c49 :: c50 :: c51 :: c52 :: c53 :: c54 :: c55 :: c56 :: c57 :: c58 :: c59 :: c60 :: c61 :: c62 :: c63 :: c64 :: c65 :: c66 :: c67 :: c68 :: c69 :: c70 :: c71 :: c72 :: c73 :: c74 :: c75 :: c76 :: c77 :: c78 :: c79 :: c80 :: c81 :: c82 :: c83 :: c84 :: c85 :: c86 :: c87 :: c88 :: c89 :: c90 :: c91 :: c92 :: c93 :: c94 :: c95 :: c96 :: c97 :: c98 :: c99 :: c100 :: c101 :: c102 :: c103 :: c104 :: c105 :: c106 :: c107 :: c108 :: c109 :: c110 :: c111 :: c112 :: c113 :: c114 :: c115 :: c116 :: c117 :: c118 :: c119 :: c120 :: c121 :: c122 :: c123 :: c124 :: c125 :: c126 :: c127 :: c128 :: c129 :: c130 :: c131 :: c132 :: c133 :: c134 :: c135 :: c136 :: c137 :: c138 :: c139 :: c140 :: c141 :: c142 :: c143 :: c144 :: c145 :: c146 :: c147 :: c148 :: c149 :: c150 :: c151 :: c152 :: c153 :: c154 :: c155 :: c156 :: c157 :: c158 :: c159 :: c160 :: c161 :: c162 :: c163 :: c164 :: c165 :: c166 :: c167 :: c168 :: c169 :: c170 :: c171 :: c172 :: c173 :: c174 :: c175 :: .slice (some ⟨g2, 0, none⟩) ln lc :: .int .i64 (ln : Int) :: .int .i64 0 :: c179 :: c180 :: c181 :: c182 :: c183 :: c184 :: c185 :: c186 :: c187 :: c188 :: c189 :: c190 :: c191 :: c192 :: c193 :: c194 :: c195 :: c196 :: c197 :: c198 :: c199 :: c200 :: c201 :: c202 :: c203 :: c204 :: c205 :: c206 :: c207 :: c208 :: c209 :: c210 :: c211 :: c212 :: c213 :: c214 :: c215 :: c216 :: c217 :: c218 :: c219 :: c220 :: c221 :: c222 :: c223 :: c224 :: c225 :: c226 :: c227 :: c228 :: c229 :: c230 :: c231 :: c232 :: c233 :: c234 :: c235 :: c236 :: c237 :: c238 :: c239 :: c240 :: c241 :: c242 :: c243 :: c244 :: c245 :: c246 :: c247 :: c248 :: c249 :: []), []⟩ w6 := by
  have hlen := hp.len
  have hsf : ∀ (W : World) (a : Addr) (b : Nat), (store a (.float .f64 b)).run Tryz.prog W = stored Tryz.prog W a (.float .f64 b) .plain := fun W a b => run_store _ W a _ _ rfl
  have hsln : (stays ops).length = ln := by have := hst.len; rwa [nats_length] at this
  have HSL := Lib.hid hsln
  have hlnn : ln ≤ n := by have := stays_many ops; omega
  have HLEN := Lib.hid hlen
  have HP := Lib.hid hp
  have HRP := Lib.hid hP
  have HL := Lib.hid hl
  have HS := Lib.hid hst
  have HPL0 := Lib.hid hpl
  have HPB := Lib.hid hpb
  have HCB := Lib.hid hcb
  clear hlen hp hP hl hst hpb hsln hcb hpl
  conv => arg 2; arg 1; whnf
  go_loopw [178] (fun ix wr => ∃ (k : Nat) (OA : Option Addr) (on oc : Nat), ix = .int .i64 (k : Int) ∧ k ≤ ln ∧ TdSt wr B P F O none 0 0 [] OA on oc (outT ops (lands ops) (stays ops) (places ops) k) ∧ Below B w6 wr) (fun ix _ => ln - (intOf ix).toNat)
  case atStart => exact ⟨0, none, 0, 0, rfl, Nat.zero_le _, hT0, Below.refl _ _⟩
  case round =>
    obtain ⟨k, OA, on, oc, rfl, hk, hT, hbr⟩ := hrel
    clear hT0
    by_cases hlt : k < ln
    · have hlen := HLEN.out
      have hks : k < (stays ops).length := by have := HSL.out; omega
      have hmem := stay_mem (ops := ops) hks
      have hil := stays_lt ops _ hmem
      have hls := HS.out.low hbr hg2B
      have hce := hls.cell k hlt
      rw [nats_getD hks] at hce
      have HJM := Lib.hid (fun h5 => stay_fall HRP.out hks h5)
      have HNX := Lib.hid (HRP.out.next hil)
      have HJE := Lib.hid (fun (h5 : (opAt ops (stay ops k)).kind = 5) => jmp_end (ops := ops) (m := k) h5)
      have hce1 : k + 1 < ln → ∃ y, stay ops (k + 1) = y ∧ w6.cell? ⟨g2, k + 1, none⟩ = some (.int .i64 (y : Int)) := fun h => by
        have h2 := HS.out.cell (k + 1) h
        rw [nats_getD (by have := HSL.out; omega)] at h2
        exact ⟨_, rfl, h2⟩
      have HC1 := Lib.hid hce1
      rw [show (stays ops).getD k 0 = stay ops k from rfl] at hce
      have hon : on = posT ops (lands ops) (stays ops) k := by
        have h1 := hT.own.len
        rw [outT_length] at h1
        exact h1.symm
      have hpl := posT_le ops (lands ops) (stays ops) k
      have hon2 : on ≤ 2 * k := by omega
      have HO1 := Lib.hid (show outT ops (lands ops) (stays ops) (places ops) (k + 1) = outT ops (lands ops) (stays ops) (places ops) k ++ [moved ops k] ++ (if jmp ops k then [jumpOf ops k] else []) from rfl)
      obtain ⟨i, hi⟩ : ∃ i, stay ops k = i := ⟨_, rfl⟩
      obtain ⟨os, hos⟩ : ∃ os, outT ops (lands ops) (stays ops) (places ops) k = os := ⟨_, rfl⟩
      have hmv : moved ops k = if testV (opAt ops i) then { opAt ops i with dest := ((places ops).getD ((lands ops).getD (opAt ops i).dest.toNat 0) 0 : Nat) } else opAt ops i := by unfold moved; rw [hi]
      rw [hi] at hil hce HJE HNX
      rw [hos] at hT HO1
      have HI := Lib.hid hi
      obtain ⟨v, hv⟩ : ∃ v, opAt ops i = v := ⟨_, rfl⟩
      have hget := opAt_get hil
      have hcl := HCB.out _ (List.getElem_mem hil)
      have hjm := testV_jump HRP.out hil
      have hjd := HRP.out.jump hil
      rw [← hget, hv] at hcl
      obtain ⟨b, o, rfl, hc⟩ := HP.out.cells (by omega)
      have hcap := HP.out.cap
      have hbw := hb6.trans (hbr.mono hwB)
      have hci := (hc i hil).below hbw
      rw [← hget, hv] at hci
      rw [hv] at HJE HNX hmv hjm hjd
      have HV := Lib.hid hv
      have HMV := Lib.hid hmv
      have HJT := Lib.hid hjm
      have HJD := Lib.hid hjd
      have hin : (i : Int) < (n : Int) := by omega
      have hi0 : i ≤ 100000000000 := by omega
      have hinn : i < n := by omega
      have HHI := Lib.hid (show stay ops k = i ∧ (stays ops).length = ln from ⟨HI.out, HSL.out⟩)
      have hp7 := (hbr.block pb hpB).trans HPB.out
      have p2 : wr.cell? ⟨pb, 2, none⟩ = some (.slice (some ⟨b, o, none⟩) n c) := cell_of_block hp7 rfl
      have hp1 : OpsAt wr (some ⟨b, o + i * 8, none⟩) 1 (c - i) [v] := ⟨rfl, by omega, by omega, fun _ => ⟨b, o + i * 8, rfl, fun j hj => by
        obtain rfl : j = 0 := by simpa using hj
        exact hci⟩⟩
      have HRG0 := Lib.hid hci
      have HCP := Lib.hid (Copy_any 0 0 (some ⟨b, o + i * 8, none⟩) 1 (c - i) [v] wr hp1 (by omega) (by simpa using hcl))
      have x1 : (0 : Int) ≤ (i : Int) := by omega
      have x2 : (i : Int) + 1 ≤ (c : Int) := by omega
      have x3 : (i : Int) ≤ (i : Int) + 1 := by omega
      clear hc hget hil hmem hlen hi hls hce1 hv hpl hos hon hmv hjm hjd hbw hci hp7 hp1 hcl
      go_upto_region 42 with (go_at_call 18; refine HCP.out.mono ?_; rintro e w8 ⟨A2, n2, c2, rfl, ho, b8⟩; obtain rfl : 1 = n2 := ho.len; obtain ⟨g8, rfl, hg8, _⟩ := ho.some_of (by omega); obtain ⟨d, hcat, y0, y1, y2, y3, y4, y5, y6, y7⟩ := own_one ho)
      have hends := hcat.ends
      have hnw8 : ∀ q, hdBlock d = some q → wr.heap.size ≤ q := fun q hq => (hends q hq).1
      have hdq8 : ∀ q, hdBlock d = some q → q < w8.heap.size := fun q hq => (hends q hq).2
      have hB8 : B ≤ wr.heap.size := hT.low.2
      have HALW := Lib.hid (show ∀ q, blockOf OA = some q → q < wr.heap.size from by obtain ⟨hs0, hh0, _⟩ := hT.hds; exact fun q hq => (hh0.2.1.lt q hq).2)
      have hcatB := hcat.mono hB8
      have hfd : ∀ W : World, (Instr.field 30 (.agg #[.int .i64 0, .int .i64 0, .slice (some ⟨g8, 0, none⟩) 1 c2]) 2).run Tryz.prog W = .ok (.slice (some ⟨g8, 0, none⟩) 1 c2) W := fun _ => by kernel_rfl
      obtain ⟨_, _, _, _, hin0, hrg⟩ := HRG0.out
      have HCR0 := Lib.hid hin0.rng
      have HRG1 := Lib.hid hrg
      have HNW := Lib.hid hnw8
      clear ho hg8 hcat HCP p2 x1 x2 x3 hce hends hnw8 hin0 hrg HRG0
      rw [hfd]
      go_upto_region 42 with (fail)
      have b9 := b8.alloc b8.size (.cells #[.int .u8 (v.kind : Int), .int .i64 v.feature, .float .f64 v.thr, .slice d.1 d.2.1 d.2.2, .int .u8 (v.missing : Int), .int .i64 v.output, .int .i64 v.value, .int .i64 v.dest] 75)
      have hn9 : (w8.alloc (.cells #[.int .u8 (v.kind : Int), .int .i64 v.feature, .float .f64 v.thr, .slice d.1 d.2.1 d.2.2, .int .u8 (v.missing : Int), .int .i64 v.output, .int .i64 v.value, .int .i64 v.dest] 75)).heap[w8.heap.size]? = some (.cells #[.int .u8 (v.kind : Int), .int .i64 v.feature, .float .f64 v.thr, .slice d.1 d.2.1 d.2.2, .int .u8 (v.missing : Int), .int .i64 v.output, .int .i64 v.value, .int .i64 v.dest] 75 (0, 0)) := heap_alloc_new w8 _
      have hcat9 := hcatB.below ((Below.refl w8.heap.size w8).alloc (Nat.le_refl _) (.cells #[.int .u8 (v.kind : Int), .int .i64 v.feature, .float .f64 v.thr, .slice d.1 d.2.1 d.2.2, .int .u8 (v.missing : Int), .int .i64 v.output, .int .i64 v.value, .int .i64 v.dest] 75))
      have hQ8 := b8.size
      generalize w8.alloc (.cells #[.int .u8 (v.kind : Int), .int .i64 v.feature, .float .f64 v.thr, .slice d.1 d.2.1 d.2.2, .int .u8 (v.missing : Int), .int .i64 v.output, .int .i64 v.value, .int .i64 v.dest] 75) = w9 at b9 hn9 hcat9 ⊢
      clear b8 hcatB y0 y1 y2 y3 y4 y5 y6 y7 hfd
      generalize w8.heap.size = Q at hn9 hQ8 hdq8 ⊢
      have q0 : w9.cell? ⟨Q, 0, none⟩ = some (.int .u8 (v.kind : Int)) := cell_of_block hn9 rfl
      have q1 : w9.cell? ⟨Q, 1, none⟩ = some (.int .i64 v.feature) := cell_of_block hn9 rfl
      have q2 : w9.cell? ⟨Q, 2, none⟩ = some (.float .f64 v.thr) := cell_of_block hn9 rfl
      have q3 : w9.cell? ⟨Q, 3, none⟩ = some (.slice d.1 d.2.1 d.2.2) := cell_of_block hn9 rfl
      have q4 : w9.cell? ⟨Q, 4, none⟩ = some (.int .u8 (v.missing : Int)) := cell_of_block hn9 rfl
      have q5 : w9.cell? ⟨Q, 5, none⟩ = some (.int .i64 v.output) := cell_of_block hn9 rfl
      have q6 : w9.cell? ⟨Q, 6, none⟩ = some (.int .i64 v.value) := cell_of_block hn9 rfl
      have q7 : w9.cell? ⟨Q, 7, none⟩ = some (.int .i64 v.dest) := cell_of_block hn9 rfl
      have HTA := Lib.hid (fun W => test_any d.1 d.2.1 d.2.2 v W)
      unfold opCells at HTA
      have HHQ := Lib.hid hdq8
      clear hdq8
      by_cases ht : v.kind = 1 ∨ v.kind = 2
      · have hTT : ∀ W, Calls Tryz.prog 43 #[.agg #[.int .u8 (v.kind : Int), .int .i64 v.feature, .float .f64 v.thr, .slice d.1 d.2.1 d.2.2, .int .u8 (v.missing : Int), .int .i64 v.output, .int .i64 v.value, .int .i64 v.dest]] W fun e w' => e = .returned (.bool true) ∧ Below W.heap.size W w' := fun W => by
          have := HTA.out W
          rw [decide_eq_true ht] at this
          exact this
        have HTT := Lib.hid hTT
        have htv : testV v = true := by unfold testV; exact decide_eq_true ht
        obtain ⟨d0, d1⟩ := HJT.out htv
        obtain ⟨-, -, hdv⟩ := HJD.out (by omega) (by omega)
        obtain ⟨e0, he0⟩ : ∃ e0, v.dest.toNat = e0 := ⟨_, rfl⟩
        rw [he0] at d1 hdv
        obtain ⟨x2, hx2⟩ : ∃ x2, (lands ops).getD e0 0 = x2 := ⟨_, rfl⟩
        obtain ⟨pj, hpj⟩ : ∃ pj, (places ops).getD x2 0 = pj := ⟨_, rfl⟩
        have d2 : x2 < n := by have := lands_lt ops HRP.out.some e0; have := HLEN.out; omega
        have hpx : pj ≤ 200000000000 := by
          have h1 := placeT_le ops (lands ops) (stays ops) (stays ops).length x2
          have h2 := stays_many ops
          have h3 := HLEN.out
          unfold places at hpj
          omega
        obtain ⟨u, hu⟩ : ∃ u : OpV, u = { v with dest := (pj : Int) } := ⟨_, rfl⟩
        have HO2 := Lib.hid (show outT ops (lands ops) (stays ops) (places ops) (k + 1) = os ++ [u] ++ (if jmp ops k then [jumpOf ops k] else []) by rw [HO1.out, HMV.out, if_pos htv, he0, hx2, hpj, hu])
        have HU := Lib.hid hu
        have HDV := Lib.hid hdv
        have HX2 := Lib.hid hx2
        have HPJ := Lib.hid hpj
        have e0n : e0 < n := by have := HLEN.out; omega
        clear HTA hTT HMV htv ht hdv hx2 hpj hu d0 d1 he0 HJT HO1
        go_wp2_with fail
        refine (HTT.out _).mono ?_; rintro e w10 ⟨rfl, b10⟩
        have hn10 := (b10.block _ (lt_of_block hn9)).trans hn9
        have hcat10 := hcat9.below b10
        have B10 := below_then b9 b9.size b10
        have hb10 := hbr.trans (B10.mono hB8)
        have hce := (HL.out.low hb10 hgB).cell e0 e0n
        rw [nats_getD (by rw [lands_length, HLEN.out]; exact e0n), HX2.out] at hce
        have hcp := (HPL0.out.low hb10 hgpB).cell x2 d2
        rw [nats_getD (by unfold places; rw [placeT_length, HLEN.out]; exact d2), HPJ.out] at hcp
        have s7 : w10.cell? ⟨Q, 7, none⟩ = some (.int .i64 (e0 : Int)) := by rw [← HDV.out]; exact cell_of_block hn10 rfl
        have z7 : w10.frozen? ⟨Q, 7, none⟩ = false := frozen_row (vs := #[.int .u8 (v.kind : Int), .int .i64 v.feature, .float .f64 v.thr, .slice d.1 d.2.1 d.2.2, .int .u8 (v.missing : Int), .int .i64 v.output, .int .i64 v.value, .int .i64 v.dest].toList) hn10 7
        have e0i : (e0 : Int) < (n : Int) := by omega
        have d2i : (x2 : Int) < (n : Int) := by omega
        have HN10 := Lib.hid hn10
        have HC10 := Lib.hid hcat10
        have HB10 := Lib.hid B10
        clear q0 q1 q2 q3 q4 q5 q6 q7 hn9 hcat9 b9 HTT b10 hn10 hcat10 B10 hb10 HX2 HPJ
        go_upto_region 44 with (fail)
        have hO11 : (w10.setCell ⟨Q, 7, none⟩ (.int .i64 (pj : Int))).heap[Q]? = some (.cells #[.int .u8 (u.kind : Int), .int .i64 u.feature, .float .f64 u.thr, .slice d.1 d.2.1 d.2.2, .int .u8 (u.missing : Int), .int .i64 u.output, .int .i64 u.value, .int .i64 u.dest] 75 (0, 0)) := by
          rw [HU.out]
          exact setCell_row (vs := #[.int .u8 (v.kind : Int), .int .i64 v.feature, .float .f64 v.thr, .slice d.1 d.2.1 d.2.2, .int .u8 (v.missing : Int), .int .i64 v.output, .int .i64 v.value, .int .i64 v.dest].toList) HN10.out 7 _
        have b11 := HB10.out.setCell (p := ⟨Q, 7, none⟩) hQ8 (.int .i64 (pj : Int))
        have hcat11 : CatOwn (w10.setCell ⟨Q, 7, none⟩ (.int .i64 (pj : Int))) B d u.cats := by
          rw [HU.out]
          exact HC10.out.kept (setCell_grownBy w10 Q 7 _) (by
            cases hk : hdBlock d with
            | none => exact .inl rfl
            | some q => have := HHQ.out q hk; exact .inr (by intro e; injection e with e; omega))
        have HRG := Lib.hid (show OpRng u by
          rw [HU.out]
          exact ⟨HRG1.out.kind, HRG1.out.feature, HRG1.out.thr, HRG1.out.missing, HRG1.out.output, HRG1.out.value, by show _ ≤ (pj : Int) ∧ (pj : Int) ≤ _; omega⟩)
        have HCR := Lib.hid (show ∀ z ∈ u.cats, -9223372036854775808 ≤ z ∧ z ≤ 9223372036854775807 by rw [HU.out]; exact HCR0.out)
        have HUK := Lib.hid (show u.kind = v.kind by rw [HU.out])
        generalize w10.setCell ⟨Q, 7, none⟩ (.int .i64 (pj : Int)) = w11 at hO11 b11 hcat11 ⊢
        have HO1 := HO2
        clear s7 z7 e0i d2i hce hcp HN10 HC10 HB10 HU HDV hpx e0n d2 HJD HO2
        have hT11 := hT.below b11
        have p2 : w11.cell? ⟨P, 2, none⟩ = some (.slice OA on oc) := cell_of_block hT11.prog rfl
        have q0 : w11.cell? ⟨Q, 0, none⟩ = some (.int .u8 (u.kind : Int)) := cell_of_block hO11 rfl
        have q1 : w11.cell? ⟨Q, 1, none⟩ = some (.int .i64 u.feature) := cell_of_block hO11 rfl
        have q2 : w11.cell? ⟨Q, 2, none⟩ = some (.float .f64 u.thr) := cell_of_block hO11 rfl
        have q3 : w11.cell? ⟨Q, 3, none⟩ = some (.slice d.1 d.2.1 d.2.2) := cell_of_block hO11 rfl
        have q4 : w11.cell? ⟨Q, 4, none⟩ = some (.int .u8 (u.missing : Int)) := cell_of_block hO11 rfl
        have q5 : w11.cell? ⟨Q, 5, none⟩ = some (.int .i64 u.output) := cell_of_block hO11 rfl
        have q6 : w11.cell? ⟨Q, 6, none⟩ = some (.int .i64 u.value) := cell_of_block hO11 rfl
        have q7 : w11.cell? ⟨Q, 7, none⟩ = some (.int .i64 u.dest) := cell_of_block hO11 rfl
        have hn12 := heap_alloc_new w11 (.cells #[.int .u8 (u.kind : Int), .int .i64 u.feature, .float .f64 u.thr, .slice d.1 d.2.1 d.2.2, .int .u8 (u.missing : Int), .int .i64 u.output, .int .i64 u.value, .int .i64 u.dest] 75)
        have b12 := b11.alloc b11.size (.cells #[.int .u8 (u.kind : Int), .int .i64 u.feature, .float .f64 u.thr, .slice d.1 d.2.1 d.2.2, .int .u8 (u.missing : Int), .int .i64 u.output, .int .i64 u.value, .int .i64 u.dest] 75)
        have hcat12 := hcat11.below ((Below.refl w11.heap.size w11).alloc (Nat.le_refl _) (.cells #[.int .u8 (u.kind : Int), .int .i64 u.feature, .float .f64 u.thr, .slice d.1 d.2.1 d.2.2, .int .u8 (u.missing : Int), .int .i64 u.output, .int .i64 u.value, .int .i64 u.dest] 75))
        have hT12 := hT.below b12
        obtain ⟨hs, hh, hap⟩ := hT.hds
        have hmk12 := hh.2.1.below b12
        have hO12 : (w11.alloc (.cells #[.int .u8 (u.kind : Int), .int .i64 u.feature, .float .f64 u.thr, .slice d.1 d.2.1 d.2.2, .int .u8 (u.missing : Int), .int .i64 u.output, .int .i64 u.value, .int .i64 u.dest] 75)).heap[Q]? = _ := (((Below.refl w11.heap.size w11).alloc (Nat.le_refl _) (.cells #[.int .u8 (u.kind : Int), .int .i64 u.feature, .float .f64 u.thr, .slice d.1 d.2.1 d.2.2, .int .u8 (u.missing : Int), .int .i64 u.output, .int .i64 u.value, .int .i64 u.dest] 75)).block _ (lt_of_block hO11)).trans hO11
        have hAl := hh.2.1.lt
        have hPl := lt_of_block hT.prog
        have hb12z : B ≤ (w11.alloc (.cells #[.int .u8 (u.kind : Int), .int .i64 u.feature, .float .f64 u.thr, .slice d.1 d.2.1 d.2.2, .int .u8 (u.missing : Int), .int .i64 u.output, .int .i64 u.value, .int .i64 u.dest] 75)).heap.size := hT12.low.2
        have HT0 := Lib.hid hT
        have HH := Lib.hid hh
        have HAP := Lib.hid hap
        have HB12 := Lib.hid b12
        have HC12 := Lib.hid hcat12
        have HN12 := Lib.hid hn12
        have HM12 := Lib.hid hmk12
        have HP12 := Lib.hid hT12.prog
        have HO12 := Lib.hid hO12
        have HAL := Lib.hid hAl
        have HPL := Lib.hid hPl
        have HBR := Lib.hid hbr
        have hon8 : (on + 1) * 80 ≤ 140737488355328 := by omega
        clear hT hh hap b11 b12 hcat11 hcat12 hn12 hmk12 hT11 hT12 hO11 hO12 hAl hPl hbr
        go_upto_region 45 with (at_builtin; refine app_boxK B rfl _ _ _ _ _ 8 80 rfl Tryz.underlying28 Tryz.info_op rfl (by omega) OA on oc (flatOps hs os) w11.heap.size 1 1 _ _ HN12.out rfl rfl rfl (opRow_one d u) HM12.out hb12z (by omega) hon8 ?_; rintro OA' oc' w12 hm12 hg12 hA12; have hp12 := keep_ty hg12 HP12.out (fun r hr => HM12.out.ty hr) (by decide); have u9 : w12.cell? ⟨P, 2, none⟩ = some (.slice OA on oc) := cell_of_block hp12 rfl; have z9 : w12.frozen? ⟨P, 2, none⟩ = false := frozen_row (vs := [.int .i64 F, .int .i64 O, .slice OA on oc]) hp12 2)
        have hT14 : TdSt (w12.setCell ⟨P, 2, none⟩ (.slice OA' (on + 1) oc')) B P F O none 0 0 [] OA' (on + 1) oc' (os ++ [u]) := TdSt.added HT0.out HH.out HAP.out HB12.out (hs2 := [d]) (ops2 := [u]) rfl (fun j h1 h2 => by
            obtain rfl : j = 0 := by simpa using h1
            exact HC12.out) (fun h hh q hq => by obtain rfl := List.mem_singleton.1 hh; exact HNW.out q hq) (List.pairwise_singleton _ _) (fun x hx => by obtain rfl := List.mem_singleton.1 hx; exact ⟨HRG.out, HCR.out⟩)
            (by simpa [flatOps, opRow, opCells] using hm12) hg12 hA12
        have hO14 : (w12.setCell ⟨P, 2, none⟩ (.slice OA' (on + 1) oc')).heap[Q]? = some (.cells #[.int .u8 (u.kind : Int), .int .i64 u.feature, .float .f64 u.thr, .slice d.1 d.2.1 d.2.2, .int .u8 (u.missing : Int), .int .i64 u.output, .int .i64 u.value, .int .i64 u.dest] 75 (0, 0)) :=
          (setCell_other (by have := HPL.out; omega) _ _).trans ((hg12.block _ (lt_of_block HO12.out) (fun e => by have := (HALW.out _ e.symm); omega)).trans HO12.out)
        have hb14 : Below B w6 (w12.setCell ⟨P, 2, none⟩ (.slice OA' (on + 1) oc')) :=
          (below_grown (HBR.out.trans (HB12.out.mono HT0.out.low.2)) hb12z hg12 (fun q hq => (HAL.out q hq).1)).setCell (p := ⟨P, 2, none⟩) HT0.out.low.1 _
        generalize w12.setCell ⟨P, 2, none⟩ (.slice OA' (on + 1) oc') = w14 at hT14 hO14 hb14 ⊢
        have c0 : w14.cell? ⟨Q, 0, none⟩ = some (.int .u8 (v.kind : Int)) := by rw [← HUK.out]; exact cell_of_block hO14 rfl
        clear q0 q1 q2 q3 q4 q5 q6 q7 p2 u9 z9 hm12 hg12 hA12 hO14 hp12 HT0 HH HAP HB12 HC12 HN12 HM12 HP12 HO12 HAL HBR HRG hb12z hon8 HPL HNW
        by_cases h5 : v.kind = 5
        · have hj := HJE.out h5
          have HR1 := Lib.hid (show outT ops (lands ops) (stays ops) (places ops) (k + 1) = os ++ [u] by rw [HO1.out, hj]; simp)
          have hkc : (v.kind : Int) = 5 := by omega
          rw [hkc] at c0
          clear hkc h5 hj HJM HJE HC1
          go_quiet (fail)
          go_wp2
          go_roundw
          case rel => exact ⟨k + 1, OA', on + 1, oc', by go_num, hlt, by first | (rw [HR1.out]; exact hT14) | (rw [HR1.out]; exact hT14.below (below_drawn (Below.refl _ _) _)), by first | exact hb14 | exact below_drawn hb14 _⟩
          case measure => simp [intOf]; omega
        · have hnn : i + 1 < n := by have := HNX.out h5; have := HLEN.out; omega
          obtain ⟨bb, hkb, hbl, _⟩ := HJM.out (by rw [HHI.out.1, HV.out]; exact h5)
          have hk1 : k + 1 < ln := by have := HSL.out; omega
          obtain ⟨y, hy, hcy0⟩ := HC1.out hk1
          have hcy : w14.cell? ⟨g2, k + 1, none⟩ = some (.int .i64 (y : Int)) := (hb14.cell (p := ⟨g2, k + 1, none⟩) hg2B).trans hcy0
          have hl13 := HL.out.low hb14 hgB
          have hcx := hl13.cell (i + 1) hnn
          rw [nats_getD (by rw [lands_length, HLEN.out]; exact hnn)] at hcx
          obtain ⟨x, hx⟩ : ∃ x, (lands ops).getD (i + 1) 0 = x := ⟨_, rfl⟩
          have hxn : x < n := by have := lands_lt ops HRP.out.some (i + 1); have := HLEN.out; omega
          have hj : jmp ops k = decide (x ≠ y) := by
            unfold jmp jumpy
            rw [show (stays ops).getD k 0 = stay ops k from rfl, show (stays ops).getD (k + 1) 0 = stay ops (k + 1) from rfl, HHI.out.1, HV.out, hx, hy, decide_eq_true h5, decide_eq_false (show ¬ k + 1 = (stays ops).length by have := HSL.out; omega), Bool.true_and, Bool.false_or]
          rw [hx] at hcx
          have HXX := Lib.hid hx
          have e1 : IntKind.i64.wrap ((i : Int) + 1) = (i : Int) + 1 := IntWalk.i64_in _ (by omega)
          have e2 : IntKind.i64.wrap ((k : Int) + 1) = (k : Int) + 1 := IntWalk.i64_in _ (by omega)
          have e3 : (0 : Int) ≤ (i : Int) + 1 := by omega
          have e4 : (0 : Int) ≤ (k : Int) + 1 := by omega
          have e5 : ((i : Int) + 1).toNat = i + 1 := by omega
          have e6 : ((k : Int) + 1).toNat = k + 1 := by omega
          have e7 : (i : Int) + 1 < (n : Int) := by omega
          have e8 : (k : Int) + 1 < (ln : Int) := by omega
          have k5 : ((v.kind : Int) != 5) = true := by simp; omega
          have k5' : decide ((v.kind : Int) = 5) = false := by simp; omega
          have m1 : ((k : Int) + 1 == (ln : Int)) = false := by simp; omega
          have m2 : decide ((k : Int) + 1 = (ln : Int)) = false := by simp; omega
          by_cases hxy : x = y
          · rw [decide_eq_false (by simpa using hxy)] at hj
            have HR1 := Lib.hid (show outT ops (lands ops) (stays ops) (places ops) (k + 1) = os ++ [u] by rw [HO1.out, hj]; simp)
            subst hxy
            clear hj HJM HJE HC1 h5 hcy0 hkb hbl hx hl13 hnn hy
            go_quiet (fail)
            clear e1 e2 e5 e6
            go_wp2
            go_roundw
            case rel => exact ⟨k + 1, OA', on + 1, oc', by go_num, hlt, by first | (rw [HR1.out]; exact hT14) | (rw [HR1.out]; exact hT14.below (below_drawn (Below.refl _ _) _)), by first | exact hb14 | exact below_drawn hb14 _⟩
            case measure => simp [intOf]; omega
          · have m3 : ((x : Int) != (y : Int)) = true := by simp; omega
            have m4 : decide ((x : Int) = (y : Int)) = false := by simp; omega
            rw [decide_eq_true hxy] at hj
            have HR1 := Lib.hid (show outT ops (lands ops) (stays ops) (places ops) (k + 1) = os ++ [u] ++ [jumpTo ((places ops).getD x 0 : Nat)] by rw [HO1.out, hj]; unfold jumpOf; rw [HHI.out.1, HXX.out]; simp)
            clear hj HJM HJE HC1 hxy h5 hcy0 hkb hbl hx hl13 hnn hy
            go_quiet (fail)
            have hT15 := hT14.below (below_drawn (Below.refl _ w14) nq)
            have hb15 := below_drawn hb14 nq
            clear e1 e2 e3 e4 e5 e6 k5 k5' m1 m2 m3 m4 c0 hcy hcx hT14 hb14
            generalize w14.drewN nq = w15 at hT15 hb15 ⊢
            have hl15 := HL.out.low hb15 hgB
            have hpl15 := HPL0.out.low hb15 hgpB
            have cx : w15.cell? ⟨g, i + 1, none⟩ = some (.int .i64 (x : Int)) := by
              have h1 := hl15.cell (i + 1) (by omega)
              rwa [nats_getD (by rw [lands_length, HLEN.out]; omega), HXX.out] at h1
            have cq : w15.cell? ⟨gp, x, none⟩ = some (.int .i64 ((places ops).getD x 0 : Nat)) := by
              have h1 := hpl15.cell x hxn
              rwa [nats_getD (by unfold places; rw [placeT_length, HLEN.out]; exact hxn)] at h1
            have hpx : (places ops).getD x 0 ≤ 200000000000 := by
              have h1 := placeT_le ops (lands ops) (stays ops) (stays ops).length x
              have h2 := stays_many ops
              have h3 := HLEN.out
              unfold places
              omega
            generalize (places ops).getD x 0 = pj at HR1 cq hpx
            have hxi : (x : Int) < (n : Int) := by omega
            have hin1 : (i : Int) + 1 < (n : Int) := by omega
            have e1 : IntKind.i64.wrap ((i : Int) + 1) = (i : Int) + 1 := IntWalk.i64_in _ (by omega)
            have e3 : (0 : Int) ≤ (i : Int) + 1 := by omega
            have e5 : ((i : Int) + 1).toNat = i + 1 := by omega
            obtain ⟨hs2, hh2, hap2⟩ := hT15.hds
            have HT15 := Lib.hid hT15
            have HSS := Lib.hid (fun W (h : Below w15.heap.size w15 W) => show W.cell? ⟨P, 2, none⟩ = some (.slice OA' (on + 1) oc') ∧ W.frozen? ⟨P, 2, none⟩ = false ∧ W.cell? ⟨g, i + 1, none⟩ = some (.int .i64 (x : Int)) ∧ W.cell? ⟨gp, x, none⟩ = some (.int .i64 (pj : Int)) from
              ⟨cell_of_block (HT15.out.below h).prog rfl, frozen_row (vs := [.int .i64 F, .int .i64 O, .slice OA' (on + 1) oc']) (HT15.out.below h).prog 2, (h.cell (World.block_lt_of_cell? _ _ cx)).trans cx, (h.cell (World.block_lt_of_cell? _ _ cq)).trans cq⟩)
            have HOM := Lib.hid (fun W (h : Below w15.heap.size w15 W) => hh2.2.1.below h)
            have HBZ := Lib.hid (fun W (h : Below w15.heap.size w15 W) => (HT15.out.below h).low.2)
            have HH2 := Lib.hid hh2
            have HAP2 := Lib.hid hap2
            have HBB := Lib.hid hb15
            obtain ⟨a1, a2, a3, a4⟩ := HSS.out _ (Below.refl w15.heap.size w15)
            have lP := lt_of_block hT15.prog
            have hon8 : (on + 1 + 1) * 80 ≤ 140737488355328 := by omega
            have hgA : ∀ r, blockOf OA' = some r → B ≤ r := fun r hr => (hh2.2.1.lt r hr).1
            have HGA := Lib.hid hgA
            clear cx cq hT15 hb15 hl15 hpl15 hh2 hap2 hgA
            go_upto_region 46 with (fail)
            go_region_law
              ((refine step_appK B (by rfl) _ _ _ _ _ 8 80 (by rfl) Tryz.underlying28 Tryz.info_op rfl (by omega) OA' (on + 1) oc' (flatOps hs2 (os ++ [u])) w15.heap.size 1 1 #[.int .u8 4, .int .i64 0, .float .f64 0, .slice none 0 0, .int .u8 0, .int .i64 0, .int .i64 0, .int .i64 (pj : Int)] 75 (heap_alloc_new w15.drew _) rfl (by rfl) (by rfl) (opRow_one (none, 0, 0) (jumpTo (pj : Int))) (HOM.out _ ((Below.refl _ _).drew.alloc (Nat.le_refl _) _)) (HBZ.out _ ((Below.refl _ _).drew.alloc (Nat.le_refl _) _)) (by omega) hon8 ?_; intro OA2 oc2 w16 hm16 hg16 hA16; have S60 := HSS.out _ (((Below.refl w15.heap.size w15).alloc (Nat.le_refl _) (.cells #[.int .u8 4, .int .i64 0, .float .f64 0, .slice none 0 0, .int .u8 0, .int .i64 0, .int .i64 0, .int .i64 (pj : Int)] 75)).drew); have hp16 := keep_ty hg16 (HT15.out.below (((Below.refl w15.heap.size w15).alloc (Nat.le_refl _) (.cells #[.int .u8 4, .int .i64 0, .float .f64 0, .slice none 0 0, .int .u8 0, .int .i64 0, .int .i64 0, .int .i64 (pj : Int)] 75)).drew)).prog (fun r hr => (HOM.out _ (((Below.refl w15.heap.size w15).alloc (Nat.le_refl _) (.cells #[.int .u8 4, .int .i64 0, .float .f64 0, .slice none 0 0, .int .u8 0, .int .i64 0, .int .i64 0, .int .i64 (pj : Int)] 75)).drew)).ty hr) (by decide); have S61 : w16.cell? ⟨P, 2, none⟩ = some (.slice OA' (on + 1) oc') := cell_of_block hp16 rfl; have S62 : w16.frozen? ⟨P, 2, none⟩ = false := frozen_row (vs := [.int .i64 F, .int .i64 O, .slice OA' (on + 1) oc']) hp16 2))
            all_goals
              have b16 : Below w15.heap.size w15 (w15.alloc (.cells #[.int .u8 4, .int .i64 0, .float .f64 0, .slice none 0 0, .int .u8 0, .int .i64 0, .int .i64 0, .int .i64 (pj : Int)] 75)).drew := ((Below.refl w15.heap.size w15).alloc (Nat.le_refl _) (.cells #[.int .u8 4, .int .i64 0, .float .f64 0, .slice none 0 0, .int .u8 0, .int .i64 0, .int .i64 0, .int .i64 (pj : Int)] 75)).drew
              have hT17 : TdSt (w16.setCell ⟨P, 2, none⟩ (.slice OA2 (on + 1 + 1) oc2)) B P F O none 0 0 [] OA2 (on + 1 + 1) oc2 (os ++ [u] ++ [jumpTo (pj : Int)]) := TdSt.added HT15.out HH2.out HAP2.out b16 (hs2 := [(none, 0, 0)]) (ops2 := [jumpTo (pj : Int)]) rfl (fun j h1 h2 => by
                  obtain rfl : j = 0 := by simpa using h1
                  exact .inl ⟨rfl, rfl, rfl⟩) (fun h hh q hq => by obtain rfl := List.mem_singleton.1 hh; simp [hdBlock] at hq) (List.pairwise_singleton _ _) (fun u hu => by obtain rfl := List.mem_singleton.1 hu; exact ⟨jumpTo_rngs (by omega) (by omega), by simp [jumpTo]⟩)
                  (by simpa [flatOps, opRow, opCells, jumpTo] using hm16) hg16 hA16
              have hb17 : Below B w6 (w16.setCell ⟨P, 2, none⟩ (.slice OA2 (on + 1 + 1) oc2)) :=
                (below_grown (HBB.out.trans (b16.mono HT15.out.low.2)) (HBZ.out _ b16) hg16 (fun q hq => HGA.out q hq)).setCell (p := ⟨P, 2, none⟩) HT15.out.low.1 _
              generalize w16.setCell ⟨P, 2, none⟩ (.slice OA2 (on + 1 + 1) oc2) = w17 at hT17 hb17 ⊢
              clear hm16 hg16 hA16 S60 hp16 S61 S62 b16 a1 a2 a3 a4 HSS HOM HBZ HH2 HAP2 HBB HGA HT15
              rw [← HR1.out] at hT17
              go_wp2
              go_roundw
              case rel => exact ⟨k + 1, OA2, on + 1 + 1, oc2, by go_num, hlt, hT17, hb17⟩
              case measure => simp [intOf]; omega
      · have hTT : ∀ W, Calls Tryz.prog 43 #[.agg #[.int .u8 (v.kind : Int), .int .i64 v.feature, .float .f64 v.thr, .slice d.1 d.2.1 d.2.2, .int .u8 (v.missing : Int), .int .i64 v.output, .int .i64 v.value, .int .i64 v.dest]] W fun e w' => e = .returned (.bool false) ∧ Below W.heap.size W w' := fun W => by
          have := HTA.out W
          rw [decide_eq_false ht] at this
          exact this
        have HTT := Lib.hid hTT
        have htv : ¬ testV v = true := by unfold testV; simpa using ht
        obtain ⟨u, hu⟩ : ∃ u : OpV, u = v := ⟨_, rfl⟩
        have HO2 := Lib.hid (show outT ops (lands ops) (stays ops) (places ops) (k + 1) = os ++ [u] ++ (if jmp ops k then [jumpOf ops k] else []) by rw [HO1.out, HMV.out, if_neg htv, hu])
        have HU := Lib.hid hu
        clear HTA hTT HMV htv ht hu HJT HO1
        go_wp2_with fail
        refine (HTT.out _).mono ?_; rintro e w11 ⟨rfl, b10⟩
        have hO11 : w11.heap[Q]? = some (.cells #[.int .u8 (u.kind : Int), .int .i64 u.feature, .float .f64 u.thr, .slice d.1 d.2.1 d.2.2, .int .u8 (u.missing : Int), .int .i64 u.output, .int .i64 u.value, .int .i64 u.dest] 75 (0, 0)) := by rw [HU.out]; exact (b10.block _ (lt_of_block hn9)).trans hn9
        have hcat11 : CatOwn w11 B d u.cats := by rw [HU.out]; exact hcat9.below b10
        have b11 := below_then b9 b9.size b10
        have HRG := Lib.hid (show OpRng u by rw [HU.out]; exact HRG1.out)
        have HCR := Lib.hid (show ∀ z ∈ u.cats, -9223372036854775808 ≤ z ∧ z ≤ 9223372036854775807 by rw [HU.out]; exact HCR0.out)
        have HUK := Lib.hid (show u.kind = v.kind by rw [HU.out])
        have HO1 := HO2
        clear q0 q1 q2 q3 q4 q5 q6 q7 hn9 hcat9 b9 HTT b10 HU HJD HO2
        go_upto_region 44 with (fail)
        have hT11 := hT.below b11
        have p2 : w11.cell? ⟨P, 2, none⟩ = some (.slice OA on oc) := cell_of_block hT11.prog rfl
        have q0 : w11.cell? ⟨Q, 0, none⟩ = some (.int .u8 (u.kind : Int)) := cell_of_block hO11 rfl
        have q1 : w11.cell? ⟨Q, 1, none⟩ = some (.int .i64 u.feature) := cell_of_block hO11 rfl
        have q2 : w11.cell? ⟨Q, 2, none⟩ = some (.float .f64 u.thr) := cell_of_block hO11 rfl
        have q3 : w11.cell? ⟨Q, 3, none⟩ = some (.slice d.1 d.2.1 d.2.2) := cell_of_block hO11 rfl
        have q4 : w11.cell? ⟨Q, 4, none⟩ = some (.int .u8 (u.missing : Int)) := cell_of_block hO11 rfl
        have q5 : w11.cell? ⟨Q, 5, none⟩ = some (.int .i64 u.output) := cell_of_block hO11 rfl
        have q6 : w11.cell? ⟨Q, 6, none⟩ = some (.int .i64 u.value) := cell_of_block hO11 rfl
        have q7 : w11.cell? ⟨Q, 7, none⟩ = some (.int .i64 u.dest) := cell_of_block hO11 rfl
        have hn12 := heap_alloc_new w11 (.cells #[.int .u8 (u.kind : Int), .int .i64 u.feature, .float .f64 u.thr, .slice d.1 d.2.1 d.2.2, .int .u8 (u.missing : Int), .int .i64 u.output, .int .i64 u.value, .int .i64 u.dest] 75)
        have b12 := b11.alloc b11.size (.cells #[.int .u8 (u.kind : Int), .int .i64 u.feature, .float .f64 u.thr, .slice d.1 d.2.1 d.2.2, .int .u8 (u.missing : Int), .int .i64 u.output, .int .i64 u.value, .int .i64 u.dest] 75)
        have hcat12 := hcat11.below ((Below.refl w11.heap.size w11).alloc (Nat.le_refl _) (.cells #[.int .u8 (u.kind : Int), .int .i64 u.feature, .float .f64 u.thr, .slice d.1 d.2.1 d.2.2, .int .u8 (u.missing : Int), .int .i64 u.output, .int .i64 u.value, .int .i64 u.dest] 75))
        have hT12 := hT.below b12
        obtain ⟨hs, hh, hap⟩ := hT.hds
        have hmk12 := hh.2.1.below b12
        have hO12 : (w11.alloc (.cells #[.int .u8 (u.kind : Int), .int .i64 u.feature, .float .f64 u.thr, .slice d.1 d.2.1 d.2.2, .int .u8 (u.missing : Int), .int .i64 u.output, .int .i64 u.value, .int .i64 u.dest] 75)).heap[Q]? = _ := (((Below.refl w11.heap.size w11).alloc (Nat.le_refl _) (.cells #[.int .u8 (u.kind : Int), .int .i64 u.feature, .float .f64 u.thr, .slice d.1 d.2.1 d.2.2, .int .u8 (u.missing : Int), .int .i64 u.output, .int .i64 u.value, .int .i64 u.dest] 75)).block _ (lt_of_block hO11)).trans hO11
        have hAl := hh.2.1.lt
        have hPl := lt_of_block hT.prog
        have hb12z : B ≤ (w11.alloc (.cells #[.int .u8 (u.kind : Int), .int .i64 u.feature, .float .f64 u.thr, .slice d.1 d.2.1 d.2.2, .int .u8 (u.missing : Int), .int .i64 u.output, .int .i64 u.value, .int .i64 u.dest] 75)).heap.size := hT12.low.2
        have HT0 := Lib.hid hT
        have HH := Lib.hid hh
        have HAP := Lib.hid hap
        have HB12 := Lib.hid b12
        have HC12 := Lib.hid hcat12
        have HN12 := Lib.hid hn12
        have HM12 := Lib.hid hmk12
        have HP12 := Lib.hid hT12.prog
        have HO12 := Lib.hid hO12
        have HAL := Lib.hid hAl
        have HPL := Lib.hid hPl
        have HBR := Lib.hid hbr
        have hon8 : (on + 1) * 80 ≤ 140737488355328 := by omega
        clear hT hh hap b11 b12 hcat11 hcat12 hn12 hmk12 hT11 hT12 hO11 hO12 hAl hPl hbr
        go_upto_region 45 with (at_builtin; refine app_boxK B rfl _ _ _ _ _ 8 80 rfl Tryz.underlying28 Tryz.info_op rfl (by omega) OA on oc (flatOps hs os) w11.heap.size 1 1 _ _ HN12.out rfl rfl rfl (opRow_one d u) HM12.out hb12z (by omega) hon8 ?_; rintro OA' oc' w12 hm12 hg12 hA12; have hp12 := keep_ty hg12 HP12.out (fun r hr => HM12.out.ty hr) (by decide); have u9 : w12.cell? ⟨P, 2, none⟩ = some (.slice OA on oc) := cell_of_block hp12 rfl; have z9 : w12.frozen? ⟨P, 2, none⟩ = false := frozen_row (vs := [.int .i64 F, .int .i64 O, .slice OA on oc]) hp12 2)
        have hT14 : TdSt (w12.setCell ⟨P, 2, none⟩ (.slice OA' (on + 1) oc')) B P F O none 0 0 [] OA' (on + 1) oc' (os ++ [u]) := TdSt.added HT0.out HH.out HAP.out HB12.out (hs2 := [d]) (ops2 := [u]) rfl (fun j h1 h2 => by
            obtain rfl : j = 0 := by simpa using h1
            exact HC12.out) (fun h hh q hq => by obtain rfl := List.mem_singleton.1 hh; exact HNW.out q hq) (List.pairwise_singleton _ _) (fun x hx => by obtain rfl := List.mem_singleton.1 hx; exact ⟨HRG.out, HCR.out⟩)
            (by simpa [flatOps, opRow, opCells] using hm12) hg12 hA12
        have hO14 : (w12.setCell ⟨P, 2, none⟩ (.slice OA' (on + 1) oc')).heap[Q]? = some (.cells #[.int .u8 (u.kind : Int), .int .i64 u.feature, .float .f64 u.thr, .slice d.1 d.2.1 d.2.2, .int .u8 (u.missing : Int), .int .i64 u.output, .int .i64 u.value, .int .i64 u.dest] 75 (0, 0)) :=
          (setCell_other (by have := HPL.out; omega) _ _).trans ((hg12.block _ (lt_of_block HO12.out) (fun e => by have := (HALW.out _ e.symm); omega)).trans HO12.out)
        have hb14 : Below B w6 (w12.setCell ⟨P, 2, none⟩ (.slice OA' (on + 1) oc')) :=
          (below_grown (HBR.out.trans (HB12.out.mono HT0.out.low.2)) hb12z hg12 (fun q hq => (HAL.out q hq).1)).setCell (p := ⟨P, 2, none⟩) HT0.out.low.1 _
        generalize w12.setCell ⟨P, 2, none⟩ (.slice OA' (on + 1) oc') = w14 at hT14 hO14 hb14 ⊢
        have c0 : w14.cell? ⟨Q, 0, none⟩ = some (.int .u8 (v.kind : Int)) := by rw [← HUK.out]; exact cell_of_block hO14 rfl
        clear q0 q1 q2 q3 q4 q5 q6 q7 p2 u9 z9 hm12 hg12 hA12 hO14 hp12 HT0 HH HAP HB12 HC12 HN12 HM12 HP12 HO12 HAL HBR HRG hb12z hon8 HPL HNW
        by_cases h5 : v.kind = 5
        · have hj := HJE.out h5
          have HR1 := Lib.hid (show outT ops (lands ops) (stays ops) (places ops) (k + 1) = os ++ [u] by rw [HO1.out, hj]; simp)
          have hkc : (v.kind : Int) = 5 := by omega
          rw [hkc] at c0
          clear hkc h5 hj HJM HJE HC1
          go_quiet (fail)
          go_wp2
          go_roundw
          case rel => exact ⟨k + 1, OA', on + 1, oc', by go_num, hlt, by first | (rw [HR1.out]; exact hT14) | (rw [HR1.out]; exact hT14.below (below_drawn (Below.refl _ _) _)), by first | exact hb14 | exact below_drawn hb14 _⟩
          case measure => simp [intOf]; omega
        · have hnn : i + 1 < n := by have := HNX.out h5; have := HLEN.out; omega
          obtain ⟨bb, hkb, hbl, _⟩ := HJM.out (by rw [HHI.out.1, HV.out]; exact h5)
          have hk1 : k + 1 < ln := by have := HSL.out; omega
          obtain ⟨y, hy, hcy0⟩ := HC1.out hk1
          have hcy : w14.cell? ⟨g2, k + 1, none⟩ = some (.int .i64 (y : Int)) := (hb14.cell (p := ⟨g2, k + 1, none⟩) hg2B).trans hcy0
          have hl13 := HL.out.low hb14 hgB
          have hcx := hl13.cell (i + 1) hnn
          rw [nats_getD (by rw [lands_length, HLEN.out]; exact hnn)] at hcx
          obtain ⟨x, hx⟩ : ∃ x, (lands ops).getD (i + 1) 0 = x := ⟨_, rfl⟩
          have hxn : x < n := by have := lands_lt ops HRP.out.some (i + 1); have := HLEN.out; omega
          have hj : jmp ops k = decide (x ≠ y) := by
            unfold jmp jumpy
            rw [show (stays ops).getD k 0 = stay ops k from rfl, show (stays ops).getD (k + 1) 0 = stay ops (k + 1) from rfl, HHI.out.1, HV.out, hx, hy, decide_eq_true h5, decide_eq_false (show ¬ k + 1 = (stays ops).length by have := HSL.out; omega), Bool.true_and, Bool.false_or]
          rw [hx] at hcx
          have HXX := Lib.hid hx
          have e1 : IntKind.i64.wrap ((i : Int) + 1) = (i : Int) + 1 := IntWalk.i64_in _ (by omega)
          have e2 : IntKind.i64.wrap ((k : Int) + 1) = (k : Int) + 1 := IntWalk.i64_in _ (by omega)
          have e3 : (0 : Int) ≤ (i : Int) + 1 := by omega
          have e4 : (0 : Int) ≤ (k : Int) + 1 := by omega
          have e5 : ((i : Int) + 1).toNat = i + 1 := by omega
          have e6 : ((k : Int) + 1).toNat = k + 1 := by omega
          have e7 : (i : Int) + 1 < (n : Int) := by omega
          have e8 : (k : Int) + 1 < (ln : Int) := by omega
          have k5 : ((v.kind : Int) != 5) = true := by simp; omega
          have k5' : decide ((v.kind : Int) = 5) = false := by simp; omega
          have m1 : ((k : Int) + 1 == (ln : Int)) = false := by simp; omega
          have m2 : decide ((k : Int) + 1 = (ln : Int)) = false := by simp; omega
          by_cases hxy : x = y
          · rw [decide_eq_false (by simpa using hxy)] at hj
            have HR1 := Lib.hid (show outT ops (lands ops) (stays ops) (places ops) (k + 1) = os ++ [u] by rw [HO1.out, hj]; simp)
            subst hxy
            clear hj HJM HJE HC1 h5 hcy0 hkb hbl hx hl13 hnn hy
            go_quiet (fail)
            clear e1 e2 e5 e6
            go_wp2
            go_roundw
            case rel => exact ⟨k + 1, OA', on + 1, oc', by go_num, hlt, by first | (rw [HR1.out]; exact hT14) | (rw [HR1.out]; exact hT14.below (below_drawn (Below.refl _ _) _)), by first | exact hb14 | exact below_drawn hb14 _⟩
            case measure => simp [intOf]; omega
          · have m3 : ((x : Int) != (y : Int)) = true := by simp; omega
            have m4 : decide ((x : Int) = (y : Int)) = false := by simp; omega
            rw [decide_eq_true hxy] at hj
            have HR1 := Lib.hid (show outT ops (lands ops) (stays ops) (places ops) (k + 1) = os ++ [u] ++ [jumpTo ((places ops).getD x 0 : Nat)] by rw [HO1.out, hj]; unfold jumpOf; rw [HHI.out.1, HXX.out]; simp)
            clear hj HJM HJE HC1 hxy h5 hcy0 hkb hbl hx hl13 hnn hy
            go_quiet (fail)
            have hT15 := hT14.below (below_drawn (Below.refl _ w14) nq)
            have hb15 := below_drawn hb14 nq
            clear e1 e2 e3 e4 e5 e6 k5 k5' m1 m2 m3 m4 c0 hcy hcx hT14 hb14
            generalize w14.drewN nq = w15 at hT15 hb15 ⊢
            have hl15 := HL.out.low hb15 hgB
            have hpl15 := HPL0.out.low hb15 hgpB
            have cx : w15.cell? ⟨g, i + 1, none⟩ = some (.int .i64 (x : Int)) := by
              have h1 := hl15.cell (i + 1) (by omega)
              rwa [nats_getD (by rw [lands_length, HLEN.out]; omega), HXX.out] at h1
            have cq : w15.cell? ⟨gp, x, none⟩ = some (.int .i64 ((places ops).getD x 0 : Nat)) := by
              have h1 := hpl15.cell x hxn
              rwa [nats_getD (by unfold places; rw [placeT_length, HLEN.out]; exact hxn)] at h1
            have hpx : (places ops).getD x 0 ≤ 200000000000 := by
              have h1 := placeT_le ops (lands ops) (stays ops) (stays ops).length x
              have h2 := stays_many ops
              have h3 := HLEN.out
              unfold places
              omega
            generalize (places ops).getD x 0 = pj at HR1 cq hpx
            have hxi : (x : Int) < (n : Int) := by omega
            have hin1 : (i : Int) + 1 < (n : Int) := by omega
            have e1 : IntKind.i64.wrap ((i : Int) + 1) = (i : Int) + 1 := IntWalk.i64_in _ (by omega)
            have e3 : (0 : Int) ≤ (i : Int) + 1 := by omega
            have e5 : ((i : Int) + 1).toNat = i + 1 := by omega
            obtain ⟨hs2, hh2, hap2⟩ := hT15.hds
            have HT15 := Lib.hid hT15
            have HSS := Lib.hid (fun W (h : Below w15.heap.size w15 W) => show W.cell? ⟨P, 2, none⟩ = some (.slice OA' (on + 1) oc') ∧ W.frozen? ⟨P, 2, none⟩ = false ∧ W.cell? ⟨g, i + 1, none⟩ = some (.int .i64 (x : Int)) ∧ W.cell? ⟨gp, x, none⟩ = some (.int .i64 (pj : Int)) from
              ⟨cell_of_block (HT15.out.below h).prog rfl, frozen_row (vs := [.int .i64 F, .int .i64 O, .slice OA' (on + 1) oc']) (HT15.out.below h).prog 2, (h.cell (World.block_lt_of_cell? _ _ cx)).trans cx, (h.cell (World.block_lt_of_cell? _ _ cq)).trans cq⟩)
            have HOM := Lib.hid (fun W (h : Below w15.heap.size w15 W) => hh2.2.1.below h)
            have HBZ := Lib.hid (fun W (h : Below w15.heap.size w15 W) => (HT15.out.below h).low.2)
            have HH2 := Lib.hid hh2
            have HAP2 := Lib.hid hap2
            have HBB := Lib.hid hb15
            obtain ⟨a1, a2, a3, a4⟩ := HSS.out _ (Below.refl w15.heap.size w15)
            have lP := lt_of_block hT15.prog
            have hon8 : (on + 1 + 1) * 80 ≤ 140737488355328 := by omega
            have hgA : ∀ r, blockOf OA' = some r → B ≤ r := fun r hr => (hh2.2.1.lt r hr).1
            have HGA := Lib.hid hgA
            clear cx cq hT15 hb15 hl15 hpl15 hh2 hap2 hgA
            go_upto_region 46 with (fail)
            go_region_law
              ((refine step_appK B (by rfl) _ _ _ _ _ 8 80 (by rfl) Tryz.underlying28 Tryz.info_op rfl (by omega) OA' (on + 1) oc' (flatOps hs2 (os ++ [u])) w15.heap.size 1 1 #[.int .u8 4, .int .i64 0, .float .f64 0, .slice none 0 0, .int .u8 0, .int .i64 0, .int .i64 0, .int .i64 (pj : Int)] 75 (heap_alloc_new w15.drew _) rfl (by rfl) (by rfl) (opRow_one (none, 0, 0) (jumpTo (pj : Int))) (HOM.out _ ((Below.refl _ _).drew.alloc (Nat.le_refl _) _)) (HBZ.out _ ((Below.refl _ _).drew.alloc (Nat.le_refl _) _)) (by omega) hon8 ?_; intro OA2 oc2 w16 hm16 hg16 hA16; have S60 := HSS.out _ (((Below.refl w15.heap.size w15).alloc (Nat.le_refl _) (.cells #[.int .u8 4, .int .i64 0, .float .f64 0, .slice none 0 0, .int .u8 0, .int .i64 0, .int .i64 0, .int .i64 (pj : Int)] 75)).drew); have hp16 := keep_ty hg16 (HT15.out.below (((Below.refl w15.heap.size w15).alloc (Nat.le_refl _) (.cells #[.int .u8 4, .int .i64 0, .float .f64 0, .slice none 0 0, .int .u8 0, .int .i64 0, .int .i64 0, .int .i64 (pj : Int)] 75)).drew)).prog (fun r hr => (HOM.out _ (((Below.refl w15.heap.size w15).alloc (Nat.le_refl _) (.cells #[.int .u8 4, .int .i64 0, .float .f64 0, .slice none 0 0, .int .u8 0, .int .i64 0, .int .i64 0, .int .i64 (pj : Int)] 75)).drew)).ty hr) (by decide); have S61 : w16.cell? ⟨P, 2, none⟩ = some (.slice OA' (on + 1) oc') := cell_of_block hp16 rfl; have S62 : w16.frozen? ⟨P, 2, none⟩ = false := frozen_row (vs := [.int .i64 F, .int .i64 O, .slice OA' (on + 1) oc']) hp16 2))
            all_goals
              have b16 : Below w15.heap.size w15 (w15.alloc (.cells #[.int .u8 4, .int .i64 0, .float .f64 0, .slice none 0 0, .int .u8 0, .int .i64 0, .int .i64 0, .int .i64 (pj : Int)] 75)).drew := ((Below.refl w15.heap.size w15).alloc (Nat.le_refl _) (.cells #[.int .u8 4, .int .i64 0, .float .f64 0, .slice none 0 0, .int .u8 0, .int .i64 0, .int .i64 0, .int .i64 (pj : Int)] 75)).drew
              have hT17 : TdSt (w16.setCell ⟨P, 2, none⟩ (.slice OA2 (on + 1 + 1) oc2)) B P F O none 0 0 [] OA2 (on + 1 + 1) oc2 (os ++ [u] ++ [jumpTo (pj : Int)]) := TdSt.added HT15.out HH2.out HAP2.out b16 (hs2 := [(none, 0, 0)]) (ops2 := [jumpTo (pj : Int)]) rfl (fun j h1 h2 => by
                  obtain rfl : j = 0 := by simpa using h1
                  exact .inl ⟨rfl, rfl, rfl⟩) (fun h hh q hq => by obtain rfl := List.mem_singleton.1 hh; simp [hdBlock] at hq) (List.pairwise_singleton _ _) (fun u hu => by obtain rfl := List.mem_singleton.1 hu; exact ⟨jumpTo_rngs (by omega) (by omega), by simp [jumpTo]⟩)
                  (by simpa [flatOps, opRow, opCells, jumpTo] using hm16) hg16 hA16
              have hb17 : Below B w6 (w16.setCell ⟨P, 2, none⟩ (.slice OA2 (on + 1 + 1) oc2)) :=
                (below_grown (HBB.out.trans (b16.mono HT15.out.low.2)) (HBZ.out _ b16) hg16 (fun q hq => HGA.out q hq)).setCell (p := ⟨P, 2, none⟩) HT15.out.low.1 _
              generalize w16.setCell ⟨P, 2, none⟩ (.slice OA2 (on + 1 + 1) oc2) = w17 at hT17 hb17 ⊢
              clear hm16 hg16 hA16 S60 hp16 S61 S62 b16 a1 a2 a3 a4 HSS HOM HBZ HH2 HAP2 HBB HGA HT15
              rw [← HR1.out] at hT17
              go_wp2
              go_roundw
              case rel => exact ⟨k + 1, OA2, on + 1 + 1, oc2, by go_num, hlt, hT17, hb17⟩
              case measure => simp [intOf]; omega
    · obtain rfl : k = ln := by omega
      go_wp2
      refine ⟨rfl, ?_⟩; (repeat apply Exists.intro); exact ⟨rfl, hT, hbr⟩

end Go.Proofs.YtekcpapkicmckaaGreatDoor
