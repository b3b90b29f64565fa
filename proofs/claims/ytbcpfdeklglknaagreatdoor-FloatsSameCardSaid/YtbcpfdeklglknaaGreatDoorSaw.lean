/- thicketlaw02.FloatsSame answers true. -/
import Derived.Test.YtbcpfdeklglknaaGreatDoorSam
namespace Go.Proofs.YtbcpfdeklglknaaGreatDoor
open Go.RowKit

theorem replicate_dig (k : Nat) : AllDig (List.replicate k 48) := by
  intro c hc; rw [List.eq_of_mem_replicate hc]; decide

/-- the digits' texts are read as the document says, moved as they are -/
structure Moves (S W : List UInt8) (dot : List UInt8) (N P : Nat) : Prop where
  r1 : ∀ (t : ByteArray), t.data.toList = S → ReadsTo t N P
  r2 : ∀ (t : ByteArray) (k : Nat), k < 256 → t.data.toList = List.replicate k 48 ++ S → ReadsTo t N P
  r3 : ∀ (t : ByteArray) (k : Nat), k < 256 → t.data.toList = S ++ dot ++ [48] ++ List.replicate k 48 → ReadsTo t (N * 10 ^ (1 + k)) (P + (1 + k))
  r4 : ∀ (t : ByteArray) (k j : Nat), k < 256 → 0 < j → j ≤ 5 → P + k < 10 ^ j → t.data.toList = W ++ List.replicate k 48 ++ [101] ++ (if P + k = 0 then padD j (P + k) else 45 :: padD j (P + k)) → ReadsTo t (N * 10 ^ k) (P + k)

theorem moves_whole (D : List UInt8) (P k j : Nat) (t : ByteArray) (hD : AllDig D) (h0 : 0 < D.length) (hl : D.length ≤ 3496) (hP : P ≤ 3496) (hk : k < 256) (hj : 0 < j) (hj2 : j ≤ 5) (h : P + k < 10 ^ j)
    (ht : t.data.toList = D ++ List.replicate k 48 ++ [101] ++ (if P + k = 0 then padD j (P + k) else 45 :: padD j (P + k))) : ReadsTo t (dv D * 10 ^ k) (P + k) := by
  have hDD := allDig_append hD (replicate_dig k)
  have hE : AllDig (padD j (P + k)) := padD_digits j (P + k)
  have hv := dv_padD j (P + k) h
  have hl2 := padD_length j (P + k)
  by_cases hz : P + k = 0
  · rw [if_pos hz] at ht
    have := reads_plus t (D ++ List.replicate k 48) (padD j (P + k)) (by rw [ht]; simp) hDD hE (by simp; omega) (by omega) (by simp; omega) (by omega) (by omega)
    rw [dv_behind] at this
    rwa [hz]
  · rw [if_neg hz] at ht
    have := reads_minus t (D ++ List.replicate k 48) (padD j (P + k)) (by rw [ht]; simp) hDD hE (by simp; omega) (by omega) (by simp; omega) (by omega) (by omega)
    rw [dv_behind, hv] at this
    exact this

/-- no point -/
theorem moves_out (D : List UInt8) (hD : AllDig D) (h0 : 0 < D.length) (hl : D.length ≤ 3496) : Moves D D [46] (dv D) 0 where
  r1 := fun t ht => reads_int t D ht hD h0 (by omega)
  r2 := fun t k hk ht => by
    have := reads_int t (List.replicate k 48 ++ D) ht (allDig_append (replicate_dig k) hD) (by simp; omega) (by simp; omega)
    rwa [dv_ahead] at this
  r3 := fun t k hk ht => by
    have hE : AllDig (List.replicate (1 + k) 48) := replicate_dig _
    have := reads_dot t D (List.replicate (1 + k) 48) (by rw [ht, Nat.add_comm, List.replicate_succ]; simp) hD hE h0 (by simp; omega) (by simp; omega)
    rw [dv_behind, List.length_replicate] at this
    rwa [Nat.zero_add]
  r4 := fun t k j hk hj hj2 h ht => moves_whole D 0 k j t hD h0 hl (by omega) hk hj hj2 h ht

/-- a point -/
theorem moves_in (D E : List UInt8) (hD : AllDig D) (hE : AllDig E) (h0 : 0 < D.length) (h1 : 0 < E.length) (hl : D.length + E.length ≤ 3496) : Moves (D ++ 46 :: E) (D ++ E) [] (dv (D ++ E)) E.length where
  r1 := fun t ht => reads_dot t D E ht hD hE h0 h1 (by omega)
  r2 := fun t k hk ht => by
    have := reads_dot t (List.replicate k 48 ++ D) E (by rw [ht]; simp) (allDig_append (replicate_dig k) hD) hE (by simp; omega) h1 (by simp; omega)
    rwa [List.append_assoc, dv_ahead] at this
  r3 := fun t k hk ht => by
    have := reads_dot t D (E ++ List.replicate (1 + k) 48) (by rw [ht, Nat.add_comm 1 k, List.replicate_succ]; simp) hD (allDig_append hE (replicate_dig _)) h0 (by simp; omega) (by simp; omega)
    rw [← List.append_assoc, dv_behind, List.length_append, List.length_replicate] at this
    exact this
  r4 := fun t k j hk hj hj2 h ht => moves_whole (D ++ E) E.length k j t (allDig_append hD hE) (by simp; omega) (by simpa using hl) (by omega) hk hj hj2 h ht

set_option maxRecDepth 100000 in
set_option maxHeartbeats 1000000 in
theorem same_far (A : Option Addr) (n c : Nat) (pt : Int) (mv ah : Nat) (w : World) (hg : Begs w) (hn : 3496 < n) (hn2 : n ≤ 281474976710656) :
    Calls Tryz.prog 3 #[.slice A n c, .int .i64 pt, .int .u8 (mv : Int), .int .u8 (ah : Int)] w fun e w' => e = .returned (.bool true) ∧ Below w.heap.size w w' := by
  have HB := Lib.hid (fun W (h : Begs W) => begins_any W h)
  have l1 : decide ((3496 : Int) < (n : Int)) = true := by simp; omega
  have l2 : (3496 : Int) < (n : Int) := by omega
  go_enter Tryz.func3, Tryz.ntmps3
  go_wp2_with fail
  refine (HB.out w hg).mono ?_; rintro e w1 ⟨rfl, b1⟩
  go_wp2_with fail
  refine (HB.out w1 (hg.below b1)).mono ?_; rintro e w2 ⟨rfl, b2⟩
  have B2 := below_then b1 b1.size b2
  go_wp2
  go_ret
  exact ⟨rfl, B2⟩

set_option maxRecDepth 100000 in
set_option maxHeartbeats 8000000 in
theorem same_some (A : Option Addr) (n c : Nat) (ds : List Nat) (pt : Int) (mv ah N P K : Nat) (S W dot : List UInt8) (w : World) (hg : Begs w) (hx : Sl w A n c (u8s ds)) (hb : ∀ d ∈ ds, d < 256) (hn : n ≤ 3496) (hmv : mv < 256) (hah : ah < 256)
    (hS : (if n = 0 then [48] else ptx ds pt n) = S) (hW : (if n = 0 then [48] else ptx ds 0 n) = W) (hSl : S.length ≤ 8000) (hWl : W.length ≤ 8000) (hM : Moves S W dot N P) (hK : P + mv = K)
    (hc : (pt < 1 ∧ dot = [46] ∧ P = 0) ∨ (1 ≤ pt ∧ (n : Int) ≤ pt ∧ dot = [46] ∧ P = 0) ∨ (1 ≤ pt ∧ pt < n ∧ dot = [] ∧ (P : Int) = n - pt)) :
    Calls Tryz.prog 3 #[.slice A n c, .int .i64 pt, .int .u8 (mv : Int), .int .u8 (ah : Int)] w fun e w' => e = .returned (.bool true) ∧ Below w.heap.size w w' := by
  have hP : P ≤ 3496 := by omega
  have HB := Lib.hid (fun W (h : Begs W) => begins_any W h)
  have HPL := Lib.hid (fun pt W (h : Sl W A n c (u8s ds)) L hL => plain_any A n c ds pt W h hb (by omega) L hL)
  have HM := Lib.hid hM
  have HS := Lib.hid hS
  have HWW := Lib.hid hW
  have HSG := Lib.hid (fun W => sign_any K W (by omega))
  have HK := Lib.hid hK
  have l1 : decide ((3496 : Int) < (n : Int)) = false := by simp; omega
  have l2 : ¬ (3496 : Int) < (n : Int) := by omega
  have f64 := Tryz.f64bitsN
  clear hM hS hW hb hK
  go_enter Tryz.func3, Tryz.ntmps3
  go_wp2_with fail
  refine (HB.out w hg).mono ?_; rintro e w1 ⟨rfl, b1⟩
  have g1 := hg.below b1
  have x1 := hx.below b1
  clear HB hg hx
  go_wp2_with fail
  refine (HPL.out pt w1 x1 S HS.out).mono ?_; rintro e w2 ⟨t, rfl, ht, b2⟩
  have g2 := g1.below b2
  have x2 := x1.below b2
  have B2 := below_then b1 b1.size b2
  have HR := Lib.hid (HM.out.r1 t ht w2 g2.tabs.wide)
  have hts : (t.size : Int) ≤ 8000 := by rw [size_list ht]; omega
  have HT := Lib.hid ht
  clear b1 b2 g1 x1 ht
  go_wp2_with fail
  refine HR.out.mono ?_; rintro e w3 ⟨za, rfl, ra, b3⟩
  have g3 := g2.below b3
  have x3 := x2.below b3
  have B3 := below_then B2 B2.size b3
  have RA := Lib.hid ra
  clear b3 g2 x2 B2 HR ra
  go_wp2
  go_loopw [14, 15] (fun fx ix wr => ∃ (f : ByteArray) (i : Nat), fx = .string f ∧ ix = .int .i64 (i : Int) ∧ i ≤ ah ∧ Hid (f.data.toList = List.replicate i 48) ∧ wr = w3) (fun _ ix _ => ah - (intOf ix).toNat)
  case atStart => exact ⟨⟨#[]⟩, 0, rfl, rfl, Nat.zero_le _, Lib.hid rfl, rfl⟩
  case round =>
    obtain ⟨f, i, rfl, rfl, hi, HF, rfl⟩ := hrel
    have hfs : (f.size : Int) ≤ 300 := by rw [size_list HF.out, List.length_replicate]; omega
    by_cases hlt : i < ah
    · have q1 : decide ((i : Int) < (ah : Int)) = true := by simp; omega
      have q2 : (i : Int) < (ah : Int) := by omega
      have HF2 : Hid ((f ++ ⟨#[48]⟩ : ByteArray).data.toList = List.replicate (i + 1) 48) := Lib.hid (by rw [data_append, HF.out, List.replicate_succ'])
      go_wp2
      go_roundw
      case rel => exact ⟨_, i + 1, rfl, by go_num, hlt, HF2, by simp⟩
      case measure => simp [intOf]; omega
    · obtain rfl : i = ah := by omega
      have q1 : decide ((i : Int) < (i : Int)) = false := by simp
      have HR := Lib.hid (HM.out.r2 (f ++ t) i hah (by rw [data_append, HF.out, HT.out]) wr g3.tabs.wide)
      go_wp2_with fail
      refine HR.out.mono ?_; rintro e w4 ⟨zb, rfl, rb, b4⟩
      have g4 := g3.below b4
      have x4 := x3.below b4
      have B4 := below_then B3 B3.size b4
      have RB := Lib.hid rb
      clear b4 g3 x3 B3 HR rb
      have hfx : ((t ++ ⟨#[46]⟩ : ByteArray).size : Int) ≤ 8001 := by rw [ByteArray.size_append]; show ((_ + 1 : Nat) : Int) ≤ _; omega
      have hfy : ((t ++ ⟨#[46]⟩ ++ ⟨#[48]⟩ : ByteArray).size : Int) ≤ 8002 := by rw [ByteArray.size_append]; show ((_ + 1 : Nat) : Int) ≤ _; omega
      have hfz : ((t ++ ⟨#[48]⟩ : ByteArray).size : Int) ≤ 8001 := by rw [ByteArray.size_append]; show ((_ + 1 : Nat) : Int) ≤ _; omega
      have hK1 : -(mv : Int) = -(K : Int) ∨ P ≠ 0 := by
        by_cases h : P = 0
        · left; have := HK.out; omega
        · exact .inr h
      rcases hc with ⟨c1, c2, c3⟩ | ⟨c1, c4, c2, c3⟩ | ⟨c1, c4, c2, c3⟩
      · have HR3 := Lib.hid (HM.out.r3 (t ++ ⟨#[46]⟩ ++ ⟨#[48]⟩ ++ f) i hah (by rw [data_append, data_append, data_append, HF.out, HT.out, c2]) w4 g4.tabs.wide)
        have p1 : decide (pt < 1) = true := by simp; omega
        have p2 : decide (1 ≤ pt) = false := by simp; omega
        have p3 : ¬ 1 ≤ pt := by omega
        have hK2 : -(mv : Int) = -(K : Int) := by have := HK.out; omega
        clear c2 hK1
        subst c3
        go_wp2_with fail
        refine HR3.out.mono ?_
        rintro e w5 ⟨zc, rfl, rc, b5⟩
        have g5 := g4.below b5
        have x5 := x4.below b5
        have B5 := below_then B4 B4.size b5
        have RC := Lib.hid rc
        clear b5 g4 x4 B4 HR3 rc
        go_wp2_with fail
        refine (HPL.out 0 w5 x5 W HWW.out).mono ?_; rintro e w6 ⟨u, rfl, hu, b6⟩
        have g6 := g5.below b6
        have B6 := below_then B5 B5.size b6
        have HU := Lib.hid hu
        clear b6 g5 x5 B5 hu
        go_wp2
        go_loopw [23, 25] (fun ux ix wr => ∃ (v : ByteArray) (i : Nat), ux = .string v ∧ ix = .int .i64 (i : Int) ∧ i ≤ mv ∧ Hid (v.data.toList = W ++ List.replicate i 48) ∧ wr = w6) (fun _ ix _ => mv - (intOf ix).toNat)
        case atStart => exact ⟨u, 0, rfl, rfl, Nat.zero_le _, Lib.hid (by rw [HU.out]; simp), rfl⟩
        case round =>
          obtain ⟨v, j, rfl, rfl, hj, HV, rfl⟩ := hrel
          have hvs : (v.size : Int) ≤ 8300 := by rw [size_list HV.out, List.length_append, List.length_replicate]; omega
          by_cases hlj : j < mv
          · have r1 : decide ((j : Int) < (mv : Int)) = true := by simp; omega
            have r2 : (j : Int) < (mv : Int) := by omega
            have HV2 : Hid ((v ++ ⟨#[48]⟩ : ByteArray).data.toList = W ++ List.replicate (j + 1) 48) := Lib.hid (by rw [data_append, HV.out, List.replicate_succ', List.append_assoc])
            go_wp2
            go_roundw
            case rel => exact ⟨_, j + 1, rfl, by go_num, hlj, HV2, by simp⟩
            case measure => simp [intOf]; omega
          · obtain rfl : j = mv := by omega
            have r1 : decide ((j : Int) < (j : Int)) = false := by simp
            have hve : ((v ++ ⟨#[101]⟩ : ByteArray).size : Int) ≤ 8400 := by rw [ByteArray.size_append]; show ((_ + 1 : Nat) : Int) ≤ _; omega
            go_wp2_with fail
            refine (HSG.out _).mono ?_; rintro e w7 ⟨m, d, rfl, hm, hd0, hd5, hdk, b7⟩
            have hms : (m.size : Int) ≤ 6 := by rw [size_list hm]; split <;> simp [padD_length] <;> omega
            have g7 := g6.below b7
            have B7 := below_then B6 B6.size b7
            rw [← HK.out] at hm hdk
            have HR4 := Lib.hid (HM.out.r4 (v ++ ⟨#[101]⟩ ++ m) j d hmv hd0 hd5 hdk (by rw [data_append, data_append, HV.out, hm]) w7 g7.tabs.wide)
            clear b7 g6 B6 hm hdk
            go_wp2_with fail
            refine HR4.out.mono ?_; rintro e w8 ⟨zd, rfl, rd, b8⟩
            have B8 := below_then B7 B7.size b8
            obtain rfl := RA.out.unique RB.out
            obtain rfl := RA.out.move RC.out
            obtain rfl := RA.out.move rd
            clear b8 g7 B7 HR4 rd
            go_wp2
            go_ret
            exact ⟨rfl, B8⟩
      · have HR3 := Lib.hid (HM.out.r3 (t ++ ⟨#[46]⟩ ++ ⟨#[48]⟩ ++ f) i hah (by rw [data_append, data_append, data_append, HF.out, HT.out, c2]) w4 g4.tabs.wide)
        have p1 : decide (pt < 1) = false := by simp; omega
        have p2 : decide (1 ≤ pt) = true := by simp; omega
        have p3 : ¬ pt < 1 := by omega
        have p4 : decide ((n : Int) ≤ pt) = true := by simp; omega
        have p5 : decide (pt < (n : Int)) = false := by simp; omega
        have p6 : ¬ pt < (n : Int) := by omega
        have hK2 : -(mv : Int) = -(K : Int) := by have := HK.out; omega
        clear c2 hK1
        subst c3
        go_wp2_with fail
        refine HR3.out.mono ?_
        rintro e w5 ⟨zc, rfl, rc, b5⟩
        have g5 := g4.below b5
        have x5 := x4.below b5
        have B5 := below_then B4 B4.size b5
        have RC := Lib.hid rc
        clear b5 g4 x4 B4 HR3 rc
        go_wp2_with fail
        refine (HPL.out 0 w5 x5 W HWW.out).mono ?_; rintro e w6 ⟨u, rfl, hu, b6⟩
        have g6 := g5.below b6
        have B6 := below_then B5 B5.size b6
        have HU := Lib.hid hu
        clear b6 g5 x5 B5 hu
        go_wp2
        go_loopw [23, 25] (fun ux ix wr => ∃ (v : ByteArray) (i : Nat), ux = .string v ∧ ix = .int .i64 (i : Int) ∧ i ≤ mv ∧ Hid (v.data.toList = W ++ List.replicate i 48) ∧ wr = w6) (fun _ ix _ => mv - (intOf ix).toNat)
        case atStart => exact ⟨u, 0, rfl, rfl, Nat.zero_le _, Lib.hid (by rw [HU.out]; simp), rfl⟩
        case round =>
          obtain ⟨v, j, rfl, rfl, hj, HV, rfl⟩ := hrel
          have hvs : (v.size : Int) ≤ 8300 := by rw [size_list HV.out, List.length_append, List.length_replicate]; omega
          by_cases hlj : j < mv
          · have r1 : decide ((j : Int) < (mv : Int)) = true := by simp; omega
            have r2 : (j : Int) < (mv : Int) := by omega
            have HV2 : Hid ((v ++ ⟨#[48]⟩ : ByteArray).data.toList = W ++ List.replicate (j + 1) 48) := Lib.hid (by rw [data_append, HV.out, List.replicate_succ', List.append_assoc])
            go_wp2
            go_roundw
            case rel => exact ⟨_, j + 1, rfl, by go_num, hlj, HV2, by simp⟩
            case measure => simp [intOf]; omega
          · obtain rfl : j = mv := by omega
            have r1 : decide ((j : Int) < (j : Int)) = false := by simp
            have hve : ((v ++ ⟨#[101]⟩ : ByteArray).size : Int) ≤ 8400 := by rw [ByteArray.size_append]; show ((_ + 1 : Nat) : Int) ≤ _; omega
            go_wp2_with fail
            refine (HSG.out _).mono ?_; rintro e w7 ⟨m, d, rfl, hm, hd0, hd5, hdk, b7⟩
            have hms : (m.size : Int) ≤ 6 := by rw [size_list hm]; split <;> simp [padD_length] <;> omega
            have g7 := g6.below b7
            have B7 := below_then B6 B6.size b7
            rw [← HK.out] at hm hdk
            have HR4 := Lib.hid (HM.out.r4 (v ++ ⟨#[101]⟩ ++ m) j d hmv hd0 hd5 hdk (by rw [data_append, data_append, HV.out, hm]) w7 g7.tabs.wide)
            clear b7 g6 B6 hm hdk
            go_wp2_with fail
            refine HR4.out.mono ?_; rintro e w8 ⟨zd, rfl, rd, b8⟩
            have B8 := below_then B7 B7.size b8
            obtain rfl := RA.out.unique RB.out
            obtain rfl := RA.out.move RC.out
            obtain rfl := RA.out.move rd
            clear b8 g7 B7 HR4 rd
            go_wp2
            go_ret
            exact ⟨rfl, B8⟩
      · have HR3 := Lib.hid (HM.out.r3 (t ++ ⟨#[48]⟩ ++ f) i hah (by rw [data_append, data_append, HF.out, HT.out, c2, List.append_nil]) w4 g4.tabs.wide)
        have p1 : decide (pt < 1) = false := by simp; omega
        have p2 : decide (1 ≤ pt) = true := by simp; omega
        have p3 : ¬ pt < 1 := by omega
        have p4 : decide ((n : Int) ≤ pt) = false := by simp; omega
        have p5 : decide (pt < (n : Int)) = true := by simp; omega
        have p6 : ¬ (n : Int) ≤ pt := by omega
        have hK2 : (n : Int) - pt = (P : Int) := c3.symm
        have hK3 : -(P : Int) - (mv : Int) = -(K : Int) := by have := HK.out; omega
        clear c2 c3 hK1
        go_wp2_with fail
        refine HR3.out.mono ?_
        rintro e w5 ⟨zc, rfl, rc, b5⟩
        have g5 := g4.below b5
        have x5 := x4.below b5
        have B5 := below_then B4 B4.size b5
        have RC := Lib.hid rc
        clear b5 g4 x4 B4 HR3 rc
        go_wp2_with fail
        refine (HPL.out 0 w5 x5 W HWW.out).mono ?_; rintro e w6 ⟨u, rfl, hu, b6⟩
        have g6 := g5.below b6
        have B6 := below_then B5 B5.size b6
        have HU := Lib.hid hu
        clear b6 g5 x5 B5 hu
        go_wp2
        go_loopw [23, 25] (fun ux ix wr => ∃ (v : ByteArray) (i : Nat), ux = .string v ∧ ix = .int .i64 (i : Int) ∧ i ≤ mv ∧ Hid (v.data.toList = W ++ List.replicate i 48) ∧ wr = w6) (fun _ ix _ => mv - (intOf ix).toNat)
        case atStart => exact ⟨u, 0, rfl, rfl, Nat.zero_le _, Lib.hid (by rw [HU.out]; simp), rfl⟩
        case round =>
          obtain ⟨v, j, rfl, rfl, hj, HV, rfl⟩ := hrel
          have hvs : (v.size : Int) ≤ 8300 := by rw [size_list HV.out, List.length_append, List.length_replicate]; omega
          by_cases hlj : j < mv
          · have r1 : decide ((j : Int) < (mv : Int)) = true := by simp; omega
            have r2 : (j : Int) < (mv : Int) := by omega
            have HV2 : Hid ((v ++ ⟨#[48]⟩ : ByteArray).data.toList = W ++ List.replicate (j + 1) 48) := Lib.hid (by rw [data_append, HV.out, List.replicate_succ', List.append_assoc])
            go_wp2
            go_roundw
            case rel => exact ⟨_, j + 1, rfl, by go_num, hlj, HV2, by simp⟩
            case measure => simp [intOf]; omega
          · obtain rfl : j = mv := by omega
            have r1 : decide ((j : Int) < (j : Int)) = false := by simp
            have hve : ((v ++ ⟨#[101]⟩ : ByteArray).size : Int) ≤ 8400 := by rw [ByteArray.size_append]; show ((_ + 1 : Nat) : Int) ≤ _; omega
            go_wp2_with fail
            refine (HSG.out _).mono ?_; rintro e w7 ⟨m, d, rfl, hm, hd0, hd5, hdk, b7⟩
            have hms : (m.size : Int) ≤ 6 := by rw [size_list hm]; split <;> simp [padD_length] <;> omega
            have g7 := g6.below b7
            have B7 := below_then B6 B6.size b7
            rw [← HK.out] at hm hdk
            have HR4 := Lib.hid (HM.out.r4 (v ++ ⟨#[101]⟩ ++ m) j d hmv hd0 hd5 hdk (by rw [data_append, data_append, HV.out, hm]) w7 g7.tabs.wide)
            clear b7 g6 B6 hm hdk
            go_wp2_with fail
            refine HR4.out.mono ?_; rintro e w8 ⟨zd, rfl, rd, b8⟩
            have B8 := below_then B7 B7.size b8
            obtain rfl := RA.out.unique RB.out
            obtain rfl := RA.out.move RC.out
            obtain rfl := RA.out.move rd
            clear b8 g7 B7 HR4 rd
            go_wp2
            go_ret
            exact ⟨rfl, B8⟩

theorem same_law (A : Option Addr) (n c : Nat) (ds : List Nat) (pt : Int) (mv ah : Nat) (w : World) (hg : Begs w) (hx : Sl w A n c (u8s ds)) (hb : ∀ d ∈ ds, d < 256) (hmv : mv < 256) (hah : ah < 256) :
    Calls Tryz.prog 3 #[.slice A n c, .int .i64 pt, .int .u8 (mv : Int), .int .u8 (ah : Int)] w fun e w' => e = .returned (.bool true) ∧ Below w.heap.size w w' := by
  by_cases hn : n ≤ 3496
  · by_cases h0 : n = 0
    · have hM := moves_out [48] (by intro c hc; simp at hc; rw [hc]; decide) (by simp) (by simp)
      refine same_some A n c ds pt mv ah _ 0 (0 + mv) [48] [48] [46] w hg hx hb hn hmv hah (by rw [if_pos h0]) (by rw [if_pos h0]) (by simp) (by simp) hM rfl ?_
      rcases Int.lt_or_le pt 1 with h | h
      · exact .inl ⟨h, rfl, rfl⟩
      · exact .inr (.inl ⟨h, by omega, rfl, rfl⟩)
    · by_cases hin : 1 ≤ pt ∧ pt < n
      · obtain ⟨p, rfl⟩ : ∃ p : Nat, pt = p := ⟨pt.toNat, by omega⟩
        have hl : (chs ds n).length = n := chs_len ds n
        have hE : AllDig ((chs ds n).drop p) := fun c hc => chs_dig ds n c (List.mem_of_mem_drop hc)
        have hM := moves_in (chs ds p) ((chs ds n).drop p) (chs_dig ds p) hE (by rw [chs_len]; omega) (by simp [hl]; omega) (by simp [hl, chs_len]; omega)
        have hsplit : chs ds p ++ (chs ds n).drop p = chs ds n := by rw [← chs_take ds n p (by omega)]; exact List.take_append_drop p _
        rw [hsplit] at hM
        exact same_some A n c ds p mv ah _ _ _ _ _ _ w hg hx hb hn hmv hah (by rw [if_neg h0, ptx_in ds p n (by omega) (by omega)]) (by rw [if_neg h0, ptx_out ds 0 n (.inl (by omega))])
          (by have := (ptx_len ds p n).2; rw [ptx_in ds p n (by omega) (by omega)] at this; omega) (by rw [hl]; omega) hM rfl (.inr (.inr ⟨hin.1, hin.2, rfl, by simp [hl]; omega⟩))
      · have hM := moves_out (chs ds n) (chs_dig ds n) (by rw [chs_len]; omega) (by rw [chs_len]; exact hn)
        refine same_some A n c ds pt mv ah _ 0 (0 + mv) _ _ _ w hg hx hb hn hmv hah (by rw [if_neg h0, ptx_out ds pt n (by omega)]) (by rw [if_neg h0, ptx_out ds 0 n (.inl (by omega))]) (by rw [chs_len]; omega) (by rw [chs_len]; omega) hM rfl ?_
        rcases Int.lt_or_le pt 1 with h | h
        · exact .inl ⟨h, rfl, rfl⟩
        · exact .inr (.inl ⟨h, by omega, rfl, rfl⟩)
  · exact same_far A n c pt mv ah w hg (by omega) hx.big

end Go.Proofs.YtbcpfdeklglknaaGreatDoor
