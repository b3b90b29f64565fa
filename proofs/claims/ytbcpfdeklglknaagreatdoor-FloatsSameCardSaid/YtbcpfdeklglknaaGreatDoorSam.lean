/- thicketlaw02.FloatsSame: the texts that it makes. -/
import Derived.Test.YtbcpfdeklglknaaGreatDoorGre
import Derived.Test.YtbcpfdeklglknaaGreatDoorBeg
import Derived.Test.YtbcpfdeklglknaaGreatDoorRyuH
namespace Go.Proofs.YtbcpfdeklglknaaGreatDoor
open Go.RowKit

/-- a digit's byte -/
def dgc (ds : List Nat) (i : Nat) : UInt8 := UInt8.ofNat (48 + ds.getD i 0 % 10)
/-- the first digits, a point ahead of one of them -/
def ptx (ds : List Nat) (pt : Int) : Nat → List UInt8
  | 0 => []
  | i + 1 => (if (i : Int) = pt ∧ 0 < i then ptx ds pt i ++ [46] else ptx ds pt i) ++ [dgc ds i]
/-- all digits -/
def chs (ds : List Nat) : Nat → List UInt8
  | 0 => []
  | i + 1 => chs ds i ++ [dgc ds i]

theorem dgc_dig (ds : List Nat) (i : Nat) : 48 ≤ (dgc ds i).toNat ∧ (dgc ds i).toNat ≤ 57 := by
  unfold dgc; rw [u8_nat (by omega)]; omega
theorem chs_len (ds : List Nat) (i : Nat) : (chs ds i).length = i := by
  induction i with
  | zero => rfl
  | succ i ih => simp [chs, ih]
theorem chs_dig (ds : List Nat) (i : Nat) : AllDig (chs ds i) := by
  induction i with
  | zero => intro c hc; simp [chs] at hc
  | succ i ih => exact allDig_append ih (fun c hc => by simp at hc; rw [hc]; exact dgc_dig ds i)
theorem chs_take (ds : List Nat) (i k : Nat) (h : k ≤ i) : (chs ds i).take k = chs ds k := by
  induction i with
  | zero => obtain rfl : k = 0 := by omega
            rfl
  | succ i ih =>
    by_cases hk : k ≤ i
    · simp only [chs]; rw [List.take_append_of_le_length (by rw [chs_len]; exact hk), ih hk]
    · obtain rfl : k = i + 1 := by omega
      exact List.take_of_length_le (by rw [chs_len]; omega)
theorem ptx_out (ds : List Nat) (pt : Int) (n : Nat) (h : pt < 1 ∨ (n : Int) ≤ pt) : ptx ds pt n = chs ds n := by
  induction n with
  | zero => rfl
  | succ i ih => simp only [ptx, chs]; rw [if_neg (by omega), ih (by omega)]
theorem ptx_in (ds : List Nat) (pt : Nat) (n : Nat) (h1 : 1 ≤ pt) (h2 : pt < n) : ptx ds pt n = chs ds pt ++ 46 :: (chs ds n).drop pt := by
  induction n with
  | zero => omega
  | succ i ih =>
    simp only [ptx, chs]
    by_cases hi : i = pt
    · subst hi
      rw [if_pos ⟨rfl, by omega⟩, ptx_out ds i i (.inr (Int.le_refl _)), List.drop_append_of_le_length (by rw [chs_len]; exact Nat.le_refl _), List.drop_of_length_le (by rw [chs_len]; exact Nat.le_refl _)]
      simp
    · rw [if_neg (by omega), ih (by omega), List.drop_append_of_le_length (by rw [chs_len]; omega)]
      simp
theorem ptx_len (ds : List Nat) (pt : Int) (n : Nat) : n ≤ (ptx ds pt n).length ∧ (ptx ds pt n).length ≤ 2 * n := by
  induction n with
  | zero => exact ⟨Nat.le_refl _, Nat.le_refl _⟩
  | succ i ih => simp only [ptx]; split <;> simp <;> omega

theorem u8s_getD {xs : List Nat} {j : Nat} (h : j < xs.length) : (u8s xs).getD j undef = .int .u8 (xs.getD j 0 : Nat) := by
  simp [u8s, List.getD, List.getElem?_eq_getElem h]

/-- a byte as a text -/
theorem one_text (W : World) (c : Nat) (hc : c < 256) (q : Nat) :
    (convert 22 9 (.slice (some ⟨W.heap.size, 0, none⟩) 1 1)).run Tryz.prog ((W.alloc (.cells #[.int .u8 (c : Int)] 5)).drewN q) = .ok (.string ⟨#[UInt8.ofNat c]⟩) ((W.alloc (.cells #[.int .u8 (c : Int)] 5)).drewN q) := by
  refine run_convert_bytes_back _ _ _ 5 ⟨W.heap.size, 0, none⟩ 1 [UInt8.ofNat c] Tryz.under_b8 Tryz.underlying5 Tryz.underlying9 (fun j hj => ?_)
  obtain rfl : j = 0 := by simpa using hj
  have hk := heap_alloc_new W (.cells #[.int .u8 (c : Int)] 5)
  have h2 := cell_of_block hk (j := 0) rfl
  simp only [List.getElem_cons_zero]
  rw [u8_nat hc]
  exact h2
theorem one_text0 (W : World) (c : Nat) (hc : c < 256) :
    (convert 22 9 (.slice (some ⟨W.heap.size, 0, none⟩) 1 1)).run Tryz.prog (W.alloc (.cells #[.int .u8 (c : Int)] 5)) = .ok (.string ⟨#[UInt8.ofNat c]⟩) (W.alloc (.cells #[.int .u8 (c : Int)] 5)) := one_text W c hc 0

/-- a text is answered -/
def TxtPost (w : World) (L : List UInt8) (e : Ending) (w' : World) : Prop := ∃ t : ByteArray, e = .returned (.string t) ∧ t.data.toList = L ∧ Below w.heap.size w w'

set_option maxRecDepth 100000 in
set_option maxHeartbeats 1000000 in
theorem plain_any (A : Option Addr) (n c : Nat) (ds : List Nat) (pt : Int) (w : World) (hx : Sl w A n c (u8s ds)) (hb : ∀ d ∈ ds, d < 256) (hn : n ≤ 4096) (L : List UInt8) (hL : (if n = 0 then [48] else ptx ds pt n) = L) :
    Calls Tryz.prog 5 #[.slice A n c, .int .i64 pt, .bool false, .string ⟨#[]⟩] w (TxtPost w L) := by
  have HL := Lib.hid hL
  clear hL
  have hlen : ds.length = n := by have := hx.len; rwa [u8s_length] at this
  have HB := Lib.hid (fun i (h : i < n) => hb (ds.getD i 0) (by rw [List.getD_eq_getElem?_getD, List.getElem?_eq_getElem (by omega)]; exact List.getElem_mem _))
  clear hb
  have HT := Lib.hid (fun (W : World) (x : Nat) (h : x < 256) (q : Nat) => one_text W x h q)
  go_enter Tryz.func5, Tryz.ntmps5
  go_wp2
  go_loopw [9, 10] (fun sx ix wr => ∃ (t : ByteArray) (i : Nat), sx = .string t ∧ ix = .int .i64 (i : Int) ∧ i ≤ n ∧ Hid (t.data.toList = ptx ds pt i) ∧ Below w.heap.size w wr) (fun _ ix _ => n - (intOf ix).toNat)
  case atStart => exact ⟨⟨#[]⟩, 0, rfl, rfl, Nat.zero_le _, Lib.hid rfl, Below.refl _ _⟩
  case round =>
    obtain ⟨t, i, rfl, rfl, hi, HS, hbw⟩ := hrel
    have hts : (t.size : Int) ≤ 8388608 := by have := (ptx_len ds pt i).2; rw [size_list HS.out]; omega
    obtain ⟨bb, oo, HA, HC⟩ | hn0 : (∃ b o, A = some ⟨b, o, none⟩ ∧ ∀ j, j < n → wr.cell? ⟨b, o + j, none⟩ = some (.int .u8 (ds.getD j 0 : Nat))) ∨ n = 0 := by
      by_cases h0 : n = 0
      · exact .inr h0
      · obtain ⟨b, o, h1, h2⟩ := (hx.below hbw).cells (by omega)
        refine .inl ⟨b, o, h1, fun j hj => ?_⟩
        rw [h2 j hj, u8s_getD (by omega)]
    · by_cases hlt : i < n
      · subst HA
        have hc := HC i hlt
        have hd0 := HB.out i hlt
        generalize hdv : ds.getD i 0 = dv at hc hd0
        clear HC
        have hct := one_text0 wr (48 + dv % 10) (by omega)
        rw [show UInt8.ofNat (48 + dv % 10) = dgc ds i by unfold dgc; rw [hdv]] at hct
        push_cast at hct
        have hal := (Below.refl wr.heap.size wr).alloc (Nat.le_refl _) (.cells #[.int .u8 (48 + (dv : Int) % 10)] 5)
        have hb2 := below_then hbw hbw.size hal
        generalize hg : dgc ds i = ch at hct
        have hli : (i : Int) < (n : Int) := by omega
        have hli2 : decide ((i : Int) < (n : Int)) = true := by simp; omega
        by_cases hpt : (i : Int) = pt ∧ 0 < i
        · have p1 : decide ((i : Int) = pt) = true := by simp; omega
          have p2 : ((i : Int) == pt) = true := by simp; omega
          have p3 : decide ((0 : Int) < (i : Int)) = true := by simp; omega
          have p4 : (0 : Int) < (i : Int) := by omega
          have HS2 : Hid (((t ++ ⟨#[46]⟩ : ByteArray) ++ ⟨#[ch]⟩ : ByteArray).data.toList = ptx ds pt (i + 1)) := Lib.hid (by
            rw [data_append, data_append, HS.out, ← hg]; simp only [ptx]; rw [if_pos hpt])
          have hts2 : ((t ++ ⟨#[46]⟩ : ByteArray).size : Int) ≤ 8388608 := by have := (ptx_len ds pt i).2; rw [ByteArray.size_append, size_list HS.out]; show ((_ + 1 : Nat) : Int) ≤ _; omega
          clear hpt hg
          go_wp2
          go_roundw
          case rel => exact ⟨_, i + 1, rfl, by go_num, hlt, HS2, hb2⟩
          case measure => simp [intOf]; omega
        · have HS2 : Hid ((t ++ ⟨#[ch]⟩ : ByteArray).data.toList = ptx ds pt (i + 1)) := Lib.hid (by
            rw [data_append, HS.out, ← hg]; simp only [ptx]; rw [if_neg hpt])
          by_cases hpt1 : (i : Int) = pt
          · obtain rfl : i = 0 := by omega
            obtain rfl : pt = 0 := by omega
            have hc0 : wr.cell? ⟨bb, oo, none⟩ = some (.int .u8 (dv : Int)) := hc
            clear hpt hg hpt1 hc
            go_wp2
            go_roundw
            case rel => exact ⟨_, 1, rfl, by go_num, hlt, HS2, hb2⟩
            case measure => simp [intOf]; omega
          · have p1 : decide ((i : Int) = pt) = false := by simp; omega
            have p2 : ((i : Int) == pt) = false := by simp; omega
            clear hpt hg
            go_wp2
            go_roundw
            case rel => exact ⟨_, i + 1, rfl, by go_num, hlt, HS2, hb2⟩
            case measure => simp [intOf]; omega
      · obtain rfl : i = n := by omega
        have n1 : decide ((i : Int) < (i : Int)) = false := by simp
        by_cases hi0 : i = 0
        · subst hi0
          obtain rfl : t = ⟨#[]⟩ := ByteArray.ext (Array.ext' HS.out)
          have hLL : L = [48] := by rw [← HL.out]; rfl
          go_wp2
          go_ret
          exact ⟨_, rfl, by first | (rw [data_append]; rfl) | (rw [hLL, data_append]; rfl), hbw⟩
        · have hne : t ≠ ⟨#[]⟩ := by
            intro e
            have h1 := (ptx_len ds pt i).1
            rw [← HS.out, e] at h1
            have h2 : i ≤ 0 := h1
            omega
          have n2 : t.toList.isEmpty = false := nonempty_of (by
            rcases Nat.eq_zero_or_pos t.size with h | h
            · exact absurd (ByteArray.ext (Array.eq_empty_of_size_eq_zero h)) hne
            · exact h)
          have hLL : t.data.toList = L := by rw [← HL.out, if_neg hi0]; exact HS.out
          have HLL := Lib.hid hLL
          clear hLL
          go_wp2
          go_ret
          exact ⟨_, rfl, by rw [data_append, HLL.out]; exact List.append_nil L, hbw⟩
    · subst hn0
      obtain rfl : i = 0 := by omega
      obtain rfl : t = ⟨#[]⟩ := ByteArray.ext (Array.ext' HS.out)
      have hLL : L = [48] := by rw [← HL.out]; rfl
      go_wp2
      go_ret
      exact ⟨_, rfl, by first | (rw [data_append]; rfl) | (rw [hLL, data_append]; rfl), hbw⟩

/-- digits of a number -/
def DigPost (k : Nat) (w : World) (e : Ending) (w' : World) : Prop := ∃ (t : ByteArray) (j : Nat), e = .returned (.string t) ∧ t.data.toList = padD j k ∧ 0 < j ∧ j ≤ 5 ∧ k < 10 ^ j ∧ Below w.heap.size w w'
def SignPost (k : Nat) (w : World) (e : Ending) (w' : World) : Prop := ∃ (t : ByteArray) (j : Nat), e = .returned (.string t) ∧ t.data.toList = (if k = 0 then padD j k else 45 :: padD j k) ∧ 0 < j ∧ j ≤ 5 ∧ k < 10 ^ j ∧ Below w.heap.size w w'

set_option maxRecDepth 100000 in
set_option maxHeartbeats 1000000 in
theorem digitsOf_any (k : Nat) (w : World) (hk : k < 100000) : Calls Tryz.prog 17 #[.int .i64 (k : Int)] w (DigPost k w) := by
  have HT := Lib.hid (fun (W : World) (x : Nat) (h : x < 256) (q : Nat) => one_text W x h q)
  have HK : Hid (k < 100000) := Lib.hid hk
  clear hk
  go_enter Tryz.func17, Tryz.ntmps17
  go_wp2
  go_loopw [0, 3] (fun nx sx wr => ∃ (t : ByteArray) (j m : Nat), sx = .string t ∧ nx = .int .i64 (m : Int) ∧ Hid (t.data.toList = padD j k) ∧ Hid (k / 10 ^ j = m) ∧ (j = 0 ∨ m ≠ 0) ∧ m < 100000 ∧ j ≤ 5 ∧ Below w.heap.size w wr) (fun nx _ _ => (intOf nx).toNat + 1)
  case atStart => exact ⟨⟨#[]⟩, 0, k, rfl, rfl, Lib.hid rfl, Lib.hid (by simp), .inl rfl, HK.out, by omega, Below.refl _ _⟩
  case round =>
    obtain ⟨t, j, m, rfl, rfl, HS, HM, hjm, hm, hj5, hbw⟩ := hrel
    have hts : (t.size : Int) ≤ 8388608 := by rw [size_list HS.out, padD_length]; omega
    have hct := one_text0 wr (48 + m % 10) (by omega)
    generalize hch : UInt8.ofNat (48 + m % 10) = ch at hct
    push_cast at hct
    have hal := (Below.refl wr.heap.size wr).alloc (Nat.le_refl _) (.cells #[.int .u8 (48 + (m : Int) % 10)] 5)
    have hb2 := below_then hbw hbw.size hal
    have HS2 : Hid ((⟨#[ch]⟩ ++ t : ByteArray).data.toList = padD (j + 1) k) := Lib.hid (by
      rw [data_append, padD_front, HS.out, HM.out, hch]; rfl)
    obtain ⟨q, hq⟩ : ∃ q, m / 10 = q := ⟨_, rfl⟩
    have HM2 : Hid (k / 10 ^ (j + 1) = q) := Lib.hid (by rw [Nat.pow_succ, ← Nat.div_div_eq_div_mul, HM.out, hq])
    have hq1 : (m : Int).tdiv 10 = (q : Int) := by rw [Int.tdiv_eq_ediv_of_nonneg (by omega)]; omega
    have hqm : q ≤ m ∧ (0 < m → q < m) := by omega
    clear hch
    have hj6 : j + 1 ≤ 5 := by
      rcases hjm with h | h
      · omega
      · have h2 := HM.out
        have h3 := HK.out
        rcases Nat.lt_or_ge j 5 with h4 | h4
        · omega
        · obtain rfl : j = 5 := by omega
          rw [Nat.div_eq_of_lt h3] at h2
          exact absurd h2.symm h
    clear hq
    by_cases hz : q = 0
    · subst hz
      go_wp2
      go_ret
      exact ⟨_, j + 1, rfl, HS2.out, by omega, hj6, Nat.lt_of_div_eq_zero (Nat.pow_pos (by omega)) HM2.out, hb2⟩
    · have z1 : ((q : Int) == 0) = false := by simp; omega
      have z2 : decide ((q : Int) = 0) = false := by simp; omega
      go_wp2
      go_roundw
      case rel => exact ⟨_, j + 1, q, rfl, by go_num, HS2, HM2, .inr hz, by omega, hj6, hb2⟩
      case measure => simp [intOf]; omega

set_option maxRecDepth 100000 in
set_option maxHeartbeats 1000000 in
/-- a power's sign and digits -/
theorem sign_any (k : Nat) (w : World) (hk : k < 100000) : Calls Tryz.prog 7 #[.int .i64 (-(k : Int))] w (SignPost k w) := by
  by_cases h0 : k = 0
  · subst h0
    have HD := Lib.hid (digitsOf_any 0 w (by omega))
    go_enter Tryz.func7, Tryz.ntmps7
    go_wp2_with fail
    refine HD.out.mono ?_; rintro e w1 ⟨t, j, rfl, ht, h1, h2, h3, hb⟩
    go_wp2
    go_ret
    exact ⟨t, j, rfl, by rw [if_pos rfl]; exact ht, h1, h2, h3, hb⟩
  · have HD := Lib.hid (digitsOf_any k w hk)
    have hn : -(k : Int) < 0 := by omega
    have hd : decide (-(k : Int) < 0) = true := by simp; omega
    have hw : IntKind.i64.wrap (-(-(k : Int))) = (k : Int) := by rw [show -(-(k : Int)) = (k : Int) by omega]; exact IntWalk.i64_in _ (by omega)
    go_enter Tryz.func7, Tryz.ntmps7
    go_wp2_with fail
    refine HD.out.mono ?_; rintro e w1 ⟨t, j, rfl, ht, h1, h2, h3, hb⟩
    have hts : (t.size : Int) ≤ 8388608 := by rw [size_list ht, padD_length]; omega
    go_wp2
    go_ret
    exact ⟨_, j, rfl, by rw [data_append, ht, if_neg h0]; rfl, h1, h2, h3, hb⟩

end Go.Proofs.YtbcpfdeklglknaaGreatDoor
