/- floats.Read of a decimal text, by its bytes as a list. -/
import Derived.Test.YtbcpfdeklglknaaGreatDoorGrd
import Derived.Test.YtbcpfdeklglknaaGreatDoorGfd
import Derived.Test.YtbcpfdeklglknaaGreatDoorGfe
namespace Go.Proofs.YtbcpfdeklglknaaGreatDoor
open Go.RowKit

/-- a text is read as these digits' number, the point so many of them from the right -/
def ReadsTo (s : ByteArray) (N P : Nat) : Prop := ∀ w, WideAt w →
    Calls Tryz.prog 6 #[.string s] w fun e w' => ∃ z, e = .returned (.tuple #[.float .f64 z, .int .i64 0, .int .i64 0]) ∧ RdIs N P z ∧ Below w.heap.size w w'

theorem isDig_of {c : UInt8} (h : 48 ≤ c.toNat ∧ c.toNat ≤ 57) : isDig c.toNat = true := by unfold isDig; simpa using h
theorem get_list {s : ByteArray} {k : Nat} (h : k < s.size) : s[k] = s.data.toList[k]'(by simpa using h) := rfl
theorem ext_list (s : ByteArray) (a z : Nat) : (s.extract a z).data.toList = (s.data.toList.drop a).take (z - a) := by
  rw [ByteArray.data_extract, Array.toList_extract, List.extract_eq_take_drop]
theorem size_list {s : ByteArray} {D : List UInt8} (h : s.data.toList = D) : s.size = D.length := by rw [← h]; simp

/-- digits ahead -/
theorem digs_left {s : ByteArray} {D R : List UInt8} (h : s.data.toList = D ++ R) (hD : AllDig D) : Digs2 s 0 D.length := by
  intro k hk _ hz
  apply isDig_of
  rw [get_list hk]
  have : s.data.toList[k]'(by simpa using hk) = D[k] := by simp only [h]; rw [List.getElem_append_left hz]
  rw [this]
  exact hD _ (List.getElem_mem _)
/-- digits behind -/
theorem digs_right {s : ByteArray} {D R : List UInt8} (h : s.data.toList = D ++ R) (hR : AllDig R) : Digs2 s D.length s.size := by
  intro k hk ha _
  apply isDig_of
  rw [get_list hk]
  have hs := size_list h
  rw [List.length_append] at hs
  have : s.data.toList[k]'(by simpa using hk) = R[k - D.length] := by simp only [h]; rw [List.getElem_append_right ha]
  rw [this]
  exact hR _ (List.getElem_mem _)
theorem at_mid {s : ByteArray} {D R : List UInt8} {c : UInt8} (h : s.data.toList = D ++ c :: R) (hk : D.length < s.size) : s[D.length] = c := by
  rw [get_list hk]
  have : s.data.toList[D.length]'(by simpa using hk) = (D ++ c :: R)[D.length]'(by simp) := by simp only [h]
  rw [this, List.getElem_append_right (Nat.le_refl _)]
  simp
theorem dig_zero' {s : ByteArray} {D R : List UInt8} (h : s.data.toList = D ++ R) (hD : AllDig D) (h0 : 0 < D.length) (hs : 0 < s.size) : isDig s[0].toNat = true := digs_left h hD 0 hs (Nat.le_refl _) h0
theorem allDig_append {D E : List UInt8} (h : AllDig D) (k : AllDig E) : AllDig (D ++ E) := by
  intro c hc
  rcases List.mem_append.1 hc with h1 | h1
  · exact h c h1
  · exact k c h1

theorem reads_int (s : ByteArray) (D : List UInt8) (h : s.data.toList = D) (hD : AllDig D) (h0 : 0 < D.length) (hl : D.length ≤ 4096) : ReadsTo s (dv D) 0 := by
  intro w hW
  have hs := size_list h
  have h' : s.data.toList = D ++ [] := by rw [h]; simp
  have hd := digs_left h' hD
  rw [← hs] at hd
  exact Read_dec s s ⟨#[]⟩ 0 0 0 (dv D) w hW (by omega) (by omega) (dig_zero' h' hD h0 (by omega)) (fig_int s (by omega) (by omega) hd) (by rw [h]) (by rw [h]; exact hD) (by omega) (by omega) powIs_empty rfl (by omega)

theorem reads_dot (s : ByteArray) (D E : List UInt8) (h : s.data.toList = D ++ 46 :: E) (hD : AllDig D) (hE : AllDig E) (h0 : 0 < D.length) (h1 : 0 < E.length) (hl : D.length + E.length < 4096) : ReadsTo s (dv (D ++ E)) E.length := by
  intro w hW
  have hs := size_list h
  rw [List.length_append, List.length_cons] at hs
  have h' : s.data.toList = (D ++ [46]) ++ E := by rw [h]; simp
  have hx1 : (s.extract 0 D.length).data.toList = D := by rw [ext_list, h]; simp
  have hx2 : (s.extract (D.length + 1) s.size).data.toList = E := by
    rw [ext_list, h', List.drop_append_of_le_length (by simp), List.drop_of_length_le (by simp), List.nil_append, List.take_of_length_le (by omega)]
  have hx : (s.extract 0 D.length ++ s.extract (D.length + 1) s.size).data.toList = D ++ E := by rw [data_append, hx1, hx2]
  have hd2 := digs_right h' hE
  rw [List.length_append] at hd2
  have hz := size_list hx2
  have hF := fig_dot s _ _ D.length rfl rfl (by rw [size_list hx1]; omega) (by rw [size_list hx2]; omega) (by omega) h0 (by omega) (digs_left h hD) (by rw [at_mid h (by omega)]; rfl) hd2
  rw [hz] at hF
  exact Read_dec s _ ⟨#[]⟩ E.length 0 E.length _ w hW (by omega) (by omega) (dig_zero' h hD h0 (by omega)) hF (by rw [hx]) (by rw [hx]; exact allDig_append hD hE) (by rw [size_list hx]; simp; omega) (by rw [size_list hx]; simp; omega) powIs_empty (by omega) (by omega)

theorem filter_dig {l : List UInt8} (h : AllDig l) : l.filter (fun c => c ≠ 45) = l := by
  apply List.filter_eq_self.2
  intro c hc
  have := h c hc
  have hne : c ≠ 45 := by intro e; rw [e] at this; revert this; decide
  simpa using hne

theorem powIs_minus (p : ByteArray) (E : List UInt8) (h : p.data.toList = 45 :: E) (hE : AllDig E) (hl : E.length ≤ 1000) (hb : dv E < 100000) : PowIs p (dv E) := by
  intro w
  have hs := size_list h
  rw [List.length_cons] at hs
  have hpv : pv p.data.toList = dv E := by unfold pv; rw [h]; simp only [List.filter_cons]; rw [if_neg (by simp), filter_dig hE]
  have hh : p[0] = 45 := by
    have := at_mid (s := p) (D := []) (R := E) (c := 45) (by rw [h]; rfl) (by simp; omega)
    simpa using this
  have hd : ∀ k (hk : k < p.size), p[k] = 45 ∨ isDig p[k].toNat = true := by
    intro k hk
    by_cases hk0 : k = 0
    · subst hk0; exact .inl hh
    · exact .inr (digs_right (s := p) (D := [45]) (R := E) (by rw [h]; rfl) hE k hk (by simp; omega) hk)
  have := power_any p true w (by omega) (by omega) (by rw [hh]; rfl) hd (by rw [hpv]; exact hb)
  rw [hpv] at this
  exact this

theorem powIs_nought (p : ByteArray) (E : List UInt8) (h : p.data.toList = E) (hE : AllDig E) (h0 : 0 < E.length) (hl : E.length ≤ 1000) (hb : dv E = 0) : PowIs p 0 := by
  intro w
  have hs := size_list h
  have hpv : pv p.data.toList = 0 := by unfold pv; rw [h, filter_dig hE, hb]
  have h' : p.data.toList = E ++ [] := by rw [h]; simp
  have hd := digs_left h' hE
  have h00 := isDig_lt (hd 0 (by omega) (Nat.le_refl _) h0)
  have := power_any p false w (by omega) (by omega) (by simp; omega) (fun k hk => .inr (hd k hk (by omega) (by omega))) (by omega)
  rw [hpv] at this
  exact this

theorem reads_minus (s : ByteArray) (D E : List UInt8) (h : s.data.toList = D ++ 101 :: 45 :: E) (hD : AllDig D) (hE : AllDig E) (h0 : 0 < D.length) (h1 : 0 < E.length) (hl : D.length + E.length + 2 ≤ 4096) (hl2 : E.length ≤ 1000) (hb : dv E ≤ 12000) : ReadsTo s (dv D) (dv E) := by
  intro w hW
  have hs := size_list h
  rw [List.length_append, List.length_cons, List.length_cons] at hs
  have h' : s.data.toList = (D ++ [101, 45]) ++ E := by rw [h]; simp
  have h'' : s.data.toList = (D ++ [101]) ++ 45 :: E := by rw [h]; simp
  have hx1 : (s.extract 0 D.length).data.toList = D := by rw [ext_list, h]; simp
  have hx2 : (s.extract (D.length + 2) s.size).data.toList = E := by
    rw [ext_list, h', List.drop_append_of_le_length (by simp), List.drop_of_length_le (by simp), List.nil_append, List.take_of_length_le (by omega)]
  have hp : (⟨#[45]⟩ ++ s.extract (D.length + 2) s.size : ByteArray).data.toList = 45 :: E := by rw [data_append, hx2]; rfl
  have hd2 := digs_right h' hE
  rw [List.length_append] at hd2
  have hm : s[D.length + 1]'(by omega) = 45 := by
    have := at_mid h'' (by simp; omega)
    simpa using this
  have hF := fig_minus s _ _ D.length rfl rfl (by rw [size_list hx1]; omega) (by rw [size_list hx2]; omega) (by omega) h0 (by omega) (digs_left h hD) (by rw [at_mid h (by omega)]; rfl) (by rw [hm]; rfl) hd2
  exact Read_dec s _ _ 0 (dv E) (dv E) _ w hW (by omega) (by omega) (dig_zero' h hD h0 (by omega)) hF (by rw [hx1]) (by rw [hx1]; exact hD) (by rw [size_list hx1]; omega) (by rw [size_list hx1]; omega) (powIs_minus _ E hp hE hl2 (by omega)) (by omega) (by omega)

theorem reads_plus (s : ByteArray) (D E : List UInt8) (h : s.data.toList = D ++ 101 :: E) (hD : AllDig D) (hE : AllDig E) (h0 : 0 < D.length) (h1 : 0 < E.length) (hl : D.length + E.length + 2 ≤ 4096) (hl2 : E.length ≤ 1000) (hb : dv E = 0) : ReadsTo s (dv D) 0 := by
  intro w hW
  have hs := size_list h
  rw [List.length_append, List.length_cons] at hs
  have h' : s.data.toList = (D ++ [101]) ++ E := by rw [h]; simp
  have hx1 : (s.extract 0 D.length).data.toList = D := by rw [ext_list, h]; simp
  have hx2 : (s.extract (D.length + 1) s.size).data.toList = E := by
    rw [ext_list, h', List.drop_append_of_le_length (by simp), List.drop_of_length_le (by simp), List.nil_append, List.take_of_length_le (by omega)]
  have hd2 := digs_right h' hE
  rw [List.length_append] at hd2
  have hF := fig_plus s _ _ D.length rfl rfl (by rw [size_list hx1]; omega) (by rw [size_list hx2]; omega) (by omega) h0 (by omega) (digs_left h hD) (by rw [at_mid h (by omega)]; rfl) hd2
  exact Read_dec s _ _ 0 0 0 _ w hW (by omega) (by omega) (dig_zero' h hD h0 (by omega)) hF (by rw [hx1]) (by rw [hx1]; exact hD) (by rw [size_list hx1]; omega) (by rw [size_list hx1]; omega) (powIs_nought _ E hx2 hE h1 hl2 hb) (by omega) (by omega)

end Go.Proofs.YtbcpfdeklglknaaGreatDoor
