/- The nearest number and its neighbours: plain Lean, no program in sight. Distances, plain Lean. The neighbours of a number: plain Lean. -/
import Derived.Test.YtgdgdifnpdcgkaaGreatDoorNearN
import Derived.Test.YtgdgdifnpdcgkaaGreatDoorAmo
import Derived.Test.YtgdgdifnpdcgkaaGreatDoorQuo
import Derived.Test.YtgdgdifnpdcgkaaGreatDoorPla
import Derived.Test.YtgdgdifnpdcgkaaGreatDoorSum
namespace Go.Proofs.YtgdgdifnpdcgkaaGreatDoor

/-- how near M * 2^E is -/
structure IsNear (N D M : Nat) (E : Int) : Prop where
  up : 2 * sideA N E ≤ 2 * (M * sideB D E) + sideB D E
  dn : 2 * (M * sideB D E) ≤ 2 * sideA N E + sideB D E
  upt : 2 * sideA N E = 2 * (M * sideB D E) + sideB D E → M % 2 = 0
  dnt : 2 * (M * sideB D E) = 2 * sideA N E + sideB D E → M % 2 = 0
  half : M = 4503599627370496 → -1074 < E → 4 * (M * sideB D E) ≤ 4 * sideA N E + sideB D E
  form : 4503599627370496 ≤ M ∨ E = -1074
  lt : M < 9007199254740992
  low : -1074 ≤ E
  high : E ≤ 971

theorem rnd_near (A B : Nat) (hB : 0 < B) : 2 * A ≤ 2 * (rnd (A / B) (A % B) B * B) + B ∧ 2 * (rnd (A / B) (A % B) B * B) ≤ 2 * A + B ∧
    (2 * A = 2 * (rnd (A / B) (A % B) B * B) + B → rnd (A / B) (A % B) B % 2 = 0) ∧ (2 * (rnd (A / B) (A % B) B * B) = 2 * A + B → rnd (A / B) (A % B) B % 2 = 0) := by
  have h1 := Nat.div_add_mod A B
  have h2 := Nat.mod_lt A hB
  rw [Nat.mul_comm] at h1
  generalize A / B = q at *
  generalize A % B = r at *
  obtain ⟨R, hR⟩ : ∃ R, rnd q r B = R := ⟨_, rfl⟩
  rw [hR]
  have hc : (R = q + 1 ∧ (B < 2 * r ∨ (2 * r = B ∧ q % 2 = 1))) ∨ (R = q ∧ 2 * r ≤ B ∧ (2 * r = B → q % 2 = 0)) := by
    unfold rnd at hR
    by_cases h : B < 2 * r ∨ (2 * r = B ∧ q % 2 = 1)
    · rw [if_pos h] at hR
      exact .inl ⟨hR.symm, h⟩
    · rw [if_neg h] at hR
      have h3 : ¬ B < 2 * r := fun e => h (.inl e)
      have h5 : 2 * r = B → ¬ q % 2 = 1 := fun e1 e2 => h (.inr ⟨e1, e2⟩)
      exact .inr ⟨hR.symm, by omega, fun e => by have := h5 e; omega⟩
  clear hR
  rcases hc with ⟨rfl, hc⟩ | ⟨rfl, hc, hd⟩
  · have e : (q + 1) * B = q * B + B := by rw [Nat.add_mul, Nat.one_mul]
    rw [e]
    clear e
    generalize q * B = X at *
    refine ⟨by omega, by omega, fun e => ?_, fun e => ?_⟩
    · omega
    · rcases hc with hc | ⟨hc, ho⟩
      · omega
      · omega
  · generalize R * B = X at *
    refine ⟨by omega, by omega, fun e => hd (by omega), fun e => ?_⟩
    omega

theorem carry_near {A B A' B' : Nat} (h : (A' = A ∧ B' = 2 * B) ∨ (A = 2 * A' ∧ B' = B)) (r1 : 2 * A ≤ 2 * (9007199254740992 * B) + B) (r2 : 2 * (9007199254740992 * B) ≤ 2 * A + B) (hf : A < 9007199254740992 * B) :
    2 * A' ≤ 2 * (4503599627370496 * B') + B' ∧ 2 * (4503599627370496 * B') ≤ 2 * A' + B' ∧ 4 * (4503599627370496 * B') ≤ 4 * A' + B' := by
  rcases h with ⟨rfl, rfl⟩ | ⟨rfl, rfl⟩
  · refine ⟨?_, ?_, ?_⟩ <;> omega
  · refine ⟨?_, ?_, ?_⟩ <;> omega

theorem isNear_of {N D : Nat} (hD : D ≠ 0) {e M E} (hE : IsE N D e) (h : nearNum N D e = (false, M, E)) : IsNear N D M E := by
  have hB := sideB_pos (Nat.pos_of_ne_zero hD) e
  obtain ⟨r1, r2, r3, r4⟩ := rnd_near (sideA N e) (sideB D e) hB
  have hle := nearM_le (Nat.pos_of_ne_zero hD) hE.fit
  have hm : nearM N D e = rnd (sideA N e / sideB D e) (sideA N e % sideB D e) (sideB D e) := rfl
  rw [← hm] at r1 r2 r3 r4
  have hlow : e = -1074 ∨ 4503599627370496 * sideB D e ≤ sideA N e := by
    rcases hE.least with h1 | h1
    · exact .inl h1
    · refine .inr ?_
      unfold fits at h1
      have h2 := side_succ N D (e - 1)
      rw [show e - 1 + 1 = e by omega] at h2
      rcases h2 with ⟨a, b⟩ | ⟨a, b⟩
      · rw [b]; omega
      · rw [a, ← b] at h1; omega
  have hMlow : e = -1074 ∨ 4503599627370496 ≤ nearM N D e := by
    rcases hlow with h1 | h1
    · exact .inl h1
    · refine .inr ?_
      have h2 : 4503599627370496 ≤ sideA N e / sideB D e := (Nat.le_div_iff_mul_le hB).2 h1
      rw [hm]; unfold rnd; split <;> omega
  unfold nearNum at h
  by_cases hc : nearM N D e = 9007199254740992
  · rw [if_pos hc] at h
    by_cases hf : 971 < e + 1
    · rw [if_pos hf] at h; simp at h
    · rw [if_neg hf] at h
      simp only [Prod.mk.injEq, true_and] at h
      obtain ⟨rfl, rfl⟩ := h
      rw [hc] at r1 r2
      have hl := hE.low
      have h2 := side_succ N D e
      have hfit := hE.fit
      unfold fits at hfit
      obtain ⟨c1, c2, c3⟩ := carry_near h2 r1 r2 hfit
      exact ⟨c1, c2, fun _ => rfl, fun _ => rfl, fun _ _ => c3, .inl (Nat.le_refl _), by decide, by omega, by omega⟩
  · rw [if_neg hc] at h
    by_cases hf : 971 < e
    · rw [if_pos hf] at h; simp at h
    · rw [if_neg hf] at h
      simp only [Prod.mk.injEq, true_and] at h
      obtain ⟨rfl, rfl⟩ := h
      refine ⟨r1, r2, r3, r4, fun h1 h2 => ?_, by omega, by omega, hE.low, by omega⟩
      rcases hlow with h3 | h3
      · omega
      · rw [h1]; omega

/-! ### distances, over one denominator -/
/-- how far a number lies from a quotient, times both denominators -/
def dist (n1 : Bool) (R S : Nat) (n2 : Bool) (a b : Nat) : Nat := if n1 = n2 then (R * b - a * S) + (a * S - R * b) else R * b + a * S

/-- a number's quotient of two powers -/
def va (M : Nat) (E : Int) : Nat := M * 2 ^ E.toNat
def vb (E : Int) : Nat := 2 ^ (-E).toNat
theorem vb_pos (E : Int) : 0 < vb E := Nat.pow_pos (by omega)
theorem dist_same (n : Bool) (R S M : Nat) (E : Int) : dist n R S n (va M E) (vb E) = (sideA R E - M * sideB S E) + (M * sideB S E - sideA R E) := by
  have e1 : R * vb E = sideA R E := rfl
  have e2 : va M E * S = M * sideB S E := by unfold va sideB; rw [Nat.mul_assoc, Nat.mul_comm S]
  unfold dist
  rw [if_pos rfl, e1, e2]
theorem dist_other (n : Bool) (R S M : Nat) (E : Int) : dist n R S (!n) (va M E) (vb E) = sideA R E + M * sideB S E := by
  have e1 : R * vb E = sideA R E := rfl
  have e2 : va M E * S = M * sideB S E := by unfold va sideB; rw [Nat.mul_assoc, Nat.mul_comm S]
  unfold dist
  rw [if_neg (by cases n <;> simp), e1, e2]

/-- the one above -/
theorem near_up {R S M : Nat} {E : Int} (n : Bool) (h : IsNear R S M E) :
    dist n R S n (va M E) (vb E) ≤ dist n R S n (va (M + 1) E) (vb E) ∧ (dist n R S n (va M E) (vb E) = dist n R S n (va (M + 1) E) (vb E) → sideB S E = 0 ∨ M % 2 = 0) := by
  rw [dist_same, dist_same, Nat.add_mul, Nat.one_mul]
  have h1 := h.up
  have h2 := h.dn
  have h3 := h.upt
  generalize sideA R E = A at *
  generalize M * sideB S E = X at *
  generalize sideB S E = B at *
  refine ⟨by omega, fun e => ?_⟩
  by_cases hB : B = 0
  · exact .inl hB
  · exact .inr (h3 (by omega))
/-- the one below, as wide apart -/
theorem near_down {R S M : Nat} {E : Int} (n : Bool) (h : IsNear R S (M + 1) E) :
    dist n R S n (va (M + 1) E) (vb E) ≤ dist n R S n (va M E) (vb E) ∧ (dist n R S n (va (M + 1) E) (vb E) = dist n R S n (va M E) (vb E) → sideB S E = 0 ∨ (M + 1) % 2 = 0) := by
  rw [dist_same, dist_same]
  have h1 := h.up
  have h2 := h.dn
  have h3 := h.dnt
  rw [Nat.add_mul, Nat.one_mul] at *
  generalize sideA R E = A at *
  generalize M * sideB S E = X at *
  generalize sideB S E = B at *
  refine ⟨by omega, fun e => ?_⟩
  by_cases hB : B = 0
  · exact .inl hB
  · exact .inr (h3 (by omega))
/-- the one below, half as wide apart -/
theorem near_half {R S K L : Nat} {E : Int} (n : Bool) (hL : L + 1 = 2 * K) (h1 : 4 * (K * sideB S E) ≤ 4 * sideA R E + sideB S E) :
    dist n R S n (va K E) (vb E) * (S * vb (E - 1)) ≤ dist n R S n (va L (E - 1)) (vb (E - 1)) * (S * vb E) := by
  rw [dist_same, dist_same]
  have h3 : (vb (E - 1) = vb E ∧ sideA R E = sideA R (E - 1) ∧ sideB S E = 2 * sideB S (E - 1)) ∨ (vb (E - 1) = 2 * vb E ∧ sideA R (E - 1) = 2 * sideA R E ∧ sideB S E = sideB S (E - 1)) := by
    by_cases h0 : 1 ≤ E
    · refine .inl ⟨?_, ?_, ?_⟩
      · unfold vb; congr 1; omega
      · unfold sideA; congr 2; omega
      · unfold sideB; rw [show E.toNat = (E - 1).toNat + 1 by omega, Nat.pow_succ, ← Nat.mul_assoc, Nat.mul_comm 2]
    · refine .inr ⟨?_, ?_, ?_⟩
      · unfold vb; rw [show (-(E - 1)).toNat = (-E).toNat + 1 by omega, Nat.pow_succ, Nat.mul_comm]
      · unfold sideA; rw [show (-(E - 1)).toNat = (-E).toNat + 1 by omega, Nat.pow_succ, ← Nat.mul_assoc, Nat.mul_comm 2]
      · unfold sideB; congr 2; omega
  have hLK : ∀ B, L * B + B = 2 * (K * B) := fun B => by rw [← Nat.mul_assoc, ← hL, Nat.add_mul, Nat.one_mul]
  rcases h3 with ⟨a, b, c⟩ | ⟨a, b, c⟩
  · rw [a]
    apply Nat.mul_le_mul_right
    rw [b, c] at h1 ⊢
    have h4 := hLK (sideB S (E - 1))
    rw [Nat.mul_left_comm K] at h1 ⊢
    generalize sideA R (E - 1) = A at *
    generalize K * sideB S (E - 1) = X at *
    generalize L * sideB S (E - 1) = Y at *
    generalize sideB S (E - 1) = B at *
    omega
  · rw [a, show S * (2 * vb E) = 2 * (S * vb E) from Nat.mul_left_comm _ _ _, ← Nat.mul_assoc]
    apply Nat.mul_le_mul_right
    rw [b]
    rw [c] at h1 ⊢
    have h4 := hLK (sideB S (E - 1))
    generalize sideA R E = A at *
    generalize K * sideB S (E - 1) = X at *
    generalize L * sideB S (E - 1) = Y at *
    generalize sideB S (E - 1) = B at *
    omega
/-- of nought, the one beyond -/
theorem near_over {R S : Nat} {E : Int} (n : Bool) :
    dist n R S n (va 0 E) (vb E) ≤ dist n R S (!n) (va 1 E) (vb E) := by
  rw [dist_same, dist_other]
  omega

end Go.Proofs.YtgdgdifnpdcgkaaGreatDoor

namespace Go.Proofs.YtgdgdifnpdcgkaaGreatDoor

theorem plus_dist (n m : Bool) (R a X1 Y1 X2 Y2 : Nat) (h1 : R = 0 → X1 = 0) (h2 : a = 0 → X2 = 0) :
    plusN (sgn n R) (X1 * Y2) (sgn (!m) a) (X2 * Y1) = dist n X1 Y1 m X2 Y2 := by
  have h3 : R = 0 → X1 * Y2 = 0 := fun h => by rw [h1 h, Nat.zero_mul]
  have h4 : a = 0 → X2 * Y1 = 0 := fun h => by rw [h2 h, Nat.zero_mul]
  unfold plusN dist sgn
  generalize X1 * Y2 = p at *
  generalize X2 * Y1 = q at *
  clear h1 h2
  by_cases hR : R = 0
  · have := h3 hR
    subst this
    by_cases ha : a = 0
    · have := h4 ha
      subst this
      simp
    · rw [if_pos hR, if_neg ha]
      cases n <;> cases m <;> simp <;> (try split) <;> omega
  · by_cases ha : a = 0
    · have := h4 ha
      subst this
      rw [if_neg hR, if_pos ha]
      cases n <;> cases m <;> simp
    · rw [if_neg hR, if_neg ha]
      cases n <;> cases m <;> simp <;> (try split) <;> omega

theorem dist_sign (n m : Bool) (R S a b : Nat) : dist n R S (sgn m a) a b = dist n R S m a b := by
  unfold sgn
  by_cases h : a = 0
  · rw [if_pos h, h]
    unfold dist
    simp
  · rw [if_neg h]

theorem dist_scale (n m : Bool) (R S a b X1 Y1 X2 Y2 : Nat) (h1 : X1 * S = R * Y1) (h2 : X2 * b = a * Y2) :
    dist n X1 Y1 m X2 Y2 * (S * b) = dist n R S m a b * (Y1 * Y2) := by
  have e1 : X1 * Y2 * (S * b) = R * b * (Y1 * Y2) := by
    rw [show X1 * Y2 * (S * b) = X1 * S * (Y2 * b) by ac_rfl, h1]
    ac_rfl
  have e2 : X2 * Y1 * (S * b) = a * S * (Y1 * Y2) := by
    rw [show X2 * Y1 * (S * b) = X2 * b * (Y1 * S) by ac_rfl, h2]
    ac_rfl
  unfold dist
  split
  · rw [Nat.add_mul, Nat.sub_mul, Nat.sub_mul, e1, e2, Nat.add_mul, Nat.sub_mul, Nat.sub_mul]
  · rw [Nat.add_mul, e1, e2, Nat.add_mul]

theorem low_cross (N D : Nat) : N / Nat.gcd N D * D = N * (D / Nat.gcd N D) := by
  by_cases hg : Nat.gcd N D = 0
  · have := Nat.eq_zero_of_gcd_eq_zero_left hg
    have := Nat.eq_zero_of_gcd_eq_zero_right hg
    simp [*]
  · have e1 := Nat.div_mul_cancel (Nat.gcd_dvd_left N D)
    have e2 := Nat.div_mul_cancel (Nat.gcd_dvd_right N D)
    rw [show N * (D / Nat.gcd N D) = N / Nat.gcd N D * Nat.gcd N D * (D / Nat.gcd N D) by rw [e1], Nat.mul_assoc, Nat.mul_comm (Nat.gcd N D), e2]

/-- what the sum of a quotient and one below nought is -/
theorem away_law (n m : Bool) (R S Q K : Nat) (hS : S ≠ 0) (hK : K ≠ 0) :
    ∀ X1 Y1 a b X2 Y2 N, X1 = R / Nat.gcd R S → Y1 = S / Nat.gcd R S → a = Q / Nat.gcd Q K → b = K / Nat.gcd Q K → X2 = a / Nat.gcd a b → Y2 = b / Nat.gcd a b →
    N = plusN (sgn n R) (X1 * Y2) (sgn (!sgn m Q) a) (X2 * Y1) →
    Y1 * Y2 / Nat.gcd N (Y1 * Y2) ≠ 0 ∧ N / Nat.gcd N (Y1 * Y2) * (S * K) = dist n R S m Q K * (Y1 * Y2 / Nat.gcd N (Y1 * Y2)) := by
  intro X1 Y1 a b X2 Y2 N hX1 hY1 ha hb hX2 hY2 hN
  have y1 : Y1 ≠ 0 := hY1 ▸ div_gcd_ne hS
  have b0 : b ≠ 0 := hb ▸ div_gcd_ne hK
  have y2 : Y2 ≠ 0 := hY2 ▸ div_gcd_ne b0
  have hD : Y1 * Y2 ≠ 0 := Nat.mul_ne_zero y1 y2
  have c1 : X1 * S = R * Y1 := by rw [hX1, hY1]; exact low_cross R S
  have c2 : a * K = Q * b := by rw [ha, hb]; exact low_cross Q K
  have c3 : X2 * b = a * Y2 := by rw [hX2, hY2]; exact low_cross a b
  have c4 : X2 * K = Q * Y2 := by
    apply Nat.eq_of_mul_eq_mul_right (Nat.pos_of_ne_zero b0)
    rw [show X2 * K * b = X2 * b * K by ac_rfl, c3, show a * Y2 * K = a * K * Y2 by ac_rfl, c2]
    ac_rfl
  have hq : Q = 0 → a = 0 := fun h => by rw [ha, h, Nat.zero_div]
  have hz : a = 0 → Q = 0 := fun h => by rw [ha] at h; exact div_gcd_zero.1 h
  have e1 : N = dist n X1 Y1 m X2 Y2 := by
    rw [hN, plus_dist n (sgn m Q) R a X1 Y1 X2 Y2 (fun h => by rw [hX1, h, Nat.zero_div]) (fun h => by rw [hX2, h, Nat.zero_div])]
    rw [show sgn m Q = sgn m X2 by
      unfold sgn
      by_cases h : Q = 0
      · rw [if_pos h, if_pos (by rw [hX2, hq h, Nat.zero_div])]
      · rw [if_neg h, if_neg (fun e => h (hz (by rw [hX2] at e; exact div_gcd_zero.1 e)))]]
    exact dist_sign n m X1 Y1 X2 Y2
  have e2 := dist_scale n m R S Q K X1 Y1 X2 Y2 c1 c4
  rw [← e1] at e2
  refine ⟨div_gcd_ne hD, ?_⟩
  have e3 := low_cross N (Y1 * Y2)
  generalize N / Nat.gcd N (Y1 * Y2) = U at *
  generalize Y1 * Y2 / Nat.gcd N (Y1 * Y2) = V at *
  generalize dist n R S m Q K = dl at *
  apply Nat.eq_of_mul_eq_mul_right (Nat.pos_of_ne_zero hD)
  rw [show U * (S * K) * (Y1 * Y2) = U * (Y1 * Y2) * (S * K) by ac_rfl, e3, show N * V * (S * K) = N * (S * K) * V by ac_rfl, e2]
  ac_rfl

/-- two distances in order -/
theorem order_dist (U1 V1 U2 V2 d1 d2 K1 K2 : Nat) (h1 : U1 * K1 = d1 * V1) (h2 : U2 * K2 = d2 * V2) (k1 : 0 < K1) (k2 : 0 < K2) (v1 : 0 < V1) (v2 : 0 < V2) :
    cmpNat (U1 * V2) (U2 * V1) = cmpNat (d1 * K2) (d2 * K1) := by
  rw [← cmpNat_mul (U1 * V2) (U2 * V1) (Nat.mul_pos k1 k2), ← cmpNat_mul (d1 * K2) (d2 * K1) (Nat.mul_pos v1 v2)]
  congr 1
  · rw [show U1 * V2 * (K1 * K2) = U1 * K1 * (V2 * K2) by ac_rfl, h1]
    ac_rfl
  · rw [show U2 * V1 * (K1 * K2) = U2 * K2 * (V1 * K1) by ac_rfl, h2]
    ac_rfl

theorem cmp_scale (d1 K1 d2 K2 e1 L1 e2 L2 : Nat) (h1 : d1 * L1 = e1 * K1) (h2 : d2 * L2 = e2 * K2) (k1 : 0 < K1) (k2 : 0 < K2) (l1 : 0 < L1) (l2 : 0 < L2) :
    cmpNat (d1 * K2) (d2 * K1) = cmpNat (e1 * L2) (e2 * L1) :=
  (order_dist e1 L1 e2 L2 d1 d2 K1 K2 h1.symm h2.symm k1 k2 l1 l2).symm

end Go.Proofs.YtgdgdifnpdcgkaaGreatDoor

namespace Go.Proofs.YtgdgdifnpdcgkaaGreatDoor

/-- the number of a rung -/
theorem rung_val (b k M : Nat) (h : rung b = k * 4503599627370496 + M) (hM : M ≤ 9007199254740992) (hf : 4503599627370496 ≤ M ∨ k = 0) (hlt : rung b < 9218868437227405312) :
    (partsOf b).2.2 ≤ 2 ∧ qnum b * vb ((k : Int) - 1074) = va M ((k : Int) - 1074) * qden b := by
  have hp := rung_parts b
  have h1 := fexp_lt b
  have h2 := fman_lt b
  unfold qnum qden partsOf va vb
  have hn : fexp b ≠ 2047 := by omega
  rw [if_neg hn]
  by_cases h0 : fexp b = 0
  · rw [if_pos h0]
    have hk : k = 0 := by omega
    have hm : fman b = M := by omega
    subst hk
    by_cases hz : fman b = 0
    · rw [if_pos hz]
      rw [← hm, hz]
      exact ⟨Nat.zero_le _, by simp only [Nat.zero_mul]⟩
    · rw [if_neg hz, hm, show ((0 : Nat) : Int) - 1074 = -1074 by omega]
      exact ⟨Nat.le_succ 1, rfl⟩
  · rw [if_neg h0]
    simp only
    refine ⟨by omega, ?_⟩
    by_cases hb : M = 9007199254740992
    · have hk : fexp b = k + 2 := by omega
      have hm : fman b = 0 := by omega
      rw [hk, hm, hb]
      rw [show ((k + 2 : Nat) : Int) - 1075 = (k : Int) - 1074 + 1 by omega]
      generalize (k : Int) - 1074 = E
      by_cases hE : 0 ≤ E
      · rw [show (E + 1).toNat = E.toNat + 1 by omega, show (-E).toNat = 0 by omega, show (-(E + 1)).toNat = 0 by omega, Nat.pow_succ, Nat.pow_zero]
        generalize 2 ^ E.toNat = Z
        omega
      · rw [show (E + 1).toNat = 0 by omega, show E.toNat = 0 by omega, show (-E).toNat = (-(E + 1)).toNat + 1 by omega, Nat.pow_succ, Nat.pow_zero]
        generalize 2 ^ (-(E + 1)).toNat = Z
        omega
    · by_cases hk0 : k = 0
      · subst hk0
        have hk : fexp b = 1 := by omega
        have hm : fman b + 4503599627370496 = M := by omega
        rw [hk, hm, show ((1 : Nat) : Int) - 1075 = ((0 : Nat) : Int) - 1074 by omega]
      · have hk : fexp b = k + 1 := by omega
        have hm : fman b + 4503599627370496 = M := by omega
        rw [hk, hm]
        rw [show ((k + 1 : Nat) : Int) - 1075 = (k : Int) - 1074 by omega]
theorem rung_inf (b : Nat) (h : rung b = 9218868437227405312) : (partsOf b).2.2 = 3 := by
  have hp := rung_parts b
  have h1 := fexp_lt b
  have h2 := fman_lt b
  unfold partsOf
  have hn : fexp b = 2047 := by omega
  have hm : fman b = 0 := by omega
  rw [if_pos hn, if_pos hm]

/-- how two distances lie -/
def Good (n : Bool) (R S b b' : Nat) : Prop :=
  b' < 18446744073709551616 ∧ ((partsOf b').2.2 = 3 ∨ ((partsOf b').2.2 ≤ 2 ∧
    (cmpNat (dist n R S (fneg b) (qnum b) (qden b) * (S * qden b')) (dist n R S (fneg b') (qnum b') (qden b') * (S * qden b)) = -1 ∨
      (cmpNat (dist n R S (fneg b) (qnum b) (qden b) * (S * qden b')) (dist n R S (fneg b') (qnum b') (qden b') * (S * qden b)) = 0 ∧ b % 2 = 0))))

theorem cmp_good {x y b : Nat} (h : x ≤ y) (he : x = y → b % 2 = 0) : cmpNat x y = -1 ∨ (cmpNat x y = 0 ∧ b % 2 = 0) := by
  unfold cmpNat
  by_cases h1 : x < y
  · exact .inl (if_pos h1)
  · have h2 : x = y := by omega
    exact .inr ⟨by rw [if_neg h1, if_neg (by omega)], he h2⟩

theorem good_of {n n' : Bool} {R S b b' k M k' M' : Nat} (hS : 0 < S) (hn : fneg b = n) (hn' : fneg b' = n') (hb' : b' < 18446744073709551616)
    (h : rung b = k * 4503599627370496 + M) (hM : M ≤ 9007199254740992) (hf : 4503599627370496 ≤ M ∨ k = 0) (hlt : rung b < 9218868437227405312)
    (h' : rung b' = k' * 4503599627370496 + M') (hM' : M' ≤ 9007199254740992) (hf' : 4503599627370496 ≤ M' ∨ k' = 0) (hlt' : rung b' ≤ 9218868437227405312)
    (hle : dist n R S n (va M ((k : Int) - 1074)) (vb ((k : Int) - 1074)) * (S * vb ((k' : Int) - 1074)) ≤ dist n R S n' (va M' ((k' : Int) - 1074)) (vb ((k' : Int) - 1074)) * (S * vb ((k : Int) - 1074)))
    (heq : dist n R S n (va M ((k : Int) - 1074)) (vb ((k : Int) - 1074)) * (S * vb ((k' : Int) - 1074)) = dist n R S n' (va M' ((k' : Int) - 1074)) (vb ((k' : Int) - 1074)) * (S * vb ((k : Int) - 1074)) → b % 2 = 0) : Good n R S b b' := by
  refine ⟨hb', ?_⟩
  by_cases hi : rung b' = 9218868437227405312
  · exact .inl (rung_inf b' hi)
  · refine .inr ?_
    obtain ⟨_, c1⟩ := rung_val b k M h hM hf hlt
    obtain ⟨k2, c2⟩ := rung_val b' k' M' h' hM' hf' (by omega)
    refine ⟨k2, ?_⟩
    have d1 := dist_scale n n R S (va M ((k : Int) - 1074)) (vb ((k : Int) - 1074)) R S (qnum b) (qden b) rfl c1
    have d2 := dist_scale n n' R S (va M' ((k' : Int) - 1074)) (vb ((k' : Int) - 1074)) R S (qnum b') (qden b') rfl c2
    have q1 : 0 < S * qden b := Nat.mul_pos hS (Nat.pow_pos (by omega))
    have q2 : 0 < S * qden b' := Nat.mul_pos hS (Nat.pow_pos (by omega))
    rw [hn, hn', cmp_scale _ _ _ _ _ _ _ _ d1 d2 q1 q2 (Nat.mul_pos hS (vb_pos _)) (Nat.mul_pos hS (vb_pos _))]
    exact cmp_good hle heq

theorem sign_rung (n : Bool) {a : Nat} (h : a < 9223372036854775808) : rung (withSign n a) = a ∧ fneg (withSign n a) = n ∧ withSign n a < 18446744073709551616 ∧ withSign n a % 2 = a % 2 := by
  unfold rung fneg withSign
  cases n
  · exact ⟨Nat.mod_eq_of_lt h, by simp; omega, by simp; omega, rfl⟩
  · refine ⟨?_, ?_, ?_, ?_⟩ <;> simp <;> omega

theorem near_good (n : Bool) {R S M a : Nat} {E : Int} (h : IsNear R S M E) (hS : 0 < S) (ha : a = (E + 1074).toNat * 4503599627370496 + M) :
    Good n R S (withSign n a) (withSign n (a + 1)) ∧ (0 < a → Good n R S (withSign n a) (withSign n (a - 1))) ∧ (a = 0 → Good n R S (withSign n a) (withSign (!n) 1)) := by
  have hl := h.low
  have hh := h.high
  have hm := h.lt
  obtain ⟨k, hk⟩ : ∃ k : Nat, (E + 1074).toNat = k := ⟨_, rfl⟩
  have hE : E = (k : Int) - 1074 := by omega
  have hk5 : k ≤ 2045 := by omega
  rw [hk] at ha
  have hf : 4503599627370496 ≤ M ∨ k = 0 := by rcases h.form with h1 | h1; exact .inl h1; exact .inr (by omega)
  have hal : a < 9218868437227405312 := by omega
  obtain ⟨r1, r2, r3, r4⟩ := sign_rung n (a := a) (by omega)
  obtain ⟨s1, s2, s3, _⟩ := sign_rung n (a := a + 1) (by omega)
  subst hE
  have hev : M % 2 = 0 → withSign n a % 2 = 0 := fun e => by rw [r4, ha]; omega
  have hB0 : ∀ e, sideB S e ≠ 0 := fun e => Nat.ne_of_gt (sideB_pos hS e)
  have hpos : ∀ e, 0 < S * vb e := fun e => Nat.mul_pos hS (vb_pos e)
  refine ⟨?_, fun h0 => ?_, fun h0 => ?_⟩
  · obtain ⟨u1, u2⟩ := near_up n h
    refine good_of (k := k) (M := M) (k' := k) (M' := M + 1) hS r2 s2 s3 (r1.trans ha) (by omega) hf (by omega) (s1.trans (by omega)) (by omega) (by omega) (by omega) (Nat.mul_le_mul_right _ u1) (fun e => ?_)
    rcases u2 (Nat.eq_of_mul_eq_mul_right (hpos _) e) with e1 | e1
    · exact absurd e1 (hB0 _)
    · exact hev e1
  · obtain ⟨t1, t2, t3, _⟩ := sign_rung n (a := a - 1) (by omega)
    by_cases hM0 : M = 4503599627370496 ∧ k ≠ 0
    · obtain ⟨hM1, hk0⟩ := hM0
      obtain ⟨j, rfl⟩ : ∃ j, k = j + 1 := ⟨k - 1, by omega⟩
      obtain ⟨L, hL⟩ : ∃ L, L = 9007199254740991 := ⟨_, rfl⟩
      have u1 := near_half (R := R) (S := S) (K := M) (L := L) (E := ((j + 1 : Nat) : Int) - 1074) n (by omega) (h.half hM1 (by omega))
      rw [show ((j + 1 : Nat) : Int) - 1074 - 1 = (j : Int) - 1074 by omega] at u1
      have g1 : a - 1 = j * 4503599627370496 + L := by omega
      have g2 : M % 2 = 0 := by omega
      have g3 : L ≤ 9007199254740992 := by omega
      have g4 : 4503599627370496 ≤ L ∨ j = 0 := by omega
      have g5 : M ≤ 9007199254740992 := by omega
      have g6 : rung (withSign n a) < 9218868437227405312 := by omega
      have g7 : rung (withSign n (a - 1)) ≤ 9218868437227405312 := by omega
      have g8 := r1.trans ha
      have g9 := t1.trans g1
      exact good_of (k := j + 1) (M := M) (k' := j) (M' := L) hS r2 t2 t3 g8 g5 hf g6 g9 g3 g4 g7 u1 (fun _ => hev g2)
    · obtain ⟨L, rfl⟩ : ∃ L, M = L + 1 := ⟨M - 1, by omega⟩
      obtain ⟨u1, u2⟩ := near_down n h
      have u3 := Nat.mul_le_mul_right (S * vb ((k : Int) - 1074)) u1
      have g1 : a - 1 = k * 4503599627370496 + L := by omega
      have g3 : L ≤ 9007199254740992 := by omega
      have g4 : 4503599627370496 ≤ L ∨ k = 0 := by omega
      have g5 : L + 1 ≤ 9007199254740992 := by omega
      have g6 : rung (withSign n a) < 9218868437227405312 := by omega
      have g7 : rung (withSign n (a - 1)) ≤ 9218868437227405312 := by omega
      have g8 := r1.trans ha
      have g9 := t1.trans g1
      refine good_of (k := k) (M := L + 1) (k' := k) (M' := L) hS r2 t2 t3 g8 g5 hf g6 g9 g3 g4 g7 u3 (fun e => ?_)
      rcases u2 (Nat.eq_of_mul_eq_mul_right (hpos _) e) with e1 | e1
      · exact absurd e1 (hB0 _)
      · exact hev e1
  · obtain ⟨t1, t2, t3, _⟩ := sign_rung (!n) (a := 1) (by omega)
    have hk0 : k = 0 := by omega
    have hM0 : M = 0 := by omega
    subst hk0 hM0
    have u1 := near_over (R := R) (S := S) (E := ((0 : Nat) : Int) - 1074) n
    exact good_of (k := 0) (M := 0) (k' := 0) (M' := 1) hS r2 t2 t3 (r1.trans ha) (by omega) (.inr rfl) (by omega) (t1.trans (by omega)) (by omega) (.inr rfl) (by omega) (Nat.mul_le_mul_right _ u1) (fun _ => hev rfl)

/-- of nought -/
theorem near_nought (S : Nat) : IsNear 0 S 0 (-1074) := by
  have e : sideA 0 (-1074) = 0 := Nat.zero_mul _
  refine ⟨?_, ?_, fun _ => rfl, fun _ => rfl, fun h => by omega, .inr rfl, by omega, by omega, by omega⟩
  · rw [e, Nat.zero_mul]; omega
  · rw [e, Nat.zero_mul]; omega

theorem amount_rung {R S M : Nat} {E : Int} (h : IsNear R S M E) : amount false M E = (E + 1074).toNat * 4503599627370496 + M := by
  have hl := h.low
  have hm := h.lt
  unfold amount
  simp only [Bool.false_eq_true, if_false]
  rcases h.form with h1 | h1
  · rw [if_pos h1]
    have : (E + 1075).toNat = (E + 1074).toNat + 1 := by omega
    omega
  · by_cases h2 : 4503599627370496 ≤ M
    · rw [if_pos h2]
      have : (E + 1075).toNat = (E + 1074).toNat + 1 := by omega
      omega
    · rw [if_neg h2]
      have : (E + 1074).toNat = 0 := by omega
      omega

end Go.Proofs.YtgdgdifnpdcgkaaGreatDoor
