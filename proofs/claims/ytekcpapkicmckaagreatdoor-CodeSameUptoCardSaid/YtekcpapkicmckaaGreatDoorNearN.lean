/- The nearest number of a quotient: the plain law. -/
import Derived.Test.YtekcpapkicmckaaGreatDoorLimC
namespace Go.Proofs.YtekcpapkicmckaaGreatDoor
open Go.RowKit

/-- the two sides of a quotient, brought to an exponent -/
def sideA (N : Nat) (e : Int) : Nat := N * 2 ^ (-e).toNat
def sideB (D : Nat) (e : Int) : Nat := D * 2 ^ e.toNat
/-- its whole part is below 2^53 -/
def fits (N D : Nat) (e : Int) : Prop := sideA N e < 9007199254740992 * sideB D e
def rnd (q r b : Nat) : Nat := if b < 2 * r ∨ (2 * r = b ∧ q % 2 = 1) then q + 1 else q
def nearM (N D : Nat) (e : Int) : Nat := rnd (sideA N e / sideB D e) (sideA N e % sideB D e) (sideB D e)
/-- the exponent of the nearest number, before rounding -/
structure IsE (N D : Nat) (e : Int) : Prop where
  low : -1074 ≤ e
  fit : fits N D e
  least : e = -1074 ∨ ¬ fits N D (e - 1)

theorem sideB_pos {D : Nat} (h : 0 < D) (e : Int) : 0 < sideB D e := Nat.mul_pos h (Nat.pow_pos (by omega))

theorem side_succ (N D : Nat) (e : Int) : (sideA N (e + 1) = sideA N e ∧ sideB D (e + 1) = 2 * sideB D e) ∨ (sideA N e = 2 * sideA N (e + 1) ∧ sideB D (e + 1) = sideB D e) := by
  unfold sideA sideB
  by_cases h : 0 ≤ e
  · left
    rw [show (-(e + 1)).toNat = (-e).toNat by omega, show (e + 1).toNat = e.toNat + 1 by omega, Nat.pow_succ]
    refine ⟨rfl, ?_⟩
    rw [← Nat.mul_assoc, Nat.mul_comm]
  · right
    rw [show (-e).toNat = (-(e + 1)).toNat + 1 by omega, show (e + 1).toNat = e.toNat by omega, Nat.pow_succ]
    refine ⟨?_, rfl⟩
    rw [← Nat.mul_assoc, Nat.mul_comm]

theorem fits_succ {N D : Nat} {e : Int} (h : fits N D e) : fits N D (e + 1) := by
  unfold fits at *
  rcases side_succ N D e with ⟨h1, h2⟩ | ⟨h1, h2⟩
  · rw [h1, h2]; omega
  · rw [h2]; omega

theorem fits_mono {N D : Nat} {e e' : Int} (h : fits N D e) (he : e ≤ e') : fits N D e' := by
  obtain ⟨k, rfl⟩ : ∃ k : Nat, e' = e + k := ⟨(e' - e).toNat, by omega⟩
  clear he
  induction k with
  | zero => simpa using h
  | succ k ih => rw [show e + ((k + 1 : Nat) : Int) = e + (k : Nat) + 1 by omega]; exact fits_succ ih

theorem IsE.unique {N D : Nat} {e e' : Int} (h : IsE N D e) (k : IsE N D e') : e = e' := by
  rcases Int.lt_trichotomy e e' with h1 | h1 | h1
  · rcases k.least with h2 | h2
    · have := h.low; omega
    · exact absurd (fits_mono h.fit (by omega)) h2
  · exact h1
  · rcases h.least with h2 | h2
    · have := k.low; omega
    · exact absurd (fits_mono k.fit (by omega)) h2

theorem fits_scale {N D g : Nat} (hg : 0 < g) (e : Int) : fits (g * N) (g * D) e ↔ fits N D e := by
  unfold fits sideA sideB
  rw [Nat.mul_assoc g, Nat.mul_assoc g, Nat.mul_left_comm _ g]
  exact Nat.mul_lt_mul_left hg

theorem IsE.scale {N D g : Nat} (hg : 0 < g) {e : Int} (h : IsE N D e) : IsE (g * N) (g * D) e :=
  ⟨h.low, (fits_scale hg e).2 h.fit, h.least.imp id fun k => fun h' => k ((fits_scale hg _).1 h')⟩

theorem nearM_scale {N D g : Nat} (hg : 0 < g) (e : Int) : nearM (g * N) (g * D) e = nearM N D e := by
  unfold nearM
  rw [show sideA (g * N) e = g * sideA N e from Nat.mul_assoc .., show sideB (g * D) e = g * sideB D e from Nat.mul_assoc .., Nat.mul_div_mul_left _ _ hg, Nat.mul_mod_mul_left]
  generalize sideA N e = a
  generalize sideB D e = b
  unfold rnd
  have e1 : (g * b < 2 * (g * (a % b))) ↔ (b < 2 * (a % b)) := by
    rw [Nat.mul_left_comm 2 g]; exact Nat.mul_lt_mul_left hg
  have e2 : (2 * (g * (a % b)) = g * b) ↔ (2 * (a % b) = b) := by
    rw [Nat.mul_left_comm 2 g]; exact Nat.mul_right_inj (by omega)
  simp only [e1, e2]

theorem not_fits {N D : Nat} (hN : N ≠ 0) {e : Int} (h : e + 54 ≤ (blen N : Int) - blen D) : ¬ fits N D e := by
  unfold fits sideA sideB
  have h1 := blen_ge hN
  have h2 := blen_lt D
  have h3 := blen_pos hN
  have h4 : 9007199254740992 * (D * 2 ^ e.toNat) ≤ 2 ^ (53 + (blen D + e.toNat)) := by
    rw [Nat.pow_add, show (2 : Nat) ^ 53 = 9007199254740992 from rfl, Nat.pow_add]
    exact Nat.mul_le_mul_left _ (Nat.mul_le_mul_right _ (Nat.le_of_lt h2))
  have h5 : 2 ^ (blen N - 1 + (-e).toNat) ≤ N * 2 ^ (-e).toNat := by
    rw [Nat.pow_add]; exact Nat.mul_le_mul_right _ h1
  have h6 : 2 ^ (53 + (blen D + e.toNat)) ≤ 2 ^ (blen N - 1 + (-e).toNat) := Nat.pow_le_pow_right (by omega) (by omega)
  omega

theorem fits_of {N D : Nat} (hD : D ≠ 0) {e : Int} (h : (blen N : Int) - blen D ≤ e + 52) : fits N D e := by
  unfold fits sideA sideB
  have h1 := blen_lt N
  have h2 := blen_ge hD
  have h3 := blen_pos hD
  have h4 : 2 ^ (53 + (blen D - 1 + e.toNat)) ≤ 9007199254740992 * (D * 2 ^ e.toNat) := by
    rw [Nat.pow_add, show (2 : Nat) ^ 53 = 9007199254740992 from rfl, Nat.pow_add]
    exact Nat.mul_le_mul_left _ (Nat.mul_le_mul_right _ h2)
  have h5 : N * 2 ^ (-e).toNat < 2 ^ (blen N + (-e).toNat) := by
    rw [Nat.pow_add]; exact Nat.mul_lt_mul_of_pos_right h1 (Nat.pow_pos (by omega))
  have h6 : 2 ^ (blen N + (-e).toNat) ≤ 2 ^ (53 + (blen D - 1 + e.toNat)) := Nat.pow_le_pow_right (by omega) (by omega)
  omega

theorem fits_div {N D : Nat} (hD : 0 < D) (e : Int) : fits N D e ↔ sideA N e / sideB D e < 9007199254740992 := by
  rw [Nat.div_lt_iff_lt_mul (sideB_pos hD e)]; rfl

theorem nearM_le {N D : Nat} (hD : 0 < D) {e : Int} (h : fits N D e) : nearM N D e ≤ 9007199254740992 := by
  have := (fits_div hD e).1 h
  unfold nearM rnd
  split <;> omega

/-- an exponent far above all numbers -/
theorem IsE.far {N D : Nat} (hN : N ≠ 0) {e : Int} (h : IsE N D e) : (blen N : Int) - blen D < e + 54 := by
  rcases Int.lt_or_le ((blen N : Int) - blen D) (e + 54) with h1 | h1
  · exact h1
  · exact absurd h.fit (not_fits hN h1)

/-- a quotient far below all numbers -/
theorem nearM_tiny {N D : Nat} (hD : D ≠ 0) (h : (blen N : Int) - blen D < -1100) : IsE N D (-1074) ∧ nearM N D (-1074) = 0 := by
  refine ⟨⟨Int.le_refl _, fits_of hD (by omega), .inl rfl⟩, ?_⟩
  have h1 := blen_lt N
  have h2 := blen_ge hD
  have h3 := blen_pos hD
  obtain ⟨k, hk⟩ : ∃ k : Nat, (-(-1074 : Int)).toNat = k := ⟨_, rfl⟩
  have hk1 : k ≤ 1074 := by omega
  have h5 : 2 * (N * 2 ^ k) < D := by
    have : N * 2 ^ k < 2 ^ (blen N + k) := by
      rw [Nat.pow_add]; exact Nat.mul_lt_mul_of_pos_right h1 (Nat.pow_pos (by omega))
    have h6 : 2 ^ (blen N + k + 1) ≤ 2 ^ (blen D - 1) := Nat.pow_le_pow_right (by omega) (by omega)
    rw [Nat.pow_succ] at h6
    omega
  unfold nearM sideA sideB
  rw [hk, show (-1074 : Int).toNat = 0 from rfl, Nat.pow_zero, Nat.mul_one]
  generalize N * 2 ^ k = a at h5
  rw [Nat.div_eq_of_lt (by omega), Nat.mod_eq_of_lt (by omega)]
  unfold rnd
  rw [if_neg (by omega)]

theorem IsE.exist {N D : Nat} (hD : D ≠ 0) : ∃ e, IsE N D e := by
  have key : ∀ k : Nat, fits N D (-1074 + (k : Int)) → ∃ e, IsE N D e := by
    intro k
    induction k with
    | zero => intro h; exact ⟨-1074, Int.le_refl _, by simpa using h, .inl rfl⟩
    | succ k ih =>
      intro h
      by_cases h2 : fits N D (-1074 + (k : Int))
      · exact ih h2
      · exact ⟨-1074 + ((k + 1 : Nat) : Int), by omega, h, .inr (by rw [show -1074 + ((k + 1 : Nat) : Int) - 1 = -1074 + (k : Int) by omega]; exact h2)⟩
  refine key (blen N + 1074) (fits_of hD ?_)
  omega

theorem len_shift (x n k : Nat) (h : (limbs x).length ≤ n) : (limbs (x * 2 ^ k)).length ≤ n + k / 32 + 1 := by
  apply limbs_length_le
  have h1 := limbs_lt_pow x
  have h2 : (4294967296 : Nat) ^ (limbs x).length ≤ 4294967296 ^ n := Nat.pow_le_pow_right (by omega) h
  rw [pow_limC] at h1 h2 ⊢
  rw [pow_limC] at h2
  have h3 : x * 2 ^ k < 2 ^ (32 * n) * 2 ^ k := Nat.mul_lt_mul_of_pos_right (by omega) (Nat.pow_pos (by omega))
  rw [← Nat.pow_add] at h3
  exact Nat.lt_of_lt_of_le h3 (Nat.pow_le_pow_right (by omega) (by omega))

theorem size_big {X Y : Nat} (hX : X ≠ 0) (h : blen Y + 55 < blen X) : ¬ X < 9007199254740992 * Y := by
  have h1 := blen_ge hX
  have h2 := blen_lt Y
  have h4 : 9007199254740992 * Y ≤ 2 ^ (53 + blen Y) := by
    rw [Nat.pow_add, show (2 : Nat) ^ 53 = 9007199254740992 from rfl]
    exact Nat.mul_le_mul_left _ (Nat.le_of_lt h2)
  have h6 : 2 ^ (53 + blen Y) ≤ 2 ^ (blen X - 1) := Nat.pow_le_pow_right (by omega) (by omega)
  omega

/-- the nearest number: is it beyond all, mantissa, exponent -/
def nearNum (N D : Nat) (e : Int) : Bool × Nat × Int :=
  if nearM N D e = 9007199254740992 then (if 971 < e + 1 then (true, 0, 0) else (false, 4503599627370496, e + 1))
  else (if 971 < e then (true, 0, 0) else (false, nearM N D e, e))

theorem nearNum_far {N D : Nat} {e : Int} (h : 971 < e) : nearNum N D e = (true, 0, 0) := by
  unfold nearNum
  rw [if_pos (show 971 < e + 1 by omega), if_pos h, ite_self]

theorem nearNum_tiny {N D : Nat} (h : nearM N D (-1074) = 0) : nearNum N D (-1074) = (false, 0, -1074) := by
  unfold nearNum
  rw [h, if_neg (by omega), if_neg (by omega)]

theorem nearNum_scale {N D g : Nat} (hg : 0 < g) (e : Int) : nearNum (g * N) (g * D) e = nearNum N D e := by
  unfold nearNum; rw [nearM_scale hg]

end Go.Proofs.YtekcpapkicmckaaGreatDoor
